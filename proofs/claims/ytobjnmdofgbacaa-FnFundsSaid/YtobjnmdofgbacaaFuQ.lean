/- Funds: the numbers, in plain Lean: runs and the search keep the order. -/
import Derived.Test.YtobjnmdofgbacaaFuP
set_option maxRecDepth 10000
set_option maxHeartbeats 4000000
set_option linter.unusedSimpArgs false
set_option linter.unusedVariables false
namespace Go.Proofs.Ytobjnmdofgbacaa
open Go Go.Abs

structure Fu (is os rs : List Nat) (n : Nat) : Prop where
  one : 1 ≤ n
  eight : n ≤ 8
  li : is.length = n
  lo : os.length = n
  lr : rs.length = n
  i : ∀ j, j < n → ∃ z : Int, 1 ≤ z ∧ z ≤ 20 ∧ is.getD j 0 = iF z
  o : ∀ j, j < n → ∃ z : Int, 0 ≤ z ∧ z ≤ 19 ∧ os.getD j 0 = iF z
  r : ∀ j, j < n → finB .f32 (rs.getD j 0) = true ∧ -(3 / 16) ≤ fval .f32 (rs.getD j 0) ∧ fval .f32 (rs.getD j 0) ≤ 5 / 16
theorem z_bounds {z : Int} {a b : Int} (h1 : a ≤ z) (h2 : z ≤ b) : (a : Rat) ≤ (z : Rat) ∧ (z : Rat) ≤ (b : Rat) := ⟨int_cast_le h1, int_cast_le h2⟩
theorem top_p2 {v : Rat} {t : Int} (h : ab v ≤ p2 t) (ht : t < 127) : ab v < p2 (top .f32) := lt_top32 h ht
theorem rep2 : Rep .f32 2 := by have := rep_int .f32 (z := 2) (by decide); exact this
structure Stp (x t o r : Nat) (e : Int) : Prop where
  a : Rn .f32 (fval .f32 x + fval .f32 t) (fadd .f32 x t)
  b : Rn .f32 (fval .f32 (fadd .f32 x t) - fval .f32 o) (fsub .f32 (fadd .f32 x t) o)
  c : Rn .f32 (1 + fval .f32 r) (fadd .f32 one32 r)
  c0 : 1 / 2 ≤ fval .f32 (fadd .f32 one32 r)
  c2 : fval .f32 (fadd .f32 one32 r) ≤ 2
  d : Rn .f32 (fval .f32 (fsub .f32 (fadd .f32 x t) o) * fval .f32 (fadd .f32 one32 r)) (fmul .f32 (fsub .f32 (fadd .f32 x t) o) (fadd .f32 one32 r))
  s : ab (fval .f32 (fmul .f32 (fsub .f32 (fadd .f32 x t) o) (fadd .f32 one32 r))) ≤ p2 (e + 3)
theorem one_r {r : Nat} (fr : finB .f32 r = true) (r1 : -(3 / 16) ≤ fval .f32 r) (r2 : fval .f32 r ≤ 5 / 16) : Rn .f32 (1 + fval .f32 r) (fadd .f32 one32 r) ∧ 1 / 2 ≤ fval .f32 (fadd .f32 one32 r) ∧ fval .f32 (fadd .f32 one32 r) ≤ 2 := by
  have c := rn_add fin_one fr (top_of (by rw [one_val]; exact ab_le (by grind) (by grind)))
  rw [one_val] at c
  exact ⟨c, c.lo (1 / 2) (by rw [← pw1]; exact rep_p2 _ (by decide)) (by grind), c.up 2 rep2 (by grind)⟩
theorem stp {x t o r : Nat} {e : Int} (e1 : 9 ≤ e) (e2 : e ≤ 60) (fx : finB .f32 x = true) (bx : ab (fval .f32 x) ≤ p2 e) (ft : finB .f32 t = true) (bt : ab (fval .f32 t) ≤ 512) (fo : finB .f32 o = true) (bo : ab (fval .f32 o) ≤ 20) (fr : finB .f32 r = true) (r1 : -(3 / 16) ≤ fval .f32 r) (r2 : fval .f32 r ≤ 5 / 16) : Stp x t o r e := by
  have h9 := p2_mono e1
  have h9' : p2 9 = 512 := p2_nat 9
  rw [h9'] at h9
  have s1 : p2 (e + 1) = p2 e * 2 := p2_add e 1
  have s2 : p2 (e + 2) = p2 e * 4 := by rw [p2_add, show p2 2 = 4 from by decide +kernel]
  have s3 : p2 (e + 3) = p2 e * 8 := by rw [p2_add, show p2 3 = 8 from by decide +kernel]
  have ba := ab_add (fval .f32 x) (fval .f32 t)
  have ba' : ab (fval .f32 x + fval .f32 t) ≤ p2 (e + 1) := by grind
  have a := rn_add fx ft (top_p2 ba' (by omega))
  have va := a.bound (rep_p2 _ (by show -149 ≤ _; omega)) ba'
  have bb := ab_sub (fval .f32 (fadd .f32 x t)) (fval .f32 o)
  have bb' : ab (fval .f32 (fadd .f32 x t) - fval .f32 o) ≤ p2 (e + 2) := by clear a; grind
  have b := rn_sub a.fin fo (top_p2 bb' (by omega))
  have vb := b.bound (rep_p2 _ (by show -149 ≤ _; omega)) bb'
  obtain ⟨c, c0, c2⟩ := one_r fr r1 r2
  have bd : ab (fval .f32 (fsub .f32 (fadd .f32 x t) o) * fval .f32 (fadd .f32 one32 r)) ≤ p2 (e + 3) := by
    rw [ab_mul, ab_of (show 0 ≤ fval .f32 (fadd .f32 one32 r) by clear a b c; grind)]
    have m1 := Rat.mul_le_mul_of_nonneg_right vb (show 0 ≤ fval .f32 (fadd .f32 one32 r) by clear a b c; grind)
    have m2 := Rat.mul_le_mul_of_nonneg_left c2 (Rat.le_of_lt (p2_pos (e + 2)))
    clear a b c
    grind
  have d := rn_mul b.fin c.fin (top_p2 bd (by omega))
  exact ⟨a, b, c, c0, c2, d, d.bound (rep_p2 _ (by show -149 ≤ _; omega)) bd⟩
def runT (s : Nat) (t o r : Nat → Nat) : Nat → Nat
  | 0 => s
  | i + 1 => fmul .f32 (fsub .f32 (fadd .f32 (runT s t o r i) (t i)) (o i)) (fadd .f32 one32 (r i))
theorem runS_T (s : Nat) (is os rs : List Nat) (y : Nat) (i : Nat) : runS s is os rs y i = runT s (fun j => fmul .f32 (is.getD j 0) y) (fun j => os.getD j 0) (fun j => rs.getD j 0) i := by
  induction i with
  | zero => rfl
  | succ i ih => show stepF _ _ _ _ _ = _; rw [ih]; rfl
structure Trm (t o r : Nat → Nat) (n : Nat) : Prop where
  n8 : n ≤ 8
  t : ∀ j, j < n → finB .f32 (t j) = true ∧ ab (fval .f32 (t j)) ≤ 512
  o : ∀ j, j < n → finB .f32 (o j) = true ∧ ab (fval .f32 (o j)) ≤ 20
  r : ∀ j, j < n → finB .f32 (r j) = true ∧ -(3 / 16) ≤ fval .f32 (r j) ∧ fval .f32 (r j) ≤ 5 / 16
theorem runT_ok {s : Nat} {t o r : Nat → Nat} {n : Nat} (T : Trm t o r n) (fs : finB .f32 s = true) (bs : ab (fval .f32 s) ≤ 512) (i : Nat) (hi : i ≤ n) : finB .f32 (runT s t o r i) = true ∧ ab (fval .f32 (runT s t o r i)) ≤ p2 (9 + 3 * (i : Int)) := by
  induction i with
  | zero =>
    refine ⟨fs, ?_⟩
    have h9' : p2 9 = 512 := p2_nat 9
    show ab (fval .f32 s) ≤ p2 9
    rw [h9']; exact bs
  | succ i ih =>
    obtain ⟨a, b⟩ := ih (by omega)
    have hn := T.n8
    have S := stp (e := 9 + 3 * (i : Int)) (by omega) (by omega) a b (T.t i (by omega)).1 (T.t i (by omega)).2 (T.o i (by omega)).1 (T.o i (by omega)).2 (T.r i (by omega)).1 (T.r i (by omega)).2.1 (T.r i (by omega)).2.2
    refine ⟨S.d.fin, ?_⟩
    have := S.s
    rw [show 9 + 3 * (i : Int) + 3 = 9 + 3 * ((i + 1 : Nat) : Int) by omega] at this
    exact this
theorem runT_mono {s : Nat} {t t' o r : Nat → Nat} {n : Nat} (T : Trm t o r n) (T' : Trm t' o r n) (fs : finB .f32 s = true) (bs : ab (fval .f32 s) ≤ 512) (h : ∀ j, j < n → fval .f32 (t j) ≤ fval .f32 (t' j)) (i : Nat) (hi : i ≤ n) : fval .f32 (runT s t o r i) ≤ fval .f32 (runT s t' o r i) := by
  induction i with
  | zero => exact Rat.le_refl
  | succ i ih =>
    have l := ih (by omega)
    have hn := T.n8
    obtain ⟨a, b⟩ := runT_ok T fs bs i (by omega)
    obtain ⟨a', b'⟩ := runT_ok T' fs bs i (by omega)
    have S := stp (e := 9 + 3 * (i : Int)) (by omega) (by omega) a b (T.t i (by omega)).1 (T.t i (by omega)).2 (T.o i (by omega)).1 (T.o i (by omega)).2 (T.r i (by omega)).1 (T.r i (by omega)).2.1 (T.r i (by omega)).2.2
    have S' := stp (e := 9 + 3 * (i : Int)) (by omega) (by omega) a' b' (T'.t i (by omega)).1 (T'.t i (by omega)).2 (T'.o i (by omega)).1 (T'.o i (by omega)).2 (T'.r i (by omega)).1 (T'.r i (by omega)).2.1 (T'.r i (by omega)).2.2
    have ht := h i (by omega)
    have m1 := S.a.mono S'.a (by clear S S' T T'; grind)
    have m2 := S.b.mono S'.b (by clear S S' T T'; grind)
    have c0 := S.c0
    exact S.d.mono S'.d (Rat.mul_le_mul_of_nonneg_right m2 (by clear S S' T T'; grind))

theorem mid_ok {low high : Nat} {m : Nat} {e : Int} (fl : finB .f32 low = true) (fh : finB .f32 high = true) (vl : fval .f32 low = (m : Rat) * p2 e) (vh : fval .f32 high = ((m + 1 : Nat) : Rat) * p2 e) (hm : m ≤ 1048576) (e1 : -20 ≤ e) (h16 : fval .f32 high ≤ 16) : finB .f32 (fdiv .f32 (fadd .f32 low high) 1073741824) = true ∧ fval .f32 (fdiv .f32 (fadd .f32 low high) 1073741824) = ((2 * m + 1 : Nat) : Rat) * p2 (e - 1) := by
  have pe := p2_pos (e - 1)
  have ee : p2 e = p2 (e - 1) * 2 := by rw [show e = (e - 1) + 1 by omega, p2_add, show e - 1 + 1 - 1 = e - 1 by omega]; rfl
  have o1 : ((1 : Nat) : Rat) = 1 := rfl
  have o2 : ((2 : Nat) : Rat) = 2 := rfl
  have em : ((m + 1 : Nat) : Rat) = (m : Rat) + 1 := by rw [Rat.natCast_add, o1]
  have em2 : ((2 * m + 1 : Nat) : Rat) = 2 * (m : Rat) + 1 := by rw [Rat.natCast_add, Rat.natCast_mul, o1, o2]
  have m0 : (0 : Rat) ≤ (m : Rat) := by exact_mod_cast Nat.zero_le m
  have mp := Rat.mul_nonneg m0 (Rat.le_of_lt pe)
  rw [em] at vh
  have l0 : 0 ≤ fval .f32 low := by rw [vl]; exact Rat.mul_nonneg m0 (Rat.le_of_lt (p2_pos e))
  have h0 : 0 ≤ fval .f32 high := by rw [vh]; exact Rat.mul_nonneg (by clear vl vh ee h16 l0; grind) (Rat.le_of_lt (p2_pos e))
  have lh : fval .f32 low ≤ 16 := by
    refine Rat.le_trans ?_ h16
    rw [vl, vh]
    exact mul_le_r (Rat.le_of_lt (p2_pos e)) (by clear vl vh ee h16 l0 h0; grind)
  have n0 : 0 ≤ (2 * (m : Rat) + 1) * p2 (e - 1) := Rat.mul_nonneg (by clear vl vh ee h16 l0 h0 lh; grind) (Rat.le_of_lt pe)
  have n1 : (2 * (m : Rat) + 1) * p2 (e - 1) ≤ 16 := by
    refine Rat.le_trans ?_ h16
    rw [vh, ee]
    clear vl vh ee h16 l0 h0 lh n0
    grind
  have ev : fval .f32 low + fval .f32 high = ((2 * m + 1 : Nat) : Rat) * p2 e := by rw [vl, vh, em2]; grind
  have r := rn_add fl fh (top_of (ab_le (by clear vl vh ee ev; grind) (by clear vl vh ee ev; grind)))
  rw [ev] at r
  have v := r.same (rep_jt _ _ _ (by show 2 * m + 1 < 2 ^ 24; omega) (by show -149 ≤ e; omega))
  have d2 : fval .f32 1073741824 = 2 := two32_val
  have ed : fval .f32 (fadd .f32 low high) / fval .f32 1073741824 = ((2 * m + 1 : Nat) : Rat) * p2 (e - 1) := by
    rw [v, d2, ee]
    have : ((2 * m + 1 : Nat) : Rat) * (p2 (e - 1) * 2) = (((2 * m + 1 : Nat) : Rat) * p2 (e - 1)) * 2 := by grind
    rw [this]
    exact Rat.mul_div_cancel (by decide)
  have r2 := rn_div r.fin (show finB .f32 1073741824 = true from fin_two32) (by rw [d2]; decide) (by
    rw [ed]
    refine top_of (ab_le ?_ ?_)
    · rw [em2]; clear vl vh ee ev; grind
    · rw [em2]; clear vl vh ee ev; grind)
  rw [ed] at r2
  exact ⟨r2.fin, r2.same (rep_jt _ _ _ (by show 2 * m + 1 < 2 ^ 24; omega) (by show -149 ≤ e - 1; omega))⟩
def Found (B : Nat → Bool) (h : Nat) : Prop := ∃ (l m : Nat), finB .f32 h = true ∧ fval .f32 h = ((m + 1 : Nat) : Rat) * p2 (-16) ∧ m + 1 ≤ 2 ^ 20 ∧ B h = true ∧ finB .f32 l = true ∧ fval .f32 l = (m : Rat) * p2 (-16) ∧ (m = 0 ∨ B l = false)
theorem search_ok (A B : Nat → Bool) (hA : ∀ y, finB .f32 y = true → 0 ≤ fval .f32 y → fval .f32 y ≤ 16 → A y = true) (k : Nat) (hk : k ≤ 20) : ∀ (m low high : Nat), finB .f32 low = true → finB .f32 high = true → fval .f32 low = (m : Rat) * p2 ((k : Int) - 16) → fval .f32 high = ((m + 1 : Nat) : Rat) * p2 ((k : Int) - 16) → m + 1 ≤ 2 ^ (20 - k) → B high = true → (m = 0 ∨ B low = false) → ∃ h, search A B k low high = some h ∧ Found B h := by
  induction k with
  | zero => exact fun m low high fl fh vl vh hm hB hL => ⟨high, rfl, low, m, fh, vh, hm, hB, fl, vl, hL⟩
  | succ k ih =>
    intro m low high fl fh vl vh hm hB hL
    have p20 : 2 ^ (20 - (k + 1)) ≤ 2 ^ 20 := Nat.pow_le_pow_right (by decide) (by omega)
    have hm2 : 2 * m + 2 ≤ 2 ^ (20 - k) := by
      rw [show 20 - k = (20 - (k + 1)) + 1 by omega, Nat.pow_succ]; omega
    have h16 : fval .f32 high ≤ 16 := by
      rw [vh]
      have a := cast_le hm
      rw [← p2_nat] at a
      have b := mul_le_r (Rat.le_of_lt (p2_pos (((k + 1 : Nat) : Int) - 16))) a
      rw [← p2_add, show (((20 - (k + 1) : Nat) : Int) + (((k + 1 : Nat) : Int) - 16)) = 4 by omega, show p2 4 = 16 from by decide +kernel] at b
      exact b
    obtain ⟨fm, vm⟩ := mid_ok (m := m) (e := ((k + 1 : Nat) : Int) - 16) fl fh vl vh (by omega) (by omega) h16
    have ek : ((k + 1 : Nat) : Int) - 16 - 1 = (k : Int) - 16 := by omega
    have ee : p2 (((k + 1 : Nat) : Int) - 16) = p2 ((k : Int) - 16) * 2 := by
      rw [show ((k + 1 : Nat) : Int) - 16 = ((k : Int) - 16) + 1 by omega, p2_add]; rfl
    rw [ek] at vm
    rw [ee] at vl vh
    have pk := p2_pos ((k : Int) - 16)
    have o1 : ((1 : Nat) : Rat) = 1 := rfl
    have o2 : ((2 : Nat) : Rat) = 2 := rfl
    have m0 : (0 : Rat) ≤ (m : Rat) := by exact_mod_cast Nat.zero_le m
    have mp := Rat.mul_nonneg m0 (Rat.le_of_lt pk)
    have vl2 : fval .f32 low = ((2 * m : Nat) : Rat) * p2 ((k : Int) - 16) := by rw [vl, Rat.natCast_mul, o2]; grind
    have vh2 : fval .f32 high = ((2 * m + 1 + 1 : Nat) : Rat) * p2 ((k : Int) - 16) := by
      rw [vh, Rat.natCast_add, Rat.natCast_add, Rat.natCast_add, Rat.natCast_mul, o1, o2]; grind
    have vm' : fval .f32 (fdiv .f32 (fadd .f32 low high) 1073741824) = (2 * (m : Rat) + 1) * p2 ((k : Int) - 16) := by
      rw [vm, Rat.natCast_add, Rat.natCast_mul, o1, o2]
    have vh' : fval .f32 high = (2 * (m : Rat) + 2) * p2 ((k : Int) - 16) := by
      rw [vh, Rat.natCast_add, o1]; grind
    unfold search
    generalize fdiv .f32 (fadd .f32 low high) 1073741824 = mid at *
    have yA : A mid = true := hA mid fm (by rw [vm']; grind) (by rw [vh'] at h16; rw [vm']; grind)
    rw [if_pos (by assumption)]
    by_cases c : B mid = true
    · rw [if_pos (by assumption)]
      exact ih (by omega) (2 * m) low mid fl fm vl2 vm (by omega) c (by rcases hL with h | h; · left; omega
                                                                        · exact .inr h)
    · rw [if_neg (by assumption)]
      exact ih (by omega) (2 * m + 1) mid high fm fh vm vh2 (by omega) hB (.inr (by simpa using c))
end Go.Proofs.Ytobjnmdofgbacaa
