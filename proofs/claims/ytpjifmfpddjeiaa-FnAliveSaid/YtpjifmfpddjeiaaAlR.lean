/- Lives and pays for life, nearly: two lives; tests. -/
import Derived.Test.YtpjifmfpddjeiaaAlQ
import Derived.Test.YtpjifmfpddjeiaaAlA
set_option maxRecDepth 10000
set_option maxHeartbeats 2000000
set_option linter.unusedSimpArgs false
set_option linter.unusedVariables false
namespace Go.Proofs.Ytpjifmfpddjeiaa
open Go Go.Abs

theorem u_zero : U01 0 := ⟨fin_z, by rw [fval_zero]; exact Rat.le_refl, by rw [fval_zero]; decide⟩
theorem alv_u {q : List Nat} (T : Tab q) (i : Nat) : U01 ((alvL q).getD i 0) := by
  by_cases h : i < q.length
  · rw [alvL_get q i h]
    exact (sh_ok T i (by omega)).1
  · have : (alvL q).getD i 0 = 0 := by simp [alvL, List.getD_eq_getElem?_getD, h]
    rw [this]
    exact u_zero
def ownJ (a b : List Nat) (both : Bool) (i : Nat) : Nat := if both then fmul .f32 (a.getD i 0) (b.getD i 0) else fsub .f32 (fadd .f32 (a.getD i 0) (b.getD i 0)) (fmul .f32 (a.getD i 0) (b.getD i 0))
def joiL (a b : List Nat) (both : Bool) (n : Nat) : List Nat := (List.range n).map (ownJ a b both)
theorem joiL_len (a b : List Nat) (both : Bool) (n : Nat) : (joiL a b both n).length = n := by simp [joiL]
theorem joiL_get (a b : List Nat) (both : Bool) (n i : Nat) (h : i < n) : (joiL a b both n).getD i 0 = ownJ a b both i := by simp [joiL, h]
def ownX (a b : List Nat) (both : Bool) (i : Nat) : Rat := if both then vX a i * vX b i else vX a i + vX b i - vX a i * vX b i
theorem joi_shs {q p : List Nat} (T : Tab q) (Z : Tab p) (both : Bool) (n : Nat) : Shs (joiL (alvL q) (alvL p) both n) (ownX (alvL q) (alvL p) both) n := by
  have key : ∀ i, U02 (ownJ (alvL q) (alvL p) both i) ∧ 0 ≤ ownX (alvL q) (alvL p) both i ∧ ownX (alvL q) (alvL p) both i ≤ 1 ∧ Ev 3 (ownX (alvL q) (alvL p) both i) (ownJ (alvL q) (alvL p) both i) := fun i => by
    have ux := alv_u T i
    have uy := alv_u Z i
    have ex : vX (alvL q) i = fval .f32 ((alvL q).getD i 0) := rfl
    have ey : vX (alvL p) i = fval .f32 ((alvL p).getD i 0) := rfl
    unfold ownJ ownX
    rw [ex, ey]
    generalize (alvL q).getD i 0 = x at *
    generalize (alvL p).getD i 0 = y at *
    have x0 := ux.lo
    have x1 := ux.up
    have y0 := uy.lo
    have y1 := uy.up
    obtain ⟨m, m1, m2⟩ := u_mul ux uy
    obtain ⟨p0, p1⟩ := mul01 x0 x1 y0
    obtain ⟨_, p2'⟩ := mul01 y0 y1 x0
    rw [Rat.mul_comm] at p2'
    have me := ev_mul (ev_exact ux.fin) (ev_exact uy.fin) (by decide) (by decide) y0 y1 x0 x1 (by rw [ab_of p0]; clear ux uy m; grind)
    cases both
    · simp only [Bool.false_eq_true, if_false]
      have hb : ab (fval .f32 x + fval .f32 y) ≤ 16 := by clear ux uy m me; exact ab_le (by grind) (by grind)
      have ae := ev_add (ev_exact ux.fin) (ev_exact uy.fin) hb
      have r := rn_add ux.fin uy.fin (top16 hb)
      have l1 := r.lo _ (rep_val32 ux.fin) (by clear ux uy m me ae r; grind)
      have two : ((2 : Nat) : Rat) = 2 := rfl
      have u1 := r.up ((2 : Nat) : Rat) (nat_rep 2 (by decide)) (by rw [two]; clear ux uy m me ae r; grind)
      rw [two] at u1
      have ml := m.lo
      have hb2 : ab (fval .f32 (fadd .f32 x y) - fval .f32 (fmul .f32 x y)) ≤ 16 := by clear ux uy m me ae r; exact ab_le (by grind) (by grind)
      have se := ev_sub ae me hb2
      have rs := rn_sub r.fin m.fin (top16 hb2)
      have sl := rs.lo 0 rep0 (by clear ux uy m me ae r se rs; grind)
      have su := rs.up ((2 : Nat) : Rat) (nat_rep 2 (by decide)) (by rw [two]; clear ux uy m me ae r se rs; grind)
      rw [two] at su
      have one : (1 - fval .f32 x) * (1 - fval .f32 y) = 1 - (fval .f32 x + fval .f32 y - fval .f32 x * fval .f32 y) := by clear ux uy m me ae r se rs; grind
      have o0 := Rat.mul_nonneg (show 0 ≤ 1 - fval .f32 x by clear ux uy m me ae r se rs; grind) (show 0 ≤ 1 - fval .f32 y by clear ux uy m me ae r se rs; grind)
      rw [one] at o0
      refine ⟨⟨rs.fin, sl, su⟩, ?_, ?_, ev_more se (by clear ux uy m me ae r se rs; grind)⟩
      · clear ux uy m me ae r se rs; grind
      · clear ux uy m me ae r se rs; grind
    · simp only [if_true]
      refine ⟨m.two, p0, ?_, ev_more me (by clear ux uy m me; grind)⟩
      clear ux uy m me
      grind
  exact ⟨fun i hi => by rw [joiL_get _ _ _ _ _ hi]; exact (key i).1, fun i _ => (key i).2.1, fun i _ => (key i).2.2.1, fun i hi => by rw [joiL_get _ _ _ _ _ hi]; exact (key i).2.2.2⟩
theorem prE_pad {q : List Nat} (φ : Rat) {n : Nat} (h : q.length ≤ n) : ∀ k, q.length + k ≤ n → prE (vX (alvL q)) φ 0 (q.length + k) = prE (vX (alvL q)) φ 0 q.length
  | 0, _ => rfl
  | k + 1, hk => by
    have ih := prE_pad φ h k (by omega)
    have z : vX (alvL q) (q.length + k) = 0 := by
      unfold vX
      have : (alvL q).getD (q.length + k) 0 = 0 := by simp [alvL, List.getD_eq_getElem?_getD]
      rw [this, fval_zero]
    rw [show q.length + (k + 1) = (q.length + k) + 1 by omega, prE, if_pos (Nat.zero_le _), ih, z]
    grind
def c001 : Nat := 4562254508917369340
theorem c001_ok : finB .f64 c001 = true ∧ p2 (-10) ≤ fval .f64 c001 ∧ fval .f64 c001 ≤ 1 := by
  have h : FloatKind.f64.decode c001 = .number false 4611686018427388 (-62) := by decide +kernel
  refine ⟨num_fin h, ?_, ?_⟩
  · rw [fval_of h]
    have h1 := cast_le (show 2 ^ 52 ≤ 4611686018427388 by decide)
    rw [← p2_nat] at h1
    have h2 := mul_le_r (Rat.le_of_lt (p2_pos (-62))) h1
    rw [← p2_add] at h2
    have e : p2 (((52 : Nat) : Int) + -62) = p2 (-10) := rfl
    simp only [sg, Bool.false_eq_true, if_false]
    grind
  · rw [fval_of h]
    have h1 := cast_le (show 4611686018427388 ≤ 2 ^ 62 by decide)
    rw [← p2_nat] at h1
    have h2 := mul_le_r (Rat.le_of_lt (p2_pos (-62))) h1
    rw [← p2_add] at h2
    have e : p2 (((62 : Nat) : Int) + -62) = 1 := rfl
    simp only [sg, Bool.false_eq_true, if_false]
    grind
theorem gap_no {a b : Nat} (ha : finB .f32 a = true) (hb : finB .f32 b = true) (h1 : fval .f32 a - fval .f32 b ≤ p2 (-10)) (h2 : fval .f32 b - fval .f32 a ≤ p2 (-10)) : fgt .f64 (gap8 a b) c001 = false := by
  obtain ⟨ra, va⟩ := wide_rn ha
  obtain ⟨rb, vb⟩ := wide_rn hb
  have p10 := p2_pos (-10)
  have s1 := rn_sub (k := .f64) ra.fin rb.fin (by rw [va, vb]; exact lt_top64 (t := -10) (by exact ab_le (by clear ra rb; grind) (by clear ra rb; grind)) (by decide))
  have s2 := rn_sub (k := .f64) rb.fin ra.fin (by rw [va, vb]; exact lt_top64 (t := -10) (by exact ab_le (by clear ra rb; grind) (by clear ra rb; grind)) (by decide))
  rw [va, vb] at s1 s2
  have u1 := s1.up _ (rep_p2 _ (by decide)) h1
  have u2 := s2.up _ (rep_p2 _ (by decide)) h2
  have f1 := s1.fin
  have f2 := s2.fin
  obtain ⟨cf, cl, _⟩ := c001_ok
  have key : finB .f64 (gap8 a b) = true ∧ fval .f64 (gap8 a b) ≤ p2 (-10) := by
    unfold gap8 fmax
    split
    · exact ⟨f2, u2⟩
    · exact ⟨f1, u1⟩
    · split
      · exact ⟨f2, u2⟩
      · exact ⟨f1, u1⟩
    · exact ⟨f1, u1⟩
  rw [fgt_val key.1 cf]
  refine decide_eq_false ?_
  have := key.2
  clear s1 s2 ra rb
  grind
end Go.Proofs.Ytpjifmfpddjeiaa
