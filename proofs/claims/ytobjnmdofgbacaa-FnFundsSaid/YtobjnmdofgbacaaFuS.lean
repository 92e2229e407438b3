/- Funds: the numbers, in plain Lean: funds without returns, what is worth. -/
import Derived.Test.YtobjnmdofgbacaaFuR
set_option maxRecDepth 10000
set_option maxHeartbeats 4000000
set_option linter.unusedSimpArgs false
set_option linter.unusedVariables false
namespace Go.Proofs.Ytobjnmdofgbacaa
open Go Go.Abs

def zL (n : Nat) : List Nat := (List.range n).map fun _ => 0
theorem zL_len (n : Nat) : (zL n).length = n := by simp [zL]
theorem zL_get (n j : Nat) : (zL n).getD j 0 = 0 := by
  unfold zL
  by_cases h : j < n
  · simp [h]
  · simp [h]
def plZ (a b : Nat → Int) : Nat → Int
  | 0 => 10
  | i + 1 => plZ a b i + (a i - b i)
def soZ (b : Nat → Int) : Nat → Int
  | 0 => 0
  | i + 1 => soZ b i + b i
structure Io (is os : List Nat) (a b : Nat → Int) (n : Nat) : Prop where
  n8 : n ≤ 8
  i : ∀ j, j < n → 1 ≤ a j ∧ a j ≤ 20 ∧ is.getD j 0 = iF (a j)
  o : ∀ j, j < n → 0 ≤ b j ∧ b j ≤ 19 ∧ os.getD j 0 = iF (b j)
theorem pl_bounds {is os : List Nat} {a b : Nat → Int} {n : Nat} (I : Io is os a b n) (i : Nat) (hi : i ≤ n) : (plZ a b i).natAbs ≤ 10 + 20 * i ∧ 0 ≤ soZ b i ∧ soZ b i ≤ 19 * (i : Int) := by
  induction i with
  | zero => exact ⟨by show (10 : Int).natAbs ≤ _; decide, by show (0 : Int) ≤ 0; decide, by show (0 : Int) ≤ _; decide⟩
  | succ i ih =>
    obtain ⟨h1, h2, h3⟩ := ih (by omega)
    have := I.i i (by omega)
    have := I.o i (by omega)
    refine ⟨?_, ?_, ?_⟩
    · show (plZ a b i + (a i - b i)).natAbs ≤ _; omega
    · show 0 ≤ soZ b i + b i; omega
    · show soZ b i + b i ≤ _; omega
theorem add_int {k : FloatKind} {x y : Nat} {u v : Int} (fx : finB k x = true) (fy : finB k y = true) (vx : fval k x = (u : Rat)) (vy : fval k y = (v : Rat)) (h : (u + v).natAbs ≤ 1000000) : finB k (fadd k x y) = true ∧ fval k (fadd k x y) = ((u + v : Int) : Rat) := by
  have b : ab (((u + v : Int)) : Rat) ≤ ((1000000 : Int) : Rat) := ab_int (by omega) (by omega)
  have t : ((1000000 : Int) : Rat) = 1000000 := rfl
  rw [t] at b
  have r := rn_add fx fy (by
    rw [vx, vy, ← Rat.intCast_add]
    have h1 : p2 20 = 1048576 := p2_nat 20
    have h2 := p2_mono (show (20 : Int) ≤ top k by cases k <;> decide)
    grind)
  rw [vx, vy, ← Rat.intCast_add] at r
  exact ⟨r.fin, r.same (rep_int _ (by cases k <;> (show _ < _; simp [fb]; omega)))⟩
theorem sub_int {k : FloatKind} {x y : Nat} {u v : Int} (fx : finB k x = true) (fy : finB k y = true) (vx : fval k x = (u : Rat)) (vy : fval k y = (v : Rat)) (h : (u - v).natAbs ≤ 1000000) : finB k (fsub k x y) = true ∧ fval k (fsub k x y) = ((u - v : Int) : Rat) := by
  have b : ab (((u - v : Int)) : Rat) ≤ ((1000000 : Int) : Rat) := ab_int (by omega) (by omega)
  have t : ((1000000 : Int) : Rat) = 1000000 := rfl
  rw [t] at b
  have r := rn_sub fx fy (by
    rw [vx, vy, ← Rat.intCast_sub]
    have h1 : p2 20 = 1048576 := p2_nat 20
    have h2 := p2_mono (show (20 : Int) ≤ top k by cases k <;> decide)
    grind)
  rw [vx, vy, ← Rat.intCast_sub] at r
  exact ⟨r.fin, r.same (rep_int _ (by cases k <;> (show _ < _; simp [fb]; omega)))⟩
theorem int_ab20 {z : Int} (h : z.natAbs ≤ 1000000) : ab ((z : Int) : Rat) ≤ 1048576 := by
  have b : ab ((z : Int) : Rat) ≤ ((1048576 : Int) : Rat) := ab_int (by omega) (by omega)
  exact b
theorem mul_one_int {x : Nat} {u : Int} (fx : finB .f32 x = true) (vx : fval .f32 x = (u : Rat)) (h : u.natAbs ≤ 1000000) {w : Nat} (fw : finB .f32 w = true) (vw : fval .f32 w = 1) : finB .f32 (fmul .f32 x w) = true ∧ fval .f32 (fmul .f32 x w) = (u : Rat) := by
  have b := int_ab20 h
  have r := rn_mul fx fw (top_of (by rw [vx, vw, Rat.mul_one]; exact b))
  rw [vx, vw, Rat.mul_one] at r
  exact ⟨r.fin, r.same (rep_int _ (by show _ < 2 ^ 24; omega))⟩
def w10 : Nat := 1092616192
theorem w10_ok : finB .f32 w10 = true ∧ fval .f32 w10 = ((10 : Int) : Rat) := by
  have e : iF 10 = w10 := by decide +kernel
  rw [← e]
  exact ⟨(iF_rn (by decide)).fin, iF_val (by decide)⟩
theorem one_zero : fadd .f32 one32 0 = one32 := by decide +kernel
theorem one_one : fmul .f32 one32 one32 = one32 := by decide +kernel
theorem plain_ok {is os : List Nat} {a b : Nat → Int} {n m : Nat} (I : Io is os a b n) (i : Nat) (hi : i ≤ n) : finB .f32 (runS w10 is os (zL m) one32 i) = true ∧ fval .f32 (runS w10 is os (zL m) one32 i) = ((plZ a b i : Int) : Rat) := by
  induction i with
  | zero => exact w10_ok
  | succ i ih =>
    obtain ⟨f, v⟩ := ih (by omega)
    have n8 := I.n8
    have pb := (pl_bounds I i (by omega)).1
    obtain ⟨a1, a2, ea⟩ := I.i i (by omega)
    obtain ⟨b1, b2, eb⟩ := I.o i (by omega)
    show finB .f32 (stepF (runS w10 is os (zL m) one32 i) (is.getD i 0) (os.getD i 0) ((zL m).getD i 0) one32) = true ∧ fval .f32 (stepF (runS w10 is os (zL m) one32 i) (is.getD i 0) (os.getD i 0) ((zL m).getD i 0) one32) = _
    unfold stepF
    rw [zL_get, ea, eb]
    have e0 : fadd .f32 1065353216 0 = one32 := one_zero
    rw [e0]
    obtain ⟨f1, v1⟩ := mul_one_int (iF_rn (z := a i) (by omega)).fin (iF_val (by omega)) (by omega) fin_one one_val
    obtain ⟨f2, v2⟩ := add_int f f1 v v1 (by omega)
    obtain ⟨f3, v3⟩ := sub_int f2 (iF_rn (z := b i) (by omega)).fin v2 (iF_val (by omega)) (by omega)
    obtain ⟨f4, v4⟩ := mul_one_int f3 v3 (by omega) fin_one one_val
    refine ⟨f4, v4.trans ?_⟩
    show _ = ((plZ a b i + (a i - b i) : Int) : Rat)
    congr 1
    omega
theorem by_flat (m : Nat) (i : Nat) : byW (zL m) i = one32 := by
  induction i with
  | zero => rfl
  | succ i ih =>
    unfold byW
    rw [ih, zL_get, one_zero, one_one]
theorem worth_flat {is os : List Nat} {a b : Nat → Int} {n m : Nat} (I : Io is os a b n) (i : Nat) (hi : i ≤ n) : finB .f32 (woW os (zL m) i) = true ∧ fval .f32 (woW os (zL m) i) = ((soZ b i : Int) : Rat) := by
  induction i with
  | zero => exact ⟨by show finB .f32 0 = true; decide +kernel, by show fval .f32 0 = _; rw [fval_zero]; rfl⟩
  | succ i ih =>
    obtain ⟨f, v⟩ := ih (by omega)
    have n8 := I.n8
    have pb := pl_bounds I i (by omega)
    obtain ⟨b1, b2, eb⟩ := I.o i (by omega)
    unfold woW
    rw [by_flat, eb]
    have fo := (iF_rn (z := b i) (by omega)).fin
    have vo := iF_val (z := b i) (by omega)
    have d1 : ((b i : Int) : Rat) / 1 = (b i : Int) := by
      have := Rat.mul_div_cancel (a := ((b i : Int) : Rat)) (b := 1) (by decide)
      rw [Rat.mul_one] at this
      exact this
    have r := rn_div fo fin_one (by rw [one_val]; decide) (top_of (by rw [vo, one_val, d1]; exact int_ab20 (by omega)))
    rw [vo, one_val, d1] at r
    have v2 := r.same (rep_int _ (by show _ < 2 ^ 24; omega))
    exact add_int f r.fin v v2 (by omega)

def hasW (is os : List Nat) : Nat → Nat
  | 0 => 4621819117588971520
  | i + 1 => fadd .f64 (hasW is os i) (fsub .f64 (fconv .f64 .f32 (is.getD i 0)) (fconv .f64 .f32 (os.getD i 0)))
def souW (os : List Nat) : Nat → Nat
  | 0 => 0
  | i + 1 => fadd .f64 (souW os i) (fconv .f64 .f32 (os.getD i 0))
theorem has_ok {is os : List Nat} {a b : Nat → Int} {n : Nat} (I : Io is os a b n) (i : Nat) (hi : i ≤ n) : finB .f64 (hasW is os i) = true ∧ fval .f64 (hasW is os i) = ((plZ a b i : Int) : Rat) := by
  induction i with
  | zero =>
    have h : FloatKind.f64.decode 4621819117588971520 = .number false 5629499534213120 (-49) := by decide +kernel
    exact ⟨num_fin h, (fval_of h).trans (by show _ = ((10 : Int) : Rat); decide +kernel)⟩
  | succ i ih =>
    obtain ⟨f, v⟩ := ih (by omega)
    have n8 := I.n8
    have pb := (pl_bounds I i (by omega)).1
    obtain ⟨a1, a2, ea⟩ := I.i i (by omega)
    obtain ⟨b1, b2, eb⟩ := I.o i (by omega)
    unfold hasW
    rw [ea, eb]
    obtain ⟨ra, va⟩ := wide_rn (iF_rn (z := a i) (by omega)).fin
    obtain ⟨rb, vb⟩ := wide_rn (iF_rn (z := b i) (by omega)).fin
    rw [iF_val (by omega)] at va vb
    obtain ⟨f3, v3⟩ := sub_int ra.fin rb.fin va vb (by omega)
    exact add_int f f3 v v3 (by omega)
theorem sou_ok {is os : List Nat} {a b : Nat → Int} {n : Nat} (I : Io is os a b n) (i : Nat) (hi : i ≤ n) : finB .f64 (souW os i) = true ∧ fval .f64 (souW os i) = ((soZ b i : Int) : Rat) := by
  induction i with
  | zero => exact ⟨by show finB .f64 0 = true; decide +kernel, by show fval .f64 0 = _; rw [fval_zero]; rfl⟩
  | succ i ih =>
    obtain ⟨f, v⟩ := ih (by omega)
    have n8 := I.n8
    have pb := pl_bounds I i (by omega)
    obtain ⟨b1, b2, eb⟩ := I.o i (by omega)
    unfold souW
    rw [eb]
    obtain ⟨rb, vb⟩ := wide_rn (iF_rn (z := b i) (by omega)).fin
    rw [iF_val (by omega)] at vb
    exact add_int f rb.fin v vb (by omega)
def c3W : Nat := 4562254508917369340
def one64 : Nat := 4607182418800017408
theorem c3_ok : finB .f64 c3W = true ∧ 0 ≤ fval .f64 c3W ∧ fval .f64 c3W ≤ 1 := by
  have h : FloatKind.f64.decode c3W = .number false 4611686018427388 (-62) := by decide +kernel
  refine ⟨num_fin h, ?_, ?_⟩ <;> rw [fval_of h] <;> decide +kernel
theorem one64_ok : finB .f64 one64 = true ∧ fval .f64 one64 = ((1 : Int) : Rat) := by
  have h : FloatKind.f64.decode one64 = .number false 4503599627370496 (-52) := by decide +kernel
  exact ⟨num_fin h, (fval_of h).trans (by decide +kernel)⟩
theorem fin64_0 : finB .f64 0 = true := by decide +kernel
theorem gap_int {x y : Nat} {u v : Int} (fx : finB .f64 x = true) (fy : finB .f64 y = true) (vx : fval .f64 x = (u : Rat)) (vy : fval .f64 y = (v : Rat)) (h : (u - v).natAbs ≤ 1000000) : finB .f64 (gapD x y) = true ∧ fval .f64 (gapD x y) = (((u - v).natAbs : Int) : Rat) := by
  unfold gapD
  rw [flt_val fx fy, vx, vy]
  by_cases c : u < v
  · have : (u : Rat) < (v : Rat) := by exact_mod_cast c
    rw [if_pos (decide_eq_true this)]
    obtain ⟨f, w⟩ := sub_int fy fx vy vx (by omega)
    exact ⟨f, w.trans (by congr 1; omega)⟩
  · have : ¬ (u : Rat) < (v : Rat) := by
      have := int_cast_le (show v ≤ u by omega); grind
    rw [if_neg (by simpa using this)]
    obtain ⟨f, w⟩ := sub_int fx fy vx vy (by omega)
    exact ⟨f, w.trans (by congr 1; omega)⟩
theorem gap_false {x y w : Nat} {u z : Int} (fx : finB .f64 x = true) (fy : finB .f64 y = true) (vx : fval .f64 x = (u : Rat)) (vy : fval .f64 y = (u : Rat)) (fw : finB .f64 w = true) (vw : fval .f64 w = (z : Rat)) (z0 : 0 ≤ z) (z1 : z ≤ 1000) : fgt .f64 (gapD x y) (fmul .f64 c3W (fadd .f64 one64 w)) = false := by
  obtain ⟨f, v⟩ := gap_int fx fy vx vy (by omega)
  obtain ⟨g, t⟩ := add_int one64_ok.1 fw one64_ok.2 vw (by omega)
  have b0 := int_cast_le (show 0 ≤ 1 + z by omega)
  have b1 := int_cast_le (show 1 + z ≤ 1001 by omega)
  have e0 : ((0 : Int) : Rat) = 0 := rfl
  have e1 : ((1001 : Int) : Rat) = 1001 := rfl
  rw [e0] at b0
  rw [e1] at b1
  obtain ⟨fc, c0, c1⟩ := c3_ok
  have m0 := Rat.mul_nonneg c0 b0
  have m1 := Rat.mul_le_mul_of_nonneg_right c1 b0
  have r := rn_mul fc g (by
    rw [t]
    have h1 : p2 20 = 1048576 := p2_nat 20
    refine lt_top64 (t := 20) ?_ (by decide)
    rw [h1]
    exact ab_le (by grind) (by grind))
  rw [t] at r
  have lo := r.lo 0 (by have := rep_int .f64 (z := 0) (by decide); exact this) m0
  rw [fgt_val f r.fin, v]
  refine decide_eq_false ?_
  have : (((u - u).natAbs : Int) : Rat) = 0 := by rw [Int.sub_self]; rfl
  rw [this]
  clear r
  grind
theorem plain_gap {is os : List Nat} {a b : Nat → Int} {n m : Nat} (I : Io is os a b n) (i : Nat) (hi : i ≤ n) : fgt .f64 (gapD (fconv .f64 .f32 (runS w10 is os (zL m) one32 i)) (hasW is os i)) (fmul .f64 c3W (fadd .f64 one64 (gapD (hasW is os i) 0))) = false := by
  obtain ⟨f1, v1⟩ := plain_ok (m := m) I i hi
  obtain ⟨r1, w1⟩ := wide_rn f1
  rw [v1] at w1
  obtain ⟨f2, v2⟩ := has_ok I i hi
  have pb := (pl_bounds I i hi).1
  have n8 := I.n8
  obtain ⟨f3, v3⟩ := gap_int (v := 0) f2 fin64_0 v2 (by rw [fval_zero]; rfl) (by omega)
  exact gap_false r1.fin f2 w1 v2 f3 v3 (by omega) (by omega)
theorem worth_gap {is os : List Nat} {a b : Nat → Int} {n m : Nat} (I : Io is os a b n) (i : Nat) (hi : i ≤ n) : fgt .f64 (gapD (fconv .f64 .f32 (woW os (zL m) i)) (souW os i)) (fmul .f64 c3W (fadd .f64 one64 (souW os i))) = false := by
  obtain ⟨f1, v1⟩ := worth_flat (m := m) I i hi
  obtain ⟨r1, w1⟩ := wide_rn f1
  rw [v1] at w1
  obtain ⟨f2, v2⟩ := sou_ok I i hi
  have pb := pl_bounds I i hi
  have n8 := I.n8
  exact gap_false r1.fin f2 w1 v2 f2 v2 (by omega) (by omega)
theorem ret_low {r : Nat} (h : finB .f32 r = true ∧ -(3 / 16) ≤ fval .f32 r ∧ fval .f32 r ≤ 5 / 16) : flt .f32 r 3192704205 = false ∧ fgt .f32 r 1051931443 = false := by
  obtain ⟨f, l, u⟩ := h
  have d1 : FloatKind.f32.decode 3192704205 = .number true 13421773 (-26) := by decide +kernel
  have d2 : FloatKind.f32.decode 1051931443 = .number false 11744051 (-25) := by decide +kernel
  have v1 : fval .f32 3192704205 < -(3 / 16) := by rw [fval_of d1]; decide +kernel
  have v2 : 5 / 16 < fval .f32 1051931443 := by rw [fval_of d2]; decide +kernel
  constructor
  · rw [flt_val f (num_fin d1)]; exact decide_eq_false (by grind)
  · rw [fgt_val f (num_fin d2)]; exact decide_eq_false (by grind)

theorem div_le {a b c : Rat} (hb : 0 < b) (h : a ≤ c * b) : a / b ≤ c := by
  have h1 : a / b * b = a := Rat.div_mul_cancel (by grind)
  apply Classical.byContradiction
  intro hh
  have := Rat.mul_lt_mul_of_pos_right (show c < a / b by grind) hb
  grind
theorem div_nn {a b : Rat} (ha : 0 ≤ a) (hb : 0 < b) : 0 ≤ a / b := by
  have h1 : a / b * b = a := Rat.div_mul_cancel (by grind)
  apply Classical.byContradiction
  intro hh
  have := Rat.mul_lt_mul_of_pos_right (show a / b < 0 by grind) hb
  grind
theorem by_ok {is os rs : List Nat} {n : Nat} (F : Fu is os rs n) (i : Nat) (hi : i ≤ n) : finB .f32 (byW rs i) = true ∧ p2 (-(i : Int)) ≤ fval .f32 (byW rs i) ∧ fval .f32 (byW rs i) ≤ p2 (i : Int) := by
  induction i with
  | zero => exact ⟨fin_one, by show p2 0 ≤ fval .f32 one32; rw [one_val, p2_zero]; exact Rat.le_refl, by show fval .f32 one32 ≤ p2 0; rw [one_val, p2_zero]; exact Rat.le_refl⟩
  | succ i ih =>
    obtain ⟨f, l, u⟩ := ih (by omega)
    have n8 := F.eight
    obtain ⟨g, r1, r2⟩ := F.r i (by omega)
    obtain ⟨c, c0, c2⟩ := one_r g r1 r2
    have p0 := p2_pos (-(i : Int))
    have p1 := p2_pos (i : Int)
    have e1 : p2 (-((i + 1 : Nat) : Int)) = p2 (-(i : Int)) * (1 / 2) := by rw [show -((i + 1 : Nat) : Int) = -(i : Int) + -1 by omega, p2_add, pw1]
    have e2 : p2 (((i + 1 : Nat) : Int)) = p2 (i : Int) * 2 := by rw [show ((i + 1 : Nat) : Int) = (i : Int) + 1 by omega, p2_add]; rfl
    have m1 := Rat.mul_le_mul_of_nonneg_right l (show 0 ≤ fval .f32 (fadd .f32 one32 (rs.getD i 0)) by clear c; grind)
    have m2 := Rat.mul_le_mul_of_nonneg_left c0 (Rat.le_of_lt p0)
    have m3 := Rat.mul_le_mul_of_nonneg_right u (show 0 ≤ fval .f32 (fadd .f32 one32 (rs.getD i 0)) by clear c; grind)
    have m4 := Rat.mul_le_mul_of_nonneg_left c2 (Rat.le_of_lt p1)
    have lo : p2 (-((i + 1 : Nat) : Int)) ≤ fval .f32 (byW rs i) * fval .f32 (fadd .f32 one32 (rs.getD i 0)) := by rw [e1]; clear c; grind
    have up : fval .f32 (byW rs i) * fval .f32 (fadd .f32 one32 (rs.getD i 0)) ≤ p2 (((i + 1 : Nat) : Int)) := by rw [e2]; clear c; grind
    have pp := p2_pos (-((i + 1 : Nat) : Int))
    have r := rn_mul f c.fin (top_p2 (t := ((i + 1 : Nat) : Int)) (by rw [ab_of (by clear c; grind)]; exact up) (by omega))
    exact ⟨r.fin, r.lo _ (rep_p2 _ (by show -149 ≤ _; omega)) lo, r.up _ (rep_p2 _ (by show -149 ≤ _; omega)) up⟩
theorem wo_ok {is os rs : List Nat} {n : Nat} (F : Fu is os rs n) (i : Nat) (hi : i ≤ n) : finB .f32 (woW os rs i) = true ∧ ab (fval .f32 (woW os rs i)) ≤ p2 (6 + (i : Int)) := by
  induction i with
  | zero => exact ⟨by show finB .f32 0 = true; decide +kernel, by
      show ab (fval .f32 0) ≤ p2 6
      rw [fval_zero, ab_of (Rat.le_refl)]; exact Rat.le_of_lt (p2_pos 6)⟩
  | succ i ih =>
    obtain ⟨f, b⟩ := ih (by omega)
    have n8 := F.eight
    obtain ⟨g, o1, o2⟩ := F.ov i (by omega)
    obtain ⟨fy, y1, y2⟩ := by_ok F i (by omega)
    have p0 := p2_pos (-(i : Int))
    have yp : 0 < fval .f32 (byW rs i) := by grind
    have e1 : p2 (5 + (i : Int)) * p2 (-(i : Int)) = 32 := by rw [← p2_add, show 5 + (i : Int) + -(i : Int) = 5 by omega]; decide +kernel
    have m1 := Rat.mul_le_mul_of_nonneg_left y1 (Rat.le_of_lt (p2_pos (5 + (i : Int))))
    have q0 := div_nn o1 yp
    have q5 := div_le (c := p2 (5 + (i : Int))) yp (show fval .f32 (os.getD i 0) ≤ _ by grind)
    have qb : ab (fval .f32 (os.getD i 0) / fval .f32 (byW rs i)) ≤ p2 (5 + (i : Int)) := by rw [ab_of q0]; exact q5
    have r := rn_div g fy (by grind) (top_p2 qb (by omega))
    have rb := r.bound (rep_p2 _ (by show -149 ≤ _; omega)) qb
    have s1 : p2 (6 + (i : Int)) = p2 (5 + (i : Int)) * 2 := by rw [show 6 + (i : Int) = 5 + (i : Int) + 1 by omega, p2_add]; rfl
    have s2 : p2 (6 + ((i + 1 : Nat) : Int)) = p2 (5 + (i : Int)) * 4 := by rw [show 6 + ((i + 1 : Nat) : Int) = 5 + (i : Int) + 2 by omega, p2_add, show p2 2 = 4 from by decide +kernel]
    have pp := p2_pos (5 + (i : Int))
    have t := ab_add (fval .f32 (woW os rs i)) (fval .f32 (fdiv .f32 (os.getD i 0) (byW rs i)))
    have tb : ab (fval .f32 (woW os rs i) + fval .f32 (fdiv .f32 (os.getD i 0) (byW rs i))) ≤ p2 (6 + ((i + 1 : Nat) : Int)) := by clear r; grind
    have r2 := rn_add f r.fin (top_p2 tb (by omega))
    exact ⟨r2.fin, r2.bound (rep_p2 _ (by show -149 ≤ _; omega)) tb⟩
end Go.Proofs.Ytobjnmdofgbacaa
