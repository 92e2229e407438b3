/- The angle of a point. -/
import Derived.Test.YtkjabkgmkkcpdaaGreatDoorNnA
set_option maxRecDepth 10000
set_option maxHeartbeats 4000000
set_option linter.unusedSimpArgs false
set_option linter.unusedVariables false
namespace Go.Proofs.YtkjabkgmkkcpdaaGreatDoor
open Go Go.Abs
theorem le_lt {a b c : Rat} (h : a ≤ b) (k : b < c) : a < c := by grind
def Bd (n : Nat) (x : Nat) : Prop := finB .f64 x = true ∧ ab (fval .f64 x) ≤ (n : Rat)
theorem rep_nat {n : Nat} (h : n < 2 ^ 53) : Rep .f64 (n : Rat) := by
  have := rep_int .f64 (z := (n : Int)) (by show n < 2 ^ 53; exact h)
  rw [Rat.intCast_natCast] at this
  exact this
theorem nat_top {n : Nat} (h : n < 2 ^ 53) : (n : Rat) < p2 (top .f64) := by
  have := int_small (k := .f64) (z := (n : Int)) (by show n < 2 ^ 53; exact h)
  rw [Rat.intCast_natCast] at this
  exact le_lt (le_ab _).1 this
theorem bd_sub {m n x y : Nat} (hx : Bd m x) (hy : Bd n y) (h : m + n < 2 ^ 53) : Bd (m + n) (fsub .f64 x y) := by
  have b : ab (fval .f64 x - fval .f64 y) ≤ ((m + n : Nat) : Rat) := by
    have := ab_sub (fval .f64 x) (fval .f64 y)
    rw [Rat.natCast_add]
    have := hx.2
    have := hy.2
    grind
  have r := rn_sub hx.1 hy.1 (le_lt b (nat_top h))
  exact ⟨r.fin, r.bound (rep_nat h) b⟩
theorem bd_mul {m n x y : Nat} (hx : Bd m x) (hy : Bd n y) (h : m * n < 2 ^ 53) : Bd (m * n) (fmul .f64 x y) := by
  have b : ab (fval .f64 x * fval .f64 y) ≤ ((m * n : Nat) : Rat) := by
    rw [ab_mul, Rat.natCast_mul]
    have h1 := mul_le_r (ab_nonneg (fval .f64 y)) hx.2
    have h2 := Rat.mul_le_mul_of_nonneg_left hy.2 (show (0 : Rat) ≤ (m : Rat) by exact_mod_cast Nat.zero_le m)
    grind
  have r := rn_mul hx.1 hy.1 (le_lt b (nat_top h))
  exact ⟨r.fin, r.bound (rep_nat h) b⟩
theorem div_le1 {a b : Rat} (h0 : 1 ≤ b) : ab (a / b) ≤ ab a := by
  have bp : 0 < b := by grind
  have e : a = (a / b) * b := by rw [Rat.div_mul_cancel (by grind)]
  have h1 : ab a = ab (a / b) * ab b := by
    rw [← ab_mul, ← e]
  rw [ab_of (by grind : (0 : Rat) ≤ b)] at h1
  have h2 := Rat.mul_le_mul_of_nonneg_left h0 (ab_nonneg (a / b))
  rw [h1]
  grind
theorem bd_div {m x y : Nat} (hx : Bd m x) (hf : finB .f64 y = true) (hy : 1 ≤ fval .f64 y) (h : m < 2 ^ 53) : Bd m (fdiv .f64 x y) := by
  have b : ab (fval .f64 x / fval .f64 y) ≤ (m : Rat) := by
    have := div_le1 (a := fval .f64 x) hy
    have := hx.2
    grind
  have r := rn_div hx.1 hf (by grind) (le_lt b (nat_top h))
  exact ⟨r.fin, r.bound (rep_nat h) b⟩
theorem bd_neg {m x : Nat} (hx : Bd m x) : Bd m (fneg .f64 x) := by
  obtain ⟨s, n, e, hd⟩ := fin_num hx.1
  have hn := decode_neg .f64 x hd
  refine ⟨num_fin hn, ?_⟩
  have hv := hx.2
  rw [fval_of hd] at hv
  rw [fval_of hn]
  have := mag_nonneg n e
  rw [ab_sg _ this] at hv ⊢
  exact hv
theorem bd_le {m n x : Nat} (hx : Bd m x) (h : m ≤ n) : Bd n x := ⟨hx.1, Rat.le_trans hx.2 (cast_le h)⟩
theorem bd_nok {m x : Nat} (hx : Bd m x) (h : m < 2 ^ 53) : nok x := by
  refine (narrow_rn hx.1 ?_).1
  have h1 : (m : Rat) ≤ p2 53 := by
    rw [show (53 : Int) = ((53 : Nat) : Int) from rfl, p2_nat]
    exact cast_le (by omega)
  have h2 := p2_mono (show (54 : Int) ≤ 127 by decide)
  have h3 : p2 54 = p2 53 * 2 := p2_add 53 1
  have h4 := p2_pos 53
  have := hx.2
  grind
def one64 : Nat := canon .f64 4607182418800017408
def U1 (x : Nat) : Prop := finB .f64 x = true ∧ 0 ≤ fval .f64 x ∧ fval .f64 x ≤ 1
theorem one64_ex : Ex .f64 1 one64 := by
  have h := ex_wide (ex_iF (z := 1) (by decide))
  rw [show fconv .f64 .f32 (iF 1) = one64 by decide +kernel] at h
  exact h
def halfF (t : Nat) : Nat := fdiv .f64 t (fadd .f64 one64 (sqF (fadd .f64 one64 (fmul .f64 t t))))
theorem rep1 : Rep .f64 1 := rep_nat (n := 1) (by decide)
theorem rep0 : Rep .f64 0 := rep_nat (n := 0) (by decide)
theorem rep2 : Rep .f64 2 := rep_nat (n := 2) (by decide)
theorem rat_top {v : Rat} {t : Int} (h : v ≤ p2 t) (ht : t < 1023) : v < p2 (top .f64) := lt_top64 h ht
theorem u1_sq {t : Nat} (h : U1 t) : U1 (fmul .f64 t t) := by
  have a : 0 ≤ fval .f64 t * fval .f64 t := Rat.mul_nonneg h.2.1 h.2.1
  have b : fval .f64 t * fval .f64 t ≤ 1 := by
    have := mul_le_r h.2.1 h.2.2
    have := h.2.2
    grind
  have r := rn_mul h.1 h.1 (by rw [ab_of a]; exact rat_top (t := 0) b (by decide))
  exact ⟨r.fin, r.lo 0 rep0 a, r.up 1 rep1 b⟩
theorem one_sq {t : Nat} (h : U1 t) : finB .f64 (fadd .f64 one64 (fmul .f64 t t)) = true ∧ 0 ≤ fval .f64 (fadd .f64 one64 (fmul .f64 t t)) ∧ fval .f64 (fadd .f64 one64 (fmul .f64 t t)) ≤ p2 20 := by
  have u := u1_sq h
  have o := one64_ex
  have ov : fval .f64 one64 = 1 := o.val
  have e : p2 20 = (1048576 : Rat) := p2_nat 20
  have b1 : fval .f64 one64 + fval .f64 (fmul .f64 t t) ≤ 2 := by rw [ov]; have := u.2.2; grind
  have b0 : 0 ≤ fval .f64 one64 + fval .f64 (fmul .f64 t t) := by rw [ov]; have := u.2.1; grind
  have p1 : p2 1 = 2 := p2_nat 1
  have r := rn_add o.fin u.1 (by rw [ab_of b0]; exact rat_top (t := 1) (by rw [p1]; exact b1) (by decide))
  refine ⟨r.fin, r.lo 0 rep0 b0, ?_⟩
  have := r.up 2 rep2 b1
  rw [e]
  grind
theorem half_u1 {t : Nat} (h : U1 t) : U1 (halfF t) := by
  obtain ⟨w1, w2, w3⟩ := one_sq h
  obtain ⟨v, r, v0, v1⟩ := sqF_rn w1 w2 w3
  unfold halfF
  generalize sqF (fadd .f64 one64 (fmul .f64 t t)) = s at r
  have o := one64_ex
  have ov : fval .f64 one64 = 1 := o.val
  have s0 : 0 ≤ fval .f64 s := r.lo 0 rep0 v0
  have s1 : fval .f64 s ≤ p2 120 := r.up _ (rep_p2 .f64 (by decide)) v1
  have b0 : 1 ≤ fval .f64 one64 + fval .f64 s := by rw [ov]; grind
  have b1 : fval .f64 one64 + fval .f64 s ≤ p2 121 := by
    have h6 : p2 121 = p2 120 * 2 := p2_add 120 1
    have h7 := p2_mono (show (0 : Int) ≤ 120 by decide)
    have h8 : p2 0 = 1 := p2_zero
    rw [ov]
    grind
  have q := rn_add o.fin r.fin (by rw [ab_of (by grind)]; exact rat_top b1 (by decide))
  have d1 : 1 ≤ fval .f64 (fadd .f64 one64 s) := q.lo 1 rep1 b0
  generalize fadd .f64 one64 s = d at q d1
  have dp : 0 < fval .f64 d := by grind
  have c0 : 0 ≤ fval .f64 t / fval .f64 d := by
    rw [Rat.div_def]
    exact Rat.mul_nonneg h.2.1 (Rat.le_of_lt (Rat.inv_pos.2 dp))
  have c1 : fval .f64 t / fval .f64 d ≤ 1 := by
    have := div_le1 (a := fval .f64 t) d1
    rw [ab_of c0, ab_of h.2.1] at this
    have := h.2.2
    grind
  have z := rn_div h.1 q.fin (by grind) (by rw [ab_of c0]; exact rat_top (t := 0) c1 (by decide))
  exact ⟨z.fin, z.lo 0 rep0 c0, z.up 1 rep1 c1⟩
end Go.Proofs.YtkjabkgmkkcpdaaGreatDoor
