/- Logarithms in plain numbers: halved and doubled, a series; all within small bounds. -/
import Derived.Test.YthildgdbgjgidaaAbsM4
set_option linter.unusedSimpArgs false
set_option linter.unusedVariables false
namespace Go.Proofs.Ythildgdbgjgidaa
open Go Go.Abs

def one64 : Nat := 4607182418800017408
def two64 : Nat := 4611686018427387904
def w15 : Nat := 4609434218613702656
def w075 : Nat := 4604930618986332160
def lnC : Nat := 4604418534313441775
def eF (z : Int) : Nat := canon .f64 (FloatKind.nearest .f64 z)
theorem eF_rn {z : Int} (h : z.natAbs ≤ 1048576) : Rn .f64 (z : Rat) (eF z) := by
  refine int_rn ?_
  have h1 := int_cast_le (show z ≤ 1048576 by omega)
  have h2 := int_cast_le (show -1048576 ≤ z by omega)
  have e1 : (((1048576 : Int)) : Rat) = 1048576 := rfl
  have e2 : (((-1048576 : Int)) : Rat) = -1048576 := rfl
  rw [e1] at h1
  rw [e2] at h2
  have h3 : ab (z : Rat) ≤ 1048576 := ab_le h1 h2
  have h4 : p2 20 = 1048576 := p2_nat 20
  have h5 : p2 21 = p2 20 * 2 := p2_add 20 1
  have h6 := p2_mono (show (21 : Int) ≤ top .f64 by decide)
  grind
theorem eF_val {z : Int} (h : z.natAbs ≤ 1048576) : fval .f64 (eF z) = (z : Rat) := (eF_rn h).same (rep_int _ (by show z.natAbs < 2 ^ 53; omega))
theorem one_eF : eF 1 = one64 := by decide +kernel
theorem two_eF : eF 2 = two64 := by decide +kernel
theorem one_val : fval .f64 one64 = 1 := by rw [← one_eF, eF_val (by decide)]; rfl
theorem two_val : fval .f64 two64 = 2 := by rw [← two_eF, eF_val (by decide)]; rfl
theorem fin_one : finB .f64 one64 = true := by decide +kernel
theorem fin_two : finB .f64 two64 = true := by decide +kernel
theorem fin15 : finB .f64 w15 = true := by decide +kernel
theorem fin075 : finB .f64 w075 = true := by decide +kernel
theorem fin_ln : finB .f64 lnC = true := by decide +kernel
theorem nat_val {k : FloatKind} {x : Nat} {m : Nat} {e : Int} (h : k.decode x = .number false m e) {j : Nat} {t : Int} (ht : e ≤ t) (hj : j * 2 ^ (t - e).toNat = m) : fval k x = (j : Rat) * p2 t := by
  rw [fval_of h, p2_shift j ht, hj]
  simp [sg]
theorem val15 : fval .f64 w15 = 3 * p2 (-1) := nat_val (m := 6755399441055744) (e := -52) (j := 3) (t := -1) (by decide +kernel) (by decide) (by decide)
theorem val075 : fval .f64 w075 = 3 * p2 (-2) := nat_val (m := 6755399441055744) (e := -53) (j := 3) (t := -2) (by decide +kernel) (by decide) (by decide)
theorem ln_val : ab (fval .f64 lnC) ≤ 1 := by
  have h : FloatKind.f64.decode lnC = .number false 6243314768165359 (-53) := by decide +kernel
  rw [fval_of h, ab_sg _ (mag_nonneg _ _)]
  have h1 := cast_le (show 6243314768165359 ≤ 2 ^ 53 by decide)
  rw [← p2_nat] at h1
  have h2 := mul_le_r (Rat.le_of_lt (p2_pos (-53))) h1
  rw [← p2_add] at h2
  exact h2
theorem p2m1 : p2 (-1) = 1 / 2 := by
  have h : p2 (-1) * p2 1 = 1 := by rw [← p2_add]; rfl
  have h1 : p2 1 = 2 := rfl
  grind
theorem p2m2 : p2 (-2) = 1 / 4 := by
  have h : p2 (-2) * p2 2 = 1 := by rw [← p2_add]; rfl
  have h1 : p2 2 = 4 := p2_nat 2
  grind
theorem rep3 (t : Int) (h : -1074 ≤ t) : Rep .f64 (3 * p2 t) := ⟨false, 3, t, by decide, h, by simp [sg]⟩
theorem lt_top {v : Rat} {t : Int} (h : v ≤ p2 t) (ht : t < 1023) : v < p2 (top .f64) := by
  have h1 := p2_mono (show t + 1 ≤ top .f64 by show t + 1 ≤ 1023; omega)
  rw [p2_add, show p2 1 = 2 from rfl] at h1
  have := p2_pos t
  grind

def hlvF : Nat → Nat → Int → Nat × Int
  | 0, y, e => (y, e)
  | n + 1, y, e => if fge .f64 y w15 then hlvF n (fdiv .f64 y two64) (e + 1) else (y, e)
def dblF : Nat → Nat → Int → Nat × Int
  | 0, y, e => (y, e)
  | n + 1, y, e => if flt .f64 y w075 then dblF n (fmul .f64 y two64) (e - 1) else (y, e)
structure Hi (i : Nat) (y : Nat) : Prop where
  hi : i ≤ 40
  fin : finB .f64 y = true
  can : canon .f64 y = y
  up : fval .f64 y ≤ p2 (40 - i)
  lo : p2 (-40) ≤ fval .f64 y
theorem Hi.more {i y : Nat} (H : Hi i y) (h : fge .f64 y w15 = true) : Hi (i + 1) (fdiv .f64 y two64) := by
  rw [fge_val H.fin fin15, val15, p2m1] at h
  have h := of_decide_eq_true h
  have hu := H.up
  have hi : i < 40 := by
    have h0 : p2 0 < p2 (40 - i) := by
      have : p2 0 = 1 := rfl
      grind
    have := p2_lt h0
    omega
  have e2 : p2 (40 - i) = p2 (40 - (i + 1 : Nat)) * 2 := by
    rw [show (40 : Int) - i = (40 - (i + 1 : Nat)) + 1 by omega, p2_add]
    rfl
  have hq : fval .f64 y / fval .f64 two64 ≤ p2 (40 - (i + 1 : Nat)) := by rw [two_val]; grind
  have h0 : 0 ≤ fval .f64 y / fval .f64 two64 := by rw [two_val]; grind
  have r := rn_div (k := .f64) H.fin fin_two (by rw [two_val]; decide) (by rw [ab_of h0]; exact lt_top hq (by omega))
  refine ⟨by omega, r.fin, r.can, r.up _ (rep_p2 _ (by show (-1074 : Int) ≤ _; omega)) hq, ?_⟩
  have := r.lo (3 * p2 (-2)) (rep3 _ (by decide)) (by rw [two_val, p2m2]; grind)
  have h4 := p2_mono (show (-40 : Int) ≤ -2 by decide)
  have := p2_pos (-2)
  grind
structure Lo (j : Nat) (y : Nat) : Prop where
  hj : j ≤ 40
  fin : finB .f64 y = true
  can : canon .f64 y = y
  up : fval .f64 y ≤ 3 * p2 (-1)
  lo : p2 (j - 40) ≤ fval .f64 y
theorem Hi.done {i y : Nat} (H : Hi i y) (h : fge .f64 y w15 = false) : Lo 0 y := by
  rw [fge_val H.fin fin15, val15] at h
  have h := of_decide_eq_false h
  exact ⟨by omega, H.fin, H.can, by grind, H.lo⟩
theorem Lo.more {j y : Nat} (H : Lo j y) (h : flt .f64 y w075 = true) : Lo (j + 1) (fmul .f64 y two64) := by
  rw [flt_val H.fin fin075, val075, p2m2] at h
  have h := of_decide_eq_true h
  have hl := H.lo
  have hj : j < 40 := by
    have h0 : p2 (j - 40) < p2 0 := by
      have : p2 0 = 1 := rfl
      grind
    have := p2_lt h0
    omega
  have e2 : p2 ((j + 1 : Nat) - 40) = p2 (j - 40) * 2 := by
    rw [show ((j + 1 : Nat) : Int) - 40 = (j - 40) + 1 by omega, p2_add]
    rfl
  have hp := p2_pos (j - 40)
  have h0 : 0 ≤ fval .f64 y * fval .f64 two64 := by rw [two_val]; grind
  have hq : fval .f64 y * fval .f64 two64 ≤ p2 1 := by
    rw [two_val]
    have : p2 1 = 2 := rfl
    grind
  have r := rn_mul (k := .f64) H.fin fin_two (by rw [ab_of h0]; exact lt_top hq (by omega))
  refine ⟨by omega, r.fin, r.can, r.up _ (rep3 _ (by decide)) (by rw [two_val, p2m1]; grind), r.lo _ (rep_p2 _ (by show (-1074 : Int) ≤ _; omega)) (by rw [two_val, e2]; grind)⟩
structure Mid75 (y : Nat) : Prop where
  fin : finB .f64 y = true
  up : fval .f64 y ≤ 3 * p2 (-1)
  lo : 3 * p2 (-2) ≤ fval .f64 y
theorem Lo.done {j y : Nat} (H : Lo j y) (h : flt .f64 y w075 = false) : Mid75 y := by
  rw [flt_val H.fin fin075, val075] at h
  have h := of_decide_eq_false h
  exact ⟨H.fin, H.up, by grind⟩

def qF (u : Nat) : Nat → Nat
  | 0 => 0
  | r + 1 => fadd .f64 (fdiv .f64 one64 (eF (25 - 2 * (r : Nat)))) (fmul .f64 u (qF u r))
structure Bd (x : Nat) (B : Rat) : Prop where
  fin : finB .f64 x = true
  le : ab (fval .f64 x) ≤ B
theorem bd_rn {v : Rat} {x : Nat} {t : Int} (r : Rn .f64 v x) (ht : -1074 ≤ t) (h : ab v ≤ p2 t) : Bd x (p2 t) := ⟨r.fin, r.bound (rep_p2 _ ht) h⟩
theorem bd_mul {x y : Nat} {a b : Int} (hx : Bd x (p2 a)) (hy : Bd y (p2 b)) (h1 : -1074 ≤ a + b) (h2 : a + b < 1023) : Bd (fmul .f64 x y) (p2 (a + b)) := by
  have h : ab (fval .f64 x * fval .f64 y) ≤ p2 (a + b) := by
    rw [ab_mul, p2_add]
    have h3 := Rat.mul_le_mul_of_nonneg_left hy.le (ab_nonneg (fval .f64 x))
    have h4 := Rat.mul_le_mul_of_nonneg_right hx.le (Rat.le_of_lt (p2_pos b))
    grind
  exact bd_rn (rn_mul hx.fin hy.fin (lt_top h h2)) h1 h
theorem bd_add {x y : Nat} {a b t : Int} (hx : Bd x (p2 a)) (hy : Bd y (p2 b)) (ha : a < t) (hb : b < t) (h1 : -1074 ≤ t) (h2 : t < 1023) : Bd (fadd .f64 x y) (p2 t) := by
  have h : ab (fval .f64 x + fval .f64 y) ≤ p2 t := by
    have h3 := ab_add (fval .f64 x) (fval .f64 y)
    have h4 := p2_mono (show a ≤ t - 1 by omega)
    have h5 := p2_mono (show b ≤ t - 1 by omega)
    have h6 : p2 t = p2 (t - 1) * 2 := by rw [show t = (t - 1) + 1 by omega, p2_add, show t - 1 + 1 - 1 = t - 1 by omega]; rfl
    have := hx.le
    have := hy.le
    grind
  exact bd_rn (rn_add hx.fin hy.fin (lt_top h h2)) h1 h
theorem bd_inv (r : Nat) (h : r < 13) : Bd (fdiv .f64 one64 (eF (25 - 2 * (r : Nat)))) (p2 0) := by
  have hv := eF_val (z := 25 - 2 * (r : Nat)) (by omega)
  have hf := (eF_rn (z := 25 - 2 * (r : Nat)) (by omega)).fin
  have h1 := int_cast_le (show (1 : Int) ≤ 25 - 2 * (r : Nat) by omega)
  have e1 : ((1 : Int) : Rat) = 1 := rfl
  rw [e1, ← hv] at h1
  generalize eF (25 - 2 * (r : Nat)) = k at *
  have hne : fval .f64 k ≠ 0 := by grind
  have hm : fval .f64 one64 / fval .f64 k * fval .f64 k = fval .f64 one64 := Rat.div_mul_cancel hne
  rw [one_val] at hm
  have h0 : 0 ≤ fval .f64 one64 / fval .f64 k := by
    rw [one_val]
    apply Classical.byContradiction
    intro hh
    have h6 := Rat.mul_lt_mul_of_pos_right (show (1 : Rat) / fval .f64 k < 0 by grind) (show (0 : Rat) < fval .f64 k by grind)
    grind
  have hq : fval .f64 one64 / fval .f64 k ≤ p2 0 := by
    rw [p2_zero, one_val]
    rw [one_val] at h0
    have h6 := Rat.mul_le_mul_of_nonneg_left h1 h0
    grind
  have hb : ab (fval .f64 one64 / fval .f64 k) ≤ p2 0 := by rw [ab_of h0]; exact hq
  exact bd_rn (rn_div fin_one hf hne (lt_top hb (by decide))) (by decide) hb
theorem bd_zero : Bd 0 (p2 1) := ⟨by decide +kernel, by rw [fval_zero, ab_of (by decide)]; exact Rat.le_of_lt (p2_pos 1)⟩
theorem bd_q {u : Nat} (hu : Bd u (p2 (-2))) : ∀ r, r ≤ 13 → Bd (qF u r) (p2 1)
  | 0, _ => bd_zero
  | r + 1, h => by
    have ih := bd_q hu r (by omega)
    have h1 := bd_mul hu ih (by decide) (by decide)
    exact bd_add (bd_inv r (by omega)) h1 (by decide) (by decide) (by decide) (by decide)
def sF (y : Nat) : Nat := fdiv .f64 (fsub .f64 y one64) (fadd .f64 y one64)
theorem bd_s {y : Nat} (M : Mid75 y) : Bd (sF y) (p2 (-1)) := by
  have hu := M.up
  have hl := M.lo
  rw [p2m1] at hu
  rw [p2m2] at hl
  have h1 : ab (fval .f64 y - fval .f64 one64) ≤ p2 (-1) := by rw [one_val, p2m1]; exact ab_le (by grind) (by grind)
  have b1 := bd_rn (rn_sub M.fin fin_one (lt_top h1 (by decide))) (by decide) h1
  have h2 : ab (fval .f64 y + fval .f64 one64) ≤ p2 2 := by
    have e4 : p2 2 = 4 := p2_nat 2
    rw [one_val, e4]; exact ab_le (by grind) (by grind)
  have r2 := rn_add M.fin fin_one (lt_top h2 (by decide))
  have l2 := r2.lo (p2 0) (rep_p2 _ (by decide)) (by rw [p2_zero, one_val]; grind)
  rw [p2_zero] at l2
  unfold sF
  generalize fsub .f64 y one64 = a at *
  generalize fadd .f64 y one64 = b at *
  have hne : fval .f64 b ≠ 0 := by grind
  have hm : fval .f64 a / fval .f64 b * fval .f64 b = fval .f64 a := Rat.div_mul_cancel hne
  have hb : ab (fval .f64 a / fval .f64 b) ≤ p2 (-1) := by
    have h3 := ab_mul (fval .f64 a / fval .f64 b) (fval .f64 b)
    rw [hm, ab_of (show 0 ≤ fval .f64 b by grind)] at h3
    have h4 := Rat.mul_le_mul_of_nonneg_left l2 (ab_nonneg (fval .f64 a / fval .f64 b))
    have := b1.le
    grind
  exact bd_rn (rn_div b1.fin r2.fin hne (lt_top hb (by decide))) (by decide) hb
def outF (y : Nat) (e : Int) : Nat := fadd .f64 (fmul .f64 two64 (fmul .f64 (sF y) (qF (fmul .f64 (sF y) (sF y)) 13))) (fmul .f64 (eF e) lnC)
theorem bd_out {y : Nat} (M : Mid75 y) {e : Int} (he : e.natAbs ≤ 64) : Bd (outF y e) (p2 7) := by
  have s := bd_s M
  have u := bd_mul s s (by decide) (by decide)
  have q := bd_q u 13 (Nat.le_refl _)
  have sq := bd_mul s q (by decide) (by decide)
  have t : Bd two64 (p2 1) := ⟨fin_two, by rw [two_val, ab_of (by decide)]; exact Rat.le_refl⟩
  have tsq := bd_mul t sq (by decide) (by decide)
  have ee : Bd (eF e) (p2 6) := by
    refine ⟨(eF_rn (by omega)).fin, ?_⟩
    rw [eF_val (by omega)]
    have h1 := int_cast_le (show e ≤ 64 by omega)
    have h2 := int_cast_le (show -64 ≤ e by omega)
    have e1 : (((64 : Int)) : Rat) = 64 := rfl
    have e2 : (((-64 : Int)) : Rat) = -64 := rfl
    have e6 : p2 6 = 64 := p2_nat 6
    rw [e1] at h1
    rw [e2] at h2
    rw [e6]
    exact ab_le h1 h2
  have ln : Bd lnC (p2 0) := ⟨fin_ln, ln_val⟩
  have el := bd_mul ee ln (by decide) (by decide)
  exact bd_add tsq el (by decide) (by decide) (by decide) (by decide)
def logF (y : Nat) : Nat := outF (dblF 60 (hlvF 60 y 0).1 (hlvF 60 y 0).2).1 (dblF 60 (hlvF 60 y 0).1 (hlvF 60 y 0).2).2

theorem eF_up : ∀ i : Nat, i < 41 → fadd .f64 (eF (i : Int)) one64 = eF ((i : Int) + 1) := by decide +kernel
theorem eF_dn : ∀ i : Nat, i < 82 → fsub .f64 (eF ((i : Int) - 40)) one64 = eF ((i : Int) - 40 - 1) := by decide +kernel
theorem eF_k : ∀ r : Nat, r < 14 → fge .f64 (eF (25 - 2 * (r : Int))) one64 = decide (r < 13) ∧ fsub .f64 (eF (25 - 2 * (r : Int))) two64 = eF (25 - 2 * ((r : Int) + 1)) := by decide +kernel
end Go.Proofs.Ythildgdbgjgidaa
