/- The angle of a point: the program. -/
import Derived.Test.YtkjabkgmkkcpdaaGreatDoorNnB
set_option maxRecDepth 10000
set_option maxHeartbeats 4000000
set_option linter.unusedSimpArgs false
set_option linter.unusedVariables false
namespace Go.Proofs.YtkjabkgmkkcpdaaGreatDoor
open Go Go.Abs
def aF (y : Nat) : Nat := wid y % 9223372036854775808
theorem abs_val {x : Nat} (h : finB .f64 x = true) : finB .f64 (x % 9223372036854775808) = true ∧ fval .f64 (x % 9223372036854775808) = ab (fval .f64 x) := by
  obtain ⟨s, m, e, hd⟩ := fin_num h
  have hd2 := decode_abs x
  rw [hd] at hd2
  have hd3 : FloatKind.f64.decode (x % 9223372036854775808) = .number false m e := hd2
  refine ⟨num_fin hd3, ?_⟩
  rw [fval_of hd3, fval_of hd, ab_sg _ (mag_nonneg m e)]
  show 1 * _ = _
  grind
theorem aF_val {y : Nat} (h : finB .f32 y = true) : finB .f64 (aF y) = true ∧ fval .f64 (aF y) = ab (fval .f32 y) := by
  have w := wide_rn h
  have a := abs_val w.1.fin
  rw [w.2] at a
  exact a
def t0F (y x : Nat) : Nat := if fgt .f64 (aF y) (aF x) = true then fdiv .f64 (aF x) (aF y) else fdiv .f64 (aF y) (aF x)
theorem quo_u1 {a b : Nat} (ha : finB .f64 a = true) (hb : finB .f64 b = true) (h0 : 0 ≤ fval .f64 a) (h1 : fval .f64 a ≤ fval .f64 b) (hp : 0 < fval .f64 b) : U1 (fdiv .f64 a b) := by
  have c0 : 0 ≤ fval .f64 a / fval .f64 b := by
    rw [Rat.div_def]
    exact Rat.mul_nonneg h0 (Rat.le_of_lt (Rat.inv_pos.2 hp))
  have c1 : fval .f64 a / fval .f64 b ≤ 1 := by
    have e : (fval .f64 a / fval .f64 b) * fval .f64 b = fval .f64 a := by rw [Rat.div_mul_cancel (by grind)]
    apply Classical.byContradiction
    intro hn
    have h2 : 1 ≤ fval .f64 a / fval .f64 b := by grind
    have h3 : 0 < (fval .f64 a / fval .f64 b - 1) * fval .f64 b := Rat.mul_pos (by grind) hp
    grind
  have z := rn_div ha hb (by grind) (by rw [ab_of c0]; exact rat_top (t := 0) c1 (by decide))
  exact ⟨z.fin, z.lo 0 rep0 c0, z.up 1 rep1 c1⟩
theorem t0_u1 {y x : Nat} (hy : finB .f32 y = true) (hx : finB .f32 x = true) (h : (feq .f32 x (canon .f32 0) && feq .f32 y (canon .f32 0)) = false) : U1 (t0F y x) := by
  obtain ⟨a1, a2⟩ := aF_val hy
  obtain ⟨b1, b2⟩ := aF_val hx
  have an := ab_nonneg (fval .f32 y)
  have bn := ab_nonneg (fval .f32 x)
  have z0 : Ex .f32 0 (canon .f32 0) := ex_iF (z := 0) (by decide)
  have zv : fval .f32 (canon .f32 0) = 0 := z0.val
  unfold t0F
  rw [fgt_val a1 b1]
  by_cases c : fval .f64 (aF x) < fval .f64 (aF y)
  · rw [if_pos (decide_eq_true c)]
    exact quo_u1 b1 a1 (by rw [b2]; exact bn) (Rat.le_of_lt c) (by rw [b2] at c; grind)
  · rw [if_neg (by rw [decide_eq_true_eq]; exact c)]
    refine quo_u1 a1 b1 (by rw [a2]; exact an) (by grind) ?_
    apply Classical.byContradiction
    intro hn
    have e1 : ab (fval .f32 x) = 0 := by rw [b2] at hn; grind
    have e2 : ab (fval .f32 y) = 0 := by rw [a2, b2] at c; grind
    have f1 : fval .f32 x = 0 := by have := le_ab (fval .f32 x); grind
    have f2 : fval .f32 y = 0 := by have := le_ab (fval .f32 y); grind
    rw [feq_val hx z0.fin, feq_val hy z0.fin, zv, f1, f2] at h
    exact absurd h (by decide)
def tF (t : Nat) : Nat → Nat
  | 0 => t
  | j + 1 => halfF (tF t j)
theorem tF_u1 {t : Nat} (h : U1 t) : ∀ j, U1 (tF t j)
  | 0 => h
  | j + 1 => half_u1 (tF_u1 h j)
def kF : Nat → Nat
  | 0 => canon .f64 4624633867356078080
  | j + 1 => fsub .f64 (kF j) (canon .f64 4611686018427387904)
theorem lit_f64 (n : Nat) (hn : n ≤ 1048576) : Ex .f64 n (i64W n) := by
  rw [← wide_int hn]
  exact ex_wide (ex_iF (by omega))
theorem kF_ex : ∀ j : Nat, j ≤ 8 → Ex .f64 (15 - 2 * (j : Int)) (kF j)
  | 0, _ => by
    have := lit_f64 15 (by decide)
    rw [show i64W 15 = kF 0 by decide +kernel] at this
    exact this
  | j + 1, h => by
    have two := lit_f64 2 (by decide)
    rw [show i64W 2 = canon .f64 4611686018427387904 by decide +kernel] at two
    have f53 : (2 : Nat) ^ (fb .f64 + 1) = 9007199254740992 := by decide
    have := ex_sub (kF_ex j (by omega)) two (by rw [f53]; omega)
    rw [show (15 : Int) - 2 * ((j : Nat) : Int) - ((2 : Nat) : Int) = 15 - 2 * ((j + 1 : Nat) : Int) by omega] at this
    exact this
theorem kF_ge {j : Nat} (h : j ≤ 8) : fge .f64 (kF j) one64 = decide (j < 8) := by
  have k := kF_ex j h
  rw [fge_val k.fin one64_ex.fin, k.val, one64_ex.val]
  refine decide_eq_decide.2 ⟨fun hh => ?_, fun hh => int_cast_le (by omega)⟩
  have : (1 : Int) ≤ 15 - 2 * (j : Int) := by exact_mod_cast hh
  omega
def pF (u : Nat) : Nat → Nat
  | 0 => canon .f64 0
  | j + 1 => fsub .f64 (fdiv .f64 one64 (kF j)) (fmul .f64 u (pF u j))
theorem bd_u1 {t : Nat} (h : U1 t) : Bd 1 t := ⟨h.1, by rw [ab_of h.2.1]; exact h.2.2⟩
theorem pF_bd {u : Nat} (h : U1 u) : ∀ j : Nat, j ≤ 8 → Bd j (pF u j)
  | 0, _ => ⟨by show finB .f64 (canon .f64 0) = true; decide +kernel, by rw [show fval .f64 (pF u 0) = 0 from fval_zero .f64]; decide⟩
  | j + 1, hj => by
    have k := kF_ex j (by omega)
    have k1 : 1 ≤ fval .f64 (kF j) := by
      rw [k.val]
      exact int_cast_le (show (1 : Int) ≤ 15 - 2 * (j : Int) by omega)
    have a := bd_div (bd_u1 ⟨one64_ex.fin, by rw [one64_ex.val]; decide, by rw [one64_ex.val]; decide⟩) k.fin k1 (by decide)
    have b := bd_mul (bd_u1 h) (pF_bd h j (by omega)) (by omega)
    have c := bd_sub a b (by omega)
    exact bd_le c (by omega)
def g0F (t : Nat) : Nat := fdiv .f64 (fmul .f64 (canon .f64 4620693217682128896) (fmul .f64 t (pF (fmul .f64 t t) 8))) (canon .f64 4618760256179416344)
theorem g0_bd {t : Nat} (h : U1 t) : Bd 64 (g0F t) := by
  have e8 := lit_f64 8 (by decide)
  rw [show i64W 8 = canon .f64 4620693217682128896 by decide +kernel] at e8
  have b8 : Bd 8 (canon .f64 4620693217682128896) := ⟨e8.fin, by rw [e8.val]; decide⟩
  have b := bd_mul (bd_u1 h) (pF_bd (u1_sq h) 8 (by decide)) (by decide)
  have c := bd_mul b8 b (by decide)
  have tf : finB .f64 (canon .f64 4618760256179416344) = true := by decide +kernel
  have tg : fge .f64 (canon .f64 4618760256179416344) one64 = true := by decide +kernel
  rw [fge_val tf one64_ex.fin, one64_ex.val] at tg
  exact bd_div c tf (of_decide_eq_true tg) (by decide)
def g1F (c : Bool) (t : Nat) : Nat := if c then fsub .f64 (canon .f64 4598175219545276416) (g0F t) else g0F t
def g2F (c d : Bool) (t : Nat) : Nat := if d then fsub .f64 (canon .f64 4602678819172646912) (g1F c t) else g1F c t
def g3F (c d e : Bool) (t : Nat) : Nat := if e then fneg .f64 (g2F c d t) else g2F c d t
theorem lit_bd {x : Nat} (hf : finB .f64 x = true) (h1 : fle .f64 x one64 = true) (h2 : fge .f64 x (canon .f64 0) = true) : Bd 1 x := by
  have z : finB .f64 (canon .f64 0) = true := by decide +kernel
  rw [fle_val hf one64_ex.fin, one64_ex.val] at h1
  rw [fge_val hf z, show fval .f64 (canon .f64 0) = 0 from fval_zero .f64] at h2
  exact bd_u1 ⟨hf, of_decide_eq_true h2, of_decide_eq_true h1⟩
theorem g3_bd (c d e : Bool) {t : Nat} (h : U1 t) : Bd 66 (g3F c d e t) := by
  have q1 := lit_bd (x := canon .f64 4598175219545276416) (by decide +kernel) (by decide +kernel) (by decide +kernel)
  have q2 := lit_bd (x := canon .f64 4602678819172646912) (by decide +kernel) (by decide +kernel) (by decide +kernel)
  have a0 := g0_bd h
  have a1 : Bd 65 (g1F c t) := by
    unfold g1F
    cases c
    · exact bd_le a0 (by decide)
    · exact bd_sub q1 a0 (by decide)
  have a2 : Bd 66 (g2F c d t) := by
    unfold g2F
    cases d
    · exact bd_le a1 (by decide)
    · exact bd_sub q2 a1 (by decide)
  unfold g3F
  cases e
  · exact a2
  · exact bd_neg a2
end Go.Proofs.YtkjabkgmkkcpdaaGreatDoor
