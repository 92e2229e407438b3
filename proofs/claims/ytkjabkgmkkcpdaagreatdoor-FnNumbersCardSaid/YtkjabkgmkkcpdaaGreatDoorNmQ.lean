/- Floats that are small integers; square roots: plain. -/
import Derived.Test.YtkjabkgmkkcpdaaGreatDoorNmP
import Derived.Test.YtkjabkgmkkcpdaaGreatDoorAbsM5
set_option maxRecDepth 10000
set_option maxHeartbeats 4000000
set_option linter.unusedSimpArgs false
set_option linter.unusedVariables false
namespace Go.Proofs.YtkjabkgmkkcpdaaGreatDoor
open Go Go.Abs
structure Ex (k : FloatKind) (z : Int) (x : Nat) : Prop where
  fin : finB k x = true
  val : fval k x = (z : Rat)
theorem ab_int {z : Int} {N : Nat} (h : z.natAbs ≤ N) : ab (z : Rat) ≤ (N : Rat) := by
  have h1 := int_cast_le (show z ≤ (N : Int) by omega)
  have h2 := int_cast_le (show -(N : Int) ≤ z by omega)
  rw [Rat.intCast_natCast] at h1
  rw [Rat.intCast_neg, Rat.intCast_natCast] at h2
  exact ab_le h1 h2
theorem fb_le (k : FloatKind) : 2 ^ (fb k + 1) ≤ 2 ^ 53 := by cases k <;> decide
theorem int_small {k : FloatKind} {z : Int} (h : z.natAbs < 2 ^ (fb k + 1)) : ab (z : Rat) < p2 (top k) := by
  have h1 := ab_int (Nat.le_of_lt (Nat.lt_of_lt_of_le h (fb_le k)))
  have h2 : p2 53 = ((2 ^ 53 : Nat) : Rat) := p2_nat 53
  have h3 : p2 54 = p2 53 * 2 := p2_add 53 1
  have h4 := p2_pos 53
  have h5 : p2 54 ≤ p2 (top k) := p2_mono (by cases k <;> decide)
  grind
theorem ex_of {k : FloatKind} {z : Int} {x : Nat} (h : Rn k (z : Rat) x) (hz : z.natAbs < 2 ^ (fb k + 1)) : Ex k z x := ⟨h.fin, h.same (rep_int k hz)⟩
theorem ex_sub {k : FloatKind} {z w : Int} {x y : Nat} (hx : Ex k z x) (hy : Ex k w y) (h : (z - w).natAbs < 2 ^ (fb k + 1)) : Ex k (z - w) (fsub k x y) := by
  have e : fval k x - fval k y = ((z - w : Int) : Rat) := by rw [hx.val, hy.val, Rat.intCast_sub]
  have r := rn_sub hx.fin hy.fin (by rw [e]; exact int_small h)
  rw [e] at r
  exact ex_of r h
theorem ex_iF {z : Int} (h : z.natAbs ≤ 1048576) : Ex .f32 z (iF z) := ⟨(iF_rn h).fin, iF_val h⟩
theorem ex_wide {z : Int} {x : Nat} (h : Ex .f32 z x) : Ex .f64 z (fconv .f64 .f32 x) := ⟨(wide_rn h.fin).1.fin, by rw [(wide_rn h.fin).2, h.val]⟩
theorem near_of_val (k : FloatKind) (s : Bool) {m n : Nat} {e : Int} (h : (m : Rat) * p2 e = (n : Rat)) : k.format.nearest s m e = k.format.nearest s n 0 := by
  by_cases c : 0 ≤ e
  · obtain ⟨a, rfl⟩ := Int.eq_ofNat_of_zero_le c
    have h2 : m * 2 ^ a = n := by
      rw [p2_nat, ← Rat.natCast_mul] at h
      exact_mod_cast h
    have := nearest_scale k.format s m a a
    rw [← this, h2]
    congr 1
    omega
  · obtain ⟨a, ha⟩ := Int.eq_ofNat_of_zero_le (show 0 ≤ -e by omega)
    have he : e = -(a : Int) := by omega
    subst he
    have h2 : m = n * 2 ^ a := by
      have h3 : (m : Rat) = (n : Rat) * p2 (a : Int) := by
        rw [← h, Rat.mul_assoc, ← p2_add, show -(a : Int) + (a : Int) = 0 by omega, p2_zero, Rat.mul_one]
      rw [p2_nat, ← Rat.natCast_mul] at h3
      exact_mod_cast h3
    have := nearest_scale k.format s n a 0
    rw [← this, ← h2]
    congr 1
    omega
def i64W (n : Nat) : Nat := canon .f64 (FloatKind.f64.format.nearest false n 0)
theorem pos_num {k : FloatKind} {x : Nat} {n : Nat} (hx : Ex k n x) (hn : 0 < n) : ∃ m e, k.decode x = .number false m e ∧ (m : Rat) * p2 e = (n : Rat) := by
  obtain ⟨s, m, e, hd⟩ := fin_num hx.fin
  have hv := hx.val
  rw [fval_of hd] at hv
  have np : (0 : Rat) < (n : Rat) := by exact_mod_cast hn
  have mn := mag_nonneg m e
  have hv' : sg s * ((m : Rat) * p2 e) = (n : Rat) := by rw [hv]; rfl
  cases s with
  | false => exact ⟨m, e, hd, by rw [← hv']; show _ = 1 * _; grind⟩
  | true =>
    exfalso
    have : sg true * ((m : Rat) * p2 e) = -((m : Rat) * p2 e) := by show -1 * _ = _; grind
    rw [this] at hv'
    grind
theorem wide_int {n : Nat} (h : n ≤ 1048576) : fconv .f64 .f32 (iF n) = i64W n := by
  by_cases c : n = 0
  · subst c
    decide +kernel
  · obtain ⟨m, e, hd, hv⟩ := pos_num (n := n) (ex_iF (z := n) (by omega)) (by omega)
    have hd' : FloatKind.f32.decode (iF n) = .number false m e := hd
    unfold fconv
    rw [if_neg (by decide), hd']
    show canon .f64 (FloatKind.f64.format.nearest false m e) = _
    rw [near_of_val .f64 false hv]
    rfl
end Go.Proofs.YtkjabkgmkkcpdaaGreatDoor
