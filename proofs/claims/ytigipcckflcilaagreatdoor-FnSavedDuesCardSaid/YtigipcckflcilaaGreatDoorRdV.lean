/- Numerals that are read: the reference. -/
import Derived.Test.YtigipcckflcilaaGreatDoorRdP
set_option maxRecDepth 10000
set_option maxHeartbeats 4000000
set_option linter.unusedSimpArgs false
set_option linter.unusedVariables false
namespace Go.Proofs.YtigipcckflcilaaGreatDoor
open Go Go.Abs

def decS (m : Nat) (out : List UInt8) : List UInt8 := if out = [] ∨ m ≠ 0 then Lib.decDigits m ++ out else out

theorem decS_step (m : Nat) (out : List UInt8) (h : out = [] ∨ m ≠ 0) : decS (m / 10) (UInt8.ofNat (48 + m % 10) :: out) = decS m out := by
  unfold decS
  rw [if_pos h]
  by_cases e : m < 10
  · rw [Nat.div_eq_of_lt e, if_neg (by simp), Nat.mod_eq_of_lt e]
    conv => rhs; unfold Lib.decDigits
    rw [dif_pos e]
    rfl
  · rw [if_pos (.inr (by omega))]
    conv => rhs; unfold Lib.decDigits
    rw [dif_neg e, List.append_assoc]
    rfl

theorem rest_abs (n : Int) : (n.tdiv 10).natAbs = n.natAbs / 10 := by rw [Int.natAbs_tdiv]; rfl

theorem pow_len {k : Nat} (h : 10 ^ k ≤ 9223372036854775808) : k ≤ 18 := by
  rcases Nat.lt_or_ge 18 k with h1 | h1
  · have := Nat.pow_le_pow_right (show 0 < 10 by omega) h1
    have e : 10 ^ 19 = 10000000000000000000 := by decide
    simp only [Nat.succ_eq_add_one] at this
    omega
  · exact h1

def DecI (n : Int) (p : List UInt8 × Int) : Prop := decS p.2.natAbs p.1 = Lib.decDigits n.natAbs ∧ p.2.natAbs * 10 ^ p.1.length ≤ 9223372036854775808 ∧ p.1.length ≤ 20 ∧ -9223372036854775808 ≤ p.2 ∧ p.2 ≤ 9223372036854775807

theorem DecI.next {n r : Int} {out : List UInt8} (h : DecI n (out, r)) (hc : out = [] ∨ r ≠ 0) : DecI n (UInt8.ofNat (48 + r.natAbs % 10) :: out, r.tdiv 10) := by
  obtain ⟨hd, hp, hl, h0, h1⟩ := h
  dsimp only at hd hp hl h0 h1
  have ra := rest_abs r
  have hl' : out.length ≤ 18 := by
    rcases hc with rfl | hz
    · simp
    · have : 1 ≤ r.natAbs := by omega
      exact pow_len (Nat.le_trans (by simpa using Nat.mul_le_mul_right (10 ^ out.length) this) hp)
  refine ⟨?_, ?_, ?_, ?_, ?_⟩
  · dsimp only
    rw [ra]
    exact (decS_step _ _ (hc.imp id Int.natAbs_ne_zero.2)).trans hd
  · dsimp only
    rw [ra, List.length_cons, Nat.pow_succ, Nat.mul_comm (10 ^ out.length) 10, ← Nat.mul_assoc]
    exact Nat.le_trans (Nat.mul_le_mul_right _ (Nat.div_mul_le_self _ _)) hp
  · dsimp only
    rw [List.length_cons]; omega
  · dsimp only
    omega
  · dsimp only
    omega



def decA (o : Option Int) : AV := match o with
  | some n => .tup [.int .i64 n, .bool true]
  | none => .tup [.int .i64 0, .bool false]
end Go.Proofs.YtigipcckflcilaaGreatDoor
