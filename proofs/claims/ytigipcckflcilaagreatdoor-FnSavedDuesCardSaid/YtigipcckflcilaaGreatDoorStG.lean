/- Numbers and texts of rules by the reference. -/
import Derived.Test.YtigipcckflcilaaGreatDoorStF
set_option maxRecDepth 10000
set_option maxHeartbeats 4000000
set_option linter.unusedSimpArgs false
set_option linter.unusedVariables false
namespace Go.Proofs.YtigipcckflcilaaGreatDoor
open Go Go.Abs

def okJ (x : Int) : Prop := -9223372036854775807 ≤ x ∧ x ≤ 9223372036854775807
theorem okJ.i {x : Int} (h : okJ x) : okI x := ⟨by unfold okJ at h; omega, h.2⟩
theorem digits_step {n : Nat} (h : ¬ n < 10) : Lib.decDigits n = Lib.decDigits (n / 10) ++ [UInt8.ofNat (48 + n % 10)] := by
  conv => lhs; unfold Lib.decDigits
  rw [dif_neg h]
theorem digits_one {n : Nat} (h : n < 10) : Lib.decDigits n = [UInt8.ofNat (48 + n)] := by
  conv => lhs; unfold Lib.decDigits
  rw [dif_pos h]
def bytB (l : List UInt8) : Blk := { ty := 5, w := 1, els := byts l }
def ifsT (xs : List Int) : List UInt8 := if xs = [] then [] else txt [32, 38, 32] xs ++ [32]
def ruleT (r : Rul) : List UInt8 := Lib.itoa r.2.2.1 ++ [45] ++ Lib.itoa r.2.2.2.1 ++ [32, 114] ++ Lib.itoa r.2.2.2.2 ++ [58, 32] ++ ifsT r.2.1 ++ [61, 62, 32] ++ Lib.itoa r.1
structure OkR (r : Rul) : Prop where
  h : okJ r.1
  n : r.2.1.length ≤ 6
  i : ∀ x ∈ r.2.1, okJ x
  a : okJ r.2.2.1
  b : okJ r.2.2.2.1
  c : okJ r.2.2.2.2
end Go.Proofs.YtigipcckflcilaaGreatDoor
