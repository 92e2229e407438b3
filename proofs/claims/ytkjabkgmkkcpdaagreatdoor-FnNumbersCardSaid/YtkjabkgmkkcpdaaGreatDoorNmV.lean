/- The law of products. -/
import Derived.Test.YtkjabkgmkkcpdaaGreatDoorNmU
set_option maxRecDepth 10000
set_option maxHeartbeats 8000000
set_option linter.unusedSimpArgs false
set_option linter.unusedVariables false
namespace Go.Proofs.YtkjabkgmkkcpdaaGreatDoor
open Go Go.Abs
theorem i64_in {z : Int} (h : -200 ≤ z ∧ z ≤ 200) : IntKind.i64.min ≤ z ∧ z ≤ IntKind.i64.max := by
  have e1 : IntKind.i64.min = -9223372036854775808 := by decide
  have e2 : IntKind.i64.max = 9223372036854775807 := by decide
  rw [e1, e2]
  omega
end Go.Proofs.YtkjabkgmkkcpdaaGreatDoor
