/- Helpers of the laws on what is saved: copies, equality, sizes. -/
import Derived.Test.YtigipcckflcilaaGreatDoorBase
import Derived.Test.YtigipcckflcilaaGreatDoorAbsM3
set_option maxRecDepth 10000
set_option maxHeartbeats 2000000
set_option linter.unusedSimpArgs false
set_option linter.unusedVariables false
namespace Go.Proofs.YtigipcckflcilaaGreatDoor
open Go Go.Abs

abbrev Rul := Int × List Int × Int × Int × Int
abbrev Sav := List UInt8 × List Rul × List Int
def rulA (r : Rul) : AV := .agg [.int .i64 r.1, .ro (ints r.2.1), .int .i64 r.2.2.1, .int .i64 r.2.2.2.1, .int .i64 r.2.2.2.2]
theorem rul_view (d : Nat) (hp : List Blk) (r : Rul) : view (d + 1) hp (rulA r) = rulA r := by simp [rulA, view_agg, view_int, view_ro]
structure SavL (s : Sav) : Prop where
  n : s.1.length ≤ 9223372036854775807
  r : s.2.1.length ≤ 9223372036854775807
  f : ∀ r ∈ s.2.1, r.2.1.length ≤ 9223372036854775807
  i : s.2.2.length ≤ 9223372036854775807
end Go.Proofs.YtigipcckflcilaaGreatDoor
