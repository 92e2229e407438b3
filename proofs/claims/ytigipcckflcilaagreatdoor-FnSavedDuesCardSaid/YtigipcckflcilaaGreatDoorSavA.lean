/- Helpers of the laws on what is saved: copies, equality, sizes. -/
import Derived.Test.YtigipcckflcilaaGreatDoorBase
import Derived.Test.YtigipcckflcilaaGreatDoorAbsM3
set_option maxRecDepth 10000
set_option maxHeartbeats 2000000
set_option linter.unusedSimpArgs false
set_option linter.unusedVariables false
namespace Go.Proofs.YtigipcckflcilaaGreatDoor
open Go Go.Abs

abbrev Rul := Int × List Int × Int × Int × Int
abbrev Sav := List UInt8 × List Rul × List Int
def rulA (r : Rul) : AV := .agg [.int .i64 r.1, .ro (ints r.2.1), .int .i64 r.2.2.1, .int .i64 r.2.2.2.1, .int .i64 r.2.2.2.2]
def savA (s : Sav) : AV := .agg [.str s.1, .ro (s.2.1.map rulA), .ro (ints s.2.2)]
theorem sav_below (N : Nat) (s : Sav) : below N (savA s) = true := by simp [savA, below, belowM, belowL]
theorem rul_view (d : Nat) (hp : List Blk) (r : Rul) : view (d + 1) hp (rulA r) = rulA r := by simp [rulA, view_agg, view_int, view_ro]
theorem sav_view (d : Nat) (hp : List Blk) (s : Sav) : view (d + 1) hp (savA s) = savA s := by simp [savA, view_agg, view_str, view_ro]

def sumL : List Rul → Nat
  | [] => 0
  | r :: l => r.2.1.length + sumL l
theorem sumL_mem {R : List Rul} : ∀ {r : Rul}, r ∈ R → r.2.1.length ≤ sumL R := by
  induction R with
  | nil => intro r h; simp at h
  | cons a l ih =>
    intro r h
    simp only [sumL]
    rcases List.mem_cons.1 h with h | h
    · subst h; omega
    · have := ih h; omega
def sizR (R : List Rul) : Nat := R.length + sumL R
def sizS (s : Sav) : Nat := s.1.length + sizR s.2.1 + s.2.2.length
structure SavL (s : Sav) : Prop where
  n : s.1.length ≤ 9223372036854775807
  r : s.2.1.length ≤ 9223372036854775807
  f : ∀ r ∈ s.2.1, r.2.1.length ≤ 9223372036854775807
  i : s.2.2.length ≤ 9223372036854775807
end Go.Proofs.YtigipcckflcilaaGreatDoor
