/- What is saved, as bytes that are read: the reference's reading. -/
import Derived.Test.YtigipcckflcilaaGreatDoorLdA
import Derived.Test.YtigipcckflcilaaGreatDoorAbsM3
set_option maxRecDepth 10000
set_option maxHeartbeats 4000000
set_option linter.unusedSimpArgs false
set_option linter.unusedVariables false
namespace Go.Proofs.YtigipcckflcilaaGreatDoor
open Go Go.Abs

theorem nilD_zero (l : List AV) : l.map (nilD 0) = l := by
  have : ∀ a ∈ l, nilD 0 a = id a := fun _ _ => rfl
  rw [List.map_congr_left this, List.map_id]
theorem validB_pos {x : Sav} (h : validB x = true) : 1 ≤ x.2.2.length := by
  unfold validB incB at h
  simp only [Bool.and_eq_true, decide_eq_true_eq] at h
  exact h.2.1.1
end Go.Proofs.YtigipcckflcilaaGreatDoor
