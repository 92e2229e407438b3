/- The law FnExactValidSaved, whatever it is given. -/
import Derived.Test.YtcecldjnjmoikaaSavE
import Derived.Test.YtcecldjnjmoikaaSavH
set_option linter.unusedVariables false
namespace Go.Proofs.Ytcecldjnjmoikaa
open Go Go.Abs
theorem validSavedLaw (l0 : List AV) (of0 : OfT Try.prog 8 25 l0) : CallA Try.prog 3 [.agg l0] [] (Ret (.bool true) []) := by
  obtain ⟨s, e, L⟩ := ofT_saved of0
  rw [e]
  exact exactValidSaved_list s L
end Go.Proofs.Ytcecldjnjmoikaa
