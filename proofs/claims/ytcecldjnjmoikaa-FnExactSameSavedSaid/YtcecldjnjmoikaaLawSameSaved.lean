/- The law FnExactSameSaved, whatever it is given. -/
import Derived.Test.YtcecldjnjmoikaaSavG
import Derived.Test.YtcecldjnjmoikaaSavH
set_option linter.unusedVariables false
namespace Go.Proofs.Ytcecldjnjmoikaa
open Go Go.Abs
theorem sameSavedLaw (l0 l1 : AV) (of0 : OfT Try.prog 8 34 [l0]) (of1 : OfT Try.prog 8 34 [l1]) : CallA Try.prog 4 [l0, l1] [] (Ret (.bool true) []) := by
  obtain ⟨A, rfl, hA, lA⟩ := ofT_saveds of0
  obtain ⟨B, rfl, hB, lB⟩ := ofT_saveds of1
  exact exactSameSaved_lists A B hA hB lA lB
end Go.Proofs.Ytcecldjnjmoikaa
