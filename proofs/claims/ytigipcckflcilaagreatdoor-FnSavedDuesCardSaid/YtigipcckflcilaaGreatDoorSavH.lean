/- What laws are given: rules, what is saved. -/
import Derived.Test.YtigipcckflcilaaGreatDoorSavA
set_option maxRecDepth 10000
set_option linter.unusedSimpArgs false
set_option linter.unusedVariables false
namespace Go.Proofs.YtigipcckflcilaaGreatDoor
open Go Go.Abs

end Go.Proofs.YtigipcckflcilaaGreatDoor
