/- Texts of rules that are read: the reference's digits and skips. Printed by gen_rsb.py. -/
import Derived.Test.YtigipcckflcilaaGreatDoorRsA
import Derived.Test.YtigipcckflcilaaGreatDoorRdV
set_option maxRecDepth 10000
set_option maxHeartbeats 4000000
set_option linter.unusedSimpArgs false
set_option linter.unusedVariables false
namespace Go.Proofs.YtigipcckflcilaaGreatDoor
open Go Go.Abs

end Go.Proofs.YtigipcckflcilaaGreatDoor
