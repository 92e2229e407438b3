/- Texts of rules that are read: the reference's reading of one. -/
import Derived.Test.YtigipcckflcilaaGreatDoorRsB
import Derived.Test.YtigipcckflcilaaGreatDoorRrB
import Derived.Test.YtigipcckflcilaaGreatDoorAbsM3
set_option maxRecDepth 10000
set_option maxHeartbeats 4000000
set_option linter.unusedSimpArgs false
set_option linter.unusedVariables false
namespace Go.Proofs.YtigipcckflcilaaGreatDoor
open Go Go.Abs

end Go.Proofs.YtigipcckflcilaaGreatDoor
