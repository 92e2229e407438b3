/- Marks in rules that lie in memory. -/
import Derived.Test.YtigipcckflcilaaGreatDoorLdE
set_option maxRecDepth 10000
set_option maxHeartbeats 4000000
set_option linter.unusedSimpArgs false
set_option linter.unusedVariables false
namespace Go.Proofs.YtigipcckflcilaaGreatDoor
open Go Go.Abs

end Go.Proofs.YtigipcckflcilaaGreatDoor
