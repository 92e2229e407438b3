/- Names, and what is saved (cut out of SavE). -/
import Derived.Test.YtigipcckflcilaaGreatDoorSavD
set_option maxRecDepth 10000
set_option maxHeartbeats 4000000
set_option linter.unusedSimpArgs false
set_option linter.unusedVariables false
namespace Go.Proofs.YtigipcckflcilaaGreatDoor
open Go Go.Abs

end Go.Proofs.YtigipcckflcilaaGreatDoor
