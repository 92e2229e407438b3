/- Lists of complex numbers as texts, and read back.  -/
import Derived.Test.YtkjabkgmkkcpdaaGreatDoorNmL
set_option maxRecDepth 10000
set_option maxHeartbeats 4000000
set_option linter.unusedSimpArgs false
set_option linter.unusedVariables false
namespace Go.Proofs.YtkjabkgmkkcpdaaGreatDoor
open Go Go.Abs
end Go.Proofs.YtkjabkgmkkcpdaaGreatDoor
