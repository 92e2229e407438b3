/- Copies and equality of rules and of what is saved. -/
import Derived.Test.YtigipcckflcilaaGreatDoorSavA
set_option maxRecDepth 10000
set_option maxHeartbeats 2000000
set_option linter.unusedSimpArgs false
set_option linter.unusedVariables false
namespace Go.Proofs.YtigipcckflcilaaGreatDoor
open Go Go.Abs

def rul0 : AV := .agg [.int .i64 0, .nils, .int .i64 0, .int .i64 0, .int .i64 0]
def sav0 : AV := .agg [.str [], .nils, .nils]
def rulB (L : List AV) : Blk := { ty := 48, w := 5, els := L }
def savB (L : List AV) : Blk := { ty := 32, w := 3, els := L }
end Go.Proofs.YtigipcckflcilaaGreatDoor
