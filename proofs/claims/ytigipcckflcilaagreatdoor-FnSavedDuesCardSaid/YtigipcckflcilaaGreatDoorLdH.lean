/- The law on LoadSaved. -/
import Derived.Test.YtigipcckflcilaaGreatDoorLdG
set_option maxRecDepth 10000
set_option maxHeartbeats 8000000
set_option linter.unusedSimpArgs false
set_option linter.unusedVariables false
namespace Go.Proofs.YtigipcckflcilaaGreatDoor
open Go Go.Abs

theorem HasR.more {M : List Blk} {b : Nat} {R : List Rul} {x : Sav} {T : List Blk} (h : HasR M b R) : HasR (memS M T x) b R := ⟨memS_head M T x h.blk, fun i r hr => memS_head M T x (h.ifs i r hr)⟩
end Go.Proofs.YtigipcckflcilaaGreatDoor
