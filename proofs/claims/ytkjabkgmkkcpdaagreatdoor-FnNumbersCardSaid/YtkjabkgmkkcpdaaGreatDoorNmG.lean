/- The place of the one bit of 16: the library's table. -/
import Derived.Test.YtkjabkgmkkcpdaaGreatDoorNmA
import Derived.WalkKit
import Derived.Laws.Externs
set_option maxRecDepth 100000
set_option maxHeartbeats 8000000
set_option linter.unusedVariables false
namespace Go.Proofs.YtkjabkgmkkcpdaaGreatDoor
open Go Go.RowKit
theorem tz_core (idx k : Nat) (w : World) (key : IntKind.u64.wrap (bits BinOp.and IntKind.u64 16 (IntKind.u64.wrap (-16)) * 285870213051353865) / 288230376151711744 = (idx : Int)) (hi : idx < 64) (hk : k < 64) (hcell : w.cell? ⟨6, idx, none⟩ = some (.int .u8 k)) :
    Calls Tryz.prog 130 #[.int .u64 16] w fun e w' => e = .returned (.int .i64 k) ∧ w' = w := by
  have u159 := run_underlying Tryz.underlying159
  have u5 := run_underlying Tryz.underlying5
  have u3 := run_underlying Tryz.underlying3
  have u87 := run_underlying Tryz.underlying87
  have u103 := run_underlying Tryz.underlying103
  have mixed : Tryz.prog.follows .mixedOrders = true := by kernel_rfl
  go_enter Tryz.func130, Tryz.ntmps130
  go_wp2_with (simp only [key])
  go_ret
  exact ⟨rfl, rfl⟩
end Go.Proofs.YtkjabkgmkkcpdaaGreatDoor
