/- Means of logarithms: a table. -/
import Derived.Test.YthildgdbgjgidaaFrT
set_option maxRecDepth 100000
set_option maxHeartbeats 4000000
set_option linter.unusedSimpArgs false
set_option linter.unusedVariables false
namespace Go.Proofs.Ythildgdbgjgidaa
open Go Go.Abs

theorem cdT_ok : (List.range 200).all (fun x => (List.range 12).all fun n => (cdT.getD x []).contains (fdiv .f32 (sumR (lgT.getD x 0) (n + 1)) (Go.Abs.iF ((n + 1 : Nat) : Int)))) = true := by decide +kernel
end Go.Proofs.Ythildgdbgjgidaa
