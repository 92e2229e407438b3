/- Closed facts of the program, for the abstract layer: types and functions. Printed by gen_base.py. -/
import Derived.Test.YtjlckingkpegpaaDoorProg
import Derived.Test.YtjlckingkpegpaaDoorAbsY
set_option linter.unusedVariables false
set_option linter.defProp false
namespace Go.Proofs.YtjlckingkpegpaaDoor
open Go Go.Abs

theorem mixed : Tryd.prog.follows .mixedOrders = true := by kernel_rfl
theorem cells2 : Tryd.prog.cellsOf 2 = 1 := by kernel_rfl
theorem bytes2 : Tryd.prog.bytesOf 2 = 8 := by kernel_rfl
theorem zero2 : zeroOf Tryd.prog 2 = .int .i64 0 := by kernel_rfl
theorem cells3 : Tryd.prog.cellsOf 3 = 1 := by kernel_rfl
theorem bytes3 : Tryd.prog.bytesOf 3 = 8 := by kernel_rfl
theorem zero3 : zeroOf Tryd.prog 3 = .int .i64 0 := by kernel_rfl
theorem cells4 : Tryd.prog.cellsOf 4 = 1 := by kernel_rfl
theorem bytes4 : Tryd.prog.bytesOf 4 = 1 := by kernel_rfl
theorem zero4 : zeroOf Tryd.prog 4 = .bool false := by kernel_rfl
theorem cells5 : Tryd.prog.cellsOf 5 = 1 := by kernel_rfl
theorem bytes5 : Tryd.prog.bytesOf 5 = 1 := by kernel_rfl
theorem zero5 : zeroOf Tryd.prog 5 = .int .u8 0 := by kernel_rfl
theorem cells9 : Tryd.prog.cellsOf 9 = 1 := by kernel_rfl
theorem bytes9 : Tryd.prog.bytesOf 9 = 16 := by kernel_rfl
theorem zero9 : zeroOf Tryd.prog 9 = .str [] := by kernel_rfl
theorem cells12 : Tryd.prog.cellsOf 12 = 1 := by kernel_rfl
theorem bytes12 : Tryd.prog.bytesOf 12 = 8 := by kernel_rfl
theorem zero12 : zeroOf Tryd.prog 12 = .int .u64 0 := by kernel_rfl
theorem cells21 : Tryd.prog.cellsOf 21 = 1 := by kernel_rfl
theorem bytes21 : Tryd.prog.bytesOf 21 = 4 := by kernel_rfl
theorem zero21 : zeroOf Tryd.prog 21 = .int .i32 0 := by kernel_rfl
theorem cells25 : Tryd.prog.cellsOf 25 = 1 := by kernel_rfl
theorem bytes25 : Tryd.prog.bytesOf 25 = 24 := by kernel_rfl
theorem zero25 : zeroOf Tryd.prog 25 = .nils := by kernel_rfl

/-! All facts on types, some at once. -/
theorem tys0 :
  Tryd.prog.cellsOf 2 = 1 ∧
  Tryd.prog.bytesOf 2 = 8 ∧
  zeroOf Tryd.prog 2 = .int .i64 0 ∧
  Tryd.prog.cellsOf 3 = 1 ∧
  Tryd.prog.bytesOf 3 = 8 ∧
  zeroOf Tryd.prog 3 = .int .i64 0 ∧
  Tryd.prog.cellsOf 4 = 1 ∧
  Tryd.prog.bytesOf 4 = 1 ∧
  zeroOf Tryd.prog 4 = .bool false ∧
  Tryd.prog.cellsOf 5 = 1 ∧
  Tryd.prog.bytesOf 5 = 1 ∧
  zeroOf Tryd.prog 5 = .int .u8 0 ∧
  Tryd.prog.cellsOf 9 = 1 ∧
  Tryd.prog.bytesOf 9 = 16 ∧
  zeroOf Tryd.prog 9 = .str [] ∧
  Tryd.prog.cellsOf 12 = 1 ∧
  Tryd.prog.bytesOf 12 = 8 ∧
  zeroOf Tryd.prog 12 = .int .u64 0 ∧
  Tryd.prog.cellsOf 21 = 1 ∧
  Tryd.prog.bytesOf 21 = 4 ∧
  zeroOf Tryd.prog 21 = .int .i32 0 ∧
  Tryd.prog.cellsOf 25 = 1 ∧
  Tryd.prog.bytesOf 25 = 24 ∧
  zeroOf Tryd.prog 25 = .nils :=
  ⟨cells2, bytes2, zero2, cells3, bytes3, zero3, cells4, bytes4, zero4, cells5, bytes5, zero5, cells9, bytes9, zero9, cells12, bytes12, zero12, cells21, bytes21, zero21, cells25, bytes25, zero25⟩
def und0 := And.intro @Tryd.underlying2 (And.intro @Tryd.underlying3 (And.intro @Tryd.underlying4 (And.intro @Tryd.underlying5 (And.intro @Tryd.underlying9 (And.intro @Tryd.underlying12 (And.intro @Tryd.underlying21 @Tryd.underlying25))))))
/- tys0 und0 -/

theorem go2 : isGo Tryd.prog 2 := by unfold isGo; rw [Tryd.func2]; exact ⟨rfl, by kernel_rfl⟩
theorem go3 : isGo Tryd.prog 3 := by unfold isGo; rw [Tryd.func3]; exact ⟨rfl, by kernel_rfl⟩
theorem go4 : isGo Tryd.prog 4 := by unfold isGo; rw [Tryd.func4]; exact ⟨rfl, by kernel_rfl⟩
theorem go5 : isGo Tryd.prog 5 := by unfold isGo; rw [Tryd.func5]; exact ⟨rfl, by kernel_rfl⟩
theorem go6 : isGo Tryd.prog 6 := by unfold isGo; rw [Tryd.func6]; exact ⟨rfl, by kernel_rfl⟩
theorem go7 : isGo Tryd.prog 7 := by unfold isGo; rw [Tryd.func7]; exact ⟨rfl, by kernel_rfl⟩
theorem go8 : isGo Tryd.prog 8 := by unfold isGo; rw [Tryd.func8]; exact ⟨rfl, by kernel_rfl⟩
theorem go9 : isGo Tryd.prog 9 := by unfold isGo; rw [Tryd.func9]; exact ⟨rfl, by kernel_rfl⟩
theorem go10 : isGo Tryd.prog 10 := by unfold isGo; rw [Tryd.func10]; exact ⟨rfl, by kernel_rfl⟩
theorem go11 : isGo Tryd.prog 11 := by unfold isGo; rw [Tryd.func11]; exact ⟨rfl, by kernel_rfl⟩
theorem go12 : isGo Tryd.prog 12 := by unfold isGo; rw [Tryd.func12]; exact ⟨rfl, by kernel_rfl⟩
theorem go13 : isGo Tryd.prog 13 := by unfold isGo; rw [Tryd.func13]; exact ⟨rfl, by kernel_rfl⟩
theorem go14 : isGo Tryd.prog 14 := by unfold isGo; rw [Tryd.func14]; exact ⟨rfl, by kernel_rfl⟩
theorem go15 : isGo Tryd.prog 15 := by unfold isGo; rw [Tryd.func15]; exact ⟨rfl, by kernel_rfl⟩
theorem go17 : isGo Tryd.prog 17 := by unfold isGo; rw [Tryd.func17]; exact ⟨rfl, by kernel_rfl⟩
theorem go18 : isGo Tryd.prog 18 := by unfold isGo; rw [Tryd.func18]; exact ⟨rfl, by kernel_rfl⟩
theorem go19 : isGo Tryd.prog 19 := by unfold isGo; rw [Tryd.func19]; exact ⟨rfl, by kernel_rfl⟩
theorem go21 : isGo Tryd.prog 21 := by unfold isGo; rw [Tryd.func21]; exact ⟨rfl, by kernel_rfl⟩
theorem go22 : isGo Tryd.prog 22 := by unfold isGo; rw [Tryd.func22]; exact ⟨rfl, by kernel_rfl⟩
theorem go24 : isGo Tryd.prog 24 := by unfold isGo; rw [Tryd.func24]; exact ⟨rfl, by kernel_rfl⟩
theorem go45 : isGo Tryd.prog 45 := by unfold isGo; rw [Tryd.func45]; exact ⟨rfl, by kernel_rfl⟩
def md2 : Nat → List Bool := fun _ => []
def md3 : Nat → List Bool := fun _ => []
def md4 : Nat → List Bool := fun _ => []
def md5 : Nat → List Bool := fun _ => []
def md6 : Nat → List Bool
  | 2 => [false, false, false, false, false, false, false, false, false, false, false, false, false]
  | _ => []
def md7 : Nat → List Bool
  | 3 => [false, false, false, false, false, false, false, false, false, false, false, false, false, false, false]
  | _ => []
def md8 : Nat → List Bool := fun _ => []
def md9 : Nat → List Bool := fun _ => []
def md10 : Nat → List Bool := fun _ => []
def md11 : Nat → List Bool := fun _ => []
def md12 : Nat → List Bool := fun _ => []
def md13 : Nat → List Bool := fun _ => []
def md14 : Nat → List Bool := fun _ => []
def md15 : Nat → List Bool := fun _ => []
def md17 : Nat → List Bool := fun _ => []
def md18 : Nat → List Bool := fun _ => []
def md19 : Nat → List Bool := fun _ => []
def md21 : Nat → List Bool := fun _ => []
def md22 : Nat → List Bool := fun _ => []
def md24 : Nat → List Bool := fun _ => []
def md45 : Nat → List Bool := fun _ => []

end Go.Proofs.YtjlckingkpegpaaDoor
