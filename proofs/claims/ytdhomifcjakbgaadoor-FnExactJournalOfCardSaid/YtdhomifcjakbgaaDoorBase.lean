/- Closed facts of the program, for the abstract layer: types and functions. Printed by gen_base.py. -/
import Derived.Test.YtdhomifcjakbgaaDoorProg
import Derived.Test.YtdhomifcjakbgaaDoorAbsY
set_option linter.unusedVariables false
set_option linter.defProp false
namespace Go.Proofs.YtdhomifcjakbgaaDoor
open Go Go.Abs

theorem mixed : Tryd.prog.follows .mixedOrders = true := by kernel_rfl
theorem cells2 : Tryd.prog.cellsOf 2 = 1 := by kernel_rfl
theorem bytes2 : Tryd.prog.bytesOf 2 = 8 := by kernel_rfl
theorem zero2 : zeroOf Tryd.prog 2 = .int .i64 0 := by kernel_rfl
theorem cells3 : Tryd.prog.cellsOf 3 = 1 := by kernel_rfl
theorem bytes3 : Tryd.prog.bytesOf 3 = 8 := by kernel_rfl
theorem zero3 : zeroOf Tryd.prog 3 = .int .i64 0 := by kernel_rfl
theorem cells4 : Tryd.prog.cellsOf 4 = 1 := by kernel_rfl
theorem bytes4 : Tryd.prog.bytesOf 4 = 1 := by kernel_rfl
theorem zero4 : zeroOf Tryd.prog 4 = .bool false := by kernel_rfl
theorem cells5 : Tryd.prog.cellsOf 5 = 1 := by kernel_rfl
theorem bytes5 : Tryd.prog.bytesOf 5 = 1 := by kernel_rfl
theorem zero5 : zeroOf Tryd.prog 5 = .int .u8 0 := by kernel_rfl
theorem cells9 : Tryd.prog.cellsOf 9 = 1 := by kernel_rfl
theorem bytes9 : Tryd.prog.bytesOf 9 = 16 := by kernel_rfl
theorem zero9 : zeroOf Tryd.prog 9 = .str [] := by kernel_rfl
theorem cells22 : Tryd.prog.cellsOf 22 = 1 := by kernel_rfl
theorem bytes22 : Tryd.prog.bytesOf 22 = 24 := by kernel_rfl
theorem zero22 : zeroOf Tryd.prog 22 = .nils := by kernel_rfl
theorem cells24 : Tryd.prog.cellsOf 24 = 2 := by kernel_rfl
theorem bytes24 : Tryd.prog.bytesOf 24 = 48 := by kernel_rfl
theorem zero24 : zeroOf Tryd.prog 24 = .agg [.nils, .nils] := by kernel_rfl
theorem cells28 : Tryd.prog.cellsOf 28 = 2 := by kernel_rfl
theorem bytes28 : Tryd.prog.bytesOf 28 = 48 := by kernel_rfl
theorem zero28 : zeroOf Tryd.prog 28 = .agg [.nils, .nils] := by kernel_rfl
theorem cells32 : Tryd.prog.cellsOf 32 = 1 := by kernel_rfl
theorem bytes32 : Tryd.prog.bytesOf 32 = 24 := by kernel_rfl
theorem zero32 : zeroOf Tryd.prog 32 = .nils := by kernel_rfl
theorem cells43 : Tryd.prog.cellsOf 43 = 1 := by kernel_rfl
theorem bytes43 : Tryd.prog.bytesOf 43 = 8 := by kernel_rfl
theorem zero43 : zeroOf Tryd.prog 43 = .nilp := by kernel_rfl
theorem cells50 : Tryd.prog.cellsOf 50 = 1 := by kernel_rfl
theorem bytes50 : Tryd.prog.bytesOf 50 = 8 := by kernel_rfl
theorem zero50 : zeroOf Tryd.prog 50 = .nilp := by kernel_rfl
theorem cells51 : Tryd.prog.cellsOf 51 = 1 := by kernel_rfl
theorem bytes51 : Tryd.prog.bytesOf 51 = 24 := by kernel_rfl
theorem zero51 : zeroOf Tryd.prog 51 = .nils := by kernel_rfl
theorem cells53 : Tryd.prog.cellsOf 53 = 2 := by kernel_rfl
theorem bytes53 : Tryd.prog.bytesOf 53 = 32 := by kernel_rfl
theorem zero53 : zeroOf Tryd.prog 53 = .agg [.nilp, .nils] := by kernel_rfl
theorem cells90 : Tryd.prog.cellsOf 90 = 1 := by kernel_rfl
theorem bytes90 : Tryd.prog.bytesOf 90 = 8 := by kernel_rfl
theorem zero90 : zeroOf Tryd.prog 90 = .int .u64 0 := by kernel_rfl
theorem cells92 : Tryd.prog.cellsOf 92 = 1 := by kernel_rfl
theorem bytes92 : Tryd.prog.bytesOf 92 = 8 := by kernel_rfl
theorem zero92 : zeroOf Tryd.prog 92 = .int .u64 0 := by kernel_rfl
theorem cells98 : Tryd.prog.cellsOf 98 = 1 := by kernel_rfl
theorem bytes98 : Tryd.prog.bytesOf 98 = 4 := by kernel_rfl
theorem zero98 : zeroOf Tryd.prog 98 = .int .u32 0 := by kernel_rfl
theorem field24_0 : fieldOf Tryd.prog 24 0 = some ⟨ "Breaks", 22, 0, false, "", "", 0⟩ := by kernel_rfl
theorem field24_1 : fieldOf Tryd.prog 24 1 = some ⟨ "Rates", 22, 1, false, "", "", 24⟩ := by kernel_rfl
theorem field28_0 : fieldOf Tryd.prog 28 0 = some ⟨ "Breaks", 22, 0, false, "", "", 0⟩ := by kernel_rfl
theorem field28_1 : fieldOf Tryd.prog 28 1 = some ⟨ "Rates", 22, 1, false, "", "", 24⟩ := by kernel_rfl
theorem field53_0 : fieldOf Tryd.prog 53 0 = some ⟨ "addr", 50, 0, false, "", "strings", 0⟩ := by kernel_rfl
theorem field53_1 : fieldOf Tryd.prog 53 1 = some ⟨ "buf", 51, 1, false, "", "strings", 8⟩ := by kernel_rfl

/-! All facts on types, some at once. -/
theorem tys0 :
  Tryd.prog.cellsOf 2 = 1 ∧
  Tryd.prog.bytesOf 2 = 8 ∧
  zeroOf Tryd.prog 2 = .int .i64 0 ∧
  Tryd.prog.cellsOf 3 = 1 ∧
  Tryd.prog.bytesOf 3 = 8 ∧
  zeroOf Tryd.prog 3 = .int .i64 0 ∧
  Tryd.prog.cellsOf 4 = 1 ∧
  Tryd.prog.bytesOf 4 = 1 ∧
  zeroOf Tryd.prog 4 = .bool false ∧
  Tryd.prog.cellsOf 5 = 1 ∧
  Tryd.prog.bytesOf 5 = 1 ∧
  zeroOf Tryd.prog 5 = .int .u8 0 ∧
  Tryd.prog.cellsOf 9 = 1 ∧
  Tryd.prog.bytesOf 9 = 16 ∧
  zeroOf Tryd.prog 9 = .str [] ∧
  Tryd.prog.cellsOf 22 = 1 ∧
  Tryd.prog.bytesOf 22 = 24 ∧
  zeroOf Tryd.prog 22 = .nils ∧
  Tryd.prog.cellsOf 24 = 2 ∧
  Tryd.prog.bytesOf 24 = 48 ∧
  zeroOf Tryd.prog 24 = .agg [.nils, .nils] ∧
  Tryd.prog.cellsOf 28 = 2 ∧
  Tryd.prog.bytesOf 28 = 48 ∧
  zeroOf Tryd.prog 28 = .agg [.nils, .nils] ∧
  Tryd.prog.cellsOf 32 = 1 ∧
  Tryd.prog.bytesOf 32 = 24 ∧
  zeroOf Tryd.prog 32 = .nils ∧
  Tryd.prog.cellsOf 43 = 1 ∧
  Tryd.prog.bytesOf 43 = 8 ∧
  zeroOf Tryd.prog 43 = .nilp ∧
  Tryd.prog.cellsOf 50 = 1 ∧
  Tryd.prog.bytesOf 50 = 8 ∧
  zeroOf Tryd.prog 50 = .nilp ∧
  Tryd.prog.cellsOf 51 = 1 ∧
  Tryd.prog.bytesOf 51 = 24 ∧
  zeroOf Tryd.prog 51 = .nils ∧
  Tryd.prog.cellsOf 53 = 2 ∧
  Tryd.prog.bytesOf 53 = 32 ∧
  zeroOf Tryd.prog 53 = .agg [.nilp, .nils] ∧
  Tryd.prog.cellsOf 90 = 1 :=
  ⟨cells2, bytes2, zero2, cells3, bytes3, zero3, cells4, bytes4, zero4, cells5, bytes5, zero5, cells9, bytes9, zero9, cells22, bytes22, zero22, cells24, bytes24, zero24, cells28, bytes28, zero28, cells32, bytes32, zero32, cells43, bytes43, zero43, cells50, bytes50, zero50, cells51, bytes51, zero51, cells53, bytes53, zero53, cells90⟩
theorem tys1 :
  Tryd.prog.bytesOf 90 = 8 ∧
  zeroOf Tryd.prog 90 = .int .u64 0 ∧
  Tryd.prog.cellsOf 92 = 1 ∧
  Tryd.prog.bytesOf 92 = 8 ∧
  zeroOf Tryd.prog 92 = .int .u64 0 ∧
  Tryd.prog.cellsOf 98 = 1 ∧
  Tryd.prog.bytesOf 98 = 4 ∧
  zeroOf Tryd.prog 98 = .int .u32 0 ∧
  fieldOf Tryd.prog 24 0 = some ⟨ "Breaks", 22, 0, false, "", "", 0⟩ ∧
  fieldOf Tryd.prog 24 1 = some ⟨ "Rates", 22, 1, false, "", "", 24⟩ ∧
  fieldOf Tryd.prog 28 0 = some ⟨ "Breaks", 22, 0, false, "", "", 0⟩ ∧
  fieldOf Tryd.prog 28 1 = some ⟨ "Rates", 22, 1, false, "", "", 24⟩ ∧
  fieldOf Tryd.prog 53 0 = some ⟨ "addr", 50, 0, false, "", "strings", 0⟩ ∧
  fieldOf Tryd.prog 53 1 = some ⟨ "buf", 51, 1, false, "", "strings", 8⟩ :=
  ⟨bytes90, zero90, cells92, bytes92, zero92, cells98, bytes98, zero98, field24_0, field24_1, field28_0, field28_1, field53_0, field53_1⟩
def und0 := And.intro @Tryd.underlying2 (And.intro @Tryd.underlying3 (And.intro @Tryd.underlying4 (And.intro @Tryd.underlying5 (And.intro @Tryd.underlying9 (And.intro @Tryd.underlying22 (And.intro @Tryd.underlying24 (And.intro @Tryd.underlying28 (And.intro @Tryd.underlying32 (And.intro @Tryd.underlying43 (And.intro @Tryd.underlying50 @Tryd.underlying51))))))))))
def und1 := And.intro @Tryd.underlying53 (And.intro @Tryd.underlying90 (And.intro @Tryd.underlying92 @Tryd.underlying98))
/- tys0 tys1 und0 und1 -/

theorem go2 : isGo Tryd.prog 2 := by unfold isGo; rw [Tryd.func2]; exact ⟨rfl, by kernel_rfl⟩
theorem go3 : isGo Tryd.prog 3 := by unfold isGo; rw [Tryd.func3]; exact ⟨rfl, by kernel_rfl⟩
theorem go4 : isGo Tryd.prog 4 := by unfold isGo; rw [Tryd.func4]; exact ⟨rfl, by kernel_rfl⟩
theorem go5 : isGo Tryd.prog 5 := by unfold isGo; rw [Tryd.func5]; exact ⟨rfl, by kernel_rfl⟩
theorem go6 : isGo Tryd.prog 6 := by unfold isGo; rw [Tryd.func6]; exact ⟨rfl, by kernel_rfl⟩
theorem go7 : isGo Tryd.prog 7 := by unfold isGo; rw [Tryd.func7]; exact ⟨rfl, by kernel_rfl⟩
theorem go8 : isGo Tryd.prog 8 := by unfold isGo; rw [Tryd.func8]; exact ⟨rfl, by kernel_rfl⟩
theorem go9 : isGo Tryd.prog 9 := by unfold isGo; rw [Tryd.func9]; exact ⟨rfl, by kernel_rfl⟩
theorem go10 : isGo Tryd.prog 10 := by unfold isGo; rw [Tryd.func10]; exact ⟨rfl, by kernel_rfl⟩
theorem go11 : isGo Tryd.prog 11 := by unfold isGo; rw [Tryd.func11]; exact ⟨rfl, by kernel_rfl⟩
theorem go12 : isGo Tryd.prog 12 := by unfold isGo; rw [Tryd.func12]; exact ⟨rfl, by kernel_rfl⟩
theorem go13 : isGo Tryd.prog 13 := by unfold isGo; rw [Tryd.func13]; exact ⟨rfl, by kernel_rfl⟩
theorem go14 : isGo Tryd.prog 14 := by unfold isGo; rw [Tryd.func14]; exact ⟨rfl, by kernel_rfl⟩
theorem go15 : isGo Tryd.prog 15 := by unfold isGo; rw [Tryd.func15]; exact ⟨rfl, by kernel_rfl⟩
theorem go16 : isGo Tryd.prog 16 := by unfold isGo; rw [Tryd.func16]; exact ⟨rfl, by kernel_rfl⟩
theorem go17 : isGo Tryd.prog 17 := by unfold isGo; rw [Tryd.func17]; exact ⟨rfl, by kernel_rfl⟩
theorem go18 : isGo Tryd.prog 18 := by unfold isGo; rw [Tryd.func18]; exact ⟨rfl, by kernel_rfl⟩
theorem go19 : isGo Tryd.prog 19 := by unfold isGo; rw [Tryd.func19]; exact ⟨rfl, by kernel_rfl⟩
theorem go20 : isGo Tryd.prog 20 := by unfold isGo; rw [Tryd.func20]; exact ⟨rfl, by kernel_rfl⟩
theorem go21 : isGo Tryd.prog 21 := by unfold isGo; rw [Tryd.func21]; exact ⟨rfl, by kernel_rfl⟩
theorem go22 : isGo Tryd.prog 22 := by unfold isGo; rw [Tryd.func22]; exact ⟨rfl, by kernel_rfl⟩
theorem go23 : isGo Tryd.prog 23 := by unfold isGo; rw [Tryd.func23]; exact ⟨rfl, by kernel_rfl⟩
theorem go24 : isGo Tryd.prog 24 := by unfold isGo; rw [Tryd.func24]; exact ⟨rfl, by kernel_rfl⟩
theorem go25 : isGo Tryd.prog 25 := by unfold isGo; rw [Tryd.func25]; exact ⟨rfl, by kernel_rfl⟩
theorem go26 : isGo Tryd.prog 26 := by unfold isGo; rw [Tryd.func26]; exact ⟨rfl, by kernel_rfl⟩
theorem go27 : isGo Tryd.prog 27 := by unfold isGo; rw [Tryd.func27]; exact ⟨rfl, by kernel_rfl⟩
theorem go28 : isGo Tryd.prog 28 := by unfold isGo; rw [Tryd.func28]; exact ⟨rfl, by kernel_rfl⟩
theorem go29 : isGo Tryd.prog 29 := by unfold isGo; rw [Tryd.func29]; exact ⟨rfl, by kernel_rfl⟩
theorem go30 : isGo Tryd.prog 30 := by unfold isGo; rw [Tryd.func30]; exact ⟨rfl, by kernel_rfl⟩
theorem go31 : isGo Tryd.prog 31 := by unfold isGo; rw [Tryd.func31]; exact ⟨rfl, by kernel_rfl⟩
theorem go32 : isGo Tryd.prog 32 := by unfold isGo; rw [Tryd.func32]; exact ⟨rfl, by kernel_rfl⟩
theorem go33 : isGo Tryd.prog 33 := by unfold isGo; rw [Tryd.func33]; exact ⟨rfl, by kernel_rfl⟩
theorem go34 : isGo Tryd.prog 34 := by unfold isGo; rw [Tryd.func34]; exact ⟨rfl, by kernel_rfl⟩
theorem go35 : isGo Tryd.prog 35 := by unfold isGo; rw [Tryd.func35]; exact ⟨rfl, by kernel_rfl⟩
theorem go36 : isGo Tryd.prog 36 := by unfold isGo; rw [Tryd.func36]; exact ⟨rfl, by kernel_rfl⟩
theorem go37 : isGo Tryd.prog 37 := by unfold isGo; rw [Tryd.func37]; exact ⟨rfl, by kernel_rfl⟩
theorem go38 : isGo Tryd.prog 38 := by unfold isGo; rw [Tryd.func38]; exact ⟨rfl, by kernel_rfl⟩
theorem go39 : isGo Tryd.prog 39 := by unfold isGo; rw [Tryd.func39]; exact ⟨rfl, by kernel_rfl⟩
theorem go40 : isGo Tryd.prog 40 := by unfold isGo; rw [Tryd.func40]; exact ⟨rfl, by kernel_rfl⟩
theorem go41 : isGo Tryd.prog 41 := by unfold isGo; rw [Tryd.func41]; exact ⟨rfl, by kernel_rfl⟩
theorem go42 : isGo Tryd.prog 42 := by unfold isGo; rw [Tryd.func42]; exact ⟨rfl, by kernel_rfl⟩
theorem go43 : isGo Tryd.prog 43 := by unfold isGo; rw [Tryd.func43]; exact ⟨rfl, by kernel_rfl⟩
theorem go44 : isGo Tryd.prog 44 := by unfold isGo; rw [Tryd.func44]; exact ⟨rfl, by kernel_rfl⟩
theorem go45 : isGo Tryd.prog 45 := by unfold isGo; rw [Tryd.func45]; exact ⟨rfl, by kernel_rfl⟩
theorem go46 : isGo Tryd.prog 46 := by unfold isGo; rw [Tryd.func46]; exact ⟨rfl, by kernel_rfl⟩
theorem go47 : isGo Tryd.prog 47 := by unfold isGo; rw [Tryd.func47]; exact ⟨rfl, by kernel_rfl⟩
theorem go48 : isGo Tryd.prog 48 := by unfold isGo; rw [Tryd.func48]; exact ⟨rfl, by kernel_rfl⟩
theorem go49 : isGo Tryd.prog 49 := by unfold isGo; rw [Tryd.func49]; exact ⟨rfl, by kernel_rfl⟩
theorem go50 : isGo Tryd.prog 50 := by unfold isGo; rw [Tryd.func50]; exact ⟨rfl, by kernel_rfl⟩
theorem go51 : isGo Tryd.prog 51 := by unfold isGo; rw [Tryd.func51]; exact ⟨rfl, by kernel_rfl⟩
theorem go52 : isGo Tryd.prog 52 := by unfold isGo; rw [Tryd.func52]; exact ⟨rfl, by kernel_rfl⟩
theorem go53 : isGo Tryd.prog 53 := by unfold isGo; rw [Tryd.func53]; exact ⟨rfl, by kernel_rfl⟩
theorem go54 : isGo Tryd.prog 54 := by unfold isGo; rw [Tryd.func54]; exact ⟨rfl, by kernel_rfl⟩
theorem go55 : isGo Tryd.prog 55 := by unfold isGo; rw [Tryd.func55]; exact ⟨rfl, by kernel_rfl⟩
theorem go56 : isGo Tryd.prog 56 := by unfold isGo; rw [Tryd.func56]; exact ⟨rfl, by kernel_rfl⟩
theorem go58 : isGo Tryd.prog 58 := by unfold isGo; rw [Tryd.func58]; exact ⟨rfl, by kernel_rfl⟩
theorem go59 : isGo Tryd.prog 59 := by unfold isGo; rw [Tryd.func59]; exact ⟨rfl, by kernel_rfl⟩
theorem go60 : isGo Tryd.prog 60 := by unfold isGo; rw [Tryd.func60]; exact ⟨rfl, by kernel_rfl⟩
theorem go61 : isGo Tryd.prog 61 := by unfold isGo; rw [Tryd.func61]; exact ⟨rfl, by kernel_rfl⟩
theorem go62 : isGo Tryd.prog 62 := by unfold isGo; rw [Tryd.func62]; exact ⟨rfl, by kernel_rfl⟩
theorem go63 : isGo Tryd.prog 63 := by unfold isGo; rw [Tryd.func63]; exact ⟨rfl, by kernel_rfl⟩
theorem go65 : isGo Tryd.prog 65 := by unfold isGo; rw [Tryd.func65]; exact ⟨rfl, by kernel_rfl⟩
theorem go66 : isGo Tryd.prog 66 := by unfold isGo; rw [Tryd.func66]; exact ⟨rfl, by kernel_rfl⟩
theorem go67 : isGo Tryd.prog 67 := by unfold isGo; rw [Tryd.func67]; exact ⟨rfl, by kernel_rfl⟩
theorem go68 : isGo Tryd.prog 68 := by unfold isGo; rw [Tryd.func68]; exact ⟨rfl, by kernel_rfl⟩
theorem go69 : isGo Tryd.prog 69 := by unfold isGo; rw [Tryd.func69]; exact ⟨rfl, by kernel_rfl⟩
theorem go70 : isGo Tryd.prog 70 := by unfold isGo; rw [Tryd.func70]; exact ⟨rfl, by kernel_rfl⟩
theorem go73 : isGo Tryd.prog 73 := by unfold isGo; rw [Tryd.func73]; exact ⟨rfl, by kernel_rfl⟩
theorem go74 : isGo Tryd.prog 74 := by unfold isGo; rw [Tryd.func74]; exact ⟨rfl, by kernel_rfl⟩
theorem go75 : isGo Tryd.prog 75 := by unfold isGo; rw [Tryd.func75]; exact ⟨rfl, by kernel_rfl⟩
theorem go76 : isGo Tryd.prog 76 := by unfold isGo; rw [Tryd.func76]; exact ⟨rfl, by kernel_rfl⟩
theorem go77 : isGo Tryd.prog 77 := by unfold isGo; rw [Tryd.func77]; exact ⟨rfl, by kernel_rfl⟩
theorem go78 : isGo Tryd.prog 78 := by unfold isGo; rw [Tryd.func78]; exact ⟨rfl, by kernel_rfl⟩
theorem go79 : isGo Tryd.prog 79 := by unfold isGo; rw [Tryd.func79]; exact ⟨rfl, by kernel_rfl⟩
theorem go80 : isGo Tryd.prog 80 := by unfold isGo; rw [Tryd.func80]; exact ⟨rfl, by kernel_rfl⟩
theorem go104 : isGo Tryd.prog 104 := by unfold isGo; rw [Tryd.func104]; exact ⟨rfl, by kernel_rfl⟩
def md2 : Nat → List Bool := fun _ => []
def md3 : Nat → List Bool
  | 10 => [false, false, false, false, false]
  | _ => []
def md4 : Nat → List Bool := fun _ => []
def md5 : Nat → List Bool := fun _ => []
def md6 : Nat → List Bool := fun _ => []
def md7 : Nat → List Bool := fun _ => []
def md8 : Nat → List Bool := fun _ => []
def md9 : Nat → List Bool
  | 3 => [false, false, false, false, false, false, false, false, false, false]
  | _ => []
def md10 : Nat → List Bool := fun _ => []
def md11 : Nat → List Bool := fun _ => []
def md12 : Nat → List Bool := fun _ => []
def md13 : Nat → List Bool := fun _ => []
def md14 : Nat → List Bool := fun _ => []
def md15 : Nat → List Bool
  | 6 => [false, false, false, false, false, false, false, false, false]
  | _ => []
def md16 : Nat → List Bool := fun _ => []
def md17 : Nat → List Bool := fun _ => []
def md18 : Nat → List Bool := fun _ => []
def md19 : Nat → List Bool
  | 4 => [false, false, false, false, false, false, false]
  | _ => []
def md20 : Nat → List Bool := fun _ => []
def md21 : Nat → List Bool
  | 7 => [false, false, false, false, false, false, false, false, false, false, false, false, false, false, false, false, false, false, false, false, false, false, false, false, false, false, false, false, false, false, false, false, false, false, false, false, false, false, false, false, false, false]
  | _ => []
def md22 : Nat → List Bool
  | 1 => [false, false, false, false, false, false, false, false, false, false, false, false, false]
  | _ => []
def md23 : Nat → List Bool := fun _ => []
def md24 : Nat → List Bool := fun _ => []
def md25 : Nat → List Bool := fun _ => []
def md26 : Nat → List Bool
  | 6 => [false, false, false, false, false, false, false, false, false]
  | _ => []
def md27 : Nat → List Bool
  | 7 => [false, false, false, false, false, false, false, false, false, false, false, false]
  | _ => []
def md28 : Nat → List Bool := fun _ => []
def md29 : Nat → List Bool := fun _ => []
def md30 : Nat → List Bool := fun _ => []
def md31 : Nat → List Bool := fun _ => []
def md32 : Nat → List Bool := fun _ => []
def md33 : Nat → List Bool
  | 1 => [false, false, false, false, false, false, false, false, false, false, false, false]
  | _ => []
def md34 : Nat → List Bool
  | 14 => [false, false, false, false, false, false, false, false, false]
  | _ => []
def md35 : Nat → List Bool := fun _ => []
def md36 : Nat → List Bool := fun _ => []
def md37 : Nat → List Bool := fun _ => []
def md38 : Nat → List Bool := fun _ => []
def md39 : Nat → List Bool := fun _ => []
def md40 : Nat → List Bool := fun _ => []
def md41 : Nat → List Bool
  | 4 => [false, false, false, false, false, false, false, false, false, false]
  | _ => []
def md42 : Nat → List Bool := fun _ => []
def md43 : Nat → List Bool := fun _ => []
def md44 : Nat → List Bool := fun _ => []
def md45 : Nat → List Bool := fun _ => []
def md46 : Nat → List Bool := fun _ => []
def md47 : Nat → List Bool := fun _ => []
def md48 : Nat → List Bool := fun _ => []
def md49 : Nat → List Bool := fun _ => []
def md50 : Nat → List Bool
  | 2 => [false, false, false, false, false, false, false, false, false, false, false, false, false]
  | _ => []
def md51 : Nat → List Bool := fun _ => []
def md52 : Nat → List Bool := fun _ => []
def md53 : Nat → List Bool := fun _ => []
def md54 : Nat → List Bool := fun _ => []
def md55 : Nat → List Bool
  | 3 => [false, false, false, false, false, false, false, false, false, false, false, false, false]
  | _ => []
def md56 : Nat → List Bool := fun _ => []
def md58 : Nat → List Bool := fun _ => []
def md59 : Nat → List Bool := fun _ => []
def md60 : Nat → List Bool
  | 3 => [false, false, false, false, false, false, false, false, false, false, false, false]
  | _ => []
def md61 : Nat → List Bool := fun _ => []
def md62 : Nat → List Bool
  | 0 => [false, false, false, false, false, false, false, false, false, false, false, false, false, false, false, false]
  | _ => []
def md63 : Nat → List Bool := fun _ => []
def md65 : Nat → List Bool := fun _ => []
def md66 : Nat → List Bool := fun _ => []
def md67 : Nat → List Bool := fun _ => []
def md68 : Nat → List Bool := fun _ => []
def md69 : Nat → List Bool := fun _ => []
def md70 : Nat → List Bool := fun _ => []
def md73 : Nat → List Bool := fun _ => []
def md74 : Nat → List Bool := fun _ => []
def md75 : Nat → List Bool := fun _ => []
def md76 : Nat → List Bool := fun _ => []
def md77 : Nat → List Bool := fun _ => []
def md78 : Nat → List Bool := fun _ => []
def md79 : Nat → List Bool := fun _ => []
def md80 : Nat → List Bool := fun _ => []
def md104 : Nat → List Bool := fun _ => []

end Go.Proofs.YtdhomifcjakbgaaDoor
