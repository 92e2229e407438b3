/- Closed facts of the program, for the abstract layer: types and functions. Printed by gen_base.py. -/
import Derived.Test.YtigipcckflcilaaDoorProg
import Derived.Test.YtigipcckflcilaaDoorAbsM3
set_option linter.unusedVariables false
set_option linter.defProp false
namespace Go.Proofs.YtigipcckflcilaaDoor
open Go Go.Abs

theorem mixed : Tryd.prog.follows .mixedOrders = true := by kernel_rfl
theorem cells2 : Tryd.prog.cellsOf 2 = 1 := by kernel_rfl
theorem bytes2 : Tryd.prog.bytesOf 2 = 8 := by kernel_rfl
theorem zero2 : zeroOf Tryd.prog 2 = .int .i64 0 := by kernel_rfl
theorem cells3 : Tryd.prog.cellsOf 3 = 1 := by kernel_rfl
theorem bytes3 : Tryd.prog.bytesOf 3 = 8 := by kernel_rfl
theorem zero3 : zeroOf Tryd.prog 3 = .int .i64 0 := by kernel_rfl
theorem cells4 : Tryd.prog.cellsOf 4 = 1 := by kernel_rfl
theorem bytes4 : Tryd.prog.bytesOf 4 = 1 := by kernel_rfl
theorem zero4 : zeroOf Tryd.prog 4 = .bool false := by kernel_rfl
theorem cells5 : Tryd.prog.cellsOf 5 = 1 := by kernel_rfl
theorem bytes5 : Tryd.prog.bytesOf 5 = 1 := by kernel_rfl
theorem zero5 : zeroOf Tryd.prog 5 = .int .u8 0 := by kernel_rfl
theorem cells9 : Tryd.prog.cellsOf 9 = 1 := by kernel_rfl
theorem bytes9 : Tryd.prog.bytesOf 9 = 16 := by kernel_rfl
theorem zero9 : zeroOf Tryd.prog 9 = .str [] := by kernel_rfl
theorem cells22 : Tryd.prog.cellsOf 22 = 1 := by kernel_rfl
theorem bytes22 : Tryd.prog.bytesOf 22 = 24 := by kernel_rfl
theorem zero22 : zeroOf Tryd.prog 22 = .nils := by kernel_rfl
theorem cells23 : Tryd.prog.cellsOf 23 = 2 := by kernel_rfl
theorem bytes23 : Tryd.prog.bytesOf 23 = 48 := by kernel_rfl
theorem zero23 : zeroOf Tryd.prog 23 = .agg [.nils, .nils] := by kernel_rfl
theorem cells24 : Tryd.prog.cellsOf 24 = 2 := by kernel_rfl
theorem bytes24 : Tryd.prog.bytesOf 24 = 48 := by kernel_rfl
theorem zero24 : zeroOf Tryd.prog 24 = .agg [.nils, .nils] := by kernel_rfl
theorem cells38 : Tryd.prog.cellsOf 38 = 1 := by kernel_rfl
theorem bytes38 : Tryd.prog.bytesOf 38 = 24 := by kernel_rfl
theorem zero38 : zeroOf Tryd.prog 38 = .nils := by kernel_rfl
theorem cells48 : Tryd.prog.cellsOf 48 = 1 := by kernel_rfl
theorem bytes48 : Tryd.prog.bytesOf 48 = 8 := by kernel_rfl
theorem zero48 : zeroOf Tryd.prog 48 = .nilp := by kernel_rfl
theorem cells64 : Tryd.prog.cellsOf 64 = 1 := by kernel_rfl
theorem bytes64 : Tryd.prog.bytesOf 64 = 8 := by kernel_rfl
theorem zero64 : zeroOf Tryd.prog 64 = .int .u64 0 := by kernel_rfl
theorem cells70 : Tryd.prog.cellsOf 70 = 1 := by kernel_rfl
theorem bytes70 : Tryd.prog.bytesOf 70 = 24 := by kernel_rfl
theorem zero70 : zeroOf Tryd.prog 70 = .nils := by kernel_rfl
theorem field23_0 : fieldOf Tryd.prog 23 0 = some ⟨ "Breaks", 22, 0, false, "", "", 0⟩ := by kernel_rfl
theorem field23_1 : fieldOf Tryd.prog 23 1 = some ⟨ "Rates", 22, 1, false, "", "", 24⟩ := by kernel_rfl
theorem field24_0 : fieldOf Tryd.prog 24 0 = some ⟨ "Breaks", 22, 0, false, "", "", 0⟩ := by kernel_rfl
theorem field24_1 : fieldOf Tryd.prog 24 1 = some ⟨ "Rates", 22, 1, false, "", "", 24⟩ := by kernel_rfl

/-! All facts on types, some at once. -/
theorem tys0 :
  Tryd.prog.cellsOf 2 = 1 ∧
  Tryd.prog.bytesOf 2 = 8 ∧
  zeroOf Tryd.prog 2 = .int .i64 0 ∧
  Tryd.prog.cellsOf 3 = 1 ∧
  Tryd.prog.bytesOf 3 = 8 ∧
  zeroOf Tryd.prog 3 = .int .i64 0 ∧
  Tryd.prog.cellsOf 4 = 1 ∧
  Tryd.prog.bytesOf 4 = 1 ∧
  zeroOf Tryd.prog 4 = .bool false ∧
  Tryd.prog.cellsOf 5 = 1 ∧
  Tryd.prog.bytesOf 5 = 1 ∧
  zeroOf Tryd.prog 5 = .int .u8 0 ∧
  Tryd.prog.cellsOf 9 = 1 ∧
  Tryd.prog.bytesOf 9 = 16 ∧
  zeroOf Tryd.prog 9 = .str [] ∧
  Tryd.prog.cellsOf 22 = 1 ∧
  Tryd.prog.bytesOf 22 = 24 ∧
  zeroOf Tryd.prog 22 = .nils ∧
  Tryd.prog.cellsOf 23 = 2 ∧
  Tryd.prog.bytesOf 23 = 48 ∧
  zeroOf Tryd.prog 23 = .agg [.nils, .nils] ∧
  Tryd.prog.cellsOf 24 = 2 ∧
  Tryd.prog.bytesOf 24 = 48 ∧
  zeroOf Tryd.prog 24 = .agg [.nils, .nils] ∧
  Tryd.prog.cellsOf 38 = 1 ∧
  Tryd.prog.bytesOf 38 = 24 ∧
  zeroOf Tryd.prog 38 = .nils ∧
  Tryd.prog.cellsOf 48 = 1 ∧
  Tryd.prog.bytesOf 48 = 8 ∧
  zeroOf Tryd.prog 48 = .nilp ∧
  Tryd.prog.cellsOf 64 = 1 ∧
  Tryd.prog.bytesOf 64 = 8 ∧
  zeroOf Tryd.prog 64 = .int .u64 0 ∧
  Tryd.prog.cellsOf 70 = 1 ∧
  Tryd.prog.bytesOf 70 = 24 ∧
  zeroOf Tryd.prog 70 = .nils ∧
  fieldOf Tryd.prog 23 0 = some ⟨ "Breaks", 22, 0, false, "", "", 0⟩ ∧
  fieldOf Tryd.prog 23 1 = some ⟨ "Rates", 22, 1, false, "", "", 24⟩ ∧
  fieldOf Tryd.prog 24 0 = some ⟨ "Breaks", 22, 0, false, "", "", 0⟩ ∧
  fieldOf Tryd.prog 24 1 = some ⟨ "Rates", 22, 1, false, "", "", 24⟩ :=
  ⟨cells2, bytes2, zero2, cells3, bytes3, zero3, cells4, bytes4, zero4, cells5, bytes5, zero5, cells9, bytes9, zero9, cells22, bytes22, zero22, cells23, bytes23, zero23, cells24, bytes24, zero24, cells38, bytes38, zero38, cells48, bytes48, zero48, cells64, bytes64, zero64, cells70, bytes70, zero70, field23_0, field23_1, field24_0, field24_1⟩
def und0 := And.intro @Tryd.underlying2 (And.intro @Tryd.underlying3 (And.intro @Tryd.underlying4 (And.intro @Tryd.underlying5 (And.intro @Tryd.underlying9 (And.intro @Tryd.underlying22 (And.intro @Tryd.underlying23 (And.intro @Tryd.underlying24 (And.intro @Tryd.underlying38 (And.intro @Tryd.underlying48 (And.intro @Tryd.underlying64 @Tryd.underlying70))))))))))
/- tys0 und0 -/

theorem go2 : isGo Tryd.prog 2 := by unfold isGo; rw [Tryd.func2]; exact ⟨rfl, by kernel_rfl⟩
theorem go3 : isGo Tryd.prog 3 := by unfold isGo; rw [Tryd.func3]; exact ⟨rfl, by kernel_rfl⟩
theorem go4 : isGo Tryd.prog 4 := by unfold isGo; rw [Tryd.func4]; exact ⟨rfl, by kernel_rfl⟩
theorem go5 : isGo Tryd.prog 5 := by unfold isGo; rw [Tryd.func5]; exact ⟨rfl, by kernel_rfl⟩
theorem go6 : isGo Tryd.prog 6 := by unfold isGo; rw [Tryd.func6]; exact ⟨rfl, by kernel_rfl⟩
theorem go7 : isGo Tryd.prog 7 := by unfold isGo; rw [Tryd.func7]; exact ⟨rfl, by kernel_rfl⟩
theorem go8 : isGo Tryd.prog 8 := by unfold isGo; rw [Tryd.func8]; exact ⟨rfl, by kernel_rfl⟩
theorem go9 : isGo Tryd.prog 9 := by unfold isGo; rw [Tryd.func9]; exact ⟨rfl, by kernel_rfl⟩
theorem go10 : isGo Tryd.prog 10 := by unfold isGo; rw [Tryd.func10]; exact ⟨rfl, by kernel_rfl⟩
theorem go11 : isGo Tryd.prog 11 := by unfold isGo; rw [Tryd.func11]; exact ⟨rfl, by kernel_rfl⟩
theorem go12 : isGo Tryd.prog 12 := by unfold isGo; rw [Tryd.func12]; exact ⟨rfl, by kernel_rfl⟩
theorem go13 : isGo Tryd.prog 13 := by unfold isGo; rw [Tryd.func13]; exact ⟨rfl, by kernel_rfl⟩
theorem go14 : isGo Tryd.prog 14 := by unfold isGo; rw [Tryd.func14]; exact ⟨rfl, by kernel_rfl⟩
theorem go15 : isGo Tryd.prog 15 := by unfold isGo; rw [Tryd.func15]; exact ⟨rfl, by kernel_rfl⟩
theorem go16 : isGo Tryd.prog 16 := by unfold isGo; rw [Tryd.func16]; exact ⟨rfl, by kernel_rfl⟩
theorem go17 : isGo Tryd.prog 17 := by unfold isGo; rw [Tryd.func17]; exact ⟨rfl, by kernel_rfl⟩
theorem go18 : isGo Tryd.prog 18 := by unfold isGo; rw [Tryd.func18]; exact ⟨rfl, by kernel_rfl⟩
theorem go19 : isGo Tryd.prog 19 := by unfold isGo; rw [Tryd.func19]; exact ⟨rfl, by kernel_rfl⟩
theorem go20 : isGo Tryd.prog 20 := by unfold isGo; rw [Tryd.func20]; exact ⟨rfl, by kernel_rfl⟩
theorem go21 : isGo Tryd.prog 21 := by unfold isGo; rw [Tryd.func21]; exact ⟨rfl, by kernel_rfl⟩
theorem go22 : isGo Tryd.prog 22 := by unfold isGo; rw [Tryd.func22]; exact ⟨rfl, by kernel_rfl⟩
theorem go23 : isGo Tryd.prog 23 := by unfold isGo; rw [Tryd.func23]; exact ⟨rfl, by kernel_rfl⟩
theorem go24 : isGo Tryd.prog 24 := by unfold isGo; rw [Tryd.func24]; exact ⟨rfl, by kernel_rfl⟩
theorem go25 : isGo Tryd.prog 25 := by unfold isGo; rw [Tryd.func25]; exact ⟨rfl, by kernel_rfl⟩
theorem go26 : isGo Tryd.prog 26 := by unfold isGo; rw [Tryd.func26]; exact ⟨rfl, by kernel_rfl⟩
theorem go27 : isGo Tryd.prog 27 := by unfold isGo; rw [Tryd.func27]; exact ⟨rfl, by kernel_rfl⟩
theorem go28 : isGo Tryd.prog 28 := by unfold isGo; rw [Tryd.func28]; exact ⟨rfl, by kernel_rfl⟩
theorem go29 : isGo Tryd.prog 29 := by unfold isGo; rw [Tryd.func29]; exact ⟨rfl, by kernel_rfl⟩
theorem go30 : isGo Tryd.prog 30 := by unfold isGo; rw [Tryd.func30]; exact ⟨rfl, by kernel_rfl⟩
theorem go31 : isGo Tryd.prog 31 := by unfold isGo; rw [Tryd.func31]; exact ⟨rfl, by kernel_rfl⟩
theorem go32 : isGo Tryd.prog 32 := by unfold isGo; rw [Tryd.func32]; exact ⟨rfl, by kernel_rfl⟩
theorem go33 : isGo Tryd.prog 33 := by unfold isGo; rw [Tryd.func33]; exact ⟨rfl, by kernel_rfl⟩
theorem go34 : isGo Tryd.prog 34 := by unfold isGo; rw [Tryd.func34]; exact ⟨rfl, by kernel_rfl⟩
theorem go35 : isGo Tryd.prog 35 := by unfold isGo; rw [Tryd.func35]; exact ⟨rfl, by kernel_rfl⟩
theorem go36 : isGo Tryd.prog 36 := by unfold isGo; rw [Tryd.func36]; exact ⟨rfl, by kernel_rfl⟩
theorem go37 : isGo Tryd.prog 37 := by unfold isGo; rw [Tryd.func37]; exact ⟨rfl, by kernel_rfl⟩
theorem go38 : isGo Tryd.prog 38 := by unfold isGo; rw [Tryd.func38]; exact ⟨rfl, by kernel_rfl⟩
theorem go39 : isGo Tryd.prog 39 := by unfold isGo; rw [Tryd.func39]; exact ⟨rfl, by kernel_rfl⟩
theorem go41 : isGo Tryd.prog 41 := by unfold isGo; rw [Tryd.func41]; exact ⟨rfl, by kernel_rfl⟩
theorem go42 : isGo Tryd.prog 42 := by unfold isGo; rw [Tryd.func42]; exact ⟨rfl, by kernel_rfl⟩
theorem go43 : isGo Tryd.prog 43 := by unfold isGo; rw [Tryd.func43]; exact ⟨rfl, by kernel_rfl⟩
theorem go44 : isGo Tryd.prog 44 := by unfold isGo; rw [Tryd.func44]; exact ⟨rfl, by kernel_rfl⟩
theorem go45 : isGo Tryd.prog 45 := by unfold isGo; rw [Tryd.func45]; exact ⟨rfl, by kernel_rfl⟩
theorem go46 : isGo Tryd.prog 46 := by unfold isGo; rw [Tryd.func46]; exact ⟨rfl, by kernel_rfl⟩
theorem go47 : isGo Tryd.prog 47 := by unfold isGo; rw [Tryd.func47]; exact ⟨rfl, by kernel_rfl⟩
theorem go48 : isGo Tryd.prog 48 := by unfold isGo; rw [Tryd.func48]; exact ⟨rfl, by kernel_rfl⟩
theorem go49 : isGo Tryd.prog 49 := by unfold isGo; rw [Tryd.func49]; exact ⟨rfl, by kernel_rfl⟩
theorem go50 : isGo Tryd.prog 50 := by unfold isGo; rw [Tryd.func50]; exact ⟨rfl, by kernel_rfl⟩
theorem go51 : isGo Tryd.prog 51 := by unfold isGo; rw [Tryd.func51]; exact ⟨rfl, by kernel_rfl⟩
theorem go53 : isGo Tryd.prog 53 := by unfold isGo; rw [Tryd.func53]; exact ⟨rfl, by kernel_rfl⟩
theorem go54 : isGo Tryd.prog 54 := by unfold isGo; rw [Tryd.func54]; exact ⟨rfl, by kernel_rfl⟩
theorem go55 : isGo Tryd.prog 55 := by unfold isGo; rw [Tryd.func55]; exact ⟨rfl, by kernel_rfl⟩
theorem go56 : isGo Tryd.prog 56 := by unfold isGo; rw [Tryd.func56]; exact ⟨rfl, by kernel_rfl⟩
theorem go57 : isGo Tryd.prog 57 := by unfold isGo; rw [Tryd.func57]; exact ⟨rfl, by kernel_rfl⟩
theorem go58 : isGo Tryd.prog 58 := by unfold isGo; rw [Tryd.func58]; exact ⟨rfl, by kernel_rfl⟩
theorem go59 : isGo Tryd.prog 59 := by unfold isGo; rw [Tryd.func59]; exact ⟨rfl, by kernel_rfl⟩
theorem go60 : isGo Tryd.prog 60 := by unfold isGo; rw [Tryd.func60]; exact ⟨rfl, by kernel_rfl⟩
theorem go61 : isGo Tryd.prog 61 := by unfold isGo; rw [Tryd.func61]; exact ⟨rfl, by kernel_rfl⟩
theorem go62 : isGo Tryd.prog 62 := by unfold isGo; rw [Tryd.func62]; exact ⟨rfl, by kernel_rfl⟩
theorem go63 : isGo Tryd.prog 63 := by unfold isGo; rw [Tryd.func63]; exact ⟨rfl, by kernel_rfl⟩
theorem go64 : isGo Tryd.prog 64 := by unfold isGo; rw [Tryd.func64]; exact ⟨rfl, by kernel_rfl⟩
theorem go65 : isGo Tryd.prog 65 := by unfold isGo; rw [Tryd.func65]; exact ⟨rfl, by kernel_rfl⟩
theorem go66 : isGo Tryd.prog 66 := by unfold isGo; rw [Tryd.func66]; exact ⟨rfl, by kernel_rfl⟩
theorem go67 : isGo Tryd.prog 67 := by unfold isGo; rw [Tryd.func67]; exact ⟨rfl, by kernel_rfl⟩
theorem go69 : isGo Tryd.prog 69 := by unfold isGo; rw [Tryd.func69]; exact ⟨rfl, by kernel_rfl⟩
theorem go70 : isGo Tryd.prog 70 := by unfold isGo; rw [Tryd.func70]; exact ⟨rfl, by kernel_rfl⟩
theorem go71 : isGo Tryd.prog 71 := by unfold isGo; rw [Tryd.func71]; exact ⟨rfl, by kernel_rfl⟩
theorem go72 : isGo Tryd.prog 72 := by unfold isGo; rw [Tryd.func72]; exact ⟨rfl, by kernel_rfl⟩
theorem go73 : isGo Tryd.prog 73 := by unfold isGo; rw [Tryd.func73]; exact ⟨rfl, by kernel_rfl⟩
theorem go74 : isGo Tryd.prog 74 := by unfold isGo; rw [Tryd.func74]; exact ⟨rfl, by kernel_rfl⟩
theorem go75 : isGo Tryd.prog 75 := by unfold isGo; rw [Tryd.func75]; exact ⟨rfl, by kernel_rfl⟩
theorem go76 : isGo Tryd.prog 76 := by unfold isGo; rw [Tryd.func76]; exact ⟨rfl, by kernel_rfl⟩
theorem go77 : isGo Tryd.prog 77 := by unfold isGo; rw [Tryd.func77]; exact ⟨rfl, by kernel_rfl⟩
theorem go80 : isGo Tryd.prog 80 := by unfold isGo; rw [Tryd.func80]; exact ⟨rfl, by kernel_rfl⟩
theorem go81 : isGo Tryd.prog 81 := by unfold isGo; rw [Tryd.func81]; exact ⟨rfl, by kernel_rfl⟩
theorem go82 : isGo Tryd.prog 82 := by unfold isGo; rw [Tryd.func82]; exact ⟨rfl, by kernel_rfl⟩
theorem go83 : isGo Tryd.prog 83 := by unfold isGo; rw [Tryd.func83]; exact ⟨rfl, by kernel_rfl⟩
theorem go84 : isGo Tryd.prog 84 := by unfold isGo; rw [Tryd.func84]; exact ⟨rfl, by kernel_rfl⟩
theorem go85 : isGo Tryd.prog 85 := by unfold isGo; rw [Tryd.func85]; exact ⟨rfl, by kernel_rfl⟩
theorem go86 : isGo Tryd.prog 86 := by unfold isGo; rw [Tryd.func86]; exact ⟨rfl, by kernel_rfl⟩
theorem go87 : isGo Tryd.prog 87 := by unfold isGo; rw [Tryd.func87]; exact ⟨rfl, by kernel_rfl⟩
theorem go88 : isGo Tryd.prog 88 := by unfold isGo; rw [Tryd.func88]; exact ⟨rfl, by kernel_rfl⟩
theorem go119 : isGo Tryd.prog 119 := by unfold isGo; rw [Tryd.func119]; exact ⟨rfl, by kernel_rfl⟩
def md2 : Nat → List Bool := fun _ => []
def md3 : Nat → List Bool := fun _ => []
def md4 : Nat → List Bool := fun _ => []
def md5 : Nat → List Bool := fun _ => []
def md6 : Nat → List Bool := fun _ => []
def md7 : Nat → List Bool := fun _ => []
def md8 : Nat → List Bool := fun _ => []
def md9 : Nat → List Bool := fun _ => []
def md10 : Nat → List Bool := fun _ => []
def md11 : Nat → List Bool := fun _ => []
def md12 : Nat → List Bool
  | 3 => [false, false, false, false, false, false, false, false, false, false]
  | _ => []
def md13 : Nat → List Bool
  | 6 => [false, false, false, false, false, false, false, false, false]
  | _ => []
def md14 : Nat → List Bool := fun _ => []
def md15 : Nat → List Bool := fun _ => []
def md16 : Nat → List Bool := fun _ => []
def md17 : Nat → List Bool := fun _ => []
def md18 : Nat → List Bool := fun _ => []
def md19 : Nat → List Bool
  | 3 => [false, false, false, false, false, false, false, false, false, false, false, false]
  | _ => []
def md20 : Nat → List Bool := fun _ => []
def md21 : Nat → List Bool := fun _ => []
def md22 : Nat → List Bool := fun _ => []
def md23 : Nat → List Bool := fun _ => []
def md24 : Nat → List Bool := fun _ => []
def md25 : Nat → List Bool
  | 7 => [false, false, false, false, false, false, false, false, false, false, false, false, false, false, false, false, false, false, false, false, false, false, false, false, false, false, false, false, false, false, false, false, false, false, false, false, false, false, false, false, false, false]
  | _ => []
def md26 : Nat → List Bool := fun _ => []
def md27 : Nat → List Bool := fun _ => []
def md28 : Nat → List Bool := fun _ => []
def md29 : Nat → List Bool := fun _ => []
def md30 : Nat → List Bool := fun _ => []
def md31 : Nat → List Bool := fun _ => []
def md32 : Nat → List Bool
  | 4 => [false, false, false, false, false, false, false, false, false, false]
  | _ => []
def md33 : Nat → List Bool := fun _ => []
def md34 : Nat → List Bool := fun _ => []
def md35 : Nat → List Bool := fun _ => []
def md36 : Nat → List Bool := fun _ => []
def md37 : Nat → List Bool := fun _ => []
def md38 : Nat → List Bool := fun _ => []
def md39 : Nat → List Bool := fun _ => []
def md41 : Nat → List Bool := fun _ => []
def md42 : Nat → List Bool := fun _ => []
def md43 : Nat → List Bool := fun _ => []
def md44 : Nat → List Bool := fun _ => []
def md45 : Nat → List Bool := fun _ => []
def md46 : Nat → List Bool := fun _ => []
def md47 : Nat → List Bool := fun _ => []
def md48 : Nat → List Bool := fun _ => []
def md49 : Nat → List Bool
  | 3 => [false, false, false, false, false, false, false, false, false, false, false, false, false]
  | _ => []
def md50 : Nat → List Bool := fun _ => []
def md51 : Nat → List Bool
  | 1 => [false, false, false, false, false, false, false, false, false, false, false, false]
  | _ => []
def md53 : Nat → List Bool := fun _ => []
def md54 : Nat → List Bool := fun _ => []
def md55 : Nat → List Bool := fun _ => []
def md56 : Nat → List Bool := fun _ => []
def md57 : Nat → List Bool := fun _ => []
def md58 : Nat → List Bool
  | 1 => [false, false, false, false, false, true, false]
  | _ => []
def md59 : Nat → List Bool
  | 1 => [false, false, false, false, false, true, false]
  | _ => []
def md60 : Nat → List Bool := fun _ => []
def md61 : Nat → List Bool := fun _ => []
def md62 : Nat → List Bool := fun _ => []
def md63 : Nat → List Bool := fun _ => []
def md64 : Nat → List Bool := fun _ => []
def md65 : Nat → List Bool
  | 0 => [false, false, false, false, false, false, false, false, false, false, false, false, false, false, false, false]
  | _ => []
def md66 : Nat → List Bool := fun _ => []
def md67 : Nat → List Bool := fun _ => []
def md69 : Nat → List Bool := fun _ => []
def md70 : Nat → List Bool := fun _ => []
def md71 : Nat → List Bool := fun _ => []
def md72 : Nat → List Bool := fun _ => []
def md73 : Nat → List Bool := fun _ => []
def md74 : Nat → List Bool := fun _ => []
def md75 : Nat → List Bool := fun _ => []
def md76 : Nat → List Bool := fun _ => []
def md77 : Nat → List Bool := fun _ => []
def md80 : Nat → List Bool := fun _ => []
def md81 : Nat → List Bool := fun _ => []
def md82 : Nat → List Bool := fun _ => []
def md83 : Nat → List Bool := fun _ => []
def md84 : Nat → List Bool := fun _ => []
def md85 : Nat → List Bool := fun _ => []
def md86 : Nat → List Bool := fun _ => []
def md87 : Nat → List Bool := fun _ => []
def md88 : Nat → List Bool := fun _ => []
def md119 : Nat → List Bool := fun _ => []

end Go.Proofs.YtigipcckflcilaaDoor
