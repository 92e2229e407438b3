/- Closed facts of the program, for the abstract layer: types and functions. Printed by gen_base.py. -/
import Derived.Test.YtiecjfmokfhekaaProg
import Derived.Test.YtiecjfmokfhekaaAbsY
set_option linter.unusedVariables false
set_option linter.defProp false
namespace Go.Proofs.Ytiecjfmokfhekaa
open Go Go.Abs

theorem mixed : Try.prog.follows .mixedOrders = true := by kernel_rfl
theorem cells2 : Try.prog.cellsOf 2 = 1 := by kernel_rfl
theorem bytes2 : Try.prog.bytesOf 2 = 8 := by kernel_rfl
theorem zero2 : zeroOf Try.prog 2 = .int .i64 0 := by kernel_rfl
theorem cells3 : Try.prog.cellsOf 3 = 1 := by kernel_rfl
theorem bytes3 : Try.prog.bytesOf 3 = 8 := by kernel_rfl
theorem zero3 : zeroOf Try.prog 3 = .int .i64 0 := by kernel_rfl
theorem cells4 : Try.prog.cellsOf 4 = 1 := by kernel_rfl
theorem bytes4 : Try.prog.bytesOf 4 = 1 := by kernel_rfl
theorem zero4 : zeroOf Try.prog 4 = .bool false := by kernel_rfl
theorem cells5 : Try.prog.cellsOf 5 = 1 := by kernel_rfl
theorem bytes5 : Try.prog.bytesOf 5 = 1 := by kernel_rfl
theorem zero5 : zeroOf Try.prog 5 = .int .u8 0 := by kernel_rfl
theorem cells6 : Try.prog.cellsOf 6 = 1 := by kernel_rfl
theorem bytes6 : Try.prog.bytesOf 6 = 1 := by kernel_rfl
theorem zero6 : zeroOf Try.prog 6 = .int .u8 0 := by kernel_rfl
theorem cells9 : Try.prog.cellsOf 9 = 1 := by kernel_rfl
theorem bytes9 : Try.prog.bytesOf 9 = 16 := by kernel_rfl
theorem zero9 : zeroOf Try.prog 9 = .str [] := by kernel_rfl
theorem cells12 : Try.prog.cellsOf 12 = 1 := by kernel_rfl
theorem bytes12 : Try.prog.bytesOf 12 = 8 := by kernel_rfl
theorem zero12 : zeroOf Try.prog 12 = .int .u64 0 := by kernel_rfl
theorem cells21 : Try.prog.cellsOf 21 = 1 := by kernel_rfl
theorem bytes21 : Try.prog.bytesOf 21 = 4 := by kernel_rfl
theorem zero21 : zeroOf Try.prog 21 = .int .i32 0 := by kernel_rfl
theorem cells22 : Try.prog.cellsOf 22 = 1 := by kernel_rfl
theorem bytes22 : Try.prog.bytesOf 22 = 24 := by kernel_rfl
theorem zero22 : zeroOf Try.prog 22 = .nils := by kernel_rfl
theorem cells23 : Try.prog.cellsOf 23 = 1 := by kernel_rfl
theorem bytes23 : Try.prog.bytesOf 23 = 24 := by kernel_rfl
theorem zero23 : zeroOf Try.prog 23 = .nils := by kernel_rfl
theorem cells24 : Try.prog.cellsOf 24 = 1 := by kernel_rfl
theorem bytes24 : Try.prog.bytesOf 24 = 4 := by kernel_rfl
theorem zero24 : zeroOf Try.prog 24 = .flt .f32 0 := by kernel_rfl
theorem cells31 : Try.prog.cellsOf 31 = 1 := by kernel_rfl
theorem bytes31 : Try.prog.bytesOf 31 = 8 := by kernel_rfl
theorem zero31 : zeroOf Try.prog 31 = .flt .f64 0 := by kernel_rfl
theorem cells44 : Try.prog.cellsOf 44 = 1 := by kernel_rfl
theorem bytes44 : Try.prog.bytesOf 44 = 24 := by kernel_rfl
theorem zero44 : zeroOf Try.prog 44 = .nils := by kernel_rfl
theorem cells57 : Try.prog.cellsOf 57 = 1 := by kernel_rfl
theorem bytes57 : Try.prog.bytesOf 57 = 8 := by kernel_rfl
theorem zero57 : zeroOf Try.prog 57 = .int .u64 0 := by kernel_rfl
theorem cells60 : Try.prog.cellsOf 60 = 4 := by kernel_rfl
theorem bytes60 : Try.prog.bytesOf 60 = 40 := by kernel_rfl
theorem zero60 : zeroOf Try.prog 60 = .agg [.nilp, .nilp, .nilp, .str []] := by kernel_rfl
theorem cells61 : Try.prog.cellsOf 61 = 4 := by kernel_rfl
theorem bytes61 : Try.prog.bytesOf 61 = 40 := by kernel_rfl
theorem zero61 : zeroOf Try.prog 61 = .agg [.nilp, .nilp, .nilp, .str []] := by kernel_rfl
theorem cells66 : Try.prog.cellsOf 66 = 1 := by kernel_rfl
theorem bytes66 : Try.prog.bytesOf 66 = 4 := by kernel_rfl
theorem zero66 : zeroOf Try.prog 66 = .int .u32 0 := by kernel_rfl
theorem cells67 : Try.prog.cellsOf 67 = 1 := by kernel_rfl
theorem bytes67 : Try.prog.bytesOf 67 = 1 := by kernel_rfl
theorem zero67 : zeroOf Try.prog 67 = .int .u8 0 := by kernel_rfl
theorem cells68 : Try.prog.cellsOf 68 = 1 := by kernel_rfl
theorem bytes68 : Try.prog.bytesOf 68 = 1 := by kernel_rfl
theorem zero68 : zeroOf Try.prog 68 = .int .u8 0 := by kernel_rfl
theorem cells70 : Try.prog.cellsOf 70 = 1 := by kernel_rfl
theorem bytes70 : Try.prog.bytesOf 70 = 8 := by kernel_rfl
theorem zero70 : zeroOf Try.prog 70 = .nilp := by kernel_rfl
theorem cells71 : Try.prog.cellsOf 71 = 1 := by kernel_rfl
theorem bytes71 : Try.prog.bytesOf 71 = 4 := by kernel_rfl
theorem zero71 : zeroOf Try.prog 71 = .int .i32 0 := by kernel_rfl
theorem cells72 : Try.prog.cellsOf 72 = 1 := by kernel_rfl
theorem bytes72 : Try.prog.bytesOf 72 = 4 := by kernel_rfl
theorem zero72 : zeroOf Try.prog 72 = .int .i32 0 := by kernel_rfl
theorem cells73 : Try.prog.cellsOf 73 = 11 := by kernel_rfl
theorem bytes73 : Try.prog.bytesOf 73 = 48 := by kernel_rfl
theorem zero73 : zeroOf Try.prog 73 = .agg [.int .u64 0, .int .u64 0, .int .u32 0, .int .u8 0, .int .u8 0, .int .u8 0, .int .u8 0, .nilf, .nilp, .int .i32 0, .int .i32 0] := by kernel_rfl
theorem cells74 : Try.prog.cellsOf 74 = 11 := by kernel_rfl
theorem bytes74 : Try.prog.bytesOf 74 = 48 := by kernel_rfl
theorem zero74 : zeroOf Try.prog 74 = .agg [.int .u64 0, .int .u64 0, .int .u32 0, .int .u8 0, .int .u8 0, .int .u8 0, .int .u8 0, .nilf, .nilp, .int .i32 0, .int .i32 0] := by kernel_rfl
theorem field7_0 : fieldOf Try.prog 7 0 = some ⟨ "x", 2, 0, false, "", "runtime", 0⟩ := by kernel_rfl
theorem field7_1 : fieldOf Try.prog 7 1 = some ⟨ "y", 3, 1, false, "", "runtime", 8⟩ := by kernel_rfl
theorem field7_2 : fieldOf Try.prog 7 2 = some ⟨ "signed", 4, 2, false, "", "runtime", 16⟩ := by kernel_rfl
theorem field7_3 : fieldOf Try.prog 7 3 = some ⟨ "code", 6, 3, false, "", "runtime", 17⟩ := by kernel_rfl
theorem field8_0 : fieldOf Try.prog 8 0 = some ⟨ "x", 2, 0, false, "", "runtime", 0⟩ := by kernel_rfl
theorem field8_1 : fieldOf Try.prog 8 1 = some ⟨ "y", 3, 1, false, "", "runtime", 8⟩ := by kernel_rfl
theorem field8_2 : fieldOf Try.prog 8 2 = some ⟨ "signed", 4, 2, false, "", "runtime", 16⟩ := by kernel_rfl
theorem field8_3 : fieldOf Try.prog 8 3 = some ⟨ "code", 6, 3, false, "", "runtime", 17⟩ := by kernel_rfl
theorem field13_0 : fieldOf Try.prog 13 0 = some ⟨ "msg", 9, 0, false, "", "runtime", 0⟩ := by kernel_rfl
theorem field13_1 : fieldOf Try.prog 13 1 = some ⟨ "addr", 12, 1, false, "", "runtime", 16⟩ := by kernel_rfl
theorem field14_0 : fieldOf Try.prog 14 0 = some ⟨ "msg", 9, 0, false, "", "runtime", 0⟩ := by kernel_rfl
theorem field14_1 : fieldOf Try.prog 14 1 = some ⟨ "addr", 12, 1, false, "", "runtime", 16⟩ := by kernel_rfl
theorem field18_0 : fieldOf Try.prog 18 0 = some ⟨ "typ", 17, 0, false, "", "internal/runtime/maps", 0⟩ := by kernel_rfl
theorem field19_0 : fieldOf Try.prog 19 0 = some ⟨ "typ", 17, 0, false, "", "internal/runtime/maps", 0⟩ := by kernel_rfl
theorem field60_0 : fieldOf Try.prog 60 0 = some ⟨ "_interface", 17, 0, false, "", "runtime", 0⟩ := by kernel_rfl
theorem field60_1 : fieldOf Try.prog 60 1 = some ⟨ "concrete", 17, 1, false, "", "runtime", 8⟩ := by kernel_rfl
theorem field60_2 : fieldOf Try.prog 60 2 = some ⟨ "asserted", 17, 2, false, "", "runtime", 16⟩ := by kernel_rfl
theorem field60_3 : fieldOf Try.prog 60 3 = some ⟨ "missingMethod", 9, 3, false, "", "runtime", 24⟩ := by kernel_rfl
theorem field61_0 : fieldOf Try.prog 61 0 = some ⟨ "_interface", 17, 0, false, "", "runtime", 0⟩ := by kernel_rfl
theorem field61_1 : fieldOf Try.prog 61 1 = some ⟨ "concrete", 17, 1, false, "", "runtime", 8⟩ := by kernel_rfl
theorem field61_2 : fieldOf Try.prog 61 2 = some ⟨ "asserted", 17, 2, false, "", "runtime", 16⟩ := by kernel_rfl
theorem field61_3 : fieldOf Try.prog 61 3 = some ⟨ "missingMethod", 9, 3, false, "", "runtime", 24⟩ := by kernel_rfl
theorem field63_0 : fieldOf Try.prog 63 0 = some ⟨ "_", 62, 0, false, "", "runtime", 0⟩ := by kernel_rfl
theorem field64_0 : fieldOf Try.prog 64 0 = some ⟨ "_", 62, 0, false, "", "runtime", 0⟩ := by kernel_rfl
theorem field73_0 : fieldOf Try.prog 73 0 = some ⟨ "Size_", 12, 0, false, "", "", 0⟩ := by kernel_rfl
theorem field73_1 : fieldOf Try.prog 73 1 = some ⟨ "PtrBytes", 12, 1, false, "", "", 8⟩ := by kernel_rfl
theorem field73_2 : fieldOf Try.prog 73 2 = some ⟨ "Hash", 66, 2, false, "", "", 16⟩ := by kernel_rfl
theorem field73_3 : fieldOf Try.prog 73 3 = some ⟨ "TFlag", 67, 3, false, "", "", 20⟩ := by kernel_rfl
theorem field73_4 : fieldOf Try.prog 73 4 = some ⟨ "Align_", 5, 4, false, "", "", 21⟩ := by kernel_rfl
theorem field73_5 : fieldOf Try.prog 73 5 = some ⟨ "FieldAlign_", 5, 5, false, "", "", 22⟩ := by kernel_rfl
theorem field73_6 : fieldOf Try.prog 73 6 = some ⟨ "Kind_", 68, 6, false, "", "", 23⟩ := by kernel_rfl
theorem field73_7 : fieldOf Try.prog 73 7 = some ⟨ "Equal", 69, 7, false, "", "", 24⟩ := by kernel_rfl
theorem field73_8 : fieldOf Try.prog 73 8 = some ⟨ "GCData", 70, 8, false, "", "", 32⟩ := by kernel_rfl
theorem field73_9 : fieldOf Try.prog 73 9 = some ⟨ "Str", 71, 9, false, "", "", 40⟩ := by kernel_rfl
theorem field73_10 : fieldOf Try.prog 73 10 = some ⟨ "PtrToThis", 72, 10, false, "", "", 44⟩ := by kernel_rfl
theorem field74_0 : fieldOf Try.prog 74 0 = some ⟨ "Size_", 12, 0, false, "", "", 0⟩ := by kernel_rfl
theorem field74_1 : fieldOf Try.prog 74 1 = some ⟨ "PtrBytes", 12, 1, false, "", "", 8⟩ := by kernel_rfl
theorem field74_2 : fieldOf Try.prog 74 2 = some ⟨ "Hash", 66, 2, false, "", "", 16⟩ := by kernel_rfl
theorem field74_3 : fieldOf Try.prog 74 3 = some ⟨ "TFlag", 67, 3, false, "", "", 20⟩ := by kernel_rfl
theorem field74_4 : fieldOf Try.prog 74 4 = some ⟨ "Align_", 5, 4, false, "", "", 21⟩ := by kernel_rfl
theorem field74_5 : fieldOf Try.prog 74 5 = some ⟨ "FieldAlign_", 5, 5, false, "", "", 22⟩ := by kernel_rfl
theorem field74_6 : fieldOf Try.prog 74 6 = some ⟨ "Kind_", 68, 6, false, "", "", 23⟩ := by kernel_rfl
theorem field74_7 : fieldOf Try.prog 74 7 = some ⟨ "Equal", 69, 7, false, "", "", 24⟩ := by kernel_rfl
theorem field74_8 : fieldOf Try.prog 74 8 = some ⟨ "GCData", 70, 8, false, "", "", 32⟩ := by kernel_rfl
theorem field74_9 : fieldOf Try.prog 74 9 = some ⟨ "Str", 71, 9, false, "", "", 40⟩ := by kernel_rfl
theorem field74_10 : fieldOf Try.prog 74 10 = some ⟨ "PtrToThis", 72, 10, false, "", "", 44⟩ := by kernel_rfl

/-! All facts on types, some at once. -/
theorem tys0 :
  Try.prog.cellsOf 2 = 1 ∧
  Try.prog.bytesOf 2 = 8 ∧
  zeroOf Try.prog 2 = .int .i64 0 ∧
  Try.prog.cellsOf 3 = 1 ∧
  Try.prog.bytesOf 3 = 8 ∧
  zeroOf Try.prog 3 = .int .i64 0 ∧
  Try.prog.cellsOf 4 = 1 ∧
  Try.prog.bytesOf 4 = 1 ∧
  zeroOf Try.prog 4 = .bool false ∧
  Try.prog.cellsOf 5 = 1 ∧
  Try.prog.bytesOf 5 = 1 ∧
  zeroOf Try.prog 5 = .int .u8 0 ∧
  Try.prog.cellsOf 6 = 1 ∧
  Try.prog.bytesOf 6 = 1 ∧
  zeroOf Try.prog 6 = .int .u8 0 ∧
  Try.prog.cellsOf 9 = 1 ∧
  Try.prog.bytesOf 9 = 16 ∧
  zeroOf Try.prog 9 = .str [] ∧
  Try.prog.cellsOf 12 = 1 ∧
  Try.prog.bytesOf 12 = 8 ∧
  zeroOf Try.prog 12 = .int .u64 0 ∧
  Try.prog.cellsOf 21 = 1 ∧
  Try.prog.bytesOf 21 = 4 ∧
  zeroOf Try.prog 21 = .int .i32 0 ∧
  Try.prog.cellsOf 22 = 1 ∧
  Try.prog.bytesOf 22 = 24 ∧
  zeroOf Try.prog 22 = .nils ∧
  Try.prog.cellsOf 23 = 1 ∧
  Try.prog.bytesOf 23 = 24 ∧
  zeroOf Try.prog 23 = .nils ∧
  Try.prog.cellsOf 24 = 1 ∧
  Try.prog.bytesOf 24 = 4 ∧
  zeroOf Try.prog 24 = .flt .f32 0 ∧
  Try.prog.cellsOf 31 = 1 ∧
  Try.prog.bytesOf 31 = 8 ∧
  zeroOf Try.prog 31 = .flt .f64 0 ∧
  Try.prog.cellsOf 44 = 1 ∧
  Try.prog.bytesOf 44 = 24 ∧
  zeroOf Try.prog 44 = .nils ∧
  Try.prog.cellsOf 57 = 1 :=
  ⟨cells2, bytes2, zero2, cells3, bytes3, zero3, cells4, bytes4, zero4, cells5, bytes5, zero5, cells6, bytes6, zero6, cells9, bytes9, zero9, cells12, bytes12, zero12, cells21, bytes21, zero21, cells22, bytes22, zero22, cells23, bytes23, zero23, cells24, bytes24, zero24, cells31, bytes31, zero31, cells44, bytes44, zero44, cells57⟩
theorem tys1 :
  Try.prog.bytesOf 57 = 8 ∧
  zeroOf Try.prog 57 = .int .u64 0 ∧
  Try.prog.cellsOf 60 = 4 ∧
  Try.prog.bytesOf 60 = 40 ∧
  zeroOf Try.prog 60 = .agg [.nilp, .nilp, .nilp, .str []] ∧
  Try.prog.cellsOf 61 = 4 ∧
  Try.prog.bytesOf 61 = 40 ∧
  zeroOf Try.prog 61 = .agg [.nilp, .nilp, .nilp, .str []] ∧
  Try.prog.cellsOf 66 = 1 ∧
  Try.prog.bytesOf 66 = 4 ∧
  zeroOf Try.prog 66 = .int .u32 0 ∧
  Try.prog.cellsOf 67 = 1 ∧
  Try.prog.bytesOf 67 = 1 ∧
  zeroOf Try.prog 67 = .int .u8 0 ∧
  Try.prog.cellsOf 68 = 1 ∧
  Try.prog.bytesOf 68 = 1 ∧
  zeroOf Try.prog 68 = .int .u8 0 ∧
  Try.prog.cellsOf 70 = 1 ∧
  Try.prog.bytesOf 70 = 8 ∧
  zeroOf Try.prog 70 = .nilp ∧
  Try.prog.cellsOf 71 = 1 ∧
  Try.prog.bytesOf 71 = 4 ∧
  zeroOf Try.prog 71 = .int .i32 0 ∧
  Try.prog.cellsOf 72 = 1 ∧
  Try.prog.bytesOf 72 = 4 ∧
  zeroOf Try.prog 72 = .int .i32 0 ∧
  Try.prog.cellsOf 73 = 11 ∧
  Try.prog.bytesOf 73 = 48 ∧
  zeroOf Try.prog 73 = .agg [.int .u64 0, .int .u64 0, .int .u32 0, .int .u8 0, .int .u8 0, .int .u8 0, .int .u8 0, .nilf, .nilp, .int .i32 0, .int .i32 0] ∧
  Try.prog.cellsOf 74 = 11 ∧
  Try.prog.bytesOf 74 = 48 ∧
  zeroOf Try.prog 74 = .agg [.int .u64 0, .int .u64 0, .int .u32 0, .int .u8 0, .int .u8 0, .int .u8 0, .int .u8 0, .nilf, .nilp, .int .i32 0, .int .i32 0] ∧
  fieldOf Try.prog 60 0 = some ⟨ "_interface", 17, 0, false, "", "runtime", 0⟩ ∧
  fieldOf Try.prog 60 1 = some ⟨ "concrete", 17, 1, false, "", "runtime", 8⟩ ∧
  fieldOf Try.prog 60 2 = some ⟨ "asserted", 17, 2, false, "", "runtime", 16⟩ ∧
  fieldOf Try.prog 60 3 = some ⟨ "missingMethod", 9, 3, false, "", "runtime", 24⟩ ∧
  fieldOf Try.prog 61 0 = some ⟨ "_interface", 17, 0, false, "", "runtime", 0⟩ ∧
  fieldOf Try.prog 61 1 = some ⟨ "concrete", 17, 1, false, "", "runtime", 8⟩ ∧
  fieldOf Try.prog 61 2 = some ⟨ "asserted", 17, 2, false, "", "runtime", 16⟩ ∧
  fieldOf Try.prog 61 3 = some ⟨ "missingMethod", 9, 3, false, "", "runtime", 24⟩ :=
  ⟨bytes57, zero57, cells60, bytes60, zero60, cells61, bytes61, zero61, cells66, bytes66, zero66, cells67, bytes67, zero67, cells68, bytes68, zero68, cells70, bytes70, zero70, cells71, bytes71, zero71, cells72, bytes72, zero72, cells73, bytes73, zero73, cells74, bytes74, zero74, field60_0, field60_1, field60_2, field60_3, field61_0, field61_1, field61_2, field61_3⟩
theorem tys2 :
  fieldOf Try.prog 73 0 = some ⟨ "Size_", 12, 0, false, "", "", 0⟩ ∧
  fieldOf Try.prog 73 1 = some ⟨ "PtrBytes", 12, 1, false, "", "", 8⟩ ∧
  fieldOf Try.prog 73 2 = some ⟨ "Hash", 66, 2, false, "", "", 16⟩ ∧
  fieldOf Try.prog 73 3 = some ⟨ "TFlag", 67, 3, false, "", "", 20⟩ ∧
  fieldOf Try.prog 73 4 = some ⟨ "Align_", 5, 4, false, "", "", 21⟩ ∧
  fieldOf Try.prog 73 5 = some ⟨ "FieldAlign_", 5, 5, false, "", "", 22⟩ ∧
  fieldOf Try.prog 73 6 = some ⟨ "Kind_", 68, 6, false, "", "", 23⟩ ∧
  fieldOf Try.prog 73 7 = some ⟨ "Equal", 69, 7, false, "", "", 24⟩ ∧
  fieldOf Try.prog 73 8 = some ⟨ "GCData", 70, 8, false, "", "", 32⟩ ∧
  fieldOf Try.prog 73 9 = some ⟨ "Str", 71, 9, false, "", "", 40⟩ ∧
  fieldOf Try.prog 73 10 = some ⟨ "PtrToThis", 72, 10, false, "", "", 44⟩ ∧
  fieldOf Try.prog 74 0 = some ⟨ "Size_", 12, 0, false, "", "", 0⟩ ∧
  fieldOf Try.prog 74 1 = some ⟨ "PtrBytes", 12, 1, false, "", "", 8⟩ ∧
  fieldOf Try.prog 74 2 = some ⟨ "Hash", 66, 2, false, "", "", 16⟩ ∧
  fieldOf Try.prog 74 3 = some ⟨ "TFlag", 67, 3, false, "", "", 20⟩ ∧
  fieldOf Try.prog 74 4 = some ⟨ "Align_", 5, 4, false, "", "", 21⟩ ∧
  fieldOf Try.prog 74 5 = some ⟨ "FieldAlign_", 5, 5, false, "", "", 22⟩ ∧
  fieldOf Try.prog 74 6 = some ⟨ "Kind_", 68, 6, false, "", "", 23⟩ ∧
  fieldOf Try.prog 74 7 = some ⟨ "Equal", 69, 7, false, "", "", 24⟩ ∧
  fieldOf Try.prog 74 8 = some ⟨ "GCData", 70, 8, false, "", "", 32⟩ ∧
  fieldOf Try.prog 74 9 = some ⟨ "Str", 71, 9, false, "", "", 40⟩ ∧
  fieldOf Try.prog 74 10 = some ⟨ "PtrToThis", 72, 10, false, "", "", 44⟩ :=
  ⟨field73_0, field73_1, field73_2, field73_3, field73_4, field73_5, field73_6, field73_7, field73_8, field73_9, field73_10, field74_0, field74_1, field74_2, field74_3, field74_4, field74_5, field74_6, field74_7, field74_8, field74_9, field74_10⟩
def und0 := And.intro @Try.underlying2 (And.intro @Try.underlying3 (And.intro @Try.underlying4 (And.intro @Try.underlying5 (And.intro @Try.underlying6 (And.intro @Try.underlying9 (And.intro @Try.underlying12 (And.intro @Try.underlying21 (And.intro @Try.underlying22 (And.intro @Try.underlying23 (And.intro @Try.underlying24 @Try.underlying31))))))))))
def und1 := And.intro @Try.underlying44 (And.intro @Try.underlying57 (And.intro @Try.underlying60 (And.intro @Try.underlying61 (And.intro @Try.underlying66 (And.intro @Try.underlying67 (And.intro @Try.underlying68 (And.intro @Try.underlying70 (And.intro @Try.underlying71 (And.intro @Try.underlying72 (And.intro @Try.underlying73 @Try.underlying74))))))))))
/- tys0 tys1 tys2 und0 und1 -/

theorem go2 : isGo Try.prog 2 := by unfold isGo; rw [Try.func2]; exact ⟨rfl, by kernel_rfl⟩
theorem go3 : isGo Try.prog 3 := by unfold isGo; rw [Try.func3]; exact ⟨rfl, by kernel_rfl⟩
theorem go4 : isGo Try.prog 4 := by unfold isGo; rw [Try.func4]; exact ⟨rfl, by kernel_rfl⟩
theorem go5 : isGo Try.prog 5 := by unfold isGo; rw [Try.func5]; exact ⟨rfl, by kernel_rfl⟩
theorem go6 : isGo Try.prog 6 := by unfold isGo; rw [Try.func6]; exact ⟨rfl, by kernel_rfl⟩
theorem go7 : isGo Try.prog 7 := by unfold isGo; rw [Try.func7]; exact ⟨rfl, by kernel_rfl⟩
theorem go8 : isGo Try.prog 8 := by unfold isGo; rw [Try.func8]; exact ⟨rfl, by kernel_rfl⟩
theorem go9 : isGo Try.prog 9 := by unfold isGo; rw [Try.func9]; exact ⟨rfl, by kernel_rfl⟩
theorem go10 : isGo Try.prog 10 := by unfold isGo; rw [Try.func10]; exact ⟨rfl, by kernel_rfl⟩
theorem go11 : isGo Try.prog 11 := by unfold isGo; rw [Try.func11]; exact ⟨rfl, by kernel_rfl⟩
theorem go12 : isGo Try.prog 12 := by unfold isGo; rw [Try.func12]; exact ⟨rfl, by kernel_rfl⟩
theorem go13 : isGo Try.prog 13 := by unfold isGo; rw [Try.func13]; exact ⟨rfl, by kernel_rfl⟩
theorem go14 : isGo Try.prog 14 := by unfold isGo; rw [Try.func14]; exact ⟨rfl, by kernel_rfl⟩
theorem go15 : isGo Try.prog 15 := by unfold isGo; rw [Try.func15]; exact ⟨rfl, by kernel_rfl⟩
theorem go16 : isGo Try.prog 16 := by unfold isGo; rw [Try.func16]; exact ⟨rfl, by kernel_rfl⟩
theorem go17 : isGo Try.prog 17 := by unfold isGo; rw [Try.func17]; exact ⟨rfl, by kernel_rfl⟩
theorem go18 : isGo Try.prog 18 := by unfold isGo; rw [Try.func18]; exact ⟨rfl, by kernel_rfl⟩
theorem go19 : isGo Try.prog 19 := by unfold isGo; rw [Try.func19]; exact ⟨rfl, by kernel_rfl⟩
theorem go20 : isGo Try.prog 20 := by unfold isGo; rw [Try.func20]; exact ⟨rfl, by kernel_rfl⟩
theorem go21 : isGo Try.prog 21 := by unfold isGo; rw [Try.func21]; exact ⟨rfl, by kernel_rfl⟩
theorem go22 : isGo Try.prog 22 := by unfold isGo; rw [Try.func22]; exact ⟨rfl, by kernel_rfl⟩
theorem go23 : isGo Try.prog 23 := by unfold isGo; rw [Try.func23]; exact ⟨rfl, by kernel_rfl⟩
theorem go24 : isGo Try.prog 24 := by unfold isGo; rw [Try.func24]; exact ⟨rfl, by kernel_rfl⟩
theorem go25 : isGo Try.prog 25 := by unfold isGo; rw [Try.func25]; exact ⟨rfl, by kernel_rfl⟩
theorem go26 : isGo Try.prog 26 := by unfold isGo; rw [Try.func26]; exact ⟨rfl, by kernel_rfl⟩
theorem go27 : isGo Try.prog 27 := by unfold isGo; rw [Try.func27]; exact ⟨rfl, by kernel_rfl⟩
theorem go28 : isGo Try.prog 28 := by unfold isGo; rw [Try.func28]; exact ⟨rfl, by kernel_rfl⟩
theorem go29 : isGo Try.prog 29 := by unfold isGo; rw [Try.func29]; exact ⟨rfl, by kernel_rfl⟩
theorem go30 : isGo Try.prog 30 := by unfold isGo; rw [Try.func30]; exact ⟨rfl, by kernel_rfl⟩
theorem go31 : isGo Try.prog 31 := by unfold isGo; rw [Try.func31]; exact ⟨rfl, by kernel_rfl⟩
theorem go32 : isGo Try.prog 32 := by unfold isGo; rw [Try.func32]; exact ⟨rfl, by kernel_rfl⟩
theorem go33 : isGo Try.prog 33 := by unfold isGo; rw [Try.func33]; exact ⟨rfl, by kernel_rfl⟩
theorem go34 : isGo Try.prog 34 := by unfold isGo; rw [Try.func34]; exact ⟨rfl, by kernel_rfl⟩
theorem go35 : isGo Try.prog 35 := by unfold isGo; rw [Try.func35]; exact ⟨rfl, by kernel_rfl⟩
theorem go36 : isGo Try.prog 36 := by unfold isGo; rw [Try.func36]; exact ⟨rfl, by kernel_rfl⟩
theorem go37 : isGo Try.prog 37 := by unfold isGo; rw [Try.func37]; exact ⟨rfl, by kernel_rfl⟩
theorem go38 : isGo Try.prog 38 := by unfold isGo; rw [Try.func38]; exact ⟨rfl, by kernel_rfl⟩
theorem go39 : isGo Try.prog 39 := by unfold isGo; rw [Try.func39]; exact ⟨rfl, by kernel_rfl⟩
theorem go40 : isGo Try.prog 40 := by unfold isGo; rw [Try.func40]; exact ⟨rfl, by kernel_rfl⟩
theorem go41 : isGo Try.prog 41 := by unfold isGo; rw [Try.func41]; exact ⟨rfl, by kernel_rfl⟩
theorem go42 : isGo Try.prog 42 := by unfold isGo; rw [Try.func42]; exact ⟨rfl, by kernel_rfl⟩
theorem go43 : isGo Try.prog 43 := by unfold isGo; rw [Try.func43]; exact ⟨rfl, by kernel_rfl⟩
theorem go44 : isGo Try.prog 44 := by unfold isGo; rw [Try.func44]; exact ⟨rfl, by kernel_rfl⟩
def md2 : Nat → List Bool := fun _ => []
def md3 : Nat → List Bool := fun _ => []
def md4 : Nat → List Bool
  | 13 => [false, false, false, false, false, false, false, false, false, false]
  | _ => []
def md5 : Nat → List Bool := fun _ => []
def md6 : Nat → List Bool := fun _ => []
def md7 : Nat → List Bool := fun _ => []
def md8 : Nat → List Bool
  | 6 => [false, false, false, false, false, false, false, false, false, false, false, false]
  | _ => []
def md9 : Nat → List Bool := fun _ => []
def md10 : Nat → List Bool
  | 6 => [false, false, false, false, false, false, false, false, false]
  | _ => []
def md11 : Nat → List Bool := fun _ => []
def md12 : Nat → List Bool := fun _ => []
def md13 : Nat → List Bool := fun _ => []
def md14 : Nat → List Bool := fun _ => []
def md15 : Nat → List Bool := fun _ => []
def md16 : Nat → List Bool := fun _ => []
def md17 : Nat → List Bool
  | 3 => [false, false, false, false, false, false, false, false, false, false]
  | _ => []
def md18 : Nat → List Bool := fun _ => []
def md19 : Nat → List Bool := fun _ => []
def md20 : Nat → List Bool := fun _ => []
def md21 : Nat → List Bool := fun _ => []
def md22 : Nat → List Bool := fun _ => []
def md23 : Nat → List Bool := fun _ => []
def md24 : Nat → List Bool := fun _ => []
def md25 : Nat → List Bool := fun _ => []
def md26 : Nat → List Bool := fun _ => []
def md27 : Nat → List Bool := fun _ => []
def md28 : Nat → List Bool := fun _ => []
def md29 : Nat → List Bool := fun _ => []
def md30 : Nat → List Bool := fun _ => []
def md31 : Nat → List Bool := fun _ => []
def md32 : Nat → List Bool := fun _ => []
def md33 : Nat → List Bool := fun _ => []
def md34 : Nat → List Bool := fun _ => []
def md35 : Nat → List Bool := fun _ => []
def md36 : Nat → List Bool := fun _ => []
def md37 : Nat → List Bool := fun _ => []
def md38 : Nat → List Bool := fun _ => []
def md39 : Nat → List Bool := fun _ => []
def md40 : Nat → List Bool := fun _ => []
def md41 : Nat → List Bool := fun _ => []
def md42 : Nat → List Bool := fun _ => []
def md43 : Nat → List Bool := fun _ => []
def md44 : Nat → List Bool := fun _ => []

end Go.Proofs.Ytiecjfmokfhekaa
