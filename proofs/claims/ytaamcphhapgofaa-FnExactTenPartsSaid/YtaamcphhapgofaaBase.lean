/- Closed facts of the program, for the abstract layer: types and functions. Printed by gen_base.py. -/
import Derived.Test.YtaamcphhapgofaaProg
import Derived.Test.YtaamcphhapgofaaAbsY
set_option linter.unusedVariables false
set_option linter.defProp false
namespace Go.Proofs.Ytaamcphhapgofaa
open Go Go.Abs

theorem mixed : Try.prog.follows .mixedOrders = true := by kernel_rfl
theorem cells2 : Try.prog.cellsOf 2 = 1 := by kernel_rfl
theorem bytes2 : Try.prog.bytesOf 2 = 8 := by kernel_rfl
theorem zero2 : zeroOf Try.prog 2 = .int .i64 0 := by kernel_rfl
theorem cells3 : Try.prog.cellsOf 3 = 1 := by kernel_rfl
theorem bytes3 : Try.prog.bytesOf 3 = 8 := by kernel_rfl
theorem zero3 : zeroOf Try.prog 3 = .int .i64 0 := by kernel_rfl
theorem cells4 : Try.prog.cellsOf 4 = 1 := by kernel_rfl
theorem bytes4 : Try.prog.bytesOf 4 = 1 := by kernel_rfl
theorem zero4 : zeroOf Try.prog 4 = .bool false := by kernel_rfl
theorem cells5 : Try.prog.cellsOf 5 = 1 := by kernel_rfl
theorem bytes5 : Try.prog.bytesOf 5 = 1 := by kernel_rfl
theorem zero5 : zeroOf Try.prog 5 = .int .u8 0 := by kernel_rfl
theorem cells6 : Try.prog.cellsOf 6 = 1 := by kernel_rfl
theorem bytes6 : Try.prog.bytesOf 6 = 1 := by kernel_rfl
theorem zero6 : zeroOf Try.prog 6 = .int .u8 0 := by kernel_rfl
theorem cells9 : Try.prog.cellsOf 9 = 1 := by kernel_rfl
theorem bytes9 : Try.prog.bytesOf 9 = 16 := by kernel_rfl
theorem zero9 : zeroOf Try.prog 9 = .str [] := by kernel_rfl
theorem cells12 : Try.prog.cellsOf 12 = 1 := by kernel_rfl
theorem bytes12 : Try.prog.bytesOf 12 = 8 := by kernel_rfl
theorem zero12 : zeroOf Try.prog 12 = .int .u64 0 := by kernel_rfl
theorem cells21 : Try.prog.cellsOf 21 = 1 := by kernel_rfl
theorem bytes21 : Try.prog.bytesOf 21 = 4 := by kernel_rfl
theorem zero21 : zeroOf Try.prog 21 = .int .i32 0 := by kernel_rfl
theorem cells22 : Try.prog.cellsOf 22 = 1 := by kernel_rfl
theorem bytes22 : Try.prog.bytesOf 22 = 24 := by kernel_rfl
theorem zero22 : zeroOf Try.prog 22 = .nils := by kernel_rfl
theorem cells44 : Try.prog.cellsOf 44 = 1 := by kernel_rfl
theorem bytes44 : Try.prog.bytesOf 44 = 8 := by kernel_rfl
theorem zero44 : zeroOf Try.prog 44 = .int .u64 0 := by kernel_rfl
theorem cells48 : Try.prog.cellsOf 48 = 1 := by kernel_rfl
theorem bytes48 : Try.prog.bytesOf 48 = 8 := by kernel_rfl
theorem zero48 : zeroOf Try.prog 48 = .int .i64 0 := by kernel_rfl
theorem cells57 : Try.prog.cellsOf 57 = 1 := by kernel_rfl
theorem bytes57 : Try.prog.bytesOf 57 = 4 := by kernel_rfl
theorem zero57 : zeroOf Try.prog 57 = .int .u32 0 := by kernel_rfl
theorem cells59 : Try.prog.cellsOf 59 = 1 := by kernel_rfl
theorem bytes59 : Try.prog.bytesOf 59 = 8 := by kernel_rfl
theorem zero59 : zeroOf Try.prog 59 = .int .u64 0 := by kernel_rfl
theorem cells61 : Try.prog.cellsOf 61 = 1 := by kernel_rfl
theorem bytes61 : Try.prog.bytesOf 61 = 8 := by kernel_rfl
theorem zero61 : zeroOf Try.prog 61 = .int .u64 0 := by kernel_rfl
theorem cells65 : Try.prog.cellsOf 65 = 1 := by kernel_rfl
theorem bytes65 : Try.prog.bytesOf 65 = 8 := by kernel_rfl
theorem zero65 : zeroOf Try.prog 65 = .nilp := by kernel_rfl
theorem cells67 : Try.prog.cellsOf 67 = 1 := by kernel_rfl
theorem bytes67 : Try.prog.bytesOf 67 = 8 := by kernel_rfl
theorem zero67 : zeroOf Try.prog 67 = .nilp := by kernel_rfl
theorem cells71 : Try.prog.cellsOf 71 = 4 := by kernel_rfl
theorem bytes71 : Try.prog.bytesOf 71 = 40 := by kernel_rfl
theorem zero71 : zeroOf Try.prog 71 = .agg [.nilp, .nilp, .nilp, .str []] := by kernel_rfl
theorem cells72 : Try.prog.cellsOf 72 = 4 := by kernel_rfl
theorem bytes72 : Try.prog.bytesOf 72 = 40 := by kernel_rfl
theorem zero72 : zeroOf Try.prog 72 = .agg [.nilp, .nilp, .nilp, .str []] := by kernel_rfl
theorem cells77 : Try.prog.cellsOf 77 = 1 := by kernel_rfl
theorem bytes77 : Try.prog.bytesOf 77 = 1 := by kernel_rfl
theorem zero77 : zeroOf Try.prog 77 = .int .u8 0 := by kernel_rfl
theorem cells78 : Try.prog.cellsOf 78 = 1 := by kernel_rfl
theorem bytes78 : Try.prog.bytesOf 78 = 1 := by kernel_rfl
theorem zero78 : zeroOf Try.prog 78 = .int .u8 0 := by kernel_rfl
theorem cells80 : Try.prog.cellsOf 80 = 1 := by kernel_rfl
theorem bytes80 : Try.prog.bytesOf 80 = 8 := by kernel_rfl
theorem zero80 : zeroOf Try.prog 80 = .nilp := by kernel_rfl
theorem cells81 : Try.prog.cellsOf 81 = 1 := by kernel_rfl
theorem bytes81 : Try.prog.bytesOf 81 = 4 := by kernel_rfl
theorem zero81 : zeroOf Try.prog 81 = .int .i32 0 := by kernel_rfl
theorem cells82 : Try.prog.cellsOf 82 = 1 := by kernel_rfl
theorem bytes82 : Try.prog.bytesOf 82 = 4 := by kernel_rfl
theorem zero82 : zeroOf Try.prog 82 = .int .i32 0 := by kernel_rfl
theorem cells83 : Try.prog.cellsOf 83 = 11 := by kernel_rfl
theorem bytes83 : Try.prog.bytesOf 83 = 48 := by kernel_rfl
theorem zero83 : zeroOf Try.prog 83 = .agg [.int .u64 0, .int .u64 0, .int .u32 0, .int .u8 0, .int .u8 0, .int .u8 0, .int .u8 0, .nilf, .nilp, .int .i32 0, .int .i32 0] := by kernel_rfl
theorem cells84 : Try.prog.cellsOf 84 = 11 := by kernel_rfl
theorem bytes84 : Try.prog.bytesOf 84 = 48 := by kernel_rfl
theorem zero84 : zeroOf Try.prog 84 = .agg [.int .u64 0, .int .u64 0, .int .u32 0, .int .u8 0, .int .u8 0, .int .u8 0, .int .u8 0, .nilf, .nilp, .int .i32 0, .int .i32 0] := by kernel_rfl
theorem field7_0 : fieldOf Try.prog 7 0 = some ⟨ "x", 2, 0, false, "", "runtime", 0⟩ := by kernel_rfl
theorem field7_1 : fieldOf Try.prog 7 1 = some ⟨ "y", 3, 1, false, "", "runtime", 8⟩ := by kernel_rfl
theorem field7_2 : fieldOf Try.prog 7 2 = some ⟨ "signed", 4, 2, false, "", "runtime", 16⟩ := by kernel_rfl
theorem field7_3 : fieldOf Try.prog 7 3 = some ⟨ "code", 6, 3, false, "", "runtime", 17⟩ := by kernel_rfl
theorem field8_0 : fieldOf Try.prog 8 0 = some ⟨ "x", 2, 0, false, "", "runtime", 0⟩ := by kernel_rfl
theorem field8_1 : fieldOf Try.prog 8 1 = some ⟨ "y", 3, 1, false, "", "runtime", 8⟩ := by kernel_rfl
theorem field8_2 : fieldOf Try.prog 8 2 = some ⟨ "signed", 4, 2, false, "", "runtime", 16⟩ := by kernel_rfl
theorem field8_3 : fieldOf Try.prog 8 3 = some ⟨ "code", 6, 3, false, "", "runtime", 17⟩ := by kernel_rfl
theorem field13_0 : fieldOf Try.prog 13 0 = some ⟨ "msg", 9, 0, false, "", "runtime", 0⟩ := by kernel_rfl
theorem field13_1 : fieldOf Try.prog 13 1 = some ⟨ "addr", 12, 1, false, "", "runtime", 16⟩ := by kernel_rfl
theorem field14_0 : fieldOf Try.prog 14 0 = some ⟨ "msg", 9, 0, false, "", "runtime", 0⟩ := by kernel_rfl
theorem field14_1 : fieldOf Try.prog 14 1 = some ⟨ "addr", 12, 1, false, "", "runtime", 16⟩ := by kernel_rfl
theorem field18_0 : fieldOf Try.prog 18 0 = some ⟨ "typ", 17, 0, false, "", "internal/runtime/maps", 0⟩ := by kernel_rfl
theorem field19_0 : fieldOf Try.prog 19 0 = some ⟨ "typ", 17, 0, false, "", "internal/runtime/maps", 0⟩ := by kernel_rfl
theorem field71_0 : fieldOf Try.prog 71 0 = some ⟨ "_interface", 17, 0, false, "", "runtime", 0⟩ := by kernel_rfl
theorem field71_1 : fieldOf Try.prog 71 1 = some ⟨ "concrete", 17, 1, false, "", "runtime", 8⟩ := by kernel_rfl
theorem field71_2 : fieldOf Try.prog 71 2 = some ⟨ "asserted", 17, 2, false, "", "runtime", 16⟩ := by kernel_rfl
theorem field71_3 : fieldOf Try.prog 71 3 = some ⟨ "missingMethod", 9, 3, false, "", "runtime", 24⟩ := by kernel_rfl
theorem field72_0 : fieldOf Try.prog 72 0 = some ⟨ "_interface", 17, 0, false, "", "runtime", 0⟩ := by kernel_rfl
theorem field72_1 : fieldOf Try.prog 72 1 = some ⟨ "concrete", 17, 1, false, "", "runtime", 8⟩ := by kernel_rfl
theorem field72_2 : fieldOf Try.prog 72 2 = some ⟨ "asserted", 17, 2, false, "", "runtime", 16⟩ := by kernel_rfl
theorem field72_3 : fieldOf Try.prog 72 3 = some ⟨ "missingMethod", 9, 3, false, "", "runtime", 24⟩ := by kernel_rfl
theorem field74_0 : fieldOf Try.prog 74 0 = some ⟨ "_", 73, 0, false, "", "runtime", 0⟩ := by kernel_rfl
theorem field75_0 : fieldOf Try.prog 75 0 = some ⟨ "_", 73, 0, false, "", "runtime", 0⟩ := by kernel_rfl
theorem field83_0 : fieldOf Try.prog 83 0 = some ⟨ "Size_", 12, 0, false, "", "", 0⟩ := by kernel_rfl
theorem field83_1 : fieldOf Try.prog 83 1 = some ⟨ "PtrBytes", 12, 1, false, "", "", 8⟩ := by kernel_rfl
theorem field83_2 : fieldOf Try.prog 83 2 = some ⟨ "Hash", 57, 2, false, "", "", 16⟩ := by kernel_rfl
theorem field83_3 : fieldOf Try.prog 83 3 = some ⟨ "TFlag", 77, 3, false, "", "", 20⟩ := by kernel_rfl
theorem field83_4 : fieldOf Try.prog 83 4 = some ⟨ "Align_", 5, 4, false, "", "", 21⟩ := by kernel_rfl
theorem field83_5 : fieldOf Try.prog 83 5 = some ⟨ "FieldAlign_", 5, 5, false, "", "", 22⟩ := by kernel_rfl
theorem field83_6 : fieldOf Try.prog 83 6 = some ⟨ "Kind_", 78, 6, false, "", "", 23⟩ := by kernel_rfl
theorem field83_7 : fieldOf Try.prog 83 7 = some ⟨ "Equal", 79, 7, false, "", "", 24⟩ := by kernel_rfl
theorem field83_8 : fieldOf Try.prog 83 8 = some ⟨ "GCData", 80, 8, false, "", "", 32⟩ := by kernel_rfl
theorem field83_9 : fieldOf Try.prog 83 9 = some ⟨ "Str", 81, 9, false, "", "", 40⟩ := by kernel_rfl
theorem field83_10 : fieldOf Try.prog 83 10 = some ⟨ "PtrToThis", 82, 10, false, "", "", 44⟩ := by kernel_rfl
theorem field84_0 : fieldOf Try.prog 84 0 = some ⟨ "Size_", 12, 0, false, "", "", 0⟩ := by kernel_rfl
theorem field84_1 : fieldOf Try.prog 84 1 = some ⟨ "PtrBytes", 12, 1, false, "", "", 8⟩ := by kernel_rfl
theorem field84_2 : fieldOf Try.prog 84 2 = some ⟨ "Hash", 57, 2, false, "", "", 16⟩ := by kernel_rfl
theorem field84_3 : fieldOf Try.prog 84 3 = some ⟨ "TFlag", 77, 3, false, "", "", 20⟩ := by kernel_rfl
theorem field84_4 : fieldOf Try.prog 84 4 = some ⟨ "Align_", 5, 4, false, "", "", 21⟩ := by kernel_rfl
theorem field84_5 : fieldOf Try.prog 84 5 = some ⟨ "FieldAlign_", 5, 5, false, "", "", 22⟩ := by kernel_rfl
theorem field84_6 : fieldOf Try.prog 84 6 = some ⟨ "Kind_", 78, 6, false, "", "", 23⟩ := by kernel_rfl
theorem field84_7 : fieldOf Try.prog 84 7 = some ⟨ "Equal", 79, 7, false, "", "", 24⟩ := by kernel_rfl
theorem field84_8 : fieldOf Try.prog 84 8 = some ⟨ "GCData", 80, 8, false, "", "", 32⟩ := by kernel_rfl
theorem field84_9 : fieldOf Try.prog 84 9 = some ⟨ "Str", 81, 9, false, "", "", 40⟩ := by kernel_rfl
theorem field84_10 : fieldOf Try.prog 84 10 = some ⟨ "PtrToThis", 82, 10, false, "", "", 44⟩ := by kernel_rfl

/-! All facts on types, some at once. -/
theorem tys0 :
  Try.prog.cellsOf 2 = 1 ∧
  Try.prog.bytesOf 2 = 8 ∧
  zeroOf Try.prog 2 = .int .i64 0 ∧
  Try.prog.cellsOf 3 = 1 ∧
  Try.prog.bytesOf 3 = 8 ∧
  zeroOf Try.prog 3 = .int .i64 0 ∧
  Try.prog.cellsOf 4 = 1 ∧
  Try.prog.bytesOf 4 = 1 ∧
  zeroOf Try.prog 4 = .bool false ∧
  Try.prog.cellsOf 5 = 1 ∧
  Try.prog.bytesOf 5 = 1 ∧
  zeroOf Try.prog 5 = .int .u8 0 ∧
  Try.prog.cellsOf 6 = 1 ∧
  Try.prog.bytesOf 6 = 1 ∧
  zeroOf Try.prog 6 = .int .u8 0 ∧
  Try.prog.cellsOf 9 = 1 ∧
  Try.prog.bytesOf 9 = 16 ∧
  zeroOf Try.prog 9 = .str [] ∧
  Try.prog.cellsOf 12 = 1 ∧
  Try.prog.bytesOf 12 = 8 ∧
  zeroOf Try.prog 12 = .int .u64 0 ∧
  Try.prog.cellsOf 21 = 1 ∧
  Try.prog.bytesOf 21 = 4 ∧
  zeroOf Try.prog 21 = .int .i32 0 ∧
  Try.prog.cellsOf 22 = 1 ∧
  Try.prog.bytesOf 22 = 24 ∧
  zeroOf Try.prog 22 = .nils ∧
  Try.prog.cellsOf 44 = 1 ∧
  Try.prog.bytesOf 44 = 8 ∧
  zeroOf Try.prog 44 = .int .u64 0 ∧
  Try.prog.cellsOf 48 = 1 ∧
  Try.prog.bytesOf 48 = 8 ∧
  zeroOf Try.prog 48 = .int .i64 0 ∧
  Try.prog.cellsOf 57 = 1 ∧
  Try.prog.bytesOf 57 = 4 ∧
  zeroOf Try.prog 57 = .int .u32 0 ∧
  Try.prog.cellsOf 59 = 1 ∧
  Try.prog.bytesOf 59 = 8 ∧
  zeroOf Try.prog 59 = .int .u64 0 ∧
  Try.prog.cellsOf 61 = 1 :=
  ⟨cells2, bytes2, zero2, cells3, bytes3, zero3, cells4, bytes4, zero4, cells5, bytes5, zero5, cells6, bytes6, zero6, cells9, bytes9, zero9, cells12, bytes12, zero12, cells21, bytes21, zero21, cells22, bytes22, zero22, cells44, bytes44, zero44, cells48, bytes48, zero48, cells57, bytes57, zero57, cells59, bytes59, zero59, cells61⟩
theorem tys1 :
  Try.prog.bytesOf 61 = 8 ∧
  zeroOf Try.prog 61 = .int .u64 0 ∧
  Try.prog.cellsOf 65 = 1 ∧
  Try.prog.bytesOf 65 = 8 ∧
  zeroOf Try.prog 65 = .nilp ∧
  Try.prog.cellsOf 67 = 1 ∧
  Try.prog.bytesOf 67 = 8 ∧
  zeroOf Try.prog 67 = .nilp ∧
  Try.prog.cellsOf 71 = 4 ∧
  Try.prog.bytesOf 71 = 40 ∧
  zeroOf Try.prog 71 = .agg [.nilp, .nilp, .nilp, .str []] ∧
  Try.prog.cellsOf 72 = 4 ∧
  Try.prog.bytesOf 72 = 40 ∧
  zeroOf Try.prog 72 = .agg [.nilp, .nilp, .nilp, .str []] ∧
  Try.prog.cellsOf 77 = 1 ∧
  Try.prog.bytesOf 77 = 1 ∧
  zeroOf Try.prog 77 = .int .u8 0 ∧
  Try.prog.cellsOf 78 = 1 ∧
  Try.prog.bytesOf 78 = 1 ∧
  zeroOf Try.prog 78 = .int .u8 0 ∧
  Try.prog.cellsOf 80 = 1 ∧
  Try.prog.bytesOf 80 = 8 ∧
  zeroOf Try.prog 80 = .nilp ∧
  Try.prog.cellsOf 81 = 1 ∧
  Try.prog.bytesOf 81 = 4 ∧
  zeroOf Try.prog 81 = .int .i32 0 ∧
  Try.prog.cellsOf 82 = 1 ∧
  Try.prog.bytesOf 82 = 4 ∧
  zeroOf Try.prog 82 = .int .i32 0 ∧
  Try.prog.cellsOf 83 = 11 ∧
  Try.prog.bytesOf 83 = 48 ∧
  zeroOf Try.prog 83 = .agg [.int .u64 0, .int .u64 0, .int .u32 0, .int .u8 0, .int .u8 0, .int .u8 0, .int .u8 0, .nilf, .nilp, .int .i32 0, .int .i32 0] ∧
  Try.prog.cellsOf 84 = 11 ∧
  Try.prog.bytesOf 84 = 48 ∧
  zeroOf Try.prog 84 = .agg [.int .u64 0, .int .u64 0, .int .u32 0, .int .u8 0, .int .u8 0, .int .u8 0, .int .u8 0, .nilf, .nilp, .int .i32 0, .int .i32 0] ∧
  fieldOf Try.prog 71 0 = some ⟨ "_interface", 17, 0, false, "", "runtime", 0⟩ ∧
  fieldOf Try.prog 71 1 = some ⟨ "concrete", 17, 1, false, "", "runtime", 8⟩ ∧
  fieldOf Try.prog 71 2 = some ⟨ "asserted", 17, 2, false, "", "runtime", 16⟩ ∧
  fieldOf Try.prog 71 3 = some ⟨ "missingMethod", 9, 3, false, "", "runtime", 24⟩ ∧
  fieldOf Try.prog 72 0 = some ⟨ "_interface", 17, 0, false, "", "runtime", 0⟩ :=
  ⟨bytes61, zero61, cells65, bytes65, zero65, cells67, bytes67, zero67, cells71, bytes71, zero71, cells72, bytes72, zero72, cells77, bytes77, zero77, cells78, bytes78, zero78, cells80, bytes80, zero80, cells81, bytes81, zero81, cells82, bytes82, zero82, cells83, bytes83, zero83, cells84, bytes84, zero84, field71_0, field71_1, field71_2, field71_3, field72_0⟩
theorem tys2 :
  fieldOf Try.prog 72 1 = some ⟨ "concrete", 17, 1, false, "", "runtime", 8⟩ ∧
  fieldOf Try.prog 72 2 = some ⟨ "asserted", 17, 2, false, "", "runtime", 16⟩ ∧
  fieldOf Try.prog 72 3 = some ⟨ "missingMethod", 9, 3, false, "", "runtime", 24⟩ ∧
  fieldOf Try.prog 83 0 = some ⟨ "Size_", 12, 0, false, "", "", 0⟩ ∧
  fieldOf Try.prog 83 1 = some ⟨ "PtrBytes", 12, 1, false, "", "", 8⟩ ∧
  fieldOf Try.prog 83 2 = some ⟨ "Hash", 57, 2, false, "", "", 16⟩ ∧
  fieldOf Try.prog 83 3 = some ⟨ "TFlag", 77, 3, false, "", "", 20⟩ ∧
  fieldOf Try.prog 83 4 = some ⟨ "Align_", 5, 4, false, "", "", 21⟩ ∧
  fieldOf Try.prog 83 5 = some ⟨ "FieldAlign_", 5, 5, false, "", "", 22⟩ ∧
  fieldOf Try.prog 83 6 = some ⟨ "Kind_", 78, 6, false, "", "", 23⟩ ∧
  fieldOf Try.prog 83 7 = some ⟨ "Equal", 79, 7, false, "", "", 24⟩ ∧
  fieldOf Try.prog 83 8 = some ⟨ "GCData", 80, 8, false, "", "", 32⟩ ∧
  fieldOf Try.prog 83 9 = some ⟨ "Str", 81, 9, false, "", "", 40⟩ ∧
  fieldOf Try.prog 83 10 = some ⟨ "PtrToThis", 82, 10, false, "", "", 44⟩ ∧
  fieldOf Try.prog 84 0 = some ⟨ "Size_", 12, 0, false, "", "", 0⟩ ∧
  fieldOf Try.prog 84 1 = some ⟨ "PtrBytes", 12, 1, false, "", "", 8⟩ ∧
  fieldOf Try.prog 84 2 = some ⟨ "Hash", 57, 2, false, "", "", 16⟩ ∧
  fieldOf Try.prog 84 3 = some ⟨ "TFlag", 77, 3, false, "", "", 20⟩ ∧
  fieldOf Try.prog 84 4 = some ⟨ "Align_", 5, 4, false, "", "", 21⟩ ∧
  fieldOf Try.prog 84 5 = some ⟨ "FieldAlign_", 5, 5, false, "", "", 22⟩ ∧
  fieldOf Try.prog 84 6 = some ⟨ "Kind_", 78, 6, false, "", "", 23⟩ ∧
  fieldOf Try.prog 84 7 = some ⟨ "Equal", 79, 7, false, "", "", 24⟩ ∧
  fieldOf Try.prog 84 8 = some ⟨ "GCData", 80, 8, false, "", "", 32⟩ ∧
  fieldOf Try.prog 84 9 = some ⟨ "Str", 81, 9, false, "", "", 40⟩ ∧
  fieldOf Try.prog 84 10 = some ⟨ "PtrToThis", 82, 10, false, "", "", 44⟩ :=
  ⟨field72_1, field72_2, field72_3, field83_0, field83_1, field83_2, field83_3, field83_4, field83_5, field83_6, field83_7, field83_8, field83_9, field83_10, field84_0, field84_1, field84_2, field84_3, field84_4, field84_5, field84_6, field84_7, field84_8, field84_9, field84_10⟩
def und0 := And.intro @Try.underlying2 (And.intro @Try.underlying3 (And.intro @Try.underlying4 (And.intro @Try.underlying5 (And.intro @Try.underlying6 (And.intro @Try.underlying9 (And.intro @Try.underlying12 (And.intro @Try.underlying21 (And.intro @Try.underlying22 (And.intro @Try.underlying44 (And.intro @Try.underlying48 @Try.underlying57))))))))))
def und1 := And.intro @Try.underlying59 (And.intro @Try.underlying61 (And.intro @Try.underlying65 (And.intro @Try.underlying67 (And.intro @Try.underlying71 (And.intro @Try.underlying72 (And.intro @Try.underlying77 (And.intro @Try.underlying78 (And.intro @Try.underlying80 (And.intro @Try.underlying81 (And.intro @Try.underlying82 @Try.underlying83))))))))))
def und2 := @Try.underlying84
/- tys0 tys1 tys2 und0 und1 und2 -/

theorem go2 : isGo Try.prog 2 := by unfold isGo; rw [Try.func2]; exact ⟨rfl, by kernel_rfl⟩
theorem go3 : isGo Try.prog 3 := by unfold isGo; rw [Try.func3]; exact ⟨rfl, by kernel_rfl⟩
theorem go4 : isGo Try.prog 4 := by unfold isGo; rw [Try.func4]; exact ⟨rfl, by kernel_rfl⟩
theorem go5 : isGo Try.prog 5 := by unfold isGo; rw [Try.func5]; exact ⟨rfl, by kernel_rfl⟩
theorem go6 : isGo Try.prog 6 := by unfold isGo; rw [Try.func6]; exact ⟨rfl, by kernel_rfl⟩
theorem go7 : isGo Try.prog 7 := by unfold isGo; rw [Try.func7]; exact ⟨rfl, by kernel_rfl⟩
theorem go8 : isGo Try.prog 8 := by unfold isGo; rw [Try.func8]; exact ⟨rfl, by kernel_rfl⟩
theorem go9 : isGo Try.prog 9 := by unfold isGo; rw [Try.func9]; exact ⟨rfl, by kernel_rfl⟩
theorem go10 : isGo Try.prog 10 := by unfold isGo; rw [Try.func10]; exact ⟨rfl, by kernel_rfl⟩
theorem go11 : isGo Try.prog 11 := by unfold isGo; rw [Try.func11]; exact ⟨rfl, by kernel_rfl⟩
theorem go12 : isGo Try.prog 12 := by unfold isGo; rw [Try.func12]; exact ⟨rfl, by kernel_rfl⟩
theorem go13 : isGo Try.prog 13 := by unfold isGo; rw [Try.func13]; exact ⟨rfl, by kernel_rfl⟩
theorem go14 : isGo Try.prog 14 := by unfold isGo; rw [Try.func14]; exact ⟨rfl, by kernel_rfl⟩
theorem go15 : isGo Try.prog 15 := by unfold isGo; rw [Try.func15]; exact ⟨rfl, by kernel_rfl⟩
theorem go16 : isGo Try.prog 16 := by unfold isGo; rw [Try.func16]; exact ⟨rfl, by kernel_rfl⟩
theorem go17 : isGo Try.prog 17 := by unfold isGo; rw [Try.func17]; exact ⟨rfl, by kernel_rfl⟩
theorem go18 : isGo Try.prog 18 := by unfold isGo; rw [Try.func18]; exact ⟨rfl, by kernel_rfl⟩
theorem go19 : isGo Try.prog 19 := by unfold isGo; rw [Try.func19]; exact ⟨rfl, by kernel_rfl⟩
theorem go20 : isGo Try.prog 20 := by unfold isGo; rw [Try.func20]; exact ⟨rfl, by kernel_rfl⟩
theorem go21 : isGo Try.prog 21 := by unfold isGo; rw [Try.func21]; exact ⟨rfl, by kernel_rfl⟩
theorem go22 : isGo Try.prog 22 := by unfold isGo; rw [Try.func22]; exact ⟨rfl, by kernel_rfl⟩
theorem go23 : isGo Try.prog 23 := by unfold isGo; rw [Try.func23]; exact ⟨rfl, by kernel_rfl⟩
theorem go24 : isGo Try.prog 24 := by unfold isGo; rw [Try.func24]; exact ⟨rfl, by kernel_rfl⟩
theorem go25 : isGo Try.prog 25 := by unfold isGo; rw [Try.func25]; exact ⟨rfl, by kernel_rfl⟩
theorem go26 : isGo Try.prog 26 := by unfold isGo; rw [Try.func26]; exact ⟨rfl, by kernel_rfl⟩
theorem go27 : isGo Try.prog 27 := by unfold isGo; rw [Try.func27]; exact ⟨rfl, by kernel_rfl⟩
theorem go28 : isGo Try.prog 28 := by unfold isGo; rw [Try.func28]; exact ⟨rfl, by kernel_rfl⟩
theorem go29 : isGo Try.prog 29 := by unfold isGo; rw [Try.func29]; exact ⟨rfl, by kernel_rfl⟩
theorem go30 : isGo Try.prog 30 := by unfold isGo; rw [Try.func30]; exact ⟨rfl, by kernel_rfl⟩
theorem go31 : isGo Try.prog 31 := by unfold isGo; rw [Try.func31]; exact ⟨rfl, by kernel_rfl⟩
theorem go32 : isGo Try.prog 32 := by unfold isGo; rw [Try.func32]; exact ⟨rfl, by kernel_rfl⟩
theorem go33 : isGo Try.prog 33 := by unfold isGo; rw [Try.func33]; exact ⟨rfl, by kernel_rfl⟩
theorem go34 : isGo Try.prog 34 := by unfold isGo; rw [Try.func34]; exact ⟨rfl, by kernel_rfl⟩
theorem go35 : isGo Try.prog 35 := by unfold isGo; rw [Try.func35]; exact ⟨rfl, by kernel_rfl⟩
theorem go36 : isGo Try.prog 36 := by unfold isGo; rw [Try.func36]; exact ⟨rfl, by kernel_rfl⟩
theorem go37 : isGo Try.prog 37 := by unfold isGo; rw [Try.func37]; exact ⟨rfl, by kernel_rfl⟩
theorem go38 : isGo Try.prog 38 := by unfold isGo; rw [Try.func38]; exact ⟨rfl, by kernel_rfl⟩
theorem go39 : isGo Try.prog 39 := by unfold isGo; rw [Try.func39]; exact ⟨rfl, by kernel_rfl⟩
theorem go40 : isGo Try.prog 40 := by unfold isGo; rw [Try.func40]; exact ⟨rfl, by kernel_rfl⟩
theorem go41 : isGo Try.prog 41 := by unfold isGo; rw [Try.func41]; exact ⟨rfl, by kernel_rfl⟩
theorem go42 : isGo Try.prog 42 := by unfold isGo; rw [Try.func42]; exact ⟨rfl, by kernel_rfl⟩
theorem go43 : isGo Try.prog 43 := by unfold isGo; rw [Try.func43]; exact ⟨rfl, by kernel_rfl⟩
theorem go44 : isGo Try.prog 44 := by unfold isGo; rw [Try.func44]; exact ⟨rfl, by kernel_rfl⟩
theorem go45 : isGo Try.prog 45 := by unfold isGo; rw [Try.func45]; exact ⟨rfl, by kernel_rfl⟩
theorem go46 : isGo Try.prog 46 := by unfold isGo; rw [Try.func46]; exact ⟨rfl, by kernel_rfl⟩
theorem go47 : isGo Try.prog 47 := by unfold isGo; rw [Try.func47]; exact ⟨rfl, by kernel_rfl⟩
theorem go48 : isGo Try.prog 48 := by unfold isGo; rw [Try.func48]; exact ⟨rfl, by kernel_rfl⟩
theorem go49 : isGo Try.prog 49 := by unfold isGo; rw [Try.func49]; exact ⟨rfl, by kernel_rfl⟩
theorem go50 : isGo Try.prog 50 := by unfold isGo; rw [Try.func50]; exact ⟨rfl, by kernel_rfl⟩
theorem go51 : isGo Try.prog 51 := by unfold isGo; rw [Try.func51]; exact ⟨rfl, by kernel_rfl⟩
theorem go52 : isGo Try.prog 52 := by unfold isGo; rw [Try.func52]; exact ⟨rfl, by kernel_rfl⟩
theorem go53 : isGo Try.prog 53 := by unfold isGo; rw [Try.func53]; exact ⟨rfl, by kernel_rfl⟩
theorem go54 : isGo Try.prog 54 := by unfold isGo; rw [Try.func54]; exact ⟨rfl, by kernel_rfl⟩
theorem go55 : isGo Try.prog 55 := by unfold isGo; rw [Try.func55]; exact ⟨rfl, by kernel_rfl⟩
def md2 : Nat → List Bool := fun _ => []
def md3 : Nat → List Bool := fun _ => []
def md4 : Nat → List Bool := fun _ => []
def md5 : Nat → List Bool := fun _ => []
def md6 : Nat → List Bool := fun _ => []
def md7 : Nat → List Bool := fun _ => []
def md8 : Nat → List Bool := fun _ => []
def md9 : Nat → List Bool
  | 6 => [false, false, false, false, false, false, false, false, false]
  | _ => []
def md10 : Nat → List Bool := fun _ => []
def md11 : Nat → List Bool := fun _ => []
def md12 : Nat → List Bool := fun _ => []
def md13 : Nat → List Bool := fun _ => []
def md14 : Nat → List Bool := fun _ => []
def md15 : Nat → List Bool := fun _ => []
def md16 : Nat → List Bool := fun _ => []
def md17 : Nat → List Bool
  | 6 => [false, false, false, false, false, false, false, false, false, false, false, false, false, false]
  | _ => []
def md18 : Nat → List Bool := fun _ => []
def md19 : Nat → List Bool := fun _ => []
def md20 : Nat → List Bool := fun _ => []
def md21 : Nat → List Bool := fun _ => []
def md22 : Nat → List Bool := fun _ => []
def md23 : Nat → List Bool := fun _ => []
def md24 : Nat → List Bool
  | 7 => [false, false, false, false, false, false, false, false]
  | _ => []
def md25 : Nat → List Bool := fun _ => []
def md26 : Nat → List Bool := fun _ => []
def md27 : Nat → List Bool
  | 2 => [false, false, false, false, false, false, false, false]
  | _ => []
def md28 : Nat → List Bool := fun _ => []
def md29 : Nat → List Bool := fun _ => []
def md30 : Nat → List Bool := fun _ => []
def md31 : Nat → List Bool
  | 2 => [false, false, false, false, false, false]
  | _ => []
def md32 : Nat → List Bool := fun _ => []
def md33 : Nat → List Bool
  | 17 => [false, false, false, false, false, false, false, false, false, false, false, false, false, false, false]
  | _ => []
def md34 : Nat → List Bool := fun _ => []
def md35 : Nat → List Bool := fun _ => []
def md36 : Nat → List Bool := fun _ => []
def md37 : Nat → List Bool
  | 4 => [false, false, false, false, false, false, false, false, false, false, false, false, false, false, false]
  | _ => []
def md38 : Nat → List Bool := fun _ => []
def md39 : Nat → List Bool := fun _ => []
def md40 : Nat → List Bool := fun _ => []
def md41 : Nat → List Bool := fun _ => []
def md42 : Nat → List Bool
  | 5 => [false, false, false, false, false, false, false, false, false, false, false, false, false, false, false, false]
  | 16 => [false, false, false, false, false, false, false, false, false, false, false]
  | 22 => [false, false, false, false, false, false, false, false, false, false, false]
  | _ => []
def md43 : Nat → List Bool := fun _ => []
def md44 : Nat → List Bool
  | 3 => [false, false, false, false, false, false, false, false, false, false, false, false, false, false, false]
  | 5 => [false, false, false, false, false, false, false, false, false, false, false, false, false, false]
  | _ => []
def md45 : Nat → List Bool
  | 3 => [false, false, false, false, false, false, false, false, false, false, false, false, false, false]
  | 5 => [false, false, false, false, false, false, false, false, false, false, false, false, false, false, false]
  | 13 => [false, false, false, false, false, false, false, false, false, false, false, false, false, false]
  | 15 => [false, false, false, false, false, false, false, false, false, false, false, false, false, false, false]
  | _ => []
def md46 : Nat → List Bool := fun _ => []
def md47 : Nat → List Bool := fun _ => []
def md48 : Nat → List Bool := fun _ => []
def md49 : Nat → List Bool
  | 3 => [false, false, false, false, false, false, false, false, false, false, false, false, false, false, false, false, false, false, false, false]
  | 5 => [false, false, false, false, false, false, false, false, false, false, false, false, false, false]
  | _ => []
def md50 : Nat → List Bool := fun _ => []
def md51 : Nat → List Bool
  | 1 => [false, false, false, false, false, false, false, false, false, true]
  | 2 => [false, false, false, false, false, false, false, false, false, true]
  | 3 => [false, false, false, false, false, false, false, false, false, true]
  | _ => []
def md52 : Nat → List Bool := fun _ => []
def md53 : Nat → List Bool := fun _ => []
def md54 : Nat → List Bool := fun _ => []
def md55 : Nat → List Bool
  | 1 => [false, false, false, false, false, false, false, false, false]
  | _ => []

end Go.Proofs.Ytaamcphhapgofaa
