/- Closed facts of the program, for the abstract layer: types and functions. Printed by gen_base.py. -/
import Derived.Test.YtcecldjnjmoikaaProg
import Derived.Test.YtcecldjnjmoikaaAbsY
set_option linter.unusedVariables false
set_option linter.defProp false
namespace Go.Proofs.Ytcecldjnjmoikaa
open Go Go.Abs

theorem mixed : Try.prog.follows .mixedOrders = true := by kernel_rfl
theorem cells2 : Try.prog.cellsOf 2 = 1 := by kernel_rfl
theorem bytes2 : Try.prog.bytesOf 2 = 8 := by kernel_rfl
theorem zero2 : zeroOf Try.prog 2 = .int .i64 0 := by kernel_rfl
theorem cells3 : Try.prog.cellsOf 3 = 1 := by kernel_rfl
theorem bytes3 : Try.prog.bytesOf 3 = 8 := by kernel_rfl
theorem zero3 : zeroOf Try.prog 3 = .int .i64 0 := by kernel_rfl
theorem cells4 : Try.prog.cellsOf 4 = 1 := by kernel_rfl
theorem bytes4 : Try.prog.bytesOf 4 = 1 := by kernel_rfl
theorem zero4 : zeroOf Try.prog 4 = .bool false := by kernel_rfl
theorem cells5 : Try.prog.cellsOf 5 = 1 := by kernel_rfl
theorem bytes5 : Try.prog.bytesOf 5 = 1 := by kernel_rfl
theorem zero5 : zeroOf Try.prog 5 = .int .u8 0 := by kernel_rfl
theorem cells6 : Try.prog.cellsOf 6 = 1 := by kernel_rfl
theorem bytes6 : Try.prog.bytesOf 6 = 1 := by kernel_rfl
theorem zero6 : zeroOf Try.prog 6 = .int .u8 0 := by kernel_rfl
theorem cells9 : Try.prog.cellsOf 9 = 1 := by kernel_rfl
theorem bytes9 : Try.prog.bytesOf 9 = 16 := by kernel_rfl
theorem zero9 : zeroOf Try.prog 9 = .str [] := by kernel_rfl
theorem cells12 : Try.prog.cellsOf 12 = 1 := by kernel_rfl
theorem bytes12 : Try.prog.bytesOf 12 = 8 := by kernel_rfl
theorem zero12 : zeroOf Try.prog 12 = .int .u64 0 := by kernel_rfl
theorem cells21 : Try.prog.cellsOf 21 = 1 := by kernel_rfl
theorem bytes21 : Try.prog.bytesOf 21 = 4 := by kernel_rfl
theorem zero21 : zeroOf Try.prog 21 = .int .i32 0 := by kernel_rfl
theorem cells22 : Try.prog.cellsOf 22 = 1 := by kernel_rfl
theorem bytes22 : Try.prog.bytesOf 22 = 24 := by kernel_rfl
theorem zero22 : zeroOf Try.prog 22 = .nils := by kernel_rfl
theorem cells23 : Try.prog.cellsOf 23 = 1 := by kernel_rfl
theorem bytes23 : Try.prog.bytesOf 23 = 24 := by kernel_rfl
theorem zero23 : zeroOf Try.prog 23 = .nils := by kernel_rfl
theorem cells24 : Try.prog.cellsOf 24 = 3 := by kernel_rfl
theorem bytes24 : Try.prog.bytesOf 24 = 64 := by kernel_rfl
theorem zero24 : zeroOf Try.prog 24 = .agg [.str [], .nils, .nils] := by kernel_rfl
theorem cells25 : Try.prog.cellsOf 25 = 3 := by kernel_rfl
theorem bytes25 : Try.prog.bytesOf 25 = 64 := by kernel_rfl
theorem zero25 : zeroOf Try.prog 25 = .agg [.str [], .nils, .nils] := by kernel_rfl
theorem cells28 : Try.prog.cellsOf 28 = 1 := by kernel_rfl
theorem bytes28 : Try.prog.bytesOf 28 = 24 := by kernel_rfl
theorem zero28 : zeroOf Try.prog 28 = .nils := by kernel_rfl
theorem cells29 : Try.prog.cellsOf 29 = 3 := by kernel_rfl
theorem bytes29 : Try.prog.bytesOf 29 = 64 := by kernel_rfl
theorem zero29 : zeroOf Try.prog 29 = .agg [.str [], .nils, .nils] := by kernel_rfl
theorem cells30 : Try.prog.cellsOf 30 = 3 := by kernel_rfl
theorem bytes30 : Try.prog.bytesOf 30 = 64 := by kernel_rfl
theorem zero30 : zeroOf Try.prog 30 = .agg [.str [], .nils, .nils] := by kernel_rfl
theorem cells34 : Try.prog.cellsOf 34 = 1 := by kernel_rfl
theorem bytes34 : Try.prog.bytesOf 34 = 24 := by kernel_rfl
theorem zero34 : zeroOf Try.prog 34 = .nils := by kernel_rfl
theorem cells37 : Try.prog.cellsOf 37 = 1 := by kernel_rfl
theorem bytes37 : Try.prog.bytesOf 37 = 24 := by kernel_rfl
theorem zero37 : zeroOf Try.prog 37 = .nils := by kernel_rfl
theorem cells43 : Try.prog.cellsOf 43 = 1 := by kernel_rfl
theorem bytes43 : Try.prog.bytesOf 43 = 8 := by kernel_rfl
theorem zero43 : zeroOf Try.prog 43 = .nilp := by kernel_rfl
theorem cells53 : Try.prog.cellsOf 53 = 5 := by kernel_rfl
theorem bytes53 : Try.prog.bytesOf 53 = 56 := by kernel_rfl
theorem zero53 : zeroOf Try.prog 53 = .agg [.int .i64 0, .nils, .int .i64 0, .int .i64 0, .int .i64 0] := by kernel_rfl
theorem cells54 : Try.prog.cellsOf 54 = 5 := by kernel_rfl
theorem bytes54 : Try.prog.bytesOf 54 = 56 := by kernel_rfl
theorem zero54 : zeroOf Try.prog 54 = .agg [.int .i64 0, .nils, .int .i64 0, .int .i64 0, .int .i64 0] := by kernel_rfl
theorem cells55 : Try.prog.cellsOf 55 = 5 := by kernel_rfl
theorem bytes55 : Try.prog.bytesOf 55 = 56 := by kernel_rfl
theorem zero55 : zeroOf Try.prog 55 = .agg [.int .i64 0, .nils, .int .i64 0, .int .i64 0, .int .i64 0] := by kernel_rfl
theorem cells63 : Try.prog.cellsOf 63 = 1 := by kernel_rfl
theorem bytes63 : Try.prog.bytesOf 63 = 8 := by kernel_rfl
theorem zero63 : zeroOf Try.prog 63 = .nilp := by kernel_rfl
theorem cells73 : Try.prog.cellsOf 73 = 4 := by kernel_rfl
theorem bytes73 : Try.prog.bytesOf 73 = 40 := by kernel_rfl
theorem zero73 : zeroOf Try.prog 73 = .agg [.nilp, .nilp, .nilp, .str []] := by kernel_rfl
theorem cells74 : Try.prog.cellsOf 74 = 4 := by kernel_rfl
theorem bytes74 : Try.prog.bytesOf 74 = 40 := by kernel_rfl
theorem zero74 : zeroOf Try.prog 74 = .agg [.nilp, .nilp, .nilp, .str []] := by kernel_rfl
theorem cells79 : Try.prog.cellsOf 79 = 1 := by kernel_rfl
theorem bytes79 : Try.prog.bytesOf 79 = 4 := by kernel_rfl
theorem zero79 : zeroOf Try.prog 79 = .int .u32 0 := by kernel_rfl
theorem cells80 : Try.prog.cellsOf 80 = 1 := by kernel_rfl
theorem bytes80 : Try.prog.bytesOf 80 = 1 := by kernel_rfl
theorem zero80 : zeroOf Try.prog 80 = .int .u8 0 := by kernel_rfl
theorem cells81 : Try.prog.cellsOf 81 = 1 := by kernel_rfl
theorem bytes81 : Try.prog.bytesOf 81 = 1 := by kernel_rfl
theorem zero81 : zeroOf Try.prog 81 = .int .u8 0 := by kernel_rfl
theorem cells83 : Try.prog.cellsOf 83 = 1 := by kernel_rfl
theorem bytes83 : Try.prog.bytesOf 83 = 8 := by kernel_rfl
theorem zero83 : zeroOf Try.prog 83 = .nilp := by kernel_rfl
theorem cells84 : Try.prog.cellsOf 84 = 1 := by kernel_rfl
theorem bytes84 : Try.prog.bytesOf 84 = 4 := by kernel_rfl
theorem zero84 : zeroOf Try.prog 84 = .int .i32 0 := by kernel_rfl
theorem cells85 : Try.prog.cellsOf 85 = 1 := by kernel_rfl
theorem bytes85 : Try.prog.bytesOf 85 = 4 := by kernel_rfl
theorem zero85 : zeroOf Try.prog 85 = .int .i32 0 := by kernel_rfl
theorem cells86 : Try.prog.cellsOf 86 = 11 := by kernel_rfl
theorem bytes86 : Try.prog.bytesOf 86 = 48 := by kernel_rfl
theorem zero86 : zeroOf Try.prog 86 = .agg [.int .u64 0, .int .u64 0, .int .u32 0, .int .u8 0, .int .u8 0, .int .u8 0, .int .u8 0, .nilf, .nilp, .int .i32 0, .int .i32 0] := by kernel_rfl
theorem cells87 : Try.prog.cellsOf 87 = 11 := by kernel_rfl
theorem bytes87 : Try.prog.bytesOf 87 = 48 := by kernel_rfl
theorem zero87 : zeroOf Try.prog 87 = .agg [.int .u64 0, .int .u64 0, .int .u32 0, .int .u8 0, .int .u8 0, .int .u8 0, .int .u8 0, .nilf, .nilp, .int .i32 0, .int .i32 0] := by kernel_rfl
theorem field7_0 : fieldOf Try.prog 7 0 = some ⟨ "x", 2, 0, false, "", "runtime", 0⟩ := by kernel_rfl
theorem field7_1 : fieldOf Try.prog 7 1 = some ⟨ "y", 3, 1, false, "", "runtime", 8⟩ := by kernel_rfl
theorem field7_2 : fieldOf Try.prog 7 2 = some ⟨ "signed", 4, 2, false, "", "runtime", 16⟩ := by kernel_rfl
theorem field7_3 : fieldOf Try.prog 7 3 = some ⟨ "code", 6, 3, false, "", "runtime", 17⟩ := by kernel_rfl
theorem field8_0 : fieldOf Try.prog 8 0 = some ⟨ "x", 2, 0, false, "", "runtime", 0⟩ := by kernel_rfl
theorem field8_1 : fieldOf Try.prog 8 1 = some ⟨ "y", 3, 1, false, "", "runtime", 8⟩ := by kernel_rfl
theorem field8_2 : fieldOf Try.prog 8 2 = some ⟨ "signed", 4, 2, false, "", "runtime", 16⟩ := by kernel_rfl
theorem field8_3 : fieldOf Try.prog 8 3 = some ⟨ "code", 6, 3, false, "", "runtime", 17⟩ := by kernel_rfl
theorem field13_0 : fieldOf Try.prog 13 0 = some ⟨ "msg", 9, 0, false, "", "runtime", 0⟩ := by kernel_rfl
theorem field13_1 : fieldOf Try.prog 13 1 = some ⟨ "addr", 12, 1, false, "", "runtime", 16⟩ := by kernel_rfl
theorem field14_0 : fieldOf Try.prog 14 0 = some ⟨ "msg", 9, 0, false, "", "runtime", 0⟩ := by kernel_rfl
theorem field14_1 : fieldOf Try.prog 14 1 = some ⟨ "addr", 12, 1, false, "", "runtime", 16⟩ := by kernel_rfl
theorem field18_0 : fieldOf Try.prog 18 0 = some ⟨ "typ", 17, 0, false, "", "internal/runtime/maps", 0⟩ := by kernel_rfl
theorem field19_0 : fieldOf Try.prog 19 0 = some ⟨ "typ", 17, 0, false, "", "internal/runtime/maps", 0⟩ := by kernel_rfl
theorem field24_0 : fieldOf Try.prog 24 0 = some ⟨ "Name", 9, 0, false, "", "", 0⟩ := by kernel_rfl
theorem field24_1 : fieldOf Try.prog 24 1 = some ⟨ "Rules", 22, 1, false, "", "", 16⟩ := by kernel_rfl
theorem field24_2 : fieldOf Try.prog 24 2 = some ⟨ "Incomes", 23, 2, false, "", "", 40⟩ := by kernel_rfl
theorem field25_0 : fieldOf Try.prog 25 0 = some ⟨ "Name", 9, 0, false, "", "", 0⟩ := by kernel_rfl
theorem field25_1 : fieldOf Try.prog 25 1 = some ⟨ "Rules", 22, 1, false, "", "", 16⟩ := by kernel_rfl
theorem field25_2 : fieldOf Try.prog 25 2 = some ⟨ "Incomes", 23, 2, false, "", "", 40⟩ := by kernel_rfl
theorem field29_0 : fieldOf Try.prog 29 0 = some ⟨ "Name", 9, 0, false, "", "", 0⟩ := by kernel_rfl
theorem field29_1 : fieldOf Try.prog 29 1 = some ⟨ "Rules", 28, 1, false, "", "", 16⟩ := by kernel_rfl
theorem field29_2 : fieldOf Try.prog 29 2 = some ⟨ "Incomes", 23, 2, false, "", "", 40⟩ := by kernel_rfl
theorem field30_0 : fieldOf Try.prog 30 0 = some ⟨ "Name", 9, 0, false, "", "", 0⟩ := by kernel_rfl
theorem field30_1 : fieldOf Try.prog 30 1 = some ⟨ "Rules", 28, 1, false, "", "", 16⟩ := by kernel_rfl
theorem field30_2 : fieldOf Try.prog 30 2 = some ⟨ "Incomes", 23, 2, false, "", "", 40⟩ := by kernel_rfl
theorem field53_0 : fieldOf Try.prog 53 0 = some ⟨ "Head", 2, 0, false, "", "", 0⟩ := by kernel_rfl
theorem field53_1 : fieldOf Try.prog 53 1 = some ⟨ "Ifs", 23, 1, false, "", "", 8⟩ := by kernel_rfl
theorem field53_2 : fieldOf Try.prog 53 2 = some ⟨ "From", 2, 2, false, "", "", 32⟩ := by kernel_rfl
theorem field53_3 : fieldOf Try.prog 53 3 = some ⟨ "To", 2, 3, false, "", "", 40⟩ := by kernel_rfl
theorem field53_4 : fieldOf Try.prog 53 4 = some ⟨ "Rank", 2, 4, false, "", "", 48⟩ := by kernel_rfl
theorem field54_0 : fieldOf Try.prog 54 0 = some ⟨ "Head", 2, 0, false, "", "", 0⟩ := by kernel_rfl
theorem field54_1 : fieldOf Try.prog 54 1 = some ⟨ "Ifs", 23, 1, false, "", "", 8⟩ := by kernel_rfl
theorem field54_2 : fieldOf Try.prog 54 2 = some ⟨ "From", 2, 2, false, "", "", 32⟩ := by kernel_rfl
theorem field54_3 : fieldOf Try.prog 54 3 = some ⟨ "To", 2, 3, false, "", "", 40⟩ := by kernel_rfl
theorem field54_4 : fieldOf Try.prog 54 4 = some ⟨ "Rank", 2, 4, false, "", "", 48⟩ := by kernel_rfl
theorem field55_0 : fieldOf Try.prog 55 0 = some ⟨ "Head", 2, 0, false, "", "", 0⟩ := by kernel_rfl
theorem field55_1 : fieldOf Try.prog 55 1 = some ⟨ "Ifs", 23, 1, false, "", "", 8⟩ := by kernel_rfl
theorem field55_2 : fieldOf Try.prog 55 2 = some ⟨ "From", 2, 2, false, "", "", 32⟩ := by kernel_rfl
theorem field55_3 : fieldOf Try.prog 55 3 = some ⟨ "To", 2, 3, false, "", "", 40⟩ := by kernel_rfl
theorem field55_4 : fieldOf Try.prog 55 4 = some ⟨ "Rank", 2, 4, false, "", "", 48⟩ := by kernel_rfl
theorem field73_0 : fieldOf Try.prog 73 0 = some ⟨ "_interface", 17, 0, false, "", "runtime", 0⟩ := by kernel_rfl
theorem field73_1 : fieldOf Try.prog 73 1 = some ⟨ "concrete", 17, 1, false, "", "runtime", 8⟩ := by kernel_rfl
theorem field73_2 : fieldOf Try.prog 73 2 = some ⟨ "asserted", 17, 2, false, "", "runtime", 16⟩ := by kernel_rfl
theorem field73_3 : fieldOf Try.prog 73 3 = some ⟨ "missingMethod", 9, 3, false, "", "runtime", 24⟩ := by kernel_rfl
theorem field74_0 : fieldOf Try.prog 74 0 = some ⟨ "_interface", 17, 0, false, "", "runtime", 0⟩ := by kernel_rfl
theorem field74_1 : fieldOf Try.prog 74 1 = some ⟨ "concrete", 17, 1, false, "", "runtime", 8⟩ := by kernel_rfl
theorem field74_2 : fieldOf Try.prog 74 2 = some ⟨ "asserted", 17, 2, false, "", "runtime", 16⟩ := by kernel_rfl
theorem field74_3 : fieldOf Try.prog 74 3 = some ⟨ "missingMethod", 9, 3, false, "", "runtime", 24⟩ := by kernel_rfl
theorem field76_0 : fieldOf Try.prog 76 0 = some ⟨ "_", 75, 0, false, "", "runtime", 0⟩ := by kernel_rfl
theorem field77_0 : fieldOf Try.prog 77 0 = some ⟨ "_", 75, 0, false, "", "runtime", 0⟩ := by kernel_rfl
theorem field86_0 : fieldOf Try.prog 86 0 = some ⟨ "Size_", 12, 0, false, "", "", 0⟩ := by kernel_rfl
theorem field86_1 : fieldOf Try.prog 86 1 = some ⟨ "PtrBytes", 12, 1, false, "", "", 8⟩ := by kernel_rfl
theorem field86_2 : fieldOf Try.prog 86 2 = some ⟨ "Hash", 79, 2, false, "", "", 16⟩ := by kernel_rfl
theorem field86_3 : fieldOf Try.prog 86 3 = some ⟨ "TFlag", 80, 3, false, "", "", 20⟩ := by kernel_rfl
theorem field86_4 : fieldOf Try.prog 86 4 = some ⟨ "Align_", 5, 4, false, "", "", 21⟩ := by kernel_rfl
theorem field86_5 : fieldOf Try.prog 86 5 = some ⟨ "FieldAlign_", 5, 5, false, "", "", 22⟩ := by kernel_rfl
theorem field86_6 : fieldOf Try.prog 86 6 = some ⟨ "Kind_", 81, 6, false, "", "", 23⟩ := by kernel_rfl
theorem field86_7 : fieldOf Try.prog 86 7 = some ⟨ "Equal", 82, 7, false, "", "", 24⟩ := by kernel_rfl
theorem field86_8 : fieldOf Try.prog 86 8 = some ⟨ "GCData", 83, 8, false, "", "", 32⟩ := by kernel_rfl
theorem field86_9 : fieldOf Try.prog 86 9 = some ⟨ "Str", 84, 9, false, "", "", 40⟩ := by kernel_rfl
theorem field86_10 : fieldOf Try.prog 86 10 = some ⟨ "PtrToThis", 85, 10, false, "", "", 44⟩ := by kernel_rfl
theorem field87_0 : fieldOf Try.prog 87 0 = some ⟨ "Size_", 12, 0, false, "", "", 0⟩ := by kernel_rfl
theorem field87_1 : fieldOf Try.prog 87 1 = some ⟨ "PtrBytes", 12, 1, false, "", "", 8⟩ := by kernel_rfl
theorem field87_2 : fieldOf Try.prog 87 2 = some ⟨ "Hash", 79, 2, false, "", "", 16⟩ := by kernel_rfl
theorem field87_3 : fieldOf Try.prog 87 3 = some ⟨ "TFlag", 80, 3, false, "", "", 20⟩ := by kernel_rfl
theorem field87_4 : fieldOf Try.prog 87 4 = some ⟨ "Align_", 5, 4, false, "", "", 21⟩ := by kernel_rfl
theorem field87_5 : fieldOf Try.prog 87 5 = some ⟨ "FieldAlign_", 5, 5, false, "", "", 22⟩ := by kernel_rfl
theorem field87_6 : fieldOf Try.prog 87 6 = some ⟨ "Kind_", 81, 6, false, "", "", 23⟩ := by kernel_rfl
theorem field87_7 : fieldOf Try.prog 87 7 = some ⟨ "Equal", 82, 7, false, "", "", 24⟩ := by kernel_rfl
theorem field87_8 : fieldOf Try.prog 87 8 = some ⟨ "GCData", 83, 8, false, "", "", 32⟩ := by kernel_rfl
theorem field87_9 : fieldOf Try.prog 87 9 = some ⟨ "Str", 84, 9, false, "", "", 40⟩ := by kernel_rfl
theorem field87_10 : fieldOf Try.prog 87 10 = some ⟨ "PtrToThis", 85, 10, false, "", "", 44⟩ := by kernel_rfl

/-! All facts on types, some at once. -/
theorem tys0 :
  Try.prog.cellsOf 2 = 1 ∧
  Try.prog.bytesOf 2 = 8 ∧
  zeroOf Try.prog 2 = .int .i64 0 ∧
  Try.prog.cellsOf 3 = 1 ∧
  Try.prog.bytesOf 3 = 8 ∧
  zeroOf Try.prog 3 = .int .i64 0 ∧
  Try.prog.cellsOf 4 = 1 ∧
  Try.prog.bytesOf 4 = 1 ∧
  zeroOf Try.prog 4 = .bool false ∧
  Try.prog.cellsOf 5 = 1 ∧
  Try.prog.bytesOf 5 = 1 ∧
  zeroOf Try.prog 5 = .int .u8 0 ∧
  Try.prog.cellsOf 6 = 1 ∧
  Try.prog.bytesOf 6 = 1 ∧
  zeroOf Try.prog 6 = .int .u8 0 ∧
  Try.prog.cellsOf 9 = 1 ∧
  Try.prog.bytesOf 9 = 16 ∧
  zeroOf Try.prog 9 = .str [] ∧
  Try.prog.cellsOf 12 = 1 ∧
  Try.prog.bytesOf 12 = 8 ∧
  zeroOf Try.prog 12 = .int .u64 0 ∧
  Try.prog.cellsOf 21 = 1 ∧
  Try.prog.bytesOf 21 = 4 ∧
  zeroOf Try.prog 21 = .int .i32 0 ∧
  Try.prog.cellsOf 22 = 1 ∧
  Try.prog.bytesOf 22 = 24 ∧
  zeroOf Try.prog 22 = .nils ∧
  Try.prog.cellsOf 23 = 1 ∧
  Try.prog.bytesOf 23 = 24 ∧
  zeroOf Try.prog 23 = .nils ∧
  Try.prog.cellsOf 24 = 3 ∧
  Try.prog.bytesOf 24 = 64 ∧
  zeroOf Try.prog 24 = .agg [.str [], .nils, .nils] ∧
  Try.prog.cellsOf 25 = 3 ∧
  Try.prog.bytesOf 25 = 64 ∧
  zeroOf Try.prog 25 = .agg [.str [], .nils, .nils] ∧
  Try.prog.cellsOf 28 = 1 ∧
  Try.prog.bytesOf 28 = 24 ∧
  zeroOf Try.prog 28 = .nils ∧
  Try.prog.cellsOf 29 = 3 :=
  ⟨cells2, bytes2, zero2, cells3, bytes3, zero3, cells4, bytes4, zero4, cells5, bytes5, zero5, cells6, bytes6, zero6, cells9, bytes9, zero9, cells12, bytes12, zero12, cells21, bytes21, zero21, cells22, bytes22, zero22, cells23, bytes23, zero23, cells24, bytes24, zero24, cells25, bytes25, zero25, cells28, bytes28, zero28, cells29⟩
theorem tys1 :
  Try.prog.bytesOf 29 = 64 ∧
  zeroOf Try.prog 29 = .agg [.str [], .nils, .nils] ∧
  Try.prog.cellsOf 30 = 3 ∧
  Try.prog.bytesOf 30 = 64 ∧
  zeroOf Try.prog 30 = .agg [.str [], .nils, .nils] ∧
  Try.prog.cellsOf 34 = 1 ∧
  Try.prog.bytesOf 34 = 24 ∧
  zeroOf Try.prog 34 = .nils ∧
  Try.prog.cellsOf 37 = 1 ∧
  Try.prog.bytesOf 37 = 24 ∧
  zeroOf Try.prog 37 = .nils ∧
  Try.prog.cellsOf 43 = 1 ∧
  Try.prog.bytesOf 43 = 8 ∧
  zeroOf Try.prog 43 = .nilp ∧
  Try.prog.cellsOf 53 = 5 ∧
  Try.prog.bytesOf 53 = 56 ∧
  zeroOf Try.prog 53 = .agg [.int .i64 0, .nils, .int .i64 0, .int .i64 0, .int .i64 0] ∧
  Try.prog.cellsOf 54 = 5 ∧
  Try.prog.bytesOf 54 = 56 ∧
  zeroOf Try.prog 54 = .agg [.int .i64 0, .nils, .int .i64 0, .int .i64 0, .int .i64 0] ∧
  Try.prog.cellsOf 55 = 5 ∧
  Try.prog.bytesOf 55 = 56 ∧
  zeroOf Try.prog 55 = .agg [.int .i64 0, .nils, .int .i64 0, .int .i64 0, .int .i64 0] ∧
  Try.prog.cellsOf 63 = 1 ∧
  Try.prog.bytesOf 63 = 8 ∧
  zeroOf Try.prog 63 = .nilp ∧
  Try.prog.cellsOf 73 = 4 ∧
  Try.prog.bytesOf 73 = 40 ∧
  zeroOf Try.prog 73 = .agg [.nilp, .nilp, .nilp, .str []] ∧
  Try.prog.cellsOf 74 = 4 ∧
  Try.prog.bytesOf 74 = 40 ∧
  zeroOf Try.prog 74 = .agg [.nilp, .nilp, .nilp, .str []] ∧
  Try.prog.cellsOf 79 = 1 ∧
  Try.prog.bytesOf 79 = 4 ∧
  zeroOf Try.prog 79 = .int .u32 0 ∧
  Try.prog.cellsOf 80 = 1 ∧
  Try.prog.bytesOf 80 = 1 ∧
  zeroOf Try.prog 80 = .int .u8 0 ∧
  Try.prog.cellsOf 81 = 1 ∧
  Try.prog.bytesOf 81 = 1 :=
  ⟨bytes29, zero29, cells30, bytes30, zero30, cells34, bytes34, zero34, cells37, bytes37, zero37, cells43, bytes43, zero43, cells53, bytes53, zero53, cells54, bytes54, zero54, cells55, bytes55, zero55, cells63, bytes63, zero63, cells73, bytes73, zero73, cells74, bytes74, zero74, cells79, bytes79, zero79, cells80, bytes80, zero80, cells81, bytes81⟩
theorem tys2 :
  zeroOf Try.prog 81 = .int .u8 0 ∧
  Try.prog.cellsOf 83 = 1 ∧
  Try.prog.bytesOf 83 = 8 ∧
  zeroOf Try.prog 83 = .nilp ∧
  Try.prog.cellsOf 84 = 1 ∧
  Try.prog.bytesOf 84 = 4 ∧
  zeroOf Try.prog 84 = .int .i32 0 ∧
  Try.prog.cellsOf 85 = 1 ∧
  Try.prog.bytesOf 85 = 4 ∧
  zeroOf Try.prog 85 = .int .i32 0 ∧
  Try.prog.cellsOf 86 = 11 ∧
  Try.prog.bytesOf 86 = 48 ∧
  zeroOf Try.prog 86 = .agg [.int .u64 0, .int .u64 0, .int .u32 0, .int .u8 0, .int .u8 0, .int .u8 0, .int .u8 0, .nilf, .nilp, .int .i32 0, .int .i32 0] ∧
  Try.prog.cellsOf 87 = 11 ∧
  Try.prog.bytesOf 87 = 48 ∧
  zeroOf Try.prog 87 = .agg [.int .u64 0, .int .u64 0, .int .u32 0, .int .u8 0, .int .u8 0, .int .u8 0, .int .u8 0, .nilf, .nilp, .int .i32 0, .int .i32 0] ∧
  fieldOf Try.prog 24 0 = some ⟨ "Name", 9, 0, false, "", "", 0⟩ ∧
  fieldOf Try.prog 24 1 = some ⟨ "Rules", 22, 1, false, "", "", 16⟩ ∧
  fieldOf Try.prog 24 2 = some ⟨ "Incomes", 23, 2, false, "", "", 40⟩ ∧
  fieldOf Try.prog 25 0 = some ⟨ "Name", 9, 0, false, "", "", 0⟩ ∧
  fieldOf Try.prog 25 1 = some ⟨ "Rules", 22, 1, false, "", "", 16⟩ ∧
  fieldOf Try.prog 25 2 = some ⟨ "Incomes", 23, 2, false, "", "", 40⟩ ∧
  fieldOf Try.prog 29 0 = some ⟨ "Name", 9, 0, false, "", "", 0⟩ ∧
  fieldOf Try.prog 29 1 = some ⟨ "Rules", 28, 1, false, "", "", 16⟩ ∧
  fieldOf Try.prog 29 2 = some ⟨ "Incomes", 23, 2, false, "", "", 40⟩ ∧
  fieldOf Try.prog 30 0 = some ⟨ "Name", 9, 0, false, "", "", 0⟩ ∧
  fieldOf Try.prog 30 1 = some ⟨ "Rules", 28, 1, false, "", "", 16⟩ ∧
  fieldOf Try.prog 30 2 = some ⟨ "Incomes", 23, 2, false, "", "", 40⟩ ∧
  fieldOf Try.prog 53 0 = some ⟨ "Head", 2, 0, false, "", "", 0⟩ ∧
  fieldOf Try.prog 53 1 = some ⟨ "Ifs", 23, 1, false, "", "", 8⟩ ∧
  fieldOf Try.prog 53 2 = some ⟨ "From", 2, 2, false, "", "", 32⟩ ∧
  fieldOf Try.prog 53 3 = some ⟨ "To", 2, 3, false, "", "", 40⟩ ∧
  fieldOf Try.prog 53 4 = some ⟨ "Rank", 2, 4, false, "", "", 48⟩ ∧
  fieldOf Try.prog 54 0 = some ⟨ "Head", 2, 0, false, "", "", 0⟩ ∧
  fieldOf Try.prog 54 1 = some ⟨ "Ifs", 23, 1, false, "", "", 8⟩ ∧
  fieldOf Try.prog 54 2 = some ⟨ "From", 2, 2, false, "", "", 32⟩ ∧
  fieldOf Try.prog 54 3 = some ⟨ "To", 2, 3, false, "", "", 40⟩ ∧
  fieldOf Try.prog 54 4 = some ⟨ "Rank", 2, 4, false, "", "", 48⟩ ∧
  fieldOf Try.prog 55 0 = some ⟨ "Head", 2, 0, false, "", "", 0⟩ ∧
  fieldOf Try.prog 55 1 = some ⟨ "Ifs", 23, 1, false, "", "", 8⟩ :=
  ⟨zero81, cells83, bytes83, zero83, cells84, bytes84, zero84, cells85, bytes85, zero85, cells86, bytes86, zero86, cells87, bytes87, zero87, field24_0, field24_1, field24_2, field25_0, field25_1, field25_2, field29_0, field29_1, field29_2, field30_0, field30_1, field30_2, field53_0, field53_1, field53_2, field53_3, field53_4, field54_0, field54_1, field54_2, field54_3, field54_4, field55_0, field55_1⟩
theorem tys3 :
  fieldOf Try.prog 55 2 = some ⟨ "From", 2, 2, false, "", "", 32⟩ ∧
  fieldOf Try.prog 55 3 = some ⟨ "To", 2, 3, false, "", "", 40⟩ ∧
  fieldOf Try.prog 55 4 = some ⟨ "Rank", 2, 4, false, "", "", 48⟩ ∧
  fieldOf Try.prog 73 0 = some ⟨ "_interface", 17, 0, false, "", "runtime", 0⟩ ∧
  fieldOf Try.prog 73 1 = some ⟨ "concrete", 17, 1, false, "", "runtime", 8⟩ ∧
  fieldOf Try.prog 73 2 = some ⟨ "asserted", 17, 2, false, "", "runtime", 16⟩ ∧
  fieldOf Try.prog 73 3 = some ⟨ "missingMethod", 9, 3, false, "", "runtime", 24⟩ ∧
  fieldOf Try.prog 74 0 = some ⟨ "_interface", 17, 0, false, "", "runtime", 0⟩ ∧
  fieldOf Try.prog 74 1 = some ⟨ "concrete", 17, 1, false, "", "runtime", 8⟩ ∧
  fieldOf Try.prog 74 2 = some ⟨ "asserted", 17, 2, false, "", "runtime", 16⟩ ∧
  fieldOf Try.prog 74 3 = some ⟨ "missingMethod", 9, 3, false, "", "runtime", 24⟩ ∧
  fieldOf Try.prog 86 0 = some ⟨ "Size_", 12, 0, false, "", "", 0⟩ ∧
  fieldOf Try.prog 86 1 = some ⟨ "PtrBytes", 12, 1, false, "", "", 8⟩ ∧
  fieldOf Try.prog 86 2 = some ⟨ "Hash", 79, 2, false, "", "", 16⟩ ∧
  fieldOf Try.prog 86 3 = some ⟨ "TFlag", 80, 3, false, "", "", 20⟩ ∧
  fieldOf Try.prog 86 4 = some ⟨ "Align_", 5, 4, false, "", "", 21⟩ ∧
  fieldOf Try.prog 86 5 = some ⟨ "FieldAlign_", 5, 5, false, "", "", 22⟩ ∧
  fieldOf Try.prog 86 6 = some ⟨ "Kind_", 81, 6, false, "", "", 23⟩ ∧
  fieldOf Try.prog 86 7 = some ⟨ "Equal", 82, 7, false, "", "", 24⟩ ∧
  fieldOf Try.prog 86 8 = some ⟨ "GCData", 83, 8, false, "", "", 32⟩ ∧
  fieldOf Try.prog 86 9 = some ⟨ "Str", 84, 9, false, "", "", 40⟩ ∧
  fieldOf Try.prog 86 10 = some ⟨ "PtrToThis", 85, 10, false, "", "", 44⟩ ∧
  fieldOf Try.prog 87 0 = some ⟨ "Size_", 12, 0, false, "", "", 0⟩ ∧
  fieldOf Try.prog 87 1 = some ⟨ "PtrBytes", 12, 1, false, "", "", 8⟩ ∧
  fieldOf Try.prog 87 2 = some ⟨ "Hash", 79, 2, false, "", "", 16⟩ ∧
  fieldOf Try.prog 87 3 = some ⟨ "TFlag", 80, 3, false, "", "", 20⟩ ∧
  fieldOf Try.prog 87 4 = some ⟨ "Align_", 5, 4, false, "", "", 21⟩ ∧
  fieldOf Try.prog 87 5 = some ⟨ "FieldAlign_", 5, 5, false, "", "", 22⟩ ∧
  fieldOf Try.prog 87 6 = some ⟨ "Kind_", 81, 6, false, "", "", 23⟩ ∧
  fieldOf Try.prog 87 7 = some ⟨ "Equal", 82, 7, false, "", "", 24⟩ ∧
  fieldOf Try.prog 87 8 = some ⟨ "GCData", 83, 8, false, "", "", 32⟩ ∧
  fieldOf Try.prog 87 9 = some ⟨ "Str", 84, 9, false, "", "", 40⟩ ∧
  fieldOf Try.prog 87 10 = some ⟨ "PtrToThis", 85, 10, false, "", "", 44⟩ :=
  ⟨field55_2, field55_3, field55_4, field73_0, field73_1, field73_2, field73_3, field74_0, field74_1, field74_2, field74_3, field86_0, field86_1, field86_2, field86_3, field86_4, field86_5, field86_6, field86_7, field86_8, field86_9, field86_10, field87_0, field87_1, field87_2, field87_3, field87_4, field87_5, field87_6, field87_7, field87_8, field87_9, field87_10⟩
def und0 := And.intro @Try.underlying2 (And.intro @Try.underlying3 (And.intro @Try.underlying4 (And.intro @Try.underlying5 (And.intro @Try.underlying6 (And.intro @Try.underlying9 (And.intro @Try.underlying12 (And.intro @Try.underlying21 (And.intro @Try.underlying22 (And.intro @Try.underlying23 (And.intro @Try.underlying24 @Try.underlying25))))))))))
def und1 := And.intro @Try.underlying28 (And.intro @Try.underlying29 (And.intro @Try.underlying30 (And.intro @Try.underlying34 (And.intro @Try.underlying37 (And.intro @Try.underlying43 (And.intro @Try.underlying53 (And.intro @Try.underlying54 (And.intro @Try.underlying55 (And.intro @Try.underlying63 (And.intro @Try.underlying73 @Try.underlying74))))))))))
def und2 := And.intro @Try.underlying79 (And.intro @Try.underlying80 (And.intro @Try.underlying81 (And.intro @Try.underlying83 (And.intro @Try.underlying84 (And.intro @Try.underlying85 (And.intro @Try.underlying86 @Try.underlying87))))))
/- tys0 tys1 tys2 tys3 und0 und1 und2 -/

theorem go2 : isGo Try.prog 2 := by unfold isGo; rw [Try.func2]; exact ⟨rfl, by kernel_rfl⟩
theorem go3 : isGo Try.prog 3 := by unfold isGo; rw [Try.func3]; exact ⟨rfl, by kernel_rfl⟩
theorem go4 : isGo Try.prog 4 := by unfold isGo; rw [Try.func4]; exact ⟨rfl, by kernel_rfl⟩
theorem go5 : isGo Try.prog 5 := by unfold isGo; rw [Try.func5]; exact ⟨rfl, by kernel_rfl⟩
theorem go6 : isGo Try.prog 6 := by unfold isGo; rw [Try.func6]; exact ⟨rfl, by kernel_rfl⟩
theorem go7 : isGo Try.prog 7 := by unfold isGo; rw [Try.func7]; exact ⟨rfl, by kernel_rfl⟩
theorem go8 : isGo Try.prog 8 := by unfold isGo; rw [Try.func8]; exact ⟨rfl, by kernel_rfl⟩
theorem go9 : isGo Try.prog 9 := by unfold isGo; rw [Try.func9]; exact ⟨rfl, by kernel_rfl⟩
theorem go10 : isGo Try.prog 10 := by unfold isGo; rw [Try.func10]; exact ⟨rfl, by kernel_rfl⟩
theorem go11 : isGo Try.prog 11 := by unfold isGo; rw [Try.func11]; exact ⟨rfl, by kernel_rfl⟩
theorem go12 : isGo Try.prog 12 := by unfold isGo; rw [Try.func12]; exact ⟨rfl, by kernel_rfl⟩
theorem go13 : isGo Try.prog 13 := by unfold isGo; rw [Try.func13]; exact ⟨rfl, by kernel_rfl⟩
theorem go14 : isGo Try.prog 14 := by unfold isGo; rw [Try.func14]; exact ⟨rfl, by kernel_rfl⟩
theorem go15 : isGo Try.prog 15 := by unfold isGo; rw [Try.func15]; exact ⟨rfl, by kernel_rfl⟩
theorem go16 : isGo Try.prog 16 := by unfold isGo; rw [Try.func16]; exact ⟨rfl, by kernel_rfl⟩
theorem go17 : isGo Try.prog 17 := by unfold isGo; rw [Try.func17]; exact ⟨rfl, by kernel_rfl⟩
theorem go18 : isGo Try.prog 18 := by unfold isGo; rw [Try.func18]; exact ⟨rfl, by kernel_rfl⟩
theorem go19 : isGo Try.prog 19 := by unfold isGo; rw [Try.func19]; exact ⟨rfl, by kernel_rfl⟩
theorem go20 : isGo Try.prog 20 := by unfold isGo; rw [Try.func20]; exact ⟨rfl, by kernel_rfl⟩
theorem go21 : isGo Try.prog 21 := by unfold isGo; rw [Try.func21]; exact ⟨rfl, by kernel_rfl⟩
theorem go22 : isGo Try.prog 22 := by unfold isGo; rw [Try.func22]; exact ⟨rfl, by kernel_rfl⟩
theorem go23 : isGo Try.prog 23 := by unfold isGo; rw [Try.func23]; exact ⟨rfl, by kernel_rfl⟩
theorem go24 : isGo Try.prog 24 := by unfold isGo; rw [Try.func24]; exact ⟨rfl, by kernel_rfl⟩
theorem go25 : isGo Try.prog 25 := by unfold isGo; rw [Try.func25]; exact ⟨rfl, by kernel_rfl⟩
theorem go26 : isGo Try.prog 26 := by unfold isGo; rw [Try.func26]; exact ⟨rfl, by kernel_rfl⟩
theorem go27 : isGo Try.prog 27 := by unfold isGo; rw [Try.func27]; exact ⟨rfl, by kernel_rfl⟩
theorem go28 : isGo Try.prog 28 := by unfold isGo; rw [Try.func28]; exact ⟨rfl, by kernel_rfl⟩
theorem go29 : isGo Try.prog 29 := by unfold isGo; rw [Try.func29]; exact ⟨rfl, by kernel_rfl⟩
theorem go30 : isGo Try.prog 30 := by unfold isGo; rw [Try.func30]; exact ⟨rfl, by kernel_rfl⟩
theorem go31 : isGo Try.prog 31 := by unfold isGo; rw [Try.func31]; exact ⟨rfl, by kernel_rfl⟩
theorem go32 : isGo Try.prog 32 := by unfold isGo; rw [Try.func32]; exact ⟨rfl, by kernel_rfl⟩
theorem go33 : isGo Try.prog 33 := by unfold isGo; rw [Try.func33]; exact ⟨rfl, by kernel_rfl⟩
theorem go34 : isGo Try.prog 34 := by unfold isGo; rw [Try.func34]; exact ⟨rfl, by kernel_rfl⟩
theorem go35 : isGo Try.prog 35 := by unfold isGo; rw [Try.func35]; exact ⟨rfl, by kernel_rfl⟩
theorem go36 : isGo Try.prog 36 := by unfold isGo; rw [Try.func36]; exact ⟨rfl, by kernel_rfl⟩
theorem go37 : isGo Try.prog 37 := by unfold isGo; rw [Try.func37]; exact ⟨rfl, by kernel_rfl⟩
theorem go38 : isGo Try.prog 38 := by unfold isGo; rw [Try.func38]; exact ⟨rfl, by kernel_rfl⟩
theorem go39 : isGo Try.prog 39 := by unfold isGo; rw [Try.func39]; exact ⟨rfl, by kernel_rfl⟩
theorem go40 : isGo Try.prog 40 := by unfold isGo; rw [Try.func40]; exact ⟨rfl, by kernel_rfl⟩
theorem go41 : isGo Try.prog 41 := by unfold isGo; rw [Try.func41]; exact ⟨rfl, by kernel_rfl⟩
theorem go42 : isGo Try.prog 42 := by unfold isGo; rw [Try.func42]; exact ⟨rfl, by kernel_rfl⟩
theorem go43 : isGo Try.prog 43 := by unfold isGo; rw [Try.func43]; exact ⟨rfl, by kernel_rfl⟩
theorem go44 : isGo Try.prog 44 := by unfold isGo; rw [Try.func44]; exact ⟨rfl, by kernel_rfl⟩
theorem go45 : isGo Try.prog 45 := by unfold isGo; rw [Try.func45]; exact ⟨rfl, by kernel_rfl⟩
theorem go46 : isGo Try.prog 46 := by unfold isGo; rw [Try.func46]; exact ⟨rfl, by kernel_rfl⟩
theorem go47 : isGo Try.prog 47 := by unfold isGo; rw [Try.func47]; exact ⟨rfl, by kernel_rfl⟩
theorem go48 : isGo Try.prog 48 := by unfold isGo; rw [Try.func48]; exact ⟨rfl, by kernel_rfl⟩
theorem go49 : isGo Try.prog 49 := by unfold isGo; rw [Try.func49]; exact ⟨rfl, by kernel_rfl⟩
theorem go50 : isGo Try.prog 50 := by unfold isGo; rw [Try.func50]; exact ⟨rfl, by kernel_rfl⟩
theorem go51 : isGo Try.prog 51 := by unfold isGo; rw [Try.func51]; exact ⟨rfl, by kernel_rfl⟩
theorem go52 : isGo Try.prog 52 := by unfold isGo; rw [Try.func52]; exact ⟨rfl, by kernel_rfl⟩
theorem go53 : isGo Try.prog 53 := by unfold isGo; rw [Try.func53]; exact ⟨rfl, by kernel_rfl⟩
theorem go54 : isGo Try.prog 54 := by unfold isGo; rw [Try.func54]; exact ⟨rfl, by kernel_rfl⟩
theorem go55 : isGo Try.prog 55 := by unfold isGo; rw [Try.func55]; exact ⟨rfl, by kernel_rfl⟩
theorem go56 : isGo Try.prog 56 := by unfold isGo; rw [Try.func56]; exact ⟨rfl, by kernel_rfl⟩
theorem go57 : isGo Try.prog 57 := by unfold isGo; rw [Try.func57]; exact ⟨rfl, by kernel_rfl⟩
theorem go58 : isGo Try.prog 58 := by unfold isGo; rw [Try.func58]; exact ⟨rfl, by kernel_rfl⟩
def md2 : Nat → List Bool := fun _ => []
def md3 : Nat → List Bool
  | 10 => [false, false, false, false, false]
  | _ => []
def md4 : Nat → List Bool := fun _ => []
def md5 : Nat → List Bool := fun _ => []
def md6 : Nat → List Bool := fun _ => []
def md7 : Nat → List Bool := fun _ => []
def md8 : Nat → List Bool := fun _ => []
def md9 : Nat → List Bool := fun _ => []
def md10 : Nat → List Bool := fun _ => []
def md11 : Nat → List Bool
  | 6 => [false, false, false, false, false, false, false, false, false, false, false, false, false, false, false, false, false, false, false, false, false, false, false, false, false, false, false, false, false, false, false, false, false, false, false, false, false, false, false]
  | _ => []
def md12 : Nat → List Bool := fun _ => []
def md13 : Nat → List Bool := fun _ => []
def md14 : Nat → List Bool
  | 6 => [false, false, false, false, false, false, false, false, false, false]
  | _ => []
def md15 : Nat → List Bool := fun _ => []
def md16 : Nat → List Bool := fun _ => []
def md17 : Nat → List Bool := fun _ => []
def md18 : Nat → List Bool := fun _ => []
def md19 : Nat → List Bool := fun _ => []
def md20 : Nat → List Bool := fun _ => []
def md21 : Nat → List Bool := fun _ => []
def md22 : Nat → List Bool := fun _ => []
def md23 : Nat → List Bool
  | 6 => [false, false, false, false, false, false, false, false, false, false]
  | _ => []
def md24 : Nat → List Bool
  | 6 => [false, false, false, false, false, false, false, false, false]
  | _ => []
def md25 : Nat → List Bool
  | 6 => [false, false, false, false, false, false, false, false, false, false, false, false, false, false, false, false, false, false, false, false, false, false, false, false, false, false, false, false, false, false, false, false, false, false, false, false, false, false, false, false, false, false, false, false, false, false, false, false, false, false, false, false, false, false, false, false, false, false, false, false, false, false, false, false]
  | _ => []
def md26 : Nat → List Bool
  | 6 => [false, false, false, false, false, false, false, false, false]
  | _ => []
def md27 : Nat → List Bool := fun _ => []
def md28 : Nat → List Bool := fun _ => []
def md29 : Nat → List Bool := fun _ => []
def md30 : Nat → List Bool
  | 6 => [false, false, false, false, false, false, false, false, false]
  | _ => []
def md31 : Nat → List Bool := fun _ => []
def md32 : Nat → List Bool := fun _ => []
def md33 : Nat → List Bool := fun _ => []
def md34 : Nat → List Bool := fun _ => []
def md35 : Nat → List Bool := fun _ => []
def md36 : Nat → List Bool := fun _ => []
def md37 : Nat → List Bool := fun _ => []
def md38 : Nat → List Bool := fun _ => []
def md39 : Nat → List Bool := fun _ => []
def md40 : Nat → List Bool := fun _ => []
def md41 : Nat → List Bool := fun _ => []
def md42 : Nat → List Bool := fun _ => []
def md43 : Nat → List Bool
  | 1 => [false, false, false, false, false, false, false, false, false, false, false, false, false, false, false, false, false, false, false, false, false, false, false, false, false, false, false, false, false, false, false, false, false, false, false, false, false, false, false, false, false, false, false, false, false, false, false, false, false, false, false, false, false]
  | _ => []
def md44 : Nat → List Bool := fun _ => []
def md45 : Nat → List Bool := fun _ => []
def md46 : Nat → List Bool := fun _ => []
def md47 : Nat → List Bool := fun _ => []
def md48 : Nat → List Bool := fun _ => []
def md49 : Nat → List Bool := fun _ => []
def md50 : Nat → List Bool := fun _ => []
def md51 : Nat → List Bool := fun _ => []
def md52 : Nat → List Bool
  | 4 => [false, false, false, false, false, false, false, false, false, false, false, false, false, false, false, false, false, false, false, false, false, false, false, false]
  | _ => []
def md53 : Nat → List Bool := fun _ => []
def md54 : Nat → List Bool := fun _ => []
def md55 : Nat → List Bool := fun _ => []
def md56 : Nat → List Bool := fun _ => []
def md57 : Nat → List Bool := fun _ => []
def md58 : Nat → List Bool := fun _ => []

end Go.Proofs.Ytcecldjnjmoikaa
