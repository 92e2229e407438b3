/- Closed facts of the program, for the abstract layer: types and functions. Printed by gen_base.py. -/
import Derived.Test.YtpnknljphgkioaaProg
import Derived.Test.YtpnknljphgkioaaAbsY
set_option linter.unusedVariables false
set_option linter.defProp false
namespace Go.Proofs.Ytpnknljphgkioaa
open Go Go.Abs

theorem mixed : Try.prog.follows .mixedOrders = true := by kernel_rfl
theorem cells2 : Try.prog.cellsOf 2 = 1 := by kernel_rfl
theorem bytes2 : Try.prog.bytesOf 2 = 8 := by kernel_rfl
theorem zero2 : zeroOf Try.prog 2 = .int .i64 0 := by kernel_rfl
theorem cells3 : Try.prog.cellsOf 3 = 1 := by kernel_rfl
theorem bytes3 : Try.prog.bytesOf 3 = 8 := by kernel_rfl
theorem zero3 : zeroOf Try.prog 3 = .int .i64 0 := by kernel_rfl
theorem cells4 : Try.prog.cellsOf 4 = 1 := by kernel_rfl
theorem bytes4 : Try.prog.bytesOf 4 = 1 := by kernel_rfl
theorem zero4 : zeroOf Try.prog 4 = .bool false := by kernel_rfl
theorem cells5 : Try.prog.cellsOf 5 = 1 := by kernel_rfl
theorem bytes5 : Try.prog.bytesOf 5 = 1 := by kernel_rfl
theorem zero5 : zeroOf Try.prog 5 = .int .u8 0 := by kernel_rfl
theorem cells6 : Try.prog.cellsOf 6 = 1 := by kernel_rfl
theorem bytes6 : Try.prog.bytesOf 6 = 1 := by kernel_rfl
theorem zero6 : zeroOf Try.prog 6 = .int .u8 0 := by kernel_rfl
theorem cells9 : Try.prog.cellsOf 9 = 1 := by kernel_rfl
theorem bytes9 : Try.prog.bytesOf 9 = 16 := by kernel_rfl
theorem zero9 : zeroOf Try.prog 9 = .str [] := by kernel_rfl
theorem cells12 : Try.prog.cellsOf 12 = 1 := by kernel_rfl
theorem bytes12 : Try.prog.bytesOf 12 = 8 := by kernel_rfl
theorem zero12 : zeroOf Try.prog 12 = .int .u64 0 := by kernel_rfl
theorem cells21 : Try.prog.cellsOf 21 = 1 := by kernel_rfl
theorem bytes21 : Try.prog.bytesOf 21 = 4 := by kernel_rfl
theorem zero21 : zeroOf Try.prog 21 = .int .i32 0 := by kernel_rfl
theorem cells22 : Try.prog.cellsOf 22 = 1 := by kernel_rfl
theorem bytes22 : Try.prog.bytesOf 22 = 24 := by kernel_rfl
theorem zero22 : zeroOf Try.prog 22 = .nils := by kernel_rfl
theorem cells23 : Try.prog.cellsOf 23 = 2 := by kernel_rfl
theorem bytes23 : Try.prog.bytesOf 23 = 48 := by kernel_rfl
theorem zero23 : zeroOf Try.prog 23 = .agg [.nils, .nils] := by kernel_rfl
theorem cells24 : Try.prog.cellsOf 24 = 2 := by kernel_rfl
theorem bytes24 : Try.prog.bytesOf 24 = 48 := by kernel_rfl
theorem zero24 : zeroOf Try.prog 24 = .agg [.nils, .nils] := by kernel_rfl
theorem cells25 : Try.prog.cellsOf 25 = 1 := by kernel_rfl
theorem bytes25 : Try.prog.bytesOf 25 = 24 := by kernel_rfl
theorem zero25 : zeroOf Try.prog 25 = .nils := by kernel_rfl
theorem cells26 : Try.prog.cellsOf 26 = 5 := by kernel_rfl
theorem bytes26 : Try.prog.bytesOf 26 = 120 := by kernel_rfl
theorem zero26 : zeroOf Try.prog 26 = .agg [.nils, .nils, .nils, .nils, .nils] := by kernel_rfl
theorem cells27 : Try.prog.cellsOf 27 = 5 := by kernel_rfl
theorem bytes27 : Try.prog.bytesOf 27 = 120 := by kernel_rfl
theorem zero27 : zeroOf Try.prog 27 = .agg [.nils, .nils, .nils, .nils, .nils] := by kernel_rfl
theorem cells32 : Try.prog.cellsOf 32 = 1 := by kernel_rfl
theorem bytes32 : Try.prog.bytesOf 32 = 4 := by kernel_rfl
theorem zero32 : zeroOf Try.prog 32 = .flt .f32 0 := by kernel_rfl
theorem cells37 : Try.prog.cellsOf 37 = 1 := by kernel_rfl
theorem bytes37 : Try.prog.bytesOf 37 = 8 := by kernel_rfl
theorem zero37 : zeroOf Try.prog 37 = .flt .f64 0 := by kernel_rfl
theorem cells40 : Try.prog.cellsOf 40 = 3 := by kernel_rfl
theorem bytes40 : Try.prog.bytesOf 40 = 72 := by kernel_rfl
theorem zero40 : zeroOf Try.prog 40 = .agg [.nils, .nils, .nils] := by kernel_rfl
theorem cells41 : Try.prog.cellsOf 41 = 3 := by kernel_rfl
theorem bytes41 : Try.prog.bytesOf 41 = 72 := by kernel_rfl
theorem zero41 : zeroOf Try.prog 41 = .agg [.nils, .nils, .nils] := by kernel_rfl
theorem cells44 : Try.prog.cellsOf 44 = 3 := by kernel_rfl
theorem bytes44 : Try.prog.bytesOf 44 = 72 := by kernel_rfl
theorem zero44 : zeroOf Try.prog 44 = .agg [.nils, .nils, .nils] := by kernel_rfl
theorem cells48 : Try.prog.cellsOf 48 = 1 := by kernel_rfl
theorem bytes48 : Try.prog.bytesOf 48 = 24 := by kernel_rfl
theorem zero48 : zeroOf Try.prog 48 = .nils := by kernel_rfl
theorem cells51 : Try.prog.cellsOf 51 = 1 := by kernel_rfl
theorem bytes51 : Try.prog.bytesOf 51 = 24 := by kernel_rfl
theorem zero51 : zeroOf Try.prog 51 = .nils := by kernel_rfl
theorem cells53 : Try.prog.cellsOf 53 = 1 := by kernel_rfl
theorem bytes53 : Try.prog.bytesOf 53 = 8 := by kernel_rfl
theorem zero53 : zeroOf Try.prog 53 = .cpx .f32 0 0 := by kernel_rfl
theorem cells95 : Try.prog.cellsOf 95 = 1 := by kernel_rfl
theorem bytes95 : Try.prog.bytesOf 95 = 8 := by kernel_rfl
theorem zero95 : zeroOf Try.prog 95 = .nilp := by kernel_rfl
theorem cells100 : Try.prog.cellsOf 100 = 1 := by kernel_rfl
theorem bytes100 : Try.prog.bytesOf 100 = 8 := by kernel_rfl
theorem zero100 : zeroOf Try.prog 100 = .nilp := by kernel_rfl
theorem cells116 : Try.prog.cellsOf 116 = 1 := by kernel_rfl
theorem bytes116 : Try.prog.bytesOf 116 = 24 := by kernel_rfl
theorem zero116 : zeroOf Try.prog 116 = .nils := by kernel_rfl
theorem cells119 : Try.prog.cellsOf 119 = 1 := by kernel_rfl
theorem bytes119 : Try.prog.bytesOf 119 = 8 := by kernel_rfl
theorem zero119 : zeroOf Try.prog 119 = .int .u64 0 := by kernel_rfl
theorem cells120 : Try.prog.cellsOf 120 = 3 := by kernel_rfl
theorem bytes120 : Try.prog.bytesOf 120 = 40 := by kernel_rfl
theorem zero120 : zeroOf Try.prog 120 = .agg [.nils, .int .i64 0, .int .u64 0] := by kernel_rfl
theorem cells121 : Try.prog.cellsOf 121 = 3 := by kernel_rfl
theorem bytes121 : Try.prog.bytesOf 121 = 40 := by kernel_rfl
theorem zero121 : zeroOf Try.prog 121 = .agg [.nils, .int .i64 0, .int .u64 0] := by kernel_rfl
theorem cells124 : Try.prog.cellsOf 124 = 1 := by kernel_rfl
theorem bytes124 : Try.prog.bytesOf 124 = 16 := by kernel_rfl
theorem zero124 : zeroOf Try.prog 124 = .cpx .f64 0 0 := by kernel_rfl
theorem cells138 : Try.prog.cellsOf 138 = 1 := by kernel_rfl
theorem bytes138 : Try.prog.bytesOf 138 = 24 := by kernel_rfl
theorem zero138 : zeroOf Try.prog 138 = .nils := by kernel_rfl
theorem cells145 : Try.prog.cellsOf 145 = 1 := by kernel_rfl
theorem bytes145 : Try.prog.bytesOf 145 = 8 := by kernel_rfl
theorem zero145 : zeroOf Try.prog 145 = .int .u64 0 := by kernel_rfl
theorem cells151 : Try.prog.cellsOf 151 = 1 := by kernel_rfl
theorem bytes151 : Try.prog.bytesOf 151 = 4 := by kernel_rfl
theorem zero151 : zeroOf Try.prog 151 = .int .u32 0 := by kernel_rfl
theorem cells157 : Try.prog.cellsOf 157 = 4 := by kernel_rfl
theorem bytes157 : Try.prog.bytesOf 157 = 40 := by kernel_rfl
theorem zero157 : zeroOf Try.prog 157 = .agg [.nilp, .nilp, .nilp, .str []] := by kernel_rfl
theorem cells158 : Try.prog.cellsOf 158 = 4 := by kernel_rfl
theorem bytes158 : Try.prog.bytesOf 158 = 40 := by kernel_rfl
theorem zero158 : zeroOf Try.prog 158 = .agg [.nilp, .nilp, .nilp, .str []] := by kernel_rfl
theorem cells163 : Try.prog.cellsOf 163 = 1 := by kernel_rfl
theorem bytes163 : Try.prog.bytesOf 163 = 1 := by kernel_rfl
theorem zero163 : zeroOf Try.prog 163 = .int .u8 0 := by kernel_rfl
theorem cells164 : Try.prog.cellsOf 164 = 1 := by kernel_rfl
theorem bytes164 : Try.prog.bytesOf 164 = 1 := by kernel_rfl
theorem zero164 : zeroOf Try.prog 164 = .int .u8 0 := by kernel_rfl
theorem cells166 : Try.prog.cellsOf 166 = 1 := by kernel_rfl
theorem bytes166 : Try.prog.bytesOf 166 = 8 := by kernel_rfl
theorem zero166 : zeroOf Try.prog 166 = .nilp := by kernel_rfl
theorem cells167 : Try.prog.cellsOf 167 = 1 := by kernel_rfl
theorem bytes167 : Try.prog.bytesOf 167 = 4 := by kernel_rfl
theorem zero167 : zeroOf Try.prog 167 = .int .i32 0 := by kernel_rfl
theorem cells168 : Try.prog.cellsOf 168 = 1 := by kernel_rfl
theorem bytes168 : Try.prog.bytesOf 168 = 4 := by kernel_rfl
theorem zero168 : zeroOf Try.prog 168 = .int .i32 0 := by kernel_rfl
theorem cells169 : Try.prog.cellsOf 169 = 11 := by kernel_rfl
theorem bytes169 : Try.prog.bytesOf 169 = 48 := by kernel_rfl
theorem zero169 : zeroOf Try.prog 169 = .agg [.int .u64 0, .int .u64 0, .int .u32 0, .int .u8 0, .int .u8 0, .int .u8 0, .int .u8 0, .nilf, .nilp, .int .i32 0, .int .i32 0] := by kernel_rfl
theorem cells170 : Try.prog.cellsOf 170 = 11 := by kernel_rfl
theorem bytes170 : Try.prog.bytesOf 170 = 48 := by kernel_rfl
theorem zero170 : zeroOf Try.prog 170 = .agg [.int .u64 0, .int .u64 0, .int .u32 0, .int .u8 0, .int .u8 0, .int .u8 0, .int .u8 0, .nilf, .nilp, .int .i32 0, .int .i32 0] := by kernel_rfl
theorem field7_0 : fieldOf Try.prog 7 0 = some ⟨ "x", 2, 0, false, "", "runtime", 0⟩ := by kernel_rfl
theorem field7_1 : fieldOf Try.prog 7 1 = some ⟨ "y", 3, 1, false, "", "runtime", 8⟩ := by kernel_rfl
theorem field7_2 : fieldOf Try.prog 7 2 = some ⟨ "signed", 4, 2, false, "", "runtime", 16⟩ := by kernel_rfl
theorem field7_3 : fieldOf Try.prog 7 3 = some ⟨ "code", 6, 3, false, "", "runtime", 17⟩ := by kernel_rfl
theorem field8_0 : fieldOf Try.prog 8 0 = some ⟨ "x", 2, 0, false, "", "runtime", 0⟩ := by kernel_rfl
theorem field8_1 : fieldOf Try.prog 8 1 = some ⟨ "y", 3, 1, false, "", "runtime", 8⟩ := by kernel_rfl
theorem field8_2 : fieldOf Try.prog 8 2 = some ⟨ "signed", 4, 2, false, "", "runtime", 16⟩ := by kernel_rfl
theorem field8_3 : fieldOf Try.prog 8 3 = some ⟨ "code", 6, 3, false, "", "runtime", 17⟩ := by kernel_rfl
theorem field13_0 : fieldOf Try.prog 13 0 = some ⟨ "msg", 9, 0, false, "", "runtime", 0⟩ := by kernel_rfl
theorem field13_1 : fieldOf Try.prog 13 1 = some ⟨ "addr", 12, 1, false, "", "runtime", 16⟩ := by kernel_rfl
theorem field14_0 : fieldOf Try.prog 14 0 = some ⟨ "msg", 9, 0, false, "", "runtime", 0⟩ := by kernel_rfl
theorem field14_1 : fieldOf Try.prog 14 1 = some ⟨ "addr", 12, 1, false, "", "runtime", 16⟩ := by kernel_rfl
theorem field23_0 : fieldOf Try.prog 23 0 = some ⟨ "Breaks", 22, 0, false, "", "", 0⟩ := by kernel_rfl
theorem field23_1 : fieldOf Try.prog 23 1 = some ⟨ "Rates", 22, 1, false, "", "", 24⟩ := by kernel_rfl
theorem field24_0 : fieldOf Try.prog 24 0 = some ⟨ "Breaks", 22, 0, false, "", "", 0⟩ := by kernel_rfl
theorem field24_1 : fieldOf Try.prog 24 1 = some ⟨ "Rates", 22, 1, false, "", "", 24⟩ := by kernel_rfl
theorem field26_0 : fieldOf Try.prog 26 0 = some ⟨ "Scale", 24, 0, false, "", "", 0⟩ := by kernel_rfl
theorem field26_1 : fieldOf Try.prog 26 1 = some ⟨ "Pays", 22, 2, false, "", "", 48⟩ := by kernel_rfl
theorem field26_2 : fieldOf Try.prog 26 2 = some ⟨ "Rates", 22, 3, false, "", "", 72⟩ := by kernel_rfl
theorem field26_3 : fieldOf Try.prog 26 3 = some ⟨ "Table", 25, 4, false, "", "", 96⟩ := by kernel_rfl
theorem field27_0 : fieldOf Try.prog 27 0 = some ⟨ "Scale", 24, 0, false, "", "", 0⟩ := by kernel_rfl
theorem field27_1 : fieldOf Try.prog 27 1 = some ⟨ "Pays", 22, 2, false, "", "", 48⟩ := by kernel_rfl
theorem field27_2 : fieldOf Try.prog 27 2 = some ⟨ "Rates", 22, 3, false, "", "", 72⟩ := by kernel_rfl
theorem field27_3 : fieldOf Try.prog 27 3 = some ⟨ "Table", 25, 4, false, "", "", 96⟩ := by kernel_rfl
theorem field40_0 : fieldOf Try.prog 40 0 = some ⟨ "Counts", 25, 0, false, "", "", 0⟩ := by kernel_rfl
theorem field40_1 : fieldOf Try.prog 40 1 = some ⟨ "Stays", 25, 1, false, "", "", 24⟩ := by kernel_rfl
theorem field40_2 : fieldOf Try.prog 40 2 = some ⟨ "Births", 25, 2, false, "", "", 48⟩ := by kernel_rfl
theorem field41_0 : fieldOf Try.prog 41 0 = some ⟨ "Counts", 25, 0, false, "", "", 0⟩ := by kernel_rfl
theorem field41_1 : fieldOf Try.prog 41 1 = some ⟨ "Stays", 25, 1, false, "", "", 24⟩ := by kernel_rfl
theorem field41_2 : fieldOf Try.prog 41 2 = some ⟨ "Births", 25, 2, false, "", "", 48⟩ := by kernel_rfl
theorem field44_0 : fieldOf Try.prog 44 0 = some ⟨ "Counts", 25, 0, false, "", "", 0⟩ := by kernel_rfl
theorem field44_1 : fieldOf Try.prog 44 1 = some ⟨ "Stays", 25, 1, false, "", "", 24⟩ := by kernel_rfl
theorem field44_2 : fieldOf Try.prog 44 2 = some ⟨ "Births", 25, 2, false, "", "", 48⟩ := by kernel_rfl
theorem field157_0 : fieldOf Try.prog 157 0 = some ⟨ "_interface", 17, 0, false, "", "runtime", 0⟩ := by kernel_rfl
theorem field157_1 : fieldOf Try.prog 157 1 = some ⟨ "concrete", 17, 1, false, "", "runtime", 8⟩ := by kernel_rfl
theorem field157_2 : fieldOf Try.prog 157 2 = some ⟨ "asserted", 17, 2, false, "", "runtime", 16⟩ := by kernel_rfl
theorem field157_3 : fieldOf Try.prog 157 3 = some ⟨ "missingMethod", 9, 3, false, "", "runtime", 24⟩ := by kernel_rfl
theorem field158_0 : fieldOf Try.prog 158 0 = some ⟨ "_interface", 17, 0, false, "", "runtime", 0⟩ := by kernel_rfl
theorem field158_1 : fieldOf Try.prog 158 1 = some ⟨ "concrete", 17, 1, false, "", "runtime", 8⟩ := by kernel_rfl
theorem field158_2 : fieldOf Try.prog 158 2 = some ⟨ "asserted", 17, 2, false, "", "runtime", 16⟩ := by kernel_rfl
theorem field158_3 : fieldOf Try.prog 158 3 = some ⟨ "missingMethod", 9, 3, false, "", "runtime", 24⟩ := by kernel_rfl
theorem field160_0 : fieldOf Try.prog 160 0 = some ⟨ "_", 159, 0, false, "", "runtime", 0⟩ := by kernel_rfl
theorem field161_0 : fieldOf Try.prog 161 0 = some ⟨ "_", 159, 0, false, "", "runtime", 0⟩ := by kernel_rfl
theorem field169_0 : fieldOf Try.prog 169 0 = some ⟨ "Size_", 12, 0, false, "", "", 0⟩ := by kernel_rfl
theorem field169_1 : fieldOf Try.prog 169 1 = some ⟨ "PtrBytes", 12, 1, false, "", "", 8⟩ := by kernel_rfl
theorem field169_2 : fieldOf Try.prog 169 2 = some ⟨ "Hash", 151, 2, false, "", "", 16⟩ := by kernel_rfl
theorem field169_3 : fieldOf Try.prog 169 3 = some ⟨ "TFlag", 163, 3, false, "", "", 20⟩ := by kernel_rfl
theorem field169_4 : fieldOf Try.prog 169 4 = some ⟨ "Align_", 5, 4, false, "", "", 21⟩ := by kernel_rfl
theorem field169_5 : fieldOf Try.prog 169 5 = some ⟨ "FieldAlign_", 5, 5, false, "", "", 22⟩ := by kernel_rfl
theorem field169_6 : fieldOf Try.prog 169 6 = some ⟨ "Kind_", 164, 6, false, "", "", 23⟩ := by kernel_rfl
theorem field169_7 : fieldOf Try.prog 169 7 = some ⟨ "Equal", 165, 7, false, "", "", 24⟩ := by kernel_rfl
theorem field169_8 : fieldOf Try.prog 169 8 = some ⟨ "GCData", 166, 8, false, "", "", 32⟩ := by kernel_rfl
theorem field169_9 : fieldOf Try.prog 169 9 = some ⟨ "Str", 167, 9, false, "", "", 40⟩ := by kernel_rfl
theorem field169_10 : fieldOf Try.prog 169 10 = some ⟨ "PtrToThis", 168, 10, false, "", "", 44⟩ := by kernel_rfl
theorem field170_0 : fieldOf Try.prog 170 0 = some ⟨ "Size_", 12, 0, false, "", "", 0⟩ := by kernel_rfl
theorem field170_1 : fieldOf Try.prog 170 1 = some ⟨ "PtrBytes", 12, 1, false, "", "", 8⟩ := by kernel_rfl
theorem field170_2 : fieldOf Try.prog 170 2 = some ⟨ "Hash", 151, 2, false, "", "", 16⟩ := by kernel_rfl
theorem field170_3 : fieldOf Try.prog 170 3 = some ⟨ "TFlag", 163, 3, false, "", "", 20⟩ := by kernel_rfl
theorem field170_4 : fieldOf Try.prog 170 4 = some ⟨ "Align_", 5, 4, false, "", "", 21⟩ := by kernel_rfl
theorem field170_5 : fieldOf Try.prog 170 5 = some ⟨ "FieldAlign_", 5, 5, false, "", "", 22⟩ := by kernel_rfl
theorem field170_6 : fieldOf Try.prog 170 6 = some ⟨ "Kind_", 164, 6, false, "", "", 23⟩ := by kernel_rfl
theorem field170_7 : fieldOf Try.prog 170 7 = some ⟨ "Equal", 165, 7, false, "", "", 24⟩ := by kernel_rfl
theorem field170_8 : fieldOf Try.prog 170 8 = some ⟨ "GCData", 166, 8, false, "", "", 32⟩ := by kernel_rfl
theorem field170_9 : fieldOf Try.prog 170 9 = some ⟨ "Str", 167, 9, false, "", "", 40⟩ := by kernel_rfl
theorem field170_10 : fieldOf Try.prog 170 10 = some ⟨ "PtrToThis", 168, 10, false, "", "", 44⟩ := by kernel_rfl

/-! All facts on types, some at once. -/
theorem tys0 :
  Try.prog.cellsOf 2 = 1 ∧
  Try.prog.bytesOf 2 = 8 ∧
  zeroOf Try.prog 2 = .int .i64 0 ∧
  Try.prog.cellsOf 3 = 1 ∧
  Try.prog.bytesOf 3 = 8 ∧
  zeroOf Try.prog 3 = .int .i64 0 ∧
  Try.prog.cellsOf 4 = 1 ∧
  Try.prog.bytesOf 4 = 1 ∧
  zeroOf Try.prog 4 = .bool false ∧
  Try.prog.cellsOf 5 = 1 ∧
  Try.prog.bytesOf 5 = 1 ∧
  zeroOf Try.prog 5 = .int .u8 0 ∧
  Try.prog.cellsOf 6 = 1 ∧
  Try.prog.bytesOf 6 = 1 ∧
  zeroOf Try.prog 6 = .int .u8 0 ∧
  Try.prog.cellsOf 9 = 1 ∧
  Try.prog.bytesOf 9 = 16 ∧
  zeroOf Try.prog 9 = .str [] ∧
  Try.prog.cellsOf 12 = 1 ∧
  Try.prog.bytesOf 12 = 8 ∧
  zeroOf Try.prog 12 = .int .u64 0 ∧
  Try.prog.cellsOf 21 = 1 ∧
  Try.prog.bytesOf 21 = 4 ∧
  zeroOf Try.prog 21 = .int .i32 0 ∧
  Try.prog.cellsOf 22 = 1 ∧
  Try.prog.bytesOf 22 = 24 ∧
  zeroOf Try.prog 22 = .nils ∧
  Try.prog.cellsOf 23 = 2 ∧
  Try.prog.bytesOf 23 = 48 ∧
  zeroOf Try.prog 23 = .agg [.nils, .nils] ∧
  Try.prog.cellsOf 24 = 2 ∧
  Try.prog.bytesOf 24 = 48 ∧
  zeroOf Try.prog 24 = .agg [.nils, .nils] ∧
  Try.prog.cellsOf 25 = 1 ∧
  Try.prog.bytesOf 25 = 24 ∧
  zeroOf Try.prog 25 = .nils ∧
  Try.prog.cellsOf 26 = 5 ∧
  Try.prog.bytesOf 26 = 120 ∧
  zeroOf Try.prog 26 = .agg [.nils, .nils, .nils, .nils, .nils] ∧
  Try.prog.cellsOf 27 = 5 :=
  ⟨cells2, bytes2, zero2, cells3, bytes3, zero3, cells4, bytes4, zero4, cells5, bytes5, zero5, cells6, bytes6, zero6, cells9, bytes9, zero9, cells12, bytes12, zero12, cells21, bytes21, zero21, cells22, bytes22, zero22, cells23, bytes23, zero23, cells24, bytes24, zero24, cells25, bytes25, zero25, cells26, bytes26, zero26, cells27⟩
theorem tys1 :
  Try.prog.bytesOf 27 = 120 ∧
  zeroOf Try.prog 27 = .agg [.nils, .nils, .nils, .nils, .nils] ∧
  Try.prog.cellsOf 32 = 1 ∧
  Try.prog.bytesOf 32 = 4 ∧
  zeroOf Try.prog 32 = .flt .f32 0 ∧
  Try.prog.cellsOf 37 = 1 ∧
  Try.prog.bytesOf 37 = 8 ∧
  zeroOf Try.prog 37 = .flt .f64 0 ∧
  Try.prog.cellsOf 40 = 3 ∧
  Try.prog.bytesOf 40 = 72 ∧
  zeroOf Try.prog 40 = .agg [.nils, .nils, .nils] ∧
  Try.prog.cellsOf 41 = 3 ∧
  Try.prog.bytesOf 41 = 72 ∧
  zeroOf Try.prog 41 = .agg [.nils, .nils, .nils] ∧
  Try.prog.cellsOf 44 = 3 ∧
  Try.prog.bytesOf 44 = 72 ∧
  zeroOf Try.prog 44 = .agg [.nils, .nils, .nils] ∧
  Try.prog.cellsOf 48 = 1 ∧
  Try.prog.bytesOf 48 = 24 ∧
  zeroOf Try.prog 48 = .nils ∧
  Try.prog.cellsOf 51 = 1 ∧
  Try.prog.bytesOf 51 = 24 ∧
  zeroOf Try.prog 51 = .nils ∧
  Try.prog.cellsOf 53 = 1 ∧
  Try.prog.bytesOf 53 = 8 ∧
  zeroOf Try.prog 53 = .cpx .f32 0 0 ∧
  Try.prog.cellsOf 95 = 1 ∧
  Try.prog.bytesOf 95 = 8 ∧
  zeroOf Try.prog 95 = .nilp ∧
  Try.prog.cellsOf 100 = 1 ∧
  Try.prog.bytesOf 100 = 8 ∧
  zeroOf Try.prog 100 = .nilp ∧
  Try.prog.cellsOf 116 = 1 ∧
  Try.prog.bytesOf 116 = 24 ∧
  zeroOf Try.prog 116 = .nils ∧
  Try.prog.cellsOf 119 = 1 ∧
  Try.prog.bytesOf 119 = 8 ∧
  zeroOf Try.prog 119 = .int .u64 0 ∧
  Try.prog.cellsOf 120 = 3 ∧
  Try.prog.bytesOf 120 = 40 :=
  ⟨bytes27, zero27, cells32, bytes32, zero32, cells37, bytes37, zero37, cells40, bytes40, zero40, cells41, bytes41, zero41, cells44, bytes44, zero44, cells48, bytes48, zero48, cells51, bytes51, zero51, cells53, bytes53, zero53, cells95, bytes95, zero95, cells100, bytes100, zero100, cells116, bytes116, zero116, cells119, bytes119, zero119, cells120, bytes120⟩
theorem tys2 :
  zeroOf Try.prog 120 = .agg [.nils, .int .i64 0, .int .u64 0] ∧
  Try.prog.cellsOf 121 = 3 ∧
  Try.prog.bytesOf 121 = 40 ∧
  zeroOf Try.prog 121 = .agg [.nils, .int .i64 0, .int .u64 0] ∧
  Try.prog.cellsOf 124 = 1 ∧
  Try.prog.bytesOf 124 = 16 ∧
  zeroOf Try.prog 124 = .cpx .f64 0 0 ∧
  Try.prog.cellsOf 138 = 1 ∧
  Try.prog.bytesOf 138 = 24 ∧
  zeroOf Try.prog 138 = .nils ∧
  Try.prog.cellsOf 145 = 1 ∧
  Try.prog.bytesOf 145 = 8 ∧
  zeroOf Try.prog 145 = .int .u64 0 ∧
  Try.prog.cellsOf 151 = 1 ∧
  Try.prog.bytesOf 151 = 4 ∧
  zeroOf Try.prog 151 = .int .u32 0 ∧
  Try.prog.cellsOf 157 = 4 ∧
  Try.prog.bytesOf 157 = 40 ∧
  zeroOf Try.prog 157 = .agg [.nilp, .nilp, .nilp, .str []] ∧
  Try.prog.cellsOf 158 = 4 ∧
  Try.prog.bytesOf 158 = 40 ∧
  zeroOf Try.prog 158 = .agg [.nilp, .nilp, .nilp, .str []] ∧
  Try.prog.cellsOf 163 = 1 ∧
  Try.prog.bytesOf 163 = 1 ∧
  zeroOf Try.prog 163 = .int .u8 0 ∧
  Try.prog.cellsOf 164 = 1 ∧
  Try.prog.bytesOf 164 = 1 ∧
  zeroOf Try.prog 164 = .int .u8 0 ∧
  Try.prog.cellsOf 166 = 1 ∧
  Try.prog.bytesOf 166 = 8 ∧
  zeroOf Try.prog 166 = .nilp ∧
  Try.prog.cellsOf 167 = 1 ∧
  Try.prog.bytesOf 167 = 4 ∧
  zeroOf Try.prog 167 = .int .i32 0 ∧
  Try.prog.cellsOf 168 = 1 ∧
  Try.prog.bytesOf 168 = 4 ∧
  zeroOf Try.prog 168 = .int .i32 0 ∧
  Try.prog.cellsOf 169 = 11 ∧
  Try.prog.bytesOf 169 = 48 ∧
  zeroOf Try.prog 169 = .agg [.int .u64 0, .int .u64 0, .int .u32 0, .int .u8 0, .int .u8 0, .int .u8 0, .int .u8 0, .nilf, .nilp, .int .i32 0, .int .i32 0] :=
  ⟨zero120, cells121, bytes121, zero121, cells124, bytes124, zero124, cells138, bytes138, zero138, cells145, bytes145, zero145, cells151, bytes151, zero151, cells157, bytes157, zero157, cells158, bytes158, zero158, cells163, bytes163, zero163, cells164, bytes164, zero164, cells166, bytes166, zero166, cells167, bytes167, zero167, cells168, bytes168, zero168, cells169, bytes169, zero169⟩
theorem tys3 :
  Try.prog.cellsOf 170 = 11 ∧
  Try.prog.bytesOf 170 = 48 ∧
  zeroOf Try.prog 170 = .agg [.int .u64 0, .int .u64 0, .int .u32 0, .int .u8 0, .int .u8 0, .int .u8 0, .int .u8 0, .nilf, .nilp, .int .i32 0, .int .i32 0] ∧
  fieldOf Try.prog 23 0 = some ⟨ "Breaks", 22, 0, false, "", "", 0⟩ ∧
  fieldOf Try.prog 23 1 = some ⟨ "Rates", 22, 1, false, "", "", 24⟩ ∧
  fieldOf Try.prog 24 0 = some ⟨ "Breaks", 22, 0, false, "", "", 0⟩ ∧
  fieldOf Try.prog 24 1 = some ⟨ "Rates", 22, 1, false, "", "", 24⟩ ∧
  fieldOf Try.prog 26 0 = some ⟨ "Scale", 24, 0, false, "", "", 0⟩ ∧
  fieldOf Try.prog 26 1 = some ⟨ "Pays", 22, 2, false, "", "", 48⟩ ∧
  fieldOf Try.prog 26 2 = some ⟨ "Rates", 22, 3, false, "", "", 72⟩ ∧
  fieldOf Try.prog 26 3 = some ⟨ "Table", 25, 4, false, "", "", 96⟩ ∧
  fieldOf Try.prog 27 0 = some ⟨ "Scale", 24, 0, false, "", "", 0⟩ ∧
  fieldOf Try.prog 27 1 = some ⟨ "Pays", 22, 2, false, "", "", 48⟩ ∧
  fieldOf Try.prog 27 2 = some ⟨ "Rates", 22, 3, false, "", "", 72⟩ ∧
  fieldOf Try.prog 27 3 = some ⟨ "Table", 25, 4, false, "", "", 96⟩ ∧
  fieldOf Try.prog 40 0 = some ⟨ "Counts", 25, 0, false, "", "", 0⟩ ∧
  fieldOf Try.prog 40 1 = some ⟨ "Stays", 25, 1, false, "", "", 24⟩ ∧
  fieldOf Try.prog 40 2 = some ⟨ "Births", 25, 2, false, "", "", 48⟩ ∧
  fieldOf Try.prog 41 0 = some ⟨ "Counts", 25, 0, false, "", "", 0⟩ ∧
  fieldOf Try.prog 41 1 = some ⟨ "Stays", 25, 1, false, "", "", 24⟩ ∧
  fieldOf Try.prog 41 2 = some ⟨ "Births", 25, 2, false, "", "", 48⟩ ∧
  fieldOf Try.prog 44 0 = some ⟨ "Counts", 25, 0, false, "", "", 0⟩ ∧
  fieldOf Try.prog 44 1 = some ⟨ "Stays", 25, 1, false, "", "", 24⟩ ∧
  fieldOf Try.prog 44 2 = some ⟨ "Births", 25, 2, false, "", "", 48⟩ ∧
  fieldOf Try.prog 157 0 = some ⟨ "_interface", 17, 0, false, "", "runtime", 0⟩ ∧
  fieldOf Try.prog 157 1 = some ⟨ "concrete", 17, 1, false, "", "runtime", 8⟩ ∧
  fieldOf Try.prog 157 2 = some ⟨ "asserted", 17, 2, false, "", "runtime", 16⟩ ∧
  fieldOf Try.prog 157 3 = some ⟨ "missingMethod", 9, 3, false, "", "runtime", 24⟩ ∧
  fieldOf Try.prog 158 0 = some ⟨ "_interface", 17, 0, false, "", "runtime", 0⟩ ∧
  fieldOf Try.prog 158 1 = some ⟨ "concrete", 17, 1, false, "", "runtime", 8⟩ ∧
  fieldOf Try.prog 158 2 = some ⟨ "asserted", 17, 2, false, "", "runtime", 16⟩ ∧
  fieldOf Try.prog 158 3 = some ⟨ "missingMethod", 9, 3, false, "", "runtime", 24⟩ ∧
  fieldOf Try.prog 169 0 = some ⟨ "Size_", 12, 0, false, "", "", 0⟩ ∧
  fieldOf Try.prog 169 1 = some ⟨ "PtrBytes", 12, 1, false, "", "", 8⟩ ∧
  fieldOf Try.prog 169 2 = some ⟨ "Hash", 151, 2, false, "", "", 16⟩ ∧
  fieldOf Try.prog 169 3 = some ⟨ "TFlag", 163, 3, false, "", "", 20⟩ ∧
  fieldOf Try.prog 169 4 = some ⟨ "Align_", 5, 4, false, "", "", 21⟩ ∧
  fieldOf Try.prog 169 5 = some ⟨ "FieldAlign_", 5, 5, false, "", "", 22⟩ ∧
  fieldOf Try.prog 169 6 = some ⟨ "Kind_", 164, 6, false, "", "", 23⟩ ∧
  fieldOf Try.prog 169 7 = some ⟨ "Equal", 165, 7, false, "", "", 24⟩ :=
  ⟨cells170, bytes170, zero170, field23_0, field23_1, field24_0, field24_1, field26_0, field26_1, field26_2, field26_3, field27_0, field27_1, field27_2, field27_3, field40_0, field40_1, field40_2, field41_0, field41_1, field41_2, field44_0, field44_1, field44_2, field157_0, field157_1, field157_2, field157_3, field158_0, field158_1, field158_2, field158_3, field169_0, field169_1, field169_2, field169_3, field169_4, field169_5, field169_6, field169_7⟩
theorem tys4 :
  fieldOf Try.prog 169 8 = some ⟨ "GCData", 166, 8, false, "", "", 32⟩ ∧
  fieldOf Try.prog 169 9 = some ⟨ "Str", 167, 9, false, "", "", 40⟩ ∧
  fieldOf Try.prog 169 10 = some ⟨ "PtrToThis", 168, 10, false, "", "", 44⟩ ∧
  fieldOf Try.prog 170 0 = some ⟨ "Size_", 12, 0, false, "", "", 0⟩ ∧
  fieldOf Try.prog 170 1 = some ⟨ "PtrBytes", 12, 1, false, "", "", 8⟩ ∧
  fieldOf Try.prog 170 2 = some ⟨ "Hash", 151, 2, false, "", "", 16⟩ ∧
  fieldOf Try.prog 170 3 = some ⟨ "TFlag", 163, 3, false, "", "", 20⟩ ∧
  fieldOf Try.prog 170 4 = some ⟨ "Align_", 5, 4, false, "", "", 21⟩ ∧
  fieldOf Try.prog 170 5 = some ⟨ "FieldAlign_", 5, 5, false, "", "", 22⟩ ∧
  fieldOf Try.prog 170 6 = some ⟨ "Kind_", 164, 6, false, "", "", 23⟩ ∧
  fieldOf Try.prog 170 7 = some ⟨ "Equal", 165, 7, false, "", "", 24⟩ ∧
  fieldOf Try.prog 170 8 = some ⟨ "GCData", 166, 8, false, "", "", 32⟩ ∧
  fieldOf Try.prog 170 9 = some ⟨ "Str", 167, 9, false, "", "", 40⟩ ∧
  fieldOf Try.prog 170 10 = some ⟨ "PtrToThis", 168, 10, false, "", "", 44⟩ :=
  ⟨field169_8, field169_9, field169_10, field170_0, field170_1, field170_2, field170_3, field170_4, field170_5, field170_6, field170_7, field170_8, field170_9, field170_10⟩
def und0 := And.intro @Try.underlying2 (And.intro @Try.underlying3 (And.intro @Try.underlying4 (And.intro @Try.underlying5 (And.intro @Try.underlying6 (And.intro @Try.underlying9 (And.intro @Try.underlying12 (And.intro @Try.underlying21 (And.intro @Try.underlying22 (And.intro @Try.underlying23 (And.intro @Try.underlying24 @Try.underlying25))))))))))
def und1 := And.intro @Try.underlying26 (And.intro @Try.underlying27 (And.intro @Try.underlying32 (And.intro @Try.underlying37 (And.intro @Try.underlying40 (And.intro @Try.underlying41 (And.intro @Try.underlying44 (And.intro @Try.underlying48 (And.intro @Try.underlying51 (And.intro @Try.underlying53 (And.intro @Try.underlying95 @Try.underlying100))))))))))
def und2 := And.intro @Try.underlying116 (And.intro @Try.underlying119 (And.intro @Try.underlying120 (And.intro @Try.underlying121 (And.intro @Try.underlying124 (And.intro @Try.underlying138 (And.intro @Try.underlying145 (And.intro @Try.underlying151 (And.intro @Try.underlying157 (And.intro @Try.underlying158 (And.intro @Try.underlying163 @Try.underlying164))))))))))
def und3 := And.intro @Try.underlying166 (And.intro @Try.underlying167 (And.intro @Try.underlying168 (And.intro @Try.underlying169 @Try.underlying170)))
/- tys0 tys1 tys2 tys3 tys4 und0 und1 und2 und3 -/

theorem go2 : isGo Try.prog 2 := by unfold isGo; rw [Try.func2]; exact ⟨rfl, by kernel_rfl⟩
theorem go3 : isGo Try.prog 3 := by unfold isGo; rw [Try.func3]; exact ⟨rfl, by kernel_rfl⟩
theorem go4 : isGo Try.prog 4 := by unfold isGo; rw [Try.func4]; exact ⟨rfl, by kernel_rfl⟩
theorem go5 : isGo Try.prog 5 := by unfold isGo; rw [Try.func5]; exact ⟨rfl, by kernel_rfl⟩
theorem go6 : isGo Try.prog 6 := by unfold isGo; rw [Try.func6]; exact ⟨rfl, by kernel_rfl⟩
theorem go7 : isGo Try.prog 7 := by unfold isGo; rw [Try.func7]; exact ⟨rfl, by kernel_rfl⟩
theorem go8 : isGo Try.prog 8 := by unfold isGo; rw [Try.func8]; exact ⟨rfl, by kernel_rfl⟩
theorem go9 : isGo Try.prog 9 := by unfold isGo; rw [Try.func9]; exact ⟨rfl, by kernel_rfl⟩
theorem go10 : isGo Try.prog 10 := by unfold isGo; rw [Try.func10]; exact ⟨rfl, by kernel_rfl⟩
theorem go11 : isGo Try.prog 11 := by unfold isGo; rw [Try.func11]; exact ⟨rfl, by kernel_rfl⟩
theorem go12 : isGo Try.prog 12 := by unfold isGo; rw [Try.func12]; exact ⟨rfl, by kernel_rfl⟩
theorem go13 : isGo Try.prog 13 := by unfold isGo; rw [Try.func13]; exact ⟨rfl, by kernel_rfl⟩
theorem go14 : isGo Try.prog 14 := by unfold isGo; rw [Try.func14]; exact ⟨rfl, by kernel_rfl⟩
theorem go15 : isGo Try.prog 15 := by unfold isGo; rw [Try.func15]; exact ⟨rfl, by kernel_rfl⟩
theorem go16 : isGo Try.prog 16 := by unfold isGo; rw [Try.func16]; exact ⟨rfl, by kernel_rfl⟩
theorem go17 : isGo Try.prog 17 := by unfold isGo; rw [Try.func17]; exact ⟨rfl, by kernel_rfl⟩
theorem go18 : isGo Try.prog 18 := by unfold isGo; rw [Try.func18]; exact ⟨rfl, by kernel_rfl⟩
theorem go19 : isGo Try.prog 19 := by unfold isGo; rw [Try.func19]; exact ⟨rfl, by kernel_rfl⟩
theorem go20 : isGo Try.prog 20 := by unfold isGo; rw [Try.func20]; exact ⟨rfl, by kernel_rfl⟩
theorem go21 : isGo Try.prog 21 := by unfold isGo; rw [Try.func21]; exact ⟨rfl, by kernel_rfl⟩
theorem go22 : isGo Try.prog 22 := by unfold isGo; rw [Try.func22]; exact ⟨rfl, by kernel_rfl⟩
theorem go23 : isGo Try.prog 23 := by unfold isGo; rw [Try.func23]; exact ⟨rfl, by kernel_rfl⟩
theorem go24 : isGo Try.prog 24 := by unfold isGo; rw [Try.func24]; exact ⟨rfl, by kernel_rfl⟩
theorem go25 : isGo Try.prog 25 := by unfold isGo; rw [Try.func25]; exact ⟨rfl, by kernel_rfl⟩
theorem go26 : isGo Try.prog 26 := by unfold isGo; rw [Try.func26]; exact ⟨rfl, by kernel_rfl⟩
theorem go27 : isGo Try.prog 27 := by unfold isGo; rw [Try.func27]; exact ⟨rfl, by kernel_rfl⟩
theorem go28 : isGo Try.prog 28 := by unfold isGo; rw [Try.func28]; exact ⟨rfl, by kernel_rfl⟩
theorem go29 : isGo Try.prog 29 := by unfold isGo; rw [Try.func29]; exact ⟨rfl, by kernel_rfl⟩
theorem go30 : isGo Try.prog 30 := by unfold isGo; rw [Try.func30]; exact ⟨rfl, by kernel_rfl⟩
theorem go31 : isGo Try.prog 31 := by unfold isGo; rw [Try.func31]; exact ⟨rfl, by kernel_rfl⟩
theorem go32 : isGo Try.prog 32 := by unfold isGo; rw [Try.func32]; exact ⟨rfl, by kernel_rfl⟩
theorem go33 : isGo Try.prog 33 := by unfold isGo; rw [Try.func33]; exact ⟨rfl, by kernel_rfl⟩
theorem go34 : isGo Try.prog 34 := by unfold isGo; rw [Try.func34]; exact ⟨rfl, by kernel_rfl⟩
theorem go35 : isGo Try.prog 35 := by unfold isGo; rw [Try.func35]; exact ⟨rfl, by kernel_rfl⟩
theorem go36 : isGo Try.prog 36 := by unfold isGo; rw [Try.func36]; exact ⟨rfl, by kernel_rfl⟩
theorem go37 : isGo Try.prog 37 := by unfold isGo; rw [Try.func37]; exact ⟨rfl, by kernel_rfl⟩
theorem go38 : isGo Try.prog 38 := by unfold isGo; rw [Try.func38]; exact ⟨rfl, by kernel_rfl⟩
theorem go39 : isGo Try.prog 39 := by unfold isGo; rw [Try.func39]; exact ⟨rfl, by kernel_rfl⟩
theorem go40 : isGo Try.prog 40 := by unfold isGo; rw [Try.func40]; exact ⟨rfl, by kernel_rfl⟩
theorem go41 : isGo Try.prog 41 := by unfold isGo; rw [Try.func41]; exact ⟨rfl, by kernel_rfl⟩
theorem go42 : isGo Try.prog 42 := by unfold isGo; rw [Try.func42]; exact ⟨rfl, by kernel_rfl⟩
theorem go43 : isGo Try.prog 43 := by unfold isGo; rw [Try.func43]; exact ⟨rfl, by kernel_rfl⟩
theorem go44 : isGo Try.prog 44 := by unfold isGo; rw [Try.func44]; exact ⟨rfl, by kernel_rfl⟩
theorem go45 : isGo Try.prog 45 := by unfold isGo; rw [Try.func45]; exact ⟨rfl, by kernel_rfl⟩
theorem go46 : isGo Try.prog 46 := by unfold isGo; rw [Try.func46]; exact ⟨rfl, by kernel_rfl⟩
theorem go47 : isGo Try.prog 47 := by unfold isGo; rw [Try.func47]; exact ⟨rfl, by kernel_rfl⟩
theorem go48 : isGo Try.prog 48 := by unfold isGo; rw [Try.func48]; exact ⟨rfl, by kernel_rfl⟩
theorem go49 : isGo Try.prog 49 := by unfold isGo; rw [Try.func49]; exact ⟨rfl, by kernel_rfl⟩
theorem go50 : isGo Try.prog 50 := by unfold isGo; rw [Try.func50]; exact ⟨rfl, by kernel_rfl⟩
theorem go51 : isGo Try.prog 51 := by unfold isGo; rw [Try.func51]; exact ⟨rfl, by kernel_rfl⟩
theorem go52 : isGo Try.prog 52 := by unfold isGo; rw [Try.func52]; exact ⟨rfl, by kernel_rfl⟩
theorem go53 : isGo Try.prog 53 := by unfold isGo; rw [Try.func53]; exact ⟨rfl, by kernel_rfl⟩
theorem go54 : isGo Try.prog 54 := by unfold isGo; rw [Try.func54]; exact ⟨rfl, by kernel_rfl⟩
theorem go55 : isGo Try.prog 55 := by unfold isGo; rw [Try.func55]; exact ⟨rfl, by kernel_rfl⟩
theorem go56 : isGo Try.prog 56 := by unfold isGo; rw [Try.func56]; exact ⟨rfl, by kernel_rfl⟩
theorem go57 : isGo Try.prog 57 := by unfold isGo; rw [Try.func57]; exact ⟨rfl, by kernel_rfl⟩
theorem go58 : isGo Try.prog 58 := by unfold isGo; rw [Try.func58]; exact ⟨rfl, by kernel_rfl⟩
theorem go59 : isGo Try.prog 59 := by unfold isGo; rw [Try.func59]; exact ⟨rfl, by kernel_rfl⟩
theorem go60 : isGo Try.prog 60 := by unfold isGo; rw [Try.func60]; exact ⟨rfl, by kernel_rfl⟩
theorem go61 : isGo Try.prog 61 := by unfold isGo; rw [Try.func61]; exact ⟨rfl, by kernel_rfl⟩
theorem go62 : isGo Try.prog 62 := by unfold isGo; rw [Try.func62]; exact ⟨rfl, by kernel_rfl⟩
theorem go63 : isGo Try.prog 63 := by unfold isGo; rw [Try.func63]; exact ⟨rfl, by kernel_rfl⟩
theorem go64 : isGo Try.prog 64 := by unfold isGo; rw [Try.func64]; exact ⟨rfl, by kernel_rfl⟩
theorem go65 : isGo Try.prog 65 := by unfold isGo; rw [Try.func65]; exact ⟨rfl, by kernel_rfl⟩
theorem go66 : isGo Try.prog 66 := by unfold isGo; rw [Try.func66]; exact ⟨rfl, by kernel_rfl⟩
theorem go67 : isGo Try.prog 67 := by unfold isGo; rw [Try.func67]; exact ⟨rfl, by kernel_rfl⟩
theorem go68 : isGo Try.prog 68 := by unfold isGo; rw [Try.func68]; exact ⟨rfl, by kernel_rfl⟩
theorem go69 : isGo Try.prog 69 := by unfold isGo; rw [Try.func69]; exact ⟨rfl, by kernel_rfl⟩
theorem go70 : isGo Try.prog 70 := by unfold isGo; rw [Try.func70]; exact ⟨rfl, by kernel_rfl⟩
theorem go71 : isGo Try.prog 71 := by unfold isGo; rw [Try.func71]; exact ⟨rfl, by kernel_rfl⟩
theorem go72 : isGo Try.prog 72 := by unfold isGo; rw [Try.func72]; exact ⟨rfl, by kernel_rfl⟩
theorem go73 : isGo Try.prog 73 := by unfold isGo; rw [Try.func73]; exact ⟨rfl, by kernel_rfl⟩
theorem go74 : isGo Try.prog 74 := by unfold isGo; rw [Try.func74]; exact ⟨rfl, by kernel_rfl⟩
theorem go75 : isGo Try.prog 75 := by unfold isGo; rw [Try.func75]; exact ⟨rfl, by kernel_rfl⟩
theorem go76 : isGo Try.prog 76 := by unfold isGo; rw [Try.func76]; exact ⟨rfl, by kernel_rfl⟩
theorem go77 : isGo Try.prog 77 := by unfold isGo; rw [Try.func77]; exact ⟨rfl, by kernel_rfl⟩
theorem go78 : isGo Try.prog 78 := by unfold isGo; rw [Try.func78]; exact ⟨rfl, by kernel_rfl⟩
theorem go79 : isGo Try.prog 79 := by unfold isGo; rw [Try.func79]; exact ⟨rfl, by kernel_rfl⟩
theorem go80 : isGo Try.prog 80 := by unfold isGo; rw [Try.func80]; exact ⟨rfl, by kernel_rfl⟩
theorem go81 : isGo Try.prog 81 := by unfold isGo; rw [Try.func81]; exact ⟨rfl, by kernel_rfl⟩
theorem go82 : isGo Try.prog 82 := by unfold isGo; rw [Try.func82]; exact ⟨rfl, by kernel_rfl⟩
theorem go83 : isGo Try.prog 83 := by unfold isGo; rw [Try.func83]; exact ⟨rfl, by kernel_rfl⟩
theorem go84 : isGo Try.prog 84 := by unfold isGo; rw [Try.func84]; exact ⟨rfl, by kernel_rfl⟩
theorem go85 : isGo Try.prog 85 := by unfold isGo; rw [Try.func85]; exact ⟨rfl, by kernel_rfl⟩
theorem go86 : isGo Try.prog 86 := by unfold isGo; rw [Try.func86]; exact ⟨rfl, by kernel_rfl⟩
theorem go87 : isGo Try.prog 87 := by unfold isGo; rw [Try.func87]; exact ⟨rfl, by kernel_rfl⟩
theorem go88 : isGo Try.prog 88 := by unfold isGo; rw [Try.func88]; exact ⟨rfl, by kernel_rfl⟩
theorem go89 : isGo Try.prog 89 := by unfold isGo; rw [Try.func89]; exact ⟨rfl, by kernel_rfl⟩
theorem go90 : isGo Try.prog 90 := by unfold isGo; rw [Try.func90]; exact ⟨rfl, by kernel_rfl⟩
theorem go91 : isGo Try.prog 91 := by unfold isGo; rw [Try.func91]; exact ⟨rfl, by kernel_rfl⟩
theorem go92 : isGo Try.prog 92 := by unfold isGo; rw [Try.func92]; exact ⟨rfl, by kernel_rfl⟩
theorem go93 : isGo Try.prog 93 := by unfold isGo; rw [Try.func93]; exact ⟨rfl, by kernel_rfl⟩
theorem go94 : isGo Try.prog 94 := by unfold isGo; rw [Try.func94]; exact ⟨rfl, by kernel_rfl⟩
theorem go95 : isGo Try.prog 95 := by unfold isGo; rw [Try.func95]; exact ⟨rfl, by kernel_rfl⟩
theorem go96 : isGo Try.prog 96 := by unfold isGo; rw [Try.func96]; exact ⟨rfl, by kernel_rfl⟩
theorem go97 : isGo Try.prog 97 := by unfold isGo; rw [Try.func97]; exact ⟨rfl, by kernel_rfl⟩
theorem go98 : isGo Try.prog 98 := by unfold isGo; rw [Try.func98]; exact ⟨rfl, by kernel_rfl⟩
theorem go99 : isGo Try.prog 99 := by unfold isGo; rw [Try.func99]; exact ⟨rfl, by kernel_rfl⟩
theorem go100 : isGo Try.prog 100 := by unfold isGo; rw [Try.func100]; exact ⟨rfl, by kernel_rfl⟩
theorem go101 : isGo Try.prog 101 := by unfold isGo; rw [Try.func101]; exact ⟨rfl, by kernel_rfl⟩
theorem go102 : isGo Try.prog 102 := by unfold isGo; rw [Try.func102]; exact ⟨rfl, by kernel_rfl⟩
theorem go103 : isGo Try.prog 103 := by unfold isGo; rw [Try.func103]; exact ⟨rfl, by kernel_rfl⟩
theorem go104 : isGo Try.prog 104 := by unfold isGo; rw [Try.func104]; exact ⟨rfl, by kernel_rfl⟩
theorem go105 : isGo Try.prog 105 := by unfold isGo; rw [Try.func105]; exact ⟨rfl, by kernel_rfl⟩
theorem go106 : isGo Try.prog 106 := by unfold isGo; rw [Try.func106]; exact ⟨rfl, by kernel_rfl⟩
theorem go107 : isGo Try.prog 107 := by unfold isGo; rw [Try.func107]; exact ⟨rfl, by kernel_rfl⟩
theorem go108 : isGo Try.prog 108 := by unfold isGo; rw [Try.func108]; exact ⟨rfl, by kernel_rfl⟩
theorem go109 : isGo Try.prog 109 := by unfold isGo; rw [Try.func109]; exact ⟨rfl, by kernel_rfl⟩
theorem go110 : isGo Try.prog 110 := by unfold isGo; rw [Try.func110]; exact ⟨rfl, by kernel_rfl⟩
theorem go111 : isGo Try.prog 111 := by unfold isGo; rw [Try.func111]; exact ⟨rfl, by kernel_rfl⟩
theorem go112 : isGo Try.prog 112 := by unfold isGo; rw [Try.func112]; exact ⟨rfl, by kernel_rfl⟩
theorem go113 : isGo Try.prog 113 := by unfold isGo; rw [Try.func113]; exact ⟨rfl, by kernel_rfl⟩
theorem go114 : isGo Try.prog 114 := by unfold isGo; rw [Try.func114]; exact ⟨rfl, by kernel_rfl⟩
theorem go115 : isGo Try.prog 115 := by unfold isGo; rw [Try.func115]; exact ⟨rfl, by kernel_rfl⟩
theorem go116 : isGo Try.prog 116 := by unfold isGo; rw [Try.func116]; exact ⟨rfl, by kernel_rfl⟩
theorem go117 : isGo Try.prog 117 := by unfold isGo; rw [Try.func117]; exact ⟨rfl, by kernel_rfl⟩
theorem go118 : isGo Try.prog 118 := by unfold isGo; rw [Try.func118]; exact ⟨rfl, by kernel_rfl⟩
theorem go119 : isGo Try.prog 119 := by unfold isGo; rw [Try.func119]; exact ⟨rfl, by kernel_rfl⟩
theorem go120 : isGo Try.prog 120 := by unfold isGo; rw [Try.func120]; exact ⟨rfl, by kernel_rfl⟩
theorem go121 : isGo Try.prog 121 := by unfold isGo; rw [Try.func121]; exact ⟨rfl, by kernel_rfl⟩
theorem go122 : isGo Try.prog 122 := by unfold isGo; rw [Try.func122]; exact ⟨rfl, by kernel_rfl⟩
theorem go123 : isGo Try.prog 123 := by unfold isGo; rw [Try.func123]; exact ⟨rfl, by kernel_rfl⟩
theorem go124 : isGo Try.prog 124 := by unfold isGo; rw [Try.func124]; exact ⟨rfl, by kernel_rfl⟩
theorem go125 : isGo Try.prog 125 := by unfold isGo; rw [Try.func125]; exact ⟨rfl, by kernel_rfl⟩
theorem go126 : isGo Try.prog 126 := by unfold isGo; rw [Try.func126]; exact ⟨rfl, by kernel_rfl⟩
theorem go127 : isGo Try.prog 127 := by unfold isGo; rw [Try.func127]; exact ⟨rfl, by kernel_rfl⟩
theorem go128 : isGo Try.prog 128 := by unfold isGo; rw [Try.func128]; exact ⟨rfl, by kernel_rfl⟩
theorem go129 : isGo Try.prog 129 := by unfold isGo; rw [Try.func129]; exact ⟨rfl, by kernel_rfl⟩
theorem go130 : isGo Try.prog 130 := by unfold isGo; rw [Try.func130]; exact ⟨rfl, by kernel_rfl⟩
theorem go131 : isGo Try.prog 131 := by unfold isGo; rw [Try.func131]; exact ⟨rfl, by kernel_rfl⟩
theorem go132 : isGo Try.prog 132 := by unfold isGo; rw [Try.func132]; exact ⟨rfl, by kernel_rfl⟩
theorem go133 : isGo Try.prog 133 := by unfold isGo; rw [Try.func133]; exact ⟨rfl, by kernel_rfl⟩
theorem go134 : isGo Try.prog 134 := by unfold isGo; rw [Try.func134]; exact ⟨rfl, by kernel_rfl⟩
theorem go135 : isGo Try.prog 135 := by unfold isGo; rw [Try.func135]; exact ⟨rfl, by kernel_rfl⟩
theorem go136 : isGo Try.prog 136 := by unfold isGo; rw [Try.func136]; exact ⟨rfl, by kernel_rfl⟩
theorem go137 : isGo Try.prog 137 := by unfold isGo; rw [Try.func137]; exact ⟨rfl, by kernel_rfl⟩
theorem go138 : isGo Try.prog 138 := by unfold isGo; rw [Try.func138]; exact ⟨rfl, by kernel_rfl⟩
theorem go139 : isGo Try.prog 139 := by unfold isGo; rw [Try.func139]; exact ⟨rfl, by kernel_rfl⟩
theorem go140 : isGo Try.prog 140 := by unfold isGo; rw [Try.func140]; exact ⟨rfl, by kernel_rfl⟩
theorem go141 : isGo Try.prog 141 := by unfold isGo; rw [Try.func141]; exact ⟨rfl, by kernel_rfl⟩
theorem go142 : isGo Try.prog 142 := by unfold isGo; rw [Try.func142]; exact ⟨rfl, by kernel_rfl⟩
theorem go143 : isGo Try.prog 143 := by unfold isGo; rw [Try.func143]; exact ⟨rfl, by kernel_rfl⟩
theorem go144 : isGo Try.prog 144 := by unfold isGo; rw [Try.func144]; exact ⟨rfl, by kernel_rfl⟩
theorem go145 : isGo Try.prog 145 := by unfold isGo; rw [Try.func145]; exact ⟨rfl, by kernel_rfl⟩
theorem go146 : isGo Try.prog 146 := by unfold isGo; rw [Try.func146]; exact ⟨rfl, by kernel_rfl⟩
theorem go147 : isGo Try.prog 147 := by unfold isGo; rw [Try.func147]; exact ⟨rfl, by kernel_rfl⟩
theorem go148 : isGo Try.prog 148 := by unfold isGo; rw [Try.func148]; exact ⟨rfl, by kernel_rfl⟩
theorem go149 : isGo Try.prog 149 := by unfold isGo; rw [Try.func149]; exact ⟨rfl, by kernel_rfl⟩
theorem go150 : isGo Try.prog 150 := by unfold isGo; rw [Try.func150]; exact ⟨rfl, by kernel_rfl⟩
theorem go152 : isGo Try.prog 152 := by unfold isGo; rw [Try.func152]; exact ⟨rfl, by kernel_rfl⟩
theorem go153 : isGo Try.prog 153 := by unfold isGo; rw [Try.func153]; exact ⟨rfl, by kernel_rfl⟩
theorem go154 : isGo Try.prog 154 := by unfold isGo; rw [Try.func154]; exact ⟨rfl, by kernel_rfl⟩
theorem go155 : isGo Try.prog 155 := by unfold isGo; rw [Try.func155]; exact ⟨rfl, by kernel_rfl⟩
theorem go156 : isGo Try.prog 156 := by unfold isGo; rw [Try.func156]; exact ⟨rfl, by kernel_rfl⟩
theorem go157 : isGo Try.prog 157 := by unfold isGo; rw [Try.func157]; exact ⟨rfl, by kernel_rfl⟩
theorem go158 : isGo Try.prog 158 := by unfold isGo; rw [Try.func158]; exact ⟨rfl, by kernel_rfl⟩
theorem go160 : isGo Try.prog 160 := by unfold isGo; rw [Try.func160]; exact ⟨rfl, by kernel_rfl⟩
def md2 : Nat → List Bool := fun _ => []
def md3 : Nat → List Bool := fun _ => []
def md4 : Nat → List Bool := fun _ => []
def md5 : Nat → List Bool
  | 10 => [false, false, false, false, false]
  | _ => []
def md6 : Nat → List Bool
  | 13 => [false, false, false, false, false, false, false, false, false, false, false, false]
  | 14 => [false, false, false, false, false, false, false, false, false, false, false, false, false]
  | _ => []
def md7 : Nat → List Bool
  | 10 => [false, false, false, false, false]
  | _ => []
def md8 : Nat → List Bool
  | 10 => [false, false, false, false, false]
  | _ => []
def md9 : Nat → List Bool := fun _ => []
def md10 : Nat → List Bool
  | 10 => [false, false, false, false, false]
  | _ => []
def md11 : Nat → List Bool
  | 10 => [false, false, false, false, false]
  | _ => []
def md12 : Nat → List Bool := fun _ => []
def md13 : Nat → List Bool
  | 10 => [false, false, false, false, false]
  | _ => []
def md14 : Nat → List Bool := fun _ => []
def md15 : Nat → List Bool := fun _ => []
def md16 : Nat → List Bool := fun _ => []
def md17 : Nat → List Bool := fun _ => []
def md18 : Nat → List Bool := fun _ => []
def md19 : Nat → List Bool := fun _ => []
def md20 : Nat → List Bool := fun _ => []
def md21 : Nat → List Bool := fun _ => []
def md22 : Nat → List Bool := fun _ => []
def md23 : Nat → List Bool
  | 6 => [false, false, false, false, false, false, false, false, false, false, false, false]
  | _ => []
def md24 : Nat → List Bool := fun _ => []
def md25 : Nat → List Bool := fun _ => []
def md26 : Nat → List Bool := fun _ => []
def md27 : Nat → List Bool := fun _ => []
def md28 : Nat → List Bool := fun _ => []
def md29 : Nat → List Bool := fun _ => []
def md30 : Nat → List Bool := fun _ => []
def md31 : Nat → List Bool := fun _ => []
def md32 : Nat → List Bool := fun _ => []
def md33 : Nat → List Bool := fun _ => []
def md34 : Nat → List Bool := fun _ => []
def md35 : Nat → List Bool := fun _ => []
def md36 : Nat → List Bool
  | 7 => [false, false, false, false, false, false, false, false, false, false]
  | _ => []
def md37 : Nat → List Bool := fun _ => []
def md38 : Nat → List Bool := fun _ => []
def md39 : Nat → List Bool := fun _ => []
def md40 : Nat → List Bool := fun _ => []
def md41 : Nat → List Bool
  | 3 => [false, false, false, false, false, false, false, false, false, false, false, false, false]
  | _ => []
def md42 : Nat → List Bool
  | 12 => [false, false, false, false, false, false, false, false, false, false, false, false, false, false, false, true]
  | _ => []
def md43 : Nat → List Bool
  | 7 => [false, false, false, false, false, false, false, false, false, false, false, false, false, false, false, true]
  | 11 => [false, false, false, false, false, false, false, false, false, false, false, false, false, false, false, true]
  | _ => []
def md44 : Nat → List Bool := fun _ => []
def md45 : Nat → List Bool := fun _ => []
def md46 : Nat → List Bool := fun _ => []
def md47 : Nat → List Bool := fun _ => []
def md48 : Nat → List Bool := fun _ => []
def md49 : Nat → List Bool := fun _ => []
def md50 : Nat → List Bool
  | 6 => [false, false, false, false, false, false, false, false, false]
  | _ => []
def md51 : Nat → List Bool := fun _ => []
def md52 : Nat → List Bool := fun _ => []
def md53 : Nat → List Bool := fun _ => []
def md54 : Nat → List Bool := fun _ => []
def md55 : Nat → List Bool := fun _ => []
def md56 : Nat → List Bool
  | 13 => [false, false, false, false, false, false, false, false, false, false]
  | _ => []
def md57 : Nat → List Bool := fun _ => []
def md58 : Nat → List Bool := fun _ => []
def md59 : Nat → List Bool := fun _ => []
def md60 : Nat → List Bool
  | 23 => [false, false, false, false, false, false]
  | _ => []
def md61 : Nat → List Bool := fun _ => []
def md62 : Nat → List Bool := fun _ => []
def md63 : Nat → List Bool := fun _ => []
def md64 : Nat → List Bool := fun _ => []
def md65 : Nat → List Bool := fun _ => []
def md66 : Nat → List Bool := fun _ => []
def md67 : Nat → List Bool
  | 5 => [false, false, false, false, false, false, false, false, false, false, false, false, false, false, false, false, false, false, false, false]
  | _ => []
def md68 : Nat → List Bool := fun _ => []
def md69 : Nat → List Bool := fun _ => []
def md70 : Nat → List Bool := fun _ => []
def md71 : Nat → List Bool := fun _ => []
def md72 : Nat → List Bool := fun _ => []
def md73 : Nat → List Bool
  | 5 => [false, false, false, false, false, false, false, false, false, false, false, false, false, false, false, false, false]
  | _ => []
def md74 : Nat → List Bool := fun _ => []
def md75 : Nat → List Bool := fun _ => []
def md76 : Nat → List Bool := fun _ => []
def md77 : Nat → List Bool := fun _ => []
def md78 : Nat → List Bool := fun _ => []
def md79 : Nat → List Bool := fun _ => []
def md80 : Nat → List Bool := fun _ => []
def md81 : Nat → List Bool := fun _ => []
def md82 : Nat → List Bool := fun _ => []
def md83 : Nat → List Bool := fun _ => []
def md84 : Nat → List Bool := fun _ => []
def md85 : Nat → List Bool := fun _ => []
def md86 : Nat → List Bool := fun _ => []
def md87 : Nat → List Bool := fun _ => []
def md88 : Nat → List Bool := fun _ => []
def md89 : Nat → List Bool := fun _ => []
def md90 : Nat → List Bool := fun _ => []
def md91 : Nat → List Bool := fun _ => []
def md92 : Nat → List Bool := fun _ => []
def md93 : Nat → List Bool := fun _ => []
def md94 : Nat → List Bool := fun _ => []
def md95 : Nat → List Bool := fun _ => []
def md96 : Nat → List Bool := fun _ => []
def md97 : Nat → List Bool := fun _ => []
def md98 : Nat → List Bool := fun _ => []
def md99 : Nat → List Bool := fun _ => []
def md100 : Nat → List Bool := fun _ => []
def md101 : Nat → List Bool := fun _ => []
def md102 : Nat → List Bool
  | 6 => [false, false, false, false, false, false, false, false, false, false, false, false, false, false, false]
  | 12 => [false, false, false, false, false, false, false, false, false, false, false, false, false, false, false]
  | 14 => [false, false, false, false, false, false, false, false, false, false, false, false, false, false, false]
  | _ => []
def md103 : Nat → List Bool := fun _ => []
def md104 : Nat → List Bool
  | 6 => [false, false, false, false, false, false, false, false, false, false, false, false, false, false]
  | 8 => [false, false, false, false, false, false, false, false, false, false, false, false, false, false]
  | _ => []
def md105 : Nat → List Bool := fun _ => []
def md106 : Nat → List Bool := fun _ => []
def md107 : Nat → List Bool
  | 3 => [false, false, false, false, false, false, false, false, false, false]
  | _ => []
def md108 : Nat → List Bool := fun _ => []
def md109 : Nat → List Bool := fun _ => []
def md110 : Nat → List Bool := fun _ => []
def md111 : Nat → List Bool := fun _ => []
def md112 : Nat → List Bool := fun _ => []
def md113 : Nat → List Bool := fun _ => []
def md114 : Nat → List Bool := fun _ => []
def md115 : Nat → List Bool := fun _ => []
def md116 : Nat → List Bool := fun _ => []
def md117 : Nat → List Bool := fun _ => []
def md118 : Nat → List Bool := fun _ => []
def md119 : Nat → List Bool := fun _ => []
def md120 : Nat → List Bool := fun _ => []
def md121 : Nat → List Bool := fun _ => []
def md122 : Nat → List Bool := fun _ => []
def md123 : Nat → List Bool := fun _ => []
def md124 : Nat → List Bool := fun _ => []
def md125 : Nat → List Bool := fun _ => []
def md126 : Nat → List Bool := fun _ => []
def md127 : Nat → List Bool := fun _ => []
def md128 : Nat → List Bool := fun _ => []
def md129 : Nat → List Bool := fun _ => []
def md130 : Nat → List Bool := fun _ => []
def md131 : Nat → List Bool
  | 2 => [false, false, false, false, false, false, false, false, false, false]
  | 3 => [false, false, false, false, false, false, false, false, false, false, false, false]
  | 6 => [false, false, false, false, false, false, false, false, false, false]
  | _ => []
def md132 : Nat → List Bool := fun _ => []
def md133 : Nat → List Bool := fun _ => []
def md134 : Nat → List Bool := fun _ => []
def md135 : Nat → List Bool := fun _ => []
def md136 : Nat → List Bool := fun _ => []
def md137 : Nat → List Bool := fun _ => []
def md138 : Nat → List Bool := fun _ => []
def md139 : Nat → List Bool := fun _ => []
def md140 : Nat → List Bool := fun _ => []
def md141 : Nat → List Bool := fun _ => []
def md142 : Nat → List Bool := fun _ => []
def md143 : Nat → List Bool := fun _ => []
def md144 : Nat → List Bool := fun _ => []
def md145 : Nat → List Bool := fun _ => []
def md146 : Nat → List Bool := fun _ => []
def md147 : Nat → List Bool := fun _ => []
def md148 : Nat → List Bool := fun _ => []
def md149 : Nat → List Bool := fun _ => []
def md150 : Nat → List Bool := fun _ => []
def md152 : Nat → List Bool := fun _ => []
def md153 : Nat → List Bool := fun _ => []
def md154 : Nat → List Bool := fun _ => []
def md155 : Nat → List Bool := fun _ => []
def md156 : Nat → List Bool := fun _ => []
def md157 : Nat → List Bool := fun _ => []
def md158 : Nat → List Bool := fun _ => []
def md160 : Nat → List Bool := fun _ => []

end Go.Proofs.Ytpnknljphgkioaa
