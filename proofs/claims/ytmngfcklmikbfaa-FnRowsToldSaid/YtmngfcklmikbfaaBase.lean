/- Closed facts of the program, for the abstract layer: types and functions. Printed by gen_base.py. -/
import Derived.Test.YtmngfcklmikbfaaProg
import Derived.Test.YtmngfcklmikbfaaAbsY
set_option linter.unusedVariables false
set_option linter.defProp false
namespace Go.Proofs.Ytmngfcklmikbfaa
open Go Go.Abs

theorem mixed : Try.prog.follows .mixedOrders = true := by kernel_rfl
theorem cells2 : Try.prog.cellsOf 2 = 1 := by kernel_rfl
theorem bytes2 : Try.prog.bytesOf 2 = 8 := by kernel_rfl
theorem zero2 : zeroOf Try.prog 2 = .int .i64 0 := by kernel_rfl
theorem cells3 : Try.prog.cellsOf 3 = 1 := by kernel_rfl
theorem bytes3 : Try.prog.bytesOf 3 = 8 := by kernel_rfl
theorem zero3 : zeroOf Try.prog 3 = .int .i64 0 := by kernel_rfl
theorem cells4 : Try.prog.cellsOf 4 = 1 := by kernel_rfl
theorem bytes4 : Try.prog.bytesOf 4 = 1 := by kernel_rfl
theorem zero4 : zeroOf Try.prog 4 = .bool false := by kernel_rfl
theorem cells5 : Try.prog.cellsOf 5 = 1 := by kernel_rfl
theorem bytes5 : Try.prog.bytesOf 5 = 1 := by kernel_rfl
theorem zero5 : zeroOf Try.prog 5 = .int .u8 0 := by kernel_rfl
theorem cells6 : Try.prog.cellsOf 6 = 1 := by kernel_rfl
theorem bytes6 : Try.prog.bytesOf 6 = 1 := by kernel_rfl
theorem zero6 : zeroOf Try.prog 6 = .int .u8 0 := by kernel_rfl
theorem cells9 : Try.prog.cellsOf 9 = 1 := by kernel_rfl
theorem bytes9 : Try.prog.bytesOf 9 = 16 := by kernel_rfl
theorem zero9 : zeroOf Try.prog 9 = .str [] := by kernel_rfl
theorem cells12 : Try.prog.cellsOf 12 = 1 := by kernel_rfl
theorem bytes12 : Try.prog.bytesOf 12 = 8 := by kernel_rfl
theorem zero12 : zeroOf Try.prog 12 = .int .u64 0 := by kernel_rfl
theorem cells21 : Try.prog.cellsOf 21 = 1 := by kernel_rfl
theorem bytes21 : Try.prog.bytesOf 21 = 4 := by kernel_rfl
theorem zero21 : zeroOf Try.prog 21 = .int .i32 0 := by kernel_rfl
theorem cells22 : Try.prog.cellsOf 22 = 1 := by kernel_rfl
theorem bytes22 : Try.prog.bytesOf 22 = 24 := by kernel_rfl
theorem zero22 : zeroOf Try.prog 22 = .nils := by kernel_rfl
theorem cells24 : Try.prog.cellsOf 24 = 1 := by kernel_rfl
theorem bytes24 : Try.prog.bytesOf 24 = 24 := by kernel_rfl
theorem zero24 : zeroOf Try.prog 24 = .nils := by kernel_rfl
theorem cells25 : Try.prog.cellsOf 25 = 2 := by kernel_rfl
theorem bytes25 : Try.prog.bytesOf 25 = 48 := by kernel_rfl
theorem zero25 : zeroOf Try.prog 25 = .agg [.nils, .nils] := by kernel_rfl
theorem cells26 : Try.prog.cellsOf 26 = 2 := by kernel_rfl
theorem bytes26 : Try.prog.bytesOf 26 = 48 := by kernel_rfl
theorem zero26 : zeroOf Try.prog 26 = .agg [.nils, .nils] := by kernel_rfl
theorem cells45 : Try.prog.cellsOf 45 = 1 := by kernel_rfl
theorem bytes45 : Try.prog.bytesOf 45 = 24 := by kernel_rfl
theorem zero45 : zeroOf Try.prog 45 = .nils := by kernel_rfl
theorem cells46 : Try.prog.cellsOf 46 = 3 := by kernel_rfl
theorem bytes46 : Try.prog.bytesOf 46 = 24 := by kernel_rfl
theorem zero46 : zeroOf Try.prog 46 = .agg [.int .i64 0, .int .i64 0, .int .i64 0] := by kernel_rfl
theorem cells47 : Try.prog.cellsOf 47 = 3 := by kernel_rfl
theorem bytes47 : Try.prog.bytesOf 47 = 24 := by kernel_rfl
theorem zero47 : zeroOf Try.prog 47 = .agg [.int .i64 0, .int .i64 0, .int .i64 0] := by kernel_rfl
theorem cells65 : Try.prog.cellsOf 65 = 1 := by kernel_rfl
theorem bytes65 : Try.prog.bytesOf 65 = 24 := by kernel_rfl
theorem zero65 : zeroOf Try.prog 65 = .nils := by kernel_rfl
theorem cells72 : Try.prog.cellsOf 72 = 3 := by kernel_rfl
theorem bytes72 : Try.prog.bytesOf 72 = 24 := by kernel_rfl
theorem zero72 : zeroOf Try.prog 72 = .agg [.int .i64 0, .int .i64 0, .int .i64 0] := by kernel_rfl
theorem cells73 : Try.prog.cellsOf 73 = 3 := by kernel_rfl
theorem bytes73 : Try.prog.bytesOf 73 = 24 := by kernel_rfl
theorem zero73 : zeroOf Try.prog 73 = .agg [.int .i64 0, .int .i64 0, .int .i64 0] := by kernel_rfl
theorem cells75 : Try.prog.cellsOf 75 = 1 := by kernel_rfl
theorem bytes75 : Try.prog.bytesOf 75 = 24 := by kernel_rfl
theorem zero75 : zeroOf Try.prog 75 = .nils := by kernel_rfl
theorem cells80 : Try.prog.cellsOf 80 = 3 := by kernel_rfl
theorem bytes80 : Try.prog.bytesOf 80 = 24 := by kernel_rfl
theorem zero80 : zeroOf Try.prog 80 = .agg [.int .i64 0, .int .i64 0, .int .i64 0] := by kernel_rfl
theorem cells81 : Try.prog.cellsOf 81 = 3 := by kernel_rfl
theorem bytes81 : Try.prog.bytesOf 81 = 24 := by kernel_rfl
theorem zero81 : zeroOf Try.prog 81 = .agg [.int .i64 0, .int .i64 0, .int .i64 0] := by kernel_rfl
theorem cells93 : Try.prog.cellsOf 93 = 1 := by kernel_rfl
theorem bytes93 : Try.prog.bytesOf 93 = 8 := by kernel_rfl
theorem zero93 : zeroOf Try.prog 93 = .nilp := by kernel_rfl
theorem cells117 : Try.prog.cellsOf 117 = 1 := by kernel_rfl
theorem bytes117 : Try.prog.bytesOf 117 = 24 := by kernel_rfl
theorem zero117 : zeroOf Try.prog 117 = .nils := by kernel_rfl
theorem cells127 : Try.prog.cellsOf 127 = 1 := by kernel_rfl
theorem bytes127 : Try.prog.bytesOf 127 = 24 := by kernel_rfl
theorem zero127 : zeroOf Try.prog 127 = .nils := by kernel_rfl
theorem cells129 : Try.prog.cellsOf 129 = 1 := by kernel_rfl
theorem bytes129 : Try.prog.bytesOf 129 = 8 := by kernel_rfl
theorem zero129 : zeroOf Try.prog 129 = .nilp := by kernel_rfl
theorem cells134 : Try.prog.cellsOf 134 = 1 := by kernel_rfl
theorem bytes134 : Try.prog.bytesOf 134 = 8 := by kernel_rfl
theorem zero134 : zeroOf Try.prog 134 = .int .u64 0 := by kernel_rfl
theorem cells135 : Try.prog.cellsOf 135 = 3 := by kernel_rfl
theorem bytes135 : Try.prog.bytesOf 135 = 40 := by kernel_rfl
theorem zero135 : zeroOf Try.prog 135 = .agg [.nils, .int .i64 0, .int .u64 0] := by kernel_rfl
theorem cells136 : Try.prog.cellsOf 136 = 3 := by kernel_rfl
theorem bytes136 : Try.prog.bytesOf 136 = 40 := by kernel_rfl
theorem zero136 : zeroOf Try.prog 136 = .agg [.nils, .int .i64 0, .int .u64 0] := by kernel_rfl
theorem cells138 : Try.prog.cellsOf 138 = 1 := by kernel_rfl
theorem bytes138 : Try.prog.bytesOf 138 = 24 := by kernel_rfl
theorem zero138 : zeroOf Try.prog 138 = .nils := by kernel_rfl
theorem cells142 : Try.prog.cellsOf 142 = 1 := by kernel_rfl
theorem bytes142 : Try.prog.bytesOf 142 = 8 := by kernel_rfl
theorem zero142 : zeroOf Try.prog 142 = .int .u64 0 := by kernel_rfl
theorem cells146 : Try.prog.cellsOf 146 = 1 := by kernel_rfl
theorem bytes146 : Try.prog.bytesOf 146 = 8 := by kernel_rfl
theorem zero146 : zeroOf Try.prog 146 = .nilp := by kernel_rfl
theorem cells147 : Try.prog.cellsOf 147 = 1 := by kernel_rfl
theorem bytes147 : Try.prog.bytesOf 147 = 24 := by kernel_rfl
theorem zero147 : zeroOf Try.prog 147 = .nils := by kernel_rfl
theorem cells154 : Try.prog.cellsOf 154 = 1 := by kernel_rfl
theorem bytes154 : Try.prog.bytesOf 154 = 8 := by kernel_rfl
theorem zero154 : zeroOf Try.prog 154 = .int .i64 0 := by kernel_rfl
theorem cells162 : Try.prog.cellsOf 162 = 1 := by kernel_rfl
theorem bytes162 : Try.prog.bytesOf 162 = 4 := by kernel_rfl
theorem zero162 : zeroOf Try.prog 162 = .int .u32 0 := by kernel_rfl
theorem cells170 : Try.prog.cellsOf 170 = 1 := by kernel_rfl
theorem bytes170 : Try.prog.bytesOf 170 = 8 := by kernel_rfl
theorem zero170 : zeroOf Try.prog 170 = .int .u64 0 := by kernel_rfl
theorem cells174 : Try.prog.cellsOf 174 = 1 := by kernel_rfl
theorem bytes174 : Try.prog.bytesOf 174 = 8 := by kernel_rfl
theorem zero174 : zeroOf Try.prog 174 = .nilp := by kernel_rfl
theorem cells176 : Try.prog.cellsOf 176 = 1 := by kernel_rfl
theorem bytes176 : Try.prog.bytesOf 176 = 8 := by kernel_rfl
theorem zero176 : zeroOf Try.prog 176 = .nilp := by kernel_rfl
theorem cells179 : Try.prog.cellsOf 179 = 1 := by kernel_rfl
theorem bytes179 : Try.prog.bytesOf 179 = 8 := by kernel_rfl
theorem zero179 : zeroOf Try.prog 179 = .nilp := by kernel_rfl
theorem cells181 : Try.prog.cellsOf 181 = 4 := by kernel_rfl
theorem bytes181 : Try.prog.bytesOf 181 = 40 := by kernel_rfl
theorem zero181 : zeroOf Try.prog 181 = .agg [.nilp, .nilp, .nilp, .str []] := by kernel_rfl
theorem cells182 : Try.prog.cellsOf 182 = 4 := by kernel_rfl
theorem bytes182 : Try.prog.bytesOf 182 = 40 := by kernel_rfl
theorem zero182 : zeroOf Try.prog 182 = .agg [.nilp, .nilp, .nilp, .str []] := by kernel_rfl
theorem cells187 : Try.prog.cellsOf 187 = 1 := by kernel_rfl
theorem bytes187 : Try.prog.bytesOf 187 = 1 := by kernel_rfl
theorem zero187 : zeroOf Try.prog 187 = .int .u8 0 := by kernel_rfl
theorem cells188 : Try.prog.cellsOf 188 = 1 := by kernel_rfl
theorem bytes188 : Try.prog.bytesOf 188 = 1 := by kernel_rfl
theorem zero188 : zeroOf Try.prog 188 = .int .u8 0 := by kernel_rfl
theorem cells190 : Try.prog.cellsOf 190 = 1 := by kernel_rfl
theorem bytes190 : Try.prog.bytesOf 190 = 8 := by kernel_rfl
theorem zero190 : zeroOf Try.prog 190 = .nilp := by kernel_rfl
theorem cells191 : Try.prog.cellsOf 191 = 1 := by kernel_rfl
theorem bytes191 : Try.prog.bytesOf 191 = 4 := by kernel_rfl
theorem zero191 : zeroOf Try.prog 191 = .int .i32 0 := by kernel_rfl
theorem cells192 : Try.prog.cellsOf 192 = 1 := by kernel_rfl
theorem bytes192 : Try.prog.bytesOf 192 = 4 := by kernel_rfl
theorem zero192 : zeroOf Try.prog 192 = .int .i32 0 := by kernel_rfl
theorem cells193 : Try.prog.cellsOf 193 = 11 := by kernel_rfl
theorem bytes193 : Try.prog.bytesOf 193 = 48 := by kernel_rfl
theorem zero193 : zeroOf Try.prog 193 = .agg [.int .u64 0, .int .u64 0, .int .u32 0, .int .u8 0, .int .u8 0, .int .u8 0, .int .u8 0, .nilf, .nilp, .int .i32 0, .int .i32 0] := by kernel_rfl
theorem cells194 : Try.prog.cellsOf 194 = 11 := by kernel_rfl
theorem bytes194 : Try.prog.bytesOf 194 = 48 := by kernel_rfl
theorem zero194 : zeroOf Try.prog 194 = .agg [.int .u64 0, .int .u64 0, .int .u32 0, .int .u8 0, .int .u8 0, .int .u8 0, .int .u8 0, .nilf, .nilp, .int .i32 0, .int .i32 0] := by kernel_rfl
theorem cells195 : Try.prog.cellsOf 195 = 1 := by kernel_rfl
theorem bytes195 : Try.prog.bytesOf 195 = 16 := by kernel_rfl
theorem zero195 : zeroOf Try.prog 195 = .agg [.str []] := by kernel_rfl
theorem cells196 : Try.prog.cellsOf 196 = 1 := by kernel_rfl
theorem bytes196 : Try.prog.bytesOf 196 = 16 := by kernel_rfl
theorem zero196 : zeroOf Try.prog 196 = .agg [.str []] := by kernel_rfl
theorem field7_0 : fieldOf Try.prog 7 0 = some ⟨ "x", 2, 0, false, "", "runtime", 0⟩ := by kernel_rfl
theorem field7_1 : fieldOf Try.prog 7 1 = some ⟨ "y", 3, 1, false, "", "runtime", 8⟩ := by kernel_rfl
theorem field7_2 : fieldOf Try.prog 7 2 = some ⟨ "signed", 4, 2, false, "", "runtime", 16⟩ := by kernel_rfl
theorem field7_3 : fieldOf Try.prog 7 3 = some ⟨ "code", 6, 3, false, "", "runtime", 17⟩ := by kernel_rfl
theorem field8_0 : fieldOf Try.prog 8 0 = some ⟨ "x", 2, 0, false, "", "runtime", 0⟩ := by kernel_rfl
theorem field8_1 : fieldOf Try.prog 8 1 = some ⟨ "y", 3, 1, false, "", "runtime", 8⟩ := by kernel_rfl
theorem field8_2 : fieldOf Try.prog 8 2 = some ⟨ "signed", 4, 2, false, "", "runtime", 16⟩ := by kernel_rfl
theorem field8_3 : fieldOf Try.prog 8 3 = some ⟨ "code", 6, 3, false, "", "runtime", 17⟩ := by kernel_rfl
theorem field13_0 : fieldOf Try.prog 13 0 = some ⟨ "msg", 9, 0, false, "", "runtime", 0⟩ := by kernel_rfl
theorem field13_1 : fieldOf Try.prog 13 1 = some ⟨ "addr", 12, 1, false, "", "runtime", 16⟩ := by kernel_rfl
theorem field14_0 : fieldOf Try.prog 14 0 = some ⟨ "msg", 9, 0, false, "", "runtime", 0⟩ := by kernel_rfl
theorem field14_1 : fieldOf Try.prog 14 1 = some ⟨ "addr", 12, 1, false, "", "runtime", 16⟩ := by kernel_rfl
theorem field18_0 : fieldOf Try.prog 18 0 = some ⟨ "typ", 17, 0, false, "", "internal/runtime/maps", 0⟩ := by kernel_rfl
theorem field19_0 : fieldOf Try.prog 19 0 = some ⟨ "typ", 17, 0, false, "", "internal/runtime/maps", 0⟩ := by kernel_rfl
theorem field25_0 : fieldOf Try.prog 25 0 = some ⟨ "Breaks", 24, 0, false, "", "", 0⟩ := by kernel_rfl
theorem field25_1 : fieldOf Try.prog 25 1 = some ⟨ "Rates", 24, 1, false, "", "", 24⟩ := by kernel_rfl
theorem field26_0 : fieldOf Try.prog 26 0 = some ⟨ "Breaks", 24, 0, false, "", "", 0⟩ := by kernel_rfl
theorem field26_1 : fieldOf Try.prog 26 1 = some ⟨ "Rates", 24, 1, false, "", "", 24⟩ := by kernel_rfl
theorem field46_0 : fieldOf Try.prog 46 0 = some ⟨ "Rate", 2, 0, false, "", "", 0⟩ := by kernel_rfl
theorem field46_1 : fieldOf Try.prog 46 1 = some ⟨ "Piece", 2, 1, false, "", "", 8⟩ := by kernel_rfl
theorem field46_2 : fieldOf Try.prog 46 2 = some ⟨ "Least", 2, 2, false, "", "", 16⟩ := by kernel_rfl
theorem field47_0 : fieldOf Try.prog 47 0 = some ⟨ "Rate", 2, 0, false, "", "", 0⟩ := by kernel_rfl
theorem field47_1 : fieldOf Try.prog 47 1 = some ⟨ "Piece", 2, 1, false, "", "", 8⟩ := by kernel_rfl
theorem field47_2 : fieldOf Try.prog 47 2 = some ⟨ "Least", 2, 2, false, "", "", 16⟩ := by kernel_rfl
theorem field72_0 : fieldOf Try.prog 72 0 = some ⟨ "Care", 2, 0, false, "", "", 0⟩ := by kernel_rfl
theorem field72_1 : fieldOf Try.prog 72 1 = some ⟨ "Is", 2, 1, false, "", "", 8⟩ := by kernel_rfl
theorem field72_2 : fieldOf Try.prog 72 2 = some ⟨ "Result", 2, 2, false, "", "", 16⟩ := by kernel_rfl
theorem field73_0 : fieldOf Try.prog 73 0 = some ⟨ "Care", 2, 0, false, "", "", 0⟩ := by kernel_rfl
theorem field73_1 : fieldOf Try.prog 73 1 = some ⟨ "Is", 2, 1, false, "", "", 8⟩ := by kernel_rfl
theorem field73_2 : fieldOf Try.prog 73 2 = some ⟨ "Result", 2, 2, false, "", "", 16⟩ := by kernel_rfl
theorem field80_0 : fieldOf Try.prog 80 0 = some ⟨ "Day", 2, 0, false, "", "", 0⟩ := by kernel_rfl
theorem field80_1 : fieldOf Try.prog 80 1 = some ⟨ "Rank", 2, 1, false, "", "", 8⟩ := by kernel_rfl
theorem field80_2 : fieldOf Try.prog 80 2 = some ⟨ "Cents", 2, 2, false, "", "", 16⟩ := by kernel_rfl
theorem field81_0 : fieldOf Try.prog 81 0 = some ⟨ "Day", 2, 0, false, "", "", 0⟩ := by kernel_rfl
theorem field81_1 : fieldOf Try.prog 81 1 = some ⟨ "Rank", 2, 1, false, "", "", 8⟩ := by kernel_rfl
theorem field81_2 : fieldOf Try.prog 81 2 = some ⟨ "Cents", 2, 2, false, "", "", 16⟩ := by kernel_rfl
theorem field135_0 : fieldOf Try.prog 135 0 = some ⟨ "code", 22, 0, false, "", "loop.example/g01393/spec", 0⟩ := by kernel_rfl
theorem field135_1 : fieldOf Try.prog 135 1 = some ⟨ "at", 3, 1, false, "", "loop.example/g01393/spec", 24⟩ := by kernel_rfl
theorem field135_2 : fieldOf Try.prog 135 2 = some ⟨ "seed", 134, 2, false, "", "loop.example/g01393/spec", 32⟩ := by kernel_rfl
theorem field136_0 : fieldOf Try.prog 136 0 = some ⟨ "code", 22, 0, false, "", "loop.example/g01393/spec", 0⟩ := by kernel_rfl
theorem field136_1 : fieldOf Try.prog 136 1 = some ⟨ "at", 3, 1, false, "", "loop.example/g01393/spec", 24⟩ := by kernel_rfl
theorem field136_2 : fieldOf Try.prog 136 2 = some ⟨ "seed", 134, 2, false, "", "loop.example/g01393/spec", 32⟩ := by kernel_rfl
theorem field181_0 : fieldOf Try.prog 181 0 = some ⟨ "_interface", 17, 0, false, "", "runtime", 0⟩ := by kernel_rfl
theorem field181_1 : fieldOf Try.prog 181 1 = some ⟨ "concrete", 17, 1, false, "", "runtime", 8⟩ := by kernel_rfl
theorem field181_2 : fieldOf Try.prog 181 2 = some ⟨ "asserted", 17, 2, false, "", "runtime", 16⟩ := by kernel_rfl
theorem field181_3 : fieldOf Try.prog 181 3 = some ⟨ "missingMethod", 9, 3, false, "", "runtime", 24⟩ := by kernel_rfl
theorem field182_0 : fieldOf Try.prog 182 0 = some ⟨ "_interface", 17, 0, false, "", "runtime", 0⟩ := by kernel_rfl
theorem field182_1 : fieldOf Try.prog 182 1 = some ⟨ "concrete", 17, 1, false, "", "runtime", 8⟩ := by kernel_rfl
theorem field182_2 : fieldOf Try.prog 182 2 = some ⟨ "asserted", 17, 2, false, "", "runtime", 16⟩ := by kernel_rfl
theorem field182_3 : fieldOf Try.prog 182 3 = some ⟨ "missingMethod", 9, 3, false, "", "runtime", 24⟩ := by kernel_rfl
theorem field184_0 : fieldOf Try.prog 184 0 = some ⟨ "_", 183, 0, false, "", "runtime", 0⟩ := by kernel_rfl
theorem field185_0 : fieldOf Try.prog 185 0 = some ⟨ "_", 183, 0, false, "", "runtime", 0⟩ := by kernel_rfl
theorem field193_0 : fieldOf Try.prog 193 0 = some ⟨ "Size_", 12, 0, false, "", "", 0⟩ := by kernel_rfl
theorem field193_1 : fieldOf Try.prog 193 1 = some ⟨ "PtrBytes", 12, 1, false, "", "", 8⟩ := by kernel_rfl
theorem field193_2 : fieldOf Try.prog 193 2 = some ⟨ "Hash", 162, 2, false, "", "", 16⟩ := by kernel_rfl
theorem field193_3 : fieldOf Try.prog 193 3 = some ⟨ "TFlag", 187, 3, false, "", "", 20⟩ := by kernel_rfl
theorem field193_4 : fieldOf Try.prog 193 4 = some ⟨ "Align_", 5, 4, false, "", "", 21⟩ := by kernel_rfl
theorem field193_5 : fieldOf Try.prog 193 5 = some ⟨ "FieldAlign_", 5, 5, false, "", "", 22⟩ := by kernel_rfl
theorem field193_6 : fieldOf Try.prog 193 6 = some ⟨ "Kind_", 188, 6, false, "", "", 23⟩ := by kernel_rfl
theorem field193_7 : fieldOf Try.prog 193 7 = some ⟨ "Equal", 189, 7, false, "", "", 24⟩ := by kernel_rfl
theorem field193_8 : fieldOf Try.prog 193 8 = some ⟨ "GCData", 190, 8, false, "", "", 32⟩ := by kernel_rfl
theorem field193_9 : fieldOf Try.prog 193 9 = some ⟨ "Str", 191, 9, false, "", "", 40⟩ := by kernel_rfl
theorem field193_10 : fieldOf Try.prog 193 10 = some ⟨ "PtrToThis", 192, 10, false, "", "", 44⟩ := by kernel_rfl
theorem field194_0 : fieldOf Try.prog 194 0 = some ⟨ "Size_", 12, 0, false, "", "", 0⟩ := by kernel_rfl
theorem field194_1 : fieldOf Try.prog 194 1 = some ⟨ "PtrBytes", 12, 1, false, "", "", 8⟩ := by kernel_rfl
theorem field194_2 : fieldOf Try.prog 194 2 = some ⟨ "Hash", 162, 2, false, "", "", 16⟩ := by kernel_rfl
theorem field194_3 : fieldOf Try.prog 194 3 = some ⟨ "TFlag", 187, 3, false, "", "", 20⟩ := by kernel_rfl
theorem field194_4 : fieldOf Try.prog 194 4 = some ⟨ "Align_", 5, 4, false, "", "", 21⟩ := by kernel_rfl
theorem field194_5 : fieldOf Try.prog 194 5 = some ⟨ "FieldAlign_", 5, 5, false, "", "", 22⟩ := by kernel_rfl
theorem field194_6 : fieldOf Try.prog 194 6 = some ⟨ "Kind_", 188, 6, false, "", "", 23⟩ := by kernel_rfl
theorem field194_7 : fieldOf Try.prog 194 7 = some ⟨ "Equal", 189, 7, false, "", "", 24⟩ := by kernel_rfl
theorem field194_8 : fieldOf Try.prog 194 8 = some ⟨ "GCData", 190, 8, false, "", "", 32⟩ := by kernel_rfl
theorem field194_9 : fieldOf Try.prog 194 9 = some ⟨ "Str", 191, 9, false, "", "", 40⟩ := by kernel_rfl
theorem field194_10 : fieldOf Try.prog 194 10 = some ⟨ "PtrToThis", 192, 10, false, "", "", 44⟩ := by kernel_rfl
theorem field195_0 : fieldOf Try.prog 195 0 = some ⟨ "s", 9, 0, false, "", "errors", 0⟩ := by kernel_rfl
theorem field196_0 : fieldOf Try.prog 196 0 = some ⟨ "s", 9, 0, false, "", "errors", 0⟩ := by kernel_rfl

/-! All facts on types, some at once. -/
theorem tys0 :
  Try.prog.cellsOf 2 = 1 ∧
  Try.prog.bytesOf 2 = 8 ∧
  zeroOf Try.prog 2 = .int .i64 0 ∧
  Try.prog.cellsOf 3 = 1 ∧
  Try.prog.bytesOf 3 = 8 ∧
  zeroOf Try.prog 3 = .int .i64 0 ∧
  Try.prog.cellsOf 4 = 1 ∧
  Try.prog.bytesOf 4 = 1 ∧
  zeroOf Try.prog 4 = .bool false ∧
  Try.prog.cellsOf 5 = 1 ∧
  Try.prog.bytesOf 5 = 1 ∧
  zeroOf Try.prog 5 = .int .u8 0 ∧
  Try.prog.cellsOf 6 = 1 ∧
  Try.prog.bytesOf 6 = 1 ∧
  zeroOf Try.prog 6 = .int .u8 0 ∧
  Try.prog.cellsOf 9 = 1 ∧
  Try.prog.bytesOf 9 = 16 ∧
  zeroOf Try.prog 9 = .str [] ∧
  Try.prog.cellsOf 12 = 1 ∧
  Try.prog.bytesOf 12 = 8 ∧
  zeroOf Try.prog 12 = .int .u64 0 ∧
  Try.prog.cellsOf 21 = 1 ∧
  Try.prog.bytesOf 21 = 4 ∧
  zeroOf Try.prog 21 = .int .i32 0 ∧
  Try.prog.cellsOf 22 = 1 ∧
  Try.prog.bytesOf 22 = 24 ∧
  zeroOf Try.prog 22 = .nils ∧
  Try.prog.cellsOf 24 = 1 ∧
  Try.prog.bytesOf 24 = 24 ∧
  zeroOf Try.prog 24 = .nils ∧
  Try.prog.cellsOf 25 = 2 ∧
  Try.prog.bytesOf 25 = 48 ∧
  zeroOf Try.prog 25 = .agg [.nils, .nils] ∧
  Try.prog.cellsOf 26 = 2 ∧
  Try.prog.bytesOf 26 = 48 ∧
  zeroOf Try.prog 26 = .agg [.nils, .nils] ∧
  Try.prog.cellsOf 45 = 1 ∧
  Try.prog.bytesOf 45 = 24 ∧
  zeroOf Try.prog 45 = .nils ∧
  Try.prog.cellsOf 46 = 3 :=
  ⟨cells2, bytes2, zero2, cells3, bytes3, zero3, cells4, bytes4, zero4, cells5, bytes5, zero5, cells6, bytes6, zero6, cells9, bytes9, zero9, cells12, bytes12, zero12, cells21, bytes21, zero21, cells22, bytes22, zero22, cells24, bytes24, zero24, cells25, bytes25, zero25, cells26, bytes26, zero26, cells45, bytes45, zero45, cells46⟩
theorem tys1 :
  Try.prog.bytesOf 46 = 24 ∧
  zeroOf Try.prog 46 = .agg [.int .i64 0, .int .i64 0, .int .i64 0] ∧
  Try.prog.cellsOf 47 = 3 ∧
  Try.prog.bytesOf 47 = 24 ∧
  zeroOf Try.prog 47 = .agg [.int .i64 0, .int .i64 0, .int .i64 0] ∧
  Try.prog.cellsOf 65 = 1 ∧
  Try.prog.bytesOf 65 = 24 ∧
  zeroOf Try.prog 65 = .nils ∧
  Try.prog.cellsOf 72 = 3 ∧
  Try.prog.bytesOf 72 = 24 ∧
  zeroOf Try.prog 72 = .agg [.int .i64 0, .int .i64 0, .int .i64 0] ∧
  Try.prog.cellsOf 73 = 3 ∧
  Try.prog.bytesOf 73 = 24 ∧
  zeroOf Try.prog 73 = .agg [.int .i64 0, .int .i64 0, .int .i64 0] ∧
  Try.prog.cellsOf 75 = 1 ∧
  Try.prog.bytesOf 75 = 24 ∧
  zeroOf Try.prog 75 = .nils ∧
  Try.prog.cellsOf 80 = 3 ∧
  Try.prog.bytesOf 80 = 24 ∧
  zeroOf Try.prog 80 = .agg [.int .i64 0, .int .i64 0, .int .i64 0] ∧
  Try.prog.cellsOf 81 = 3 ∧
  Try.prog.bytesOf 81 = 24 ∧
  zeroOf Try.prog 81 = .agg [.int .i64 0, .int .i64 0, .int .i64 0] ∧
  Try.prog.cellsOf 93 = 1 ∧
  Try.prog.bytesOf 93 = 8 ∧
  zeroOf Try.prog 93 = .nilp ∧
  Try.prog.cellsOf 117 = 1 ∧
  Try.prog.bytesOf 117 = 24 ∧
  zeroOf Try.prog 117 = .nils ∧
  Try.prog.cellsOf 127 = 1 ∧
  Try.prog.bytesOf 127 = 24 ∧
  zeroOf Try.prog 127 = .nils ∧
  Try.prog.cellsOf 129 = 1 ∧
  Try.prog.bytesOf 129 = 8 ∧
  zeroOf Try.prog 129 = .nilp ∧
  Try.prog.cellsOf 134 = 1 ∧
  Try.prog.bytesOf 134 = 8 ∧
  zeroOf Try.prog 134 = .int .u64 0 ∧
  Try.prog.cellsOf 135 = 3 ∧
  Try.prog.bytesOf 135 = 40 :=
  ⟨bytes46, zero46, cells47, bytes47, zero47, cells65, bytes65, zero65, cells72, bytes72, zero72, cells73, bytes73, zero73, cells75, bytes75, zero75, cells80, bytes80, zero80, cells81, bytes81, zero81, cells93, bytes93, zero93, cells117, bytes117, zero117, cells127, bytes127, zero127, cells129, bytes129, zero129, cells134, bytes134, zero134, cells135, bytes135⟩
theorem tys2 :
  zeroOf Try.prog 135 = .agg [.nils, .int .i64 0, .int .u64 0] ∧
  Try.prog.cellsOf 136 = 3 ∧
  Try.prog.bytesOf 136 = 40 ∧
  zeroOf Try.prog 136 = .agg [.nils, .int .i64 0, .int .u64 0] ∧
  Try.prog.cellsOf 138 = 1 ∧
  Try.prog.bytesOf 138 = 24 ∧
  zeroOf Try.prog 138 = .nils ∧
  Try.prog.cellsOf 142 = 1 ∧
  Try.prog.bytesOf 142 = 8 ∧
  zeroOf Try.prog 142 = .int .u64 0 ∧
  Try.prog.cellsOf 146 = 1 ∧
  Try.prog.bytesOf 146 = 8 ∧
  zeroOf Try.prog 146 = .nilp ∧
  Try.prog.cellsOf 147 = 1 ∧
  Try.prog.bytesOf 147 = 24 ∧
  zeroOf Try.prog 147 = .nils ∧
  Try.prog.cellsOf 154 = 1 ∧
  Try.prog.bytesOf 154 = 8 ∧
  zeroOf Try.prog 154 = .int .i64 0 ∧
  Try.prog.cellsOf 162 = 1 ∧
  Try.prog.bytesOf 162 = 4 ∧
  zeroOf Try.prog 162 = .int .u32 0 ∧
  Try.prog.cellsOf 170 = 1 ∧
  Try.prog.bytesOf 170 = 8 ∧
  zeroOf Try.prog 170 = .int .u64 0 ∧
  Try.prog.cellsOf 174 = 1 ∧
  Try.prog.bytesOf 174 = 8 ∧
  zeroOf Try.prog 174 = .nilp ∧
  Try.prog.cellsOf 176 = 1 ∧
  Try.prog.bytesOf 176 = 8 ∧
  zeroOf Try.prog 176 = .nilp ∧
  Try.prog.cellsOf 179 = 1 ∧
  Try.prog.bytesOf 179 = 8 ∧
  zeroOf Try.prog 179 = .nilp ∧
  Try.prog.cellsOf 181 = 4 ∧
  Try.prog.bytesOf 181 = 40 ∧
  zeroOf Try.prog 181 = .agg [.nilp, .nilp, .nilp, .str []] ∧
  Try.prog.cellsOf 182 = 4 ∧
  Try.prog.bytesOf 182 = 40 ∧
  zeroOf Try.prog 182 = .agg [.nilp, .nilp, .nilp, .str []] :=
  ⟨zero135, cells136, bytes136, zero136, cells138, bytes138, zero138, cells142, bytes142, zero142, cells146, bytes146, zero146, cells147, bytes147, zero147, cells154, bytes154, zero154, cells162, bytes162, zero162, cells170, bytes170, zero170, cells174, bytes174, zero174, cells176, bytes176, zero176, cells179, bytes179, zero179, cells181, bytes181, zero181, cells182, bytes182, zero182⟩
theorem tys3 :
  Try.prog.cellsOf 187 = 1 ∧
  Try.prog.bytesOf 187 = 1 ∧
  zeroOf Try.prog 187 = .int .u8 0 ∧
  Try.prog.cellsOf 188 = 1 ∧
  Try.prog.bytesOf 188 = 1 ∧
  zeroOf Try.prog 188 = .int .u8 0 ∧
  Try.prog.cellsOf 190 = 1 ∧
  Try.prog.bytesOf 190 = 8 ∧
  zeroOf Try.prog 190 = .nilp ∧
  Try.prog.cellsOf 191 = 1 ∧
  Try.prog.bytesOf 191 = 4 ∧
  zeroOf Try.prog 191 = .int .i32 0 ∧
  Try.prog.cellsOf 192 = 1 ∧
  Try.prog.bytesOf 192 = 4 ∧
  zeroOf Try.prog 192 = .int .i32 0 ∧
  Try.prog.cellsOf 193 = 11 ∧
  Try.prog.bytesOf 193 = 48 ∧
  zeroOf Try.prog 193 = .agg [.int .u64 0, .int .u64 0, .int .u32 0, .int .u8 0, .int .u8 0, .int .u8 0, .int .u8 0, .nilf, .nilp, .int .i32 0, .int .i32 0] ∧
  Try.prog.cellsOf 194 = 11 ∧
  Try.prog.bytesOf 194 = 48 ∧
  zeroOf Try.prog 194 = .agg [.int .u64 0, .int .u64 0, .int .u32 0, .int .u8 0, .int .u8 0, .int .u8 0, .int .u8 0, .nilf, .nilp, .int .i32 0, .int .i32 0] ∧
  Try.prog.cellsOf 195 = 1 ∧
  Try.prog.bytesOf 195 = 16 ∧
  zeroOf Try.prog 195 = .agg [.str []] ∧
  Try.prog.cellsOf 196 = 1 ∧
  Try.prog.bytesOf 196 = 16 ∧
  zeroOf Try.prog 196 = .agg [.str []] ∧
  fieldOf Try.prog 25 0 = some ⟨ "Breaks", 24, 0, false, "", "", 0⟩ ∧
  fieldOf Try.prog 25 1 = some ⟨ "Rates", 24, 1, false, "", "", 24⟩ ∧
  fieldOf Try.prog 26 0 = some ⟨ "Breaks", 24, 0, false, "", "", 0⟩ ∧
  fieldOf Try.prog 26 1 = some ⟨ "Rates", 24, 1, false, "", "", 24⟩ ∧
  fieldOf Try.prog 46 0 = some ⟨ "Rate", 2, 0, false, "", "", 0⟩ ∧
  fieldOf Try.prog 46 1 = some ⟨ "Piece", 2, 1, false, "", "", 8⟩ ∧
  fieldOf Try.prog 46 2 = some ⟨ "Least", 2, 2, false, "", "", 16⟩ ∧
  fieldOf Try.prog 47 0 = some ⟨ "Rate", 2, 0, false, "", "", 0⟩ ∧
  fieldOf Try.prog 47 1 = some ⟨ "Piece", 2, 1, false, "", "", 8⟩ ∧
  fieldOf Try.prog 47 2 = some ⟨ "Least", 2, 2, false, "", "", 16⟩ ∧
  fieldOf Try.prog 72 0 = some ⟨ "Care", 2, 0, false, "", "", 0⟩ ∧
  fieldOf Try.prog 72 1 = some ⟨ "Is", 2, 1, false, "", "", 8⟩ ∧
  fieldOf Try.prog 72 2 = some ⟨ "Result", 2, 2, false, "", "", 16⟩ :=
  ⟨cells187, bytes187, zero187, cells188, bytes188, zero188, cells190, bytes190, zero190, cells191, bytes191, zero191, cells192, bytes192, zero192, cells193, bytes193, zero193, cells194, bytes194, zero194, cells195, bytes195, zero195, cells196, bytes196, zero196, field25_0, field25_1, field26_0, field26_1, field46_0, field46_1, field46_2, field47_0, field47_1, field47_2, field72_0, field72_1, field72_2⟩
theorem tys4 :
  fieldOf Try.prog 73 0 = some ⟨ "Care", 2, 0, false, "", "", 0⟩ ∧
  fieldOf Try.prog 73 1 = some ⟨ "Is", 2, 1, false, "", "", 8⟩ ∧
  fieldOf Try.prog 73 2 = some ⟨ "Result", 2, 2, false, "", "", 16⟩ ∧
  fieldOf Try.prog 80 0 = some ⟨ "Day", 2, 0, false, "", "", 0⟩ ∧
  fieldOf Try.prog 80 1 = some ⟨ "Rank", 2, 1, false, "", "", 8⟩ ∧
  fieldOf Try.prog 80 2 = some ⟨ "Cents", 2, 2, false, "", "", 16⟩ ∧
  fieldOf Try.prog 81 0 = some ⟨ "Day", 2, 0, false, "", "", 0⟩ ∧
  fieldOf Try.prog 81 1 = some ⟨ "Rank", 2, 1, false, "", "", 8⟩ ∧
  fieldOf Try.prog 81 2 = some ⟨ "Cents", 2, 2, false, "", "", 16⟩ ∧
  fieldOf Try.prog 135 0 = some ⟨ "code", 22, 0, false, "", "loop.example/g01393/spec", 0⟩ ∧
  fieldOf Try.prog 135 1 = some ⟨ "at", 3, 1, false, "", "loop.example/g01393/spec", 24⟩ ∧
  fieldOf Try.prog 135 2 = some ⟨ "seed", 134, 2, false, "", "loop.example/g01393/spec", 32⟩ ∧
  fieldOf Try.prog 136 0 = some ⟨ "code", 22, 0, false, "", "loop.example/g01393/spec", 0⟩ ∧
  fieldOf Try.prog 136 1 = some ⟨ "at", 3, 1, false, "", "loop.example/g01393/spec", 24⟩ ∧
  fieldOf Try.prog 136 2 = some ⟨ "seed", 134, 2, false, "", "loop.example/g01393/spec", 32⟩ ∧
  fieldOf Try.prog 181 0 = some ⟨ "_interface", 17, 0, false, "", "runtime", 0⟩ ∧
  fieldOf Try.prog 181 1 = some ⟨ "concrete", 17, 1, false, "", "runtime", 8⟩ ∧
  fieldOf Try.prog 181 2 = some ⟨ "asserted", 17, 2, false, "", "runtime", 16⟩ ∧
  fieldOf Try.prog 181 3 = some ⟨ "missingMethod", 9, 3, false, "", "runtime", 24⟩ ∧
  fieldOf Try.prog 182 0 = some ⟨ "_interface", 17, 0, false, "", "runtime", 0⟩ ∧
  fieldOf Try.prog 182 1 = some ⟨ "concrete", 17, 1, false, "", "runtime", 8⟩ ∧
  fieldOf Try.prog 182 2 = some ⟨ "asserted", 17, 2, false, "", "runtime", 16⟩ ∧
  fieldOf Try.prog 182 3 = some ⟨ "missingMethod", 9, 3, false, "", "runtime", 24⟩ ∧
  fieldOf Try.prog 193 0 = some ⟨ "Size_", 12, 0, false, "", "", 0⟩ ∧
  fieldOf Try.prog 193 1 = some ⟨ "PtrBytes", 12, 1, false, "", "", 8⟩ ∧
  fieldOf Try.prog 193 2 = some ⟨ "Hash", 162, 2, false, "", "", 16⟩ ∧
  fieldOf Try.prog 193 3 = some ⟨ "TFlag", 187, 3, false, "", "", 20⟩ ∧
  fieldOf Try.prog 193 4 = some ⟨ "Align_", 5, 4, false, "", "", 21⟩ ∧
  fieldOf Try.prog 193 5 = some ⟨ "FieldAlign_", 5, 5, false, "", "", 22⟩ ∧
  fieldOf Try.prog 193 6 = some ⟨ "Kind_", 188, 6, false, "", "", 23⟩ ∧
  fieldOf Try.prog 193 7 = some ⟨ "Equal", 189, 7, false, "", "", 24⟩ ∧
  fieldOf Try.prog 193 8 = some ⟨ "GCData", 190, 8, false, "", "", 32⟩ ∧
  fieldOf Try.prog 193 9 = some ⟨ "Str", 191, 9, false, "", "", 40⟩ ∧
  fieldOf Try.prog 193 10 = some ⟨ "PtrToThis", 192, 10, false, "", "", 44⟩ ∧
  fieldOf Try.prog 194 0 = some ⟨ "Size_", 12, 0, false, "", "", 0⟩ ∧
  fieldOf Try.prog 194 1 = some ⟨ "PtrBytes", 12, 1, false, "", "", 8⟩ ∧
  fieldOf Try.prog 194 2 = some ⟨ "Hash", 162, 2, false, "", "", 16⟩ ∧
  fieldOf Try.prog 194 3 = some ⟨ "TFlag", 187, 3, false, "", "", 20⟩ ∧
  fieldOf Try.prog 194 4 = some ⟨ "Align_", 5, 4, false, "", "", 21⟩ ∧
  fieldOf Try.prog 194 5 = some ⟨ "FieldAlign_", 5, 5, false, "", "", 22⟩ :=
  ⟨field73_0, field73_1, field73_2, field80_0, field80_1, field80_2, field81_0, field81_1, field81_2, field135_0, field135_1, field135_2, field136_0, field136_1, field136_2, field181_0, field181_1, field181_2, field181_3, field182_0, field182_1, field182_2, field182_3, field193_0, field193_1, field193_2, field193_3, field193_4, field193_5, field193_6, field193_7, field193_8, field193_9, field193_10, field194_0, field194_1, field194_2, field194_3, field194_4, field194_5⟩
theorem tys5 :
  fieldOf Try.prog 194 6 = some ⟨ "Kind_", 188, 6, false, "", "", 23⟩ ∧
  fieldOf Try.prog 194 7 = some ⟨ "Equal", 189, 7, false, "", "", 24⟩ ∧
  fieldOf Try.prog 194 8 = some ⟨ "GCData", 190, 8, false, "", "", 32⟩ ∧
  fieldOf Try.prog 194 9 = some ⟨ "Str", 191, 9, false, "", "", 40⟩ ∧
  fieldOf Try.prog 194 10 = some ⟨ "PtrToThis", 192, 10, false, "", "", 44⟩ ∧
  fieldOf Try.prog 195 0 = some ⟨ "s", 9, 0, false, "", "errors", 0⟩ ∧
  fieldOf Try.prog 196 0 = some ⟨ "s", 9, 0, false, "", "errors", 0⟩ :=
  ⟨field194_6, field194_7, field194_8, field194_9, field194_10, field195_0, field196_0⟩
def und0 := And.intro @Try.underlying2 (And.intro @Try.underlying3 (And.intro @Try.underlying4 (And.intro @Try.underlying5 (And.intro @Try.underlying6 (And.intro @Try.underlying9 (And.intro @Try.underlying12 (And.intro @Try.underlying21 (And.intro @Try.underlying22 (And.intro @Try.underlying24 (And.intro @Try.underlying25 @Try.underlying26))))))))))
def und1 := And.intro @Try.underlying45 (And.intro @Try.underlying46 (And.intro @Try.underlying47 (And.intro @Try.underlying65 (And.intro @Try.underlying72 (And.intro @Try.underlying73 (And.intro @Try.underlying75 (And.intro @Try.underlying80 (And.intro @Try.underlying81 (And.intro @Try.underlying93 (And.intro @Try.underlying117 @Try.underlying127))))))))))
def und2 := And.intro @Try.underlying129 (And.intro @Try.underlying134 (And.intro @Try.underlying135 (And.intro @Try.underlying136 (And.intro @Try.underlying138 (And.intro @Try.underlying142 (And.intro @Try.underlying146 (And.intro @Try.underlying147 (And.intro @Try.underlying154 (And.intro @Try.underlying162 (And.intro @Try.underlying170 @Try.underlying174))))))))))
def und3 := And.intro @Try.underlying176 (And.intro @Try.underlying179 (And.intro @Try.underlying181 (And.intro @Try.underlying182 (And.intro @Try.underlying187 (And.intro @Try.underlying188 (And.intro @Try.underlying190 (And.intro @Try.underlying191 (And.intro @Try.underlying192 (And.intro @Try.underlying193 (And.intro @Try.underlying194 @Try.underlying195))))))))))
def und4 := @Try.underlying196
/- tys0 tys1 tys2 tys3 tys4 tys5 und0 und1 und2 und3 und4 -/

theorem go2 : isGo Try.prog 2 := by unfold isGo; rw [Try.func2]; exact ⟨rfl, by kernel_rfl⟩
theorem go3 : isGo Try.prog 3 := by unfold isGo; rw [Try.func3]; exact ⟨rfl, by kernel_rfl⟩
theorem go4 : isGo Try.prog 4 := by unfold isGo; rw [Try.func4]; exact ⟨rfl, by kernel_rfl⟩
theorem go5 : isGo Try.prog 5 := by unfold isGo; rw [Try.func5]; exact ⟨rfl, by kernel_rfl⟩
theorem go6 : isGo Try.prog 6 := by unfold isGo; rw [Try.func6]; exact ⟨rfl, by kernel_rfl⟩
theorem go7 : isGo Try.prog 7 := by unfold isGo; rw [Try.func7]; exact ⟨rfl, by kernel_rfl⟩
theorem go8 : isGo Try.prog 8 := by unfold isGo; rw [Try.func8]; exact ⟨rfl, by kernel_rfl⟩
theorem go9 : isGo Try.prog 9 := by unfold isGo; rw [Try.func9]; exact ⟨rfl, by kernel_rfl⟩
theorem go10 : isGo Try.prog 10 := by unfold isGo; rw [Try.func10]; exact ⟨rfl, by kernel_rfl⟩
theorem go11 : isGo Try.prog 11 := by unfold isGo; rw [Try.func11]; exact ⟨rfl, by kernel_rfl⟩
theorem go12 : isGo Try.prog 12 := by unfold isGo; rw [Try.func12]; exact ⟨rfl, by kernel_rfl⟩
theorem go13 : isGo Try.prog 13 := by unfold isGo; rw [Try.func13]; exact ⟨rfl, by kernel_rfl⟩
theorem go14 : isGo Try.prog 14 := by unfold isGo; rw [Try.func14]; exact ⟨rfl, by kernel_rfl⟩
theorem go15 : isGo Try.prog 15 := by unfold isGo; rw [Try.func15]; exact ⟨rfl, by kernel_rfl⟩
theorem go16 : isGo Try.prog 16 := by unfold isGo; rw [Try.func16]; exact ⟨rfl, by kernel_rfl⟩
theorem go17 : isGo Try.prog 17 := by unfold isGo; rw [Try.func17]; exact ⟨rfl, by kernel_rfl⟩
theorem go18 : isGo Try.prog 18 := by unfold isGo; rw [Try.func18]; exact ⟨rfl, by kernel_rfl⟩
theorem go19 : isGo Try.prog 19 := by unfold isGo; rw [Try.func19]; exact ⟨rfl, by kernel_rfl⟩
theorem go20 : isGo Try.prog 20 := by unfold isGo; rw [Try.func20]; exact ⟨rfl, by kernel_rfl⟩
theorem go21 : isGo Try.prog 21 := by unfold isGo; rw [Try.func21]; exact ⟨rfl, by kernel_rfl⟩
theorem go22 : isGo Try.prog 22 := by unfold isGo; rw [Try.func22]; exact ⟨rfl, by kernel_rfl⟩
theorem go23 : isGo Try.prog 23 := by unfold isGo; rw [Try.func23]; exact ⟨rfl, by kernel_rfl⟩
theorem go24 : isGo Try.prog 24 := by unfold isGo; rw [Try.func24]; exact ⟨rfl, by kernel_rfl⟩
theorem go25 : isGo Try.prog 25 := by unfold isGo; rw [Try.func25]; exact ⟨rfl, by kernel_rfl⟩
theorem go26 : isGo Try.prog 26 := by unfold isGo; rw [Try.func26]; exact ⟨rfl, by kernel_rfl⟩
theorem go27 : isGo Try.prog 27 := by unfold isGo; rw [Try.func27]; exact ⟨rfl, by kernel_rfl⟩
theorem go28 : isGo Try.prog 28 := by unfold isGo; rw [Try.func28]; exact ⟨rfl, by kernel_rfl⟩
theorem go29 : isGo Try.prog 29 := by unfold isGo; rw [Try.func29]; exact ⟨rfl, by kernel_rfl⟩
theorem go30 : isGo Try.prog 30 := by unfold isGo; rw [Try.func30]; exact ⟨rfl, by kernel_rfl⟩
theorem go31 : isGo Try.prog 31 := by unfold isGo; rw [Try.func31]; exact ⟨rfl, by kernel_rfl⟩
theorem go32 : isGo Try.prog 32 := by unfold isGo; rw [Try.func32]; exact ⟨rfl, by kernel_rfl⟩
theorem go33 : isGo Try.prog 33 := by unfold isGo; rw [Try.func33]; exact ⟨rfl, by kernel_rfl⟩
theorem go34 : isGo Try.prog 34 := by unfold isGo; rw [Try.func34]; exact ⟨rfl, by kernel_rfl⟩
theorem go35 : isGo Try.prog 35 := by unfold isGo; rw [Try.func35]; exact ⟨rfl, by kernel_rfl⟩
theorem go36 : isGo Try.prog 36 := by unfold isGo; rw [Try.func36]; exact ⟨rfl, by kernel_rfl⟩
theorem go37 : isGo Try.prog 37 := by unfold isGo; rw [Try.func37]; exact ⟨rfl, by kernel_rfl⟩
theorem go38 : isGo Try.prog 38 := by unfold isGo; rw [Try.func38]; exact ⟨rfl, by kernel_rfl⟩
theorem go39 : isGo Try.prog 39 := by unfold isGo; rw [Try.func39]; exact ⟨rfl, by kernel_rfl⟩
theorem go40 : isGo Try.prog 40 := by unfold isGo; rw [Try.func40]; exact ⟨rfl, by kernel_rfl⟩
theorem go41 : isGo Try.prog 41 := by unfold isGo; rw [Try.func41]; exact ⟨rfl, by kernel_rfl⟩
theorem go42 : isGo Try.prog 42 := by unfold isGo; rw [Try.func42]; exact ⟨rfl, by kernel_rfl⟩
theorem go43 : isGo Try.prog 43 := by unfold isGo; rw [Try.func43]; exact ⟨rfl, by kernel_rfl⟩
theorem go44 : isGo Try.prog 44 := by unfold isGo; rw [Try.func44]; exact ⟨rfl, by kernel_rfl⟩
theorem go45 : isGo Try.prog 45 := by unfold isGo; rw [Try.func45]; exact ⟨rfl, by kernel_rfl⟩
theorem go46 : isGo Try.prog 46 := by unfold isGo; rw [Try.func46]; exact ⟨rfl, by kernel_rfl⟩
theorem go47 : isGo Try.prog 47 := by unfold isGo; rw [Try.func47]; exact ⟨rfl, by kernel_rfl⟩
theorem go48 : isGo Try.prog 48 := by unfold isGo; rw [Try.func48]; exact ⟨rfl, by kernel_rfl⟩
theorem go49 : isGo Try.prog 49 := by unfold isGo; rw [Try.func49]; exact ⟨rfl, by kernel_rfl⟩
theorem go50 : isGo Try.prog 50 := by unfold isGo; rw [Try.func50]; exact ⟨rfl, by kernel_rfl⟩
theorem go51 : isGo Try.prog 51 := by unfold isGo; rw [Try.func51]; exact ⟨rfl, by kernel_rfl⟩
theorem go52 : isGo Try.prog 52 := by unfold isGo; rw [Try.func52]; exact ⟨rfl, by kernel_rfl⟩
theorem go53 : isGo Try.prog 53 := by unfold isGo; rw [Try.func53]; exact ⟨rfl, by kernel_rfl⟩
theorem go54 : isGo Try.prog 54 := by unfold isGo; rw [Try.func54]; exact ⟨rfl, by kernel_rfl⟩
theorem go55 : isGo Try.prog 55 := by unfold isGo; rw [Try.func55]; exact ⟨rfl, by kernel_rfl⟩
theorem go56 : isGo Try.prog 56 := by unfold isGo; rw [Try.func56]; exact ⟨rfl, by kernel_rfl⟩
theorem go57 : isGo Try.prog 57 := by unfold isGo; rw [Try.func57]; exact ⟨rfl, by kernel_rfl⟩
theorem go58 : isGo Try.prog 58 := by unfold isGo; rw [Try.func58]; exact ⟨rfl, by kernel_rfl⟩
theorem go59 : isGo Try.prog 59 := by unfold isGo; rw [Try.func59]; exact ⟨rfl, by kernel_rfl⟩
theorem go60 : isGo Try.prog 60 := by unfold isGo; rw [Try.func60]; exact ⟨rfl, by kernel_rfl⟩
theorem go61 : isGo Try.prog 61 := by unfold isGo; rw [Try.func61]; exact ⟨rfl, by kernel_rfl⟩
theorem go62 : isGo Try.prog 62 := by unfold isGo; rw [Try.func62]; exact ⟨rfl, by kernel_rfl⟩
theorem go63 : isGo Try.prog 63 := by unfold isGo; rw [Try.func63]; exact ⟨rfl, by kernel_rfl⟩
theorem go64 : isGo Try.prog 64 := by unfold isGo; rw [Try.func64]; exact ⟨rfl, by kernel_rfl⟩
theorem go65 : isGo Try.prog 65 := by unfold isGo; rw [Try.func65]; exact ⟨rfl, by kernel_rfl⟩
theorem go66 : isGo Try.prog 66 := by unfold isGo; rw [Try.func66]; exact ⟨rfl, by kernel_rfl⟩
theorem go67 : isGo Try.prog 67 := by unfold isGo; rw [Try.func67]; exact ⟨rfl, by kernel_rfl⟩
theorem go68 : isGo Try.prog 68 := by unfold isGo; rw [Try.func68]; exact ⟨rfl, by kernel_rfl⟩
theorem go69 : isGo Try.prog 69 := by unfold isGo; rw [Try.func69]; exact ⟨rfl, by kernel_rfl⟩
theorem go70 : isGo Try.prog 70 := by unfold isGo; rw [Try.func70]; exact ⟨rfl, by kernel_rfl⟩
theorem go71 : isGo Try.prog 71 := by unfold isGo; rw [Try.func71]; exact ⟨rfl, by kernel_rfl⟩
theorem go72 : isGo Try.prog 72 := by unfold isGo; rw [Try.func72]; exact ⟨rfl, by kernel_rfl⟩
theorem go73 : isGo Try.prog 73 := by unfold isGo; rw [Try.func73]; exact ⟨rfl, by kernel_rfl⟩
theorem go74 : isGo Try.prog 74 := by unfold isGo; rw [Try.func74]; exact ⟨rfl, by kernel_rfl⟩
theorem go75 : isGo Try.prog 75 := by unfold isGo; rw [Try.func75]; exact ⟨rfl, by kernel_rfl⟩
theorem go76 : isGo Try.prog 76 := by unfold isGo; rw [Try.func76]; exact ⟨rfl, by kernel_rfl⟩
theorem go77 : isGo Try.prog 77 := by unfold isGo; rw [Try.func77]; exact ⟨rfl, by kernel_rfl⟩
theorem go78 : isGo Try.prog 78 := by unfold isGo; rw [Try.func78]; exact ⟨rfl, by kernel_rfl⟩
theorem go79 : isGo Try.prog 79 := by unfold isGo; rw [Try.func79]; exact ⟨rfl, by kernel_rfl⟩
theorem go80 : isGo Try.prog 80 := by unfold isGo; rw [Try.func80]; exact ⟨rfl, by kernel_rfl⟩
theorem go81 : isGo Try.prog 81 := by unfold isGo; rw [Try.func81]; exact ⟨rfl, by kernel_rfl⟩
theorem go82 : isGo Try.prog 82 := by unfold isGo; rw [Try.func82]; exact ⟨rfl, by kernel_rfl⟩
theorem go83 : isGo Try.prog 83 := by unfold isGo; rw [Try.func83]; exact ⟨rfl, by kernel_rfl⟩
theorem go84 : isGo Try.prog 84 := by unfold isGo; rw [Try.func84]; exact ⟨rfl, by kernel_rfl⟩
theorem go85 : isGo Try.prog 85 := by unfold isGo; rw [Try.func85]; exact ⟨rfl, by kernel_rfl⟩
theorem go86 : isGo Try.prog 86 := by unfold isGo; rw [Try.func86]; exact ⟨rfl, by kernel_rfl⟩
theorem go87 : isGo Try.prog 87 := by unfold isGo; rw [Try.func87]; exact ⟨rfl, by kernel_rfl⟩
theorem go88 : isGo Try.prog 88 := by unfold isGo; rw [Try.func88]; exact ⟨rfl, by kernel_rfl⟩
theorem go89 : isGo Try.prog 89 := by unfold isGo; rw [Try.func89]; exact ⟨rfl, by kernel_rfl⟩
theorem go90 : isGo Try.prog 90 := by unfold isGo; rw [Try.func90]; exact ⟨rfl, by kernel_rfl⟩
theorem go91 : isGo Try.prog 91 := by unfold isGo; rw [Try.func91]; exact ⟨rfl, by kernel_rfl⟩
theorem go92 : isGo Try.prog 92 := by unfold isGo; rw [Try.func92]; exact ⟨rfl, by kernel_rfl⟩
theorem go93 : isGo Try.prog 93 := by unfold isGo; rw [Try.func93]; exact ⟨rfl, by kernel_rfl⟩
theorem go94 : isGo Try.prog 94 := by unfold isGo; rw [Try.func94]; exact ⟨rfl, by kernel_rfl⟩
theorem go95 : isGo Try.prog 95 := by unfold isGo; rw [Try.func95]; exact ⟨rfl, by kernel_rfl⟩
theorem go96 : isGo Try.prog 96 := by unfold isGo; rw [Try.func96]; exact ⟨rfl, by kernel_rfl⟩
theorem go97 : isGo Try.prog 97 := by unfold isGo; rw [Try.func97]; exact ⟨rfl, by kernel_rfl⟩
theorem go98 : isGo Try.prog 98 := by unfold isGo; rw [Try.func98]; exact ⟨rfl, by kernel_rfl⟩
theorem go99 : isGo Try.prog 99 := by unfold isGo; rw [Try.func99]; exact ⟨rfl, by kernel_rfl⟩
theorem go100 : isGo Try.prog 100 := by unfold isGo; rw [Try.func100]; exact ⟨rfl, by kernel_rfl⟩
theorem go101 : isGo Try.prog 101 := by unfold isGo; rw [Try.func101]; exact ⟨rfl, by kernel_rfl⟩
theorem go102 : isGo Try.prog 102 := by unfold isGo; rw [Try.func102]; exact ⟨rfl, by kernel_rfl⟩
theorem go103 : isGo Try.prog 103 := by unfold isGo; rw [Try.func103]; exact ⟨rfl, by kernel_rfl⟩
theorem go104 : isGo Try.prog 104 := by unfold isGo; rw [Try.func104]; exact ⟨rfl, by kernel_rfl⟩
theorem go105 : isGo Try.prog 105 := by unfold isGo; rw [Try.func105]; exact ⟨rfl, by kernel_rfl⟩
theorem go106 : isGo Try.prog 106 := by unfold isGo; rw [Try.func106]; exact ⟨rfl, by kernel_rfl⟩
theorem go107 : isGo Try.prog 107 := by unfold isGo; rw [Try.func107]; exact ⟨rfl, by kernel_rfl⟩
theorem go108 : isGo Try.prog 108 := by unfold isGo; rw [Try.func108]; exact ⟨rfl, by kernel_rfl⟩
theorem go109 : isGo Try.prog 109 := by unfold isGo; rw [Try.func109]; exact ⟨rfl, by kernel_rfl⟩
theorem go110 : isGo Try.prog 110 := by unfold isGo; rw [Try.func110]; exact ⟨rfl, by kernel_rfl⟩
theorem go111 : isGo Try.prog 111 := by unfold isGo; rw [Try.func111]; exact ⟨rfl, by kernel_rfl⟩
theorem go112 : isGo Try.prog 112 := by unfold isGo; rw [Try.func112]; exact ⟨rfl, by kernel_rfl⟩
theorem go113 : isGo Try.prog 113 := by unfold isGo; rw [Try.func113]; exact ⟨rfl, by kernel_rfl⟩
theorem go114 : isGo Try.prog 114 := by unfold isGo; rw [Try.func114]; exact ⟨rfl, by kernel_rfl⟩
theorem go115 : isGo Try.prog 115 := by unfold isGo; rw [Try.func115]; exact ⟨rfl, by kernel_rfl⟩
theorem go116 : isGo Try.prog 116 := by unfold isGo; rw [Try.func116]; exact ⟨rfl, by kernel_rfl⟩
theorem go117 : isGo Try.prog 117 := by unfold isGo; rw [Try.func117]; exact ⟨rfl, by kernel_rfl⟩
theorem go118 : isGo Try.prog 118 := by unfold isGo; rw [Try.func118]; exact ⟨rfl, by kernel_rfl⟩
theorem go119 : isGo Try.prog 119 := by unfold isGo; rw [Try.func119]; exact ⟨rfl, by kernel_rfl⟩
theorem go120 : isGo Try.prog 120 := by unfold isGo; rw [Try.func120]; exact ⟨rfl, by kernel_rfl⟩
theorem go121 : isGo Try.prog 121 := by unfold isGo; rw [Try.func121]; exact ⟨rfl, by kernel_rfl⟩
theorem go122 : isGo Try.prog 122 := by unfold isGo; rw [Try.func122]; exact ⟨rfl, by kernel_rfl⟩
theorem go123 : isGo Try.prog 123 := by unfold isGo; rw [Try.func123]; exact ⟨rfl, by kernel_rfl⟩
theorem go124 : isGo Try.prog 124 := by unfold isGo; rw [Try.func124]; exact ⟨rfl, by kernel_rfl⟩
theorem go125 : isGo Try.prog 125 := by unfold isGo; rw [Try.func125]; exact ⟨rfl, by kernel_rfl⟩
theorem go126 : isGo Try.prog 126 := by unfold isGo; rw [Try.func126]; exact ⟨rfl, by kernel_rfl⟩
theorem go127 : isGo Try.prog 127 := by unfold isGo; rw [Try.func127]; exact ⟨rfl, by kernel_rfl⟩
theorem go128 : isGo Try.prog 128 := by unfold isGo; rw [Try.func128]; exact ⟨rfl, by kernel_rfl⟩
theorem go129 : isGo Try.prog 129 := by unfold isGo; rw [Try.func129]; exact ⟨rfl, by kernel_rfl⟩
theorem go130 : isGo Try.prog 130 := by unfold isGo; rw [Try.func130]; exact ⟨rfl, by kernel_rfl⟩
theorem go131 : isGo Try.prog 131 := by unfold isGo; rw [Try.func131]; exact ⟨rfl, by kernel_rfl⟩
theorem go132 : isGo Try.prog 132 := by unfold isGo; rw [Try.func132]; exact ⟨rfl, by kernel_rfl⟩
theorem go133 : isGo Try.prog 133 := by unfold isGo; rw [Try.func133]; exact ⟨rfl, by kernel_rfl⟩
theorem go134 : isGo Try.prog 134 := by unfold isGo; rw [Try.func134]; exact ⟨rfl, by kernel_rfl⟩
theorem go135 : isGo Try.prog 135 := by unfold isGo; rw [Try.func135]; exact ⟨rfl, by kernel_rfl⟩
theorem go136 : isGo Try.prog 136 := by unfold isGo; rw [Try.func136]; exact ⟨rfl, by kernel_rfl⟩
theorem go137 : isGo Try.prog 137 := by unfold isGo; rw [Try.func137]; exact ⟨rfl, by kernel_rfl⟩
theorem go138 : isGo Try.prog 138 := by unfold isGo; rw [Try.func138]; exact ⟨rfl, by kernel_rfl⟩
theorem go139 : isGo Try.prog 139 := by unfold isGo; rw [Try.func139]; exact ⟨rfl, by kernel_rfl⟩
theorem go140 : isGo Try.prog 140 := by unfold isGo; rw [Try.func140]; exact ⟨rfl, by kernel_rfl⟩
theorem go141 : isGo Try.prog 141 := by unfold isGo; rw [Try.func141]; exact ⟨rfl, by kernel_rfl⟩
theorem go142 : isGo Try.prog 142 := by unfold isGo; rw [Try.func142]; exact ⟨rfl, by kernel_rfl⟩
theorem go143 : isGo Try.prog 143 := by unfold isGo; rw [Try.func143]; exact ⟨rfl, by kernel_rfl⟩
theorem go144 : isGo Try.prog 144 := by unfold isGo; rw [Try.func144]; exact ⟨rfl, by kernel_rfl⟩
theorem go145 : isGo Try.prog 145 := by unfold isGo; rw [Try.func145]; exact ⟨rfl, by kernel_rfl⟩
theorem go146 : isGo Try.prog 146 := by unfold isGo; rw [Try.func146]; exact ⟨rfl, by kernel_rfl⟩
theorem go147 : isGo Try.prog 147 := by unfold isGo; rw [Try.func147]; exact ⟨rfl, by kernel_rfl⟩
theorem go148 : isGo Try.prog 148 := by unfold isGo; rw [Try.func148]; exact ⟨rfl, by kernel_rfl⟩
theorem go149 : isGo Try.prog 149 := by unfold isGo; rw [Try.func149]; exact ⟨rfl, by kernel_rfl⟩
theorem go150 : isGo Try.prog 150 := by unfold isGo; rw [Try.func150]; exact ⟨rfl, by kernel_rfl⟩
theorem go151 : isGo Try.prog 151 := by unfold isGo; rw [Try.func151]; exact ⟨rfl, by kernel_rfl⟩
theorem go152 : isGo Try.prog 152 := by unfold isGo; rw [Try.func152]; exact ⟨rfl, by kernel_rfl⟩
theorem go153 : isGo Try.prog 153 := by unfold isGo; rw [Try.func153]; exact ⟨rfl, by kernel_rfl⟩
theorem go154 : isGo Try.prog 154 := by unfold isGo; rw [Try.func154]; exact ⟨rfl, by kernel_rfl⟩
theorem go155 : isGo Try.prog 155 := by unfold isGo; rw [Try.func155]; exact ⟨rfl, by kernel_rfl⟩
theorem go156 : isGo Try.prog 156 := by unfold isGo; rw [Try.func156]; exact ⟨rfl, by kernel_rfl⟩
theorem go157 : isGo Try.prog 157 := by unfold isGo; rw [Try.func157]; exact ⟨rfl, by kernel_rfl⟩
theorem go158 : isGo Try.prog 158 := by unfold isGo; rw [Try.func158]; exact ⟨rfl, by kernel_rfl⟩
theorem go159 : isGo Try.prog 159 := by unfold isGo; rw [Try.func159]; exact ⟨rfl, by kernel_rfl⟩
theorem go160 : isGo Try.prog 160 := by unfold isGo; rw [Try.func160]; exact ⟨rfl, by kernel_rfl⟩
theorem go161 : isGo Try.prog 161 := by unfold isGo; rw [Try.func161]; exact ⟨rfl, by kernel_rfl⟩
theorem go162 : isGo Try.prog 162 := by unfold isGo; rw [Try.func162]; exact ⟨rfl, by kernel_rfl⟩
theorem go163 : isGo Try.prog 163 := by unfold isGo; rw [Try.func163]; exact ⟨rfl, by kernel_rfl⟩
theorem go164 : isGo Try.prog 164 := by unfold isGo; rw [Try.func164]; exact ⟨rfl, by kernel_rfl⟩
theorem go165 : isGo Try.prog 165 := by unfold isGo; rw [Try.func165]; exact ⟨rfl, by kernel_rfl⟩
theorem go166 : isGo Try.prog 166 := by unfold isGo; rw [Try.func166]; exact ⟨rfl, by kernel_rfl⟩
theorem go167 : isGo Try.prog 167 := by unfold isGo; rw [Try.func167]; exact ⟨rfl, by kernel_rfl⟩
theorem go168 : isGo Try.prog 168 := by unfold isGo; rw [Try.func168]; exact ⟨rfl, by kernel_rfl⟩
theorem go169 : isGo Try.prog 169 := by unfold isGo; rw [Try.func169]; exact ⟨rfl, by kernel_rfl⟩
theorem go170 : isGo Try.prog 170 := by unfold isGo; rw [Try.func170]; exact ⟨rfl, by kernel_rfl⟩
theorem go171 : isGo Try.prog 171 := by unfold isGo; rw [Try.func171]; exact ⟨rfl, by kernel_rfl⟩
theorem go172 : isGo Try.prog 172 := by unfold isGo; rw [Try.func172]; exact ⟨rfl, by kernel_rfl⟩
theorem go173 : isGo Try.prog 173 := by unfold isGo; rw [Try.func173]; exact ⟨rfl, by kernel_rfl⟩
theorem go174 : isGo Try.prog 174 := by unfold isGo; rw [Try.func174]; exact ⟨rfl, by kernel_rfl⟩
theorem go175 : isGo Try.prog 175 := by unfold isGo; rw [Try.func175]; exact ⟨rfl, by kernel_rfl⟩
theorem go176 : isGo Try.prog 176 := by unfold isGo; rw [Try.func176]; exact ⟨rfl, by kernel_rfl⟩
theorem go177 : isGo Try.prog 177 := by unfold isGo; rw [Try.func177]; exact ⟨rfl, by kernel_rfl⟩
theorem go178 : isGo Try.prog 178 := by unfold isGo; rw [Try.func178]; exact ⟨rfl, by kernel_rfl⟩
theorem go179 : isGo Try.prog 179 := by unfold isGo; rw [Try.func179]; exact ⟨rfl, by kernel_rfl⟩
theorem go180 : isGo Try.prog 180 := by unfold isGo; rw [Try.func180]; exact ⟨rfl, by kernel_rfl⟩
theorem go181 : isGo Try.prog 181 := by unfold isGo; rw [Try.func181]; exact ⟨rfl, by kernel_rfl⟩
theorem go182 : isGo Try.prog 182 := by unfold isGo; rw [Try.func182]; exact ⟨rfl, by kernel_rfl⟩
theorem go183 : isGo Try.prog 183 := by unfold isGo; rw [Try.func183]; exact ⟨rfl, by kernel_rfl⟩
theorem go184 : isGo Try.prog 184 := by unfold isGo; rw [Try.func184]; exact ⟨rfl, by kernel_rfl⟩
theorem go185 : isGo Try.prog 185 := by unfold isGo; rw [Try.func185]; exact ⟨rfl, by kernel_rfl⟩
theorem go186 : isGo Try.prog 186 := by unfold isGo; rw [Try.func186]; exact ⟨rfl, by kernel_rfl⟩
theorem go187 : isGo Try.prog 187 := by unfold isGo; rw [Try.func187]; exact ⟨rfl, by kernel_rfl⟩
theorem go188 : isGo Try.prog 188 := by unfold isGo; rw [Try.func188]; exact ⟨rfl, by kernel_rfl⟩
theorem go189 : isGo Try.prog 189 := by unfold isGo; rw [Try.func189]; exact ⟨rfl, by kernel_rfl⟩
theorem go190 : isGo Try.prog 190 := by unfold isGo; rw [Try.func190]; exact ⟨rfl, by kernel_rfl⟩
theorem go191 : isGo Try.prog 191 := by unfold isGo; rw [Try.func191]; exact ⟨rfl, by kernel_rfl⟩
theorem go192 : isGo Try.prog 192 := by unfold isGo; rw [Try.func192]; exact ⟨rfl, by kernel_rfl⟩
theorem go193 : isGo Try.prog 193 := by unfold isGo; rw [Try.func193]; exact ⟨rfl, by kernel_rfl⟩
theorem go194 : isGo Try.prog 194 := by unfold isGo; rw [Try.func194]; exact ⟨rfl, by kernel_rfl⟩
theorem go195 : isGo Try.prog 195 := by unfold isGo; rw [Try.func195]; exact ⟨rfl, by kernel_rfl⟩
theorem go196 : isGo Try.prog 196 := by unfold isGo; rw [Try.func196]; exact ⟨rfl, by kernel_rfl⟩
theorem go197 : isGo Try.prog 197 := by unfold isGo; rw [Try.func197]; exact ⟨rfl, by kernel_rfl⟩
theorem go198 : isGo Try.prog 198 := by unfold isGo; rw [Try.func198]; exact ⟨rfl, by kernel_rfl⟩
theorem go199 : isGo Try.prog 199 := by unfold isGo; rw [Try.func199]; exact ⟨rfl, by kernel_rfl⟩
theorem go200 : isGo Try.prog 200 := by unfold isGo; rw [Try.func200]; exact ⟨rfl, by kernel_rfl⟩
def md2 : Nat → List Bool := fun _ => []
def md3 : Nat → List Bool := fun _ => []
def md4 : Nat → List Bool
  | 34 => [false, false, false, false, false, false, false, false, false, false, true]
  | _ => []
def md5 : Nat → List Bool
  | 22 => [false, false, false, false, false, false, false, false, false, false, false, false, false, false]
  | 33 => [false, false, false, false, false, false, false, false, false, false, false, false, false, false, false, false]
  | _ => []
def md6 : Nat → List Bool
  | 19 => [false, false, false, false, false, false, false, false, false, false, false, false, false, false, false, false, false, false, false, false, false, false, false, false, false, false, false, false, false, false, false, false, false, false, false, false, false, false, false, false, false, false, false, false, false, false, false, false, false, false, false, false, false, false, false, false, false, false]
  | _ => []
def md7 : Nat → List Bool
  | 9 => [false, false, false, false, false, false, false, false, false, false, true]
  | 13 => [false, false, false, false, false, false, false, false, false, false, true]
  | 18 => [false, false, false, false, false, false, false, false, false, false, false, false, false, false, false, false, false, false, false, false, false, false, false, false, false, false, false, false, false, false, false, false, false, false, false, false, false, false, false, false, false, false, false, false, false, false, false, false, false, false, false, false]
  | 46 => [false, false, false, false, false, false, false, false, false, false, false]
  | _ => []
def md8 : Nat → List Bool
  | 19 => [false, false, false, false, false, false, false, false, false, false, false, false, false, false, false, false, false, false, false, false, false, false]
  | 37 => [false, false, false, false, false, false, false, false, false, false, false, false, false, true]
  | 38 => [false, false, false, false, false, false, false, false, false, false, false, false, false]
  | _ => []
def md9 : Nat → List Bool
  | 10 => [false, false, false, false, false, false, false, false, false, false, false, false, false, false, false, false, false, false, false, false, false, false, false, false, false, false, false, false, false, false, false, false, false, false, false, false, false, false, false, false, false, false, false, false, false, false, false]
  | 21 => [false, false, false, false, false, false, false, false, false, false, false, false, false, false, false, false, false]
  | 33 => [false, false, false, false, false, false, false, false, false]
  | _ => []
def md10 : Nat → List Bool
  | 14 => [false, false, false, false, false, false, false, false, false, false, false, false, false, false, false, false, false]
  | 32 => [false, false, false, false, false, false, false, false, false, false, false, false, false, false, false, false, false, false, false, false, false, false, false, false, false, false, false, false, false, false, false, false, false, false, false, false, false]
  | _ => []
def md11 : Nat → List Bool
  | 24 => [false, false, false, false, false, false, false, false, false, false, false, false, false, false, false, false, false, false, false, false, false, false, false, false, false, false]
  | 26 => [false, false, false, false, false, false, false, false, false, false, false, false, false]
  | 40 => [false, false, false, false, false, false, false, false, false, false, false, false, false, false, false, false, false, false, false, false, false, false, false, false, false, false, false, false, false, false, false, false, false, false, false, false, false, false, false, false, false, false, false, false, false, false, false, false, false, false, false, false, false, false, false, false, false, false, false, false, false, false, false, false, false, false, false, false, false, false, false, false]
  | 51 => [false, false, false, false, false, false, false, false, false]
  | 79 => [false, false, false, false, false, false, false, false, false, false, false, false, false, false, false, false, false, false, false, false, false, false, false, false, false, false, false, false, false, false, false, false, false, false, false, false, false, false, false, false, false, false, false, false, false, false, false, false, false, false, false, false, false, false, false, false, false, false, false, false, false, false, false, false, false]
  | _ => []
def md12 : Nat → List Bool := fun _ => []
def md13 : Nat → List Bool := fun _ => []
def md14 : Nat → List Bool := fun _ => []
def md15 : Nat → List Bool := fun _ => []
def md16 : Nat → List Bool := fun _ => []
def md17 : Nat → List Bool := fun _ => []
def md18 : Nat → List Bool
  | 5 => [false, false, false, false, false, false, false, false, false]
  | _ => []
def md19 : Nat → List Bool := fun _ => []
def md20 : Nat → List Bool := fun _ => []
def md21 : Nat → List Bool
  | 4 => [false, false, false, false, false, false, false, false, false, false]
  | _ => []
def md22 : Nat → List Bool := fun _ => []
def md23 : Nat → List Bool := fun _ => []
def md24 : Nat → List Bool := fun _ => []
def md25 : Nat → List Bool := fun _ => []
def md26 : Nat → List Bool := fun _ => []
def md27 : Nat → List Bool := fun _ => []
def md28 : Nat → List Bool := fun _ => []
def md29 : Nat → List Bool := fun _ => []
def md30 : Nat → List Bool := fun _ => []
def md31 : Nat → List Bool := fun _ => []
def md32 : Nat → List Bool := fun _ => []
def md33 : Nat → List Bool := fun _ => []
def md34 : Nat → List Bool := fun _ => []
def md35 : Nat → List Bool := fun _ => []
def md36 : Nat → List Bool := fun _ => []
def md37 : Nat → List Bool := fun _ => []
def md38 : Nat → List Bool := fun _ => []
def md39 : Nat → List Bool
  | 4 => [false, false, false, false, false, false, false, false, false, false, false, false, false]
  | _ => []
def md40 : Nat → List Bool := fun _ => []
def md41 : Nat → List Bool := fun _ => []
def md42 : Nat → List Bool
  | 7 => [false, false, false, false, false, false, false, false, false, false, false, false, false, false, false, false]
  | _ => []
def md43 : Nat → List Bool
  | 3 => [false, false, false, false, false, false, false, false, false, false, false, true, false]
  | _ => []
def md44 : Nat → List Bool
  | 3 => [false, false, false, false, false, false, false, false, false, false, false, true, false]
  | _ => []
def md45 : Nat → List Bool
  | 3 => [false, false, false, false, false, false, false, false, false, false, false, true, false]
  | _ => []
def md46 : Nat → List Bool := fun _ => []
def md47 : Nat → List Bool
  | 8 => [false, false, false, false, false, false, false, false, false, false, false, false, false, false, false, false, false, false, false, false, false, false, false]
  | _ => []
def md48 : Nat → List Bool := fun _ => []
def md49 : Nat → List Bool := fun _ => []
def md50 : Nat → List Bool := fun _ => []
def md51 : Nat → List Bool := fun _ => []
def md52 : Nat → List Bool := fun _ => []
def md53 : Nat → List Bool := fun _ => []
def md54 : Nat → List Bool
  | 8 => [false, false, false, false, false, false, false, false, false, false]
  | _ => []
def md55 : Nat → List Bool := fun _ => []
def md56 : Nat → List Bool := fun _ => []
def md57 : Nat → List Bool := fun _ => []
def md58 : Nat → List Bool := fun _ => []
def md59 : Nat → List Bool := fun _ => []
def md60 : Nat → List Bool := fun _ => []
def md61 : Nat → List Bool := fun _ => []
def md62 : Nat → List Bool := fun _ => []
def md63 : Nat → List Bool
  | 10 => [false, false, false, false, false, false, false, false, false, false, false, false]
  | 11 => [false, false, false, false, false, false, false, false, false, false, false, false, false, false, false, false, false, false, false, false, false, false, false, false, false, false, false, false]
  | _ => []
def md64 : Nat → List Bool := fun _ => []
def md65 : Nat → List Bool
  | 6 => [false, false, false, false, false, false, false, false, false]
  | _ => []
def md66 : Nat → List Bool := fun _ => []
def md67 : Nat → List Bool := fun _ => []
def md68 : Nat → List Bool := fun _ => []
def md69 : Nat → List Bool := fun _ => []
def md70 : Nat → List Bool := fun _ => []
def md71 : Nat → List Bool
  | 23 => [false, false, false, false, false, false, false, false, false, false, false, false, false, false, false, false, false, false, false]
  | _ => []
def md72 : Nat → List Bool := fun _ => []
def md73 : Nat → List Bool
  | 19 => [false, false, false, false, false]
  | _ => []
def md74 : Nat → List Bool
  | 20 => [false, false, false, false, false, false, false, false, false, false]
  | _ => []
def md75 : Nat → List Bool := fun _ => []
def md76 : Nat → List Bool
  | 12 => [false, false, false, false, false, false, false, false, false, false, false, false, false, false, false, false, false, false, false, false]
  | _ => []
def md77 : Nat → List Bool := fun _ => []
def md78 : Nat → List Bool := fun _ => []
def md79 : Nat → List Bool := fun _ => []
def md80 : Nat → List Bool
  | 7 => [false, false, false, false, false, false, false, false, false, false, false, false, false, false, false, false, false, false, false, false, false]
  | 8 => [false, false, false, false, false, false, false, false, false]
  | _ => []
def md81 : Nat → List Bool := fun _ => []
def md82 : Nat → List Bool := fun _ => []
def md83 : Nat → List Bool := fun _ => []
def md84 : Nat → List Bool := fun _ => []
def md85 : Nat → List Bool := fun _ => []
def md86 : Nat → List Bool := fun _ => []
def md87 : Nat → List Bool := fun _ => []
def md88 : Nat → List Bool := fun _ => []
def md89 : Nat → List Bool := fun _ => []
def md90 : Nat → List Bool := fun _ => []
def md91 : Nat → List Bool := fun _ => []
def md92 : Nat → List Bool := fun _ => []
def md93 : Nat → List Bool := fun _ => []
def md94 : Nat → List Bool
  | 4 => [false, false, false, false, false, false, false, false, false, false]
  | _ => []
def md95 : Nat → List Bool := fun _ => []
def md96 : Nat → List Bool := fun _ => []
def md97 : Nat → List Bool
  | 2 => [false, false, false, false, false, false]
  | _ => []
def md98 : Nat → List Bool := fun _ => []
def md99 : Nat → List Bool := fun _ => []
def md100 : Nat → List Bool
  | 1 => [false, false, false, false, false, false, false, false]
  | _ => []
def md101 : Nat → List Bool := fun _ => []
def md102 : Nat → List Bool := fun _ => []
def md103 : Nat → List Bool := fun _ => []
def md104 : Nat → List Bool
  | 1 => [false, false, false, false, false, false, false]
  | _ => []
def md105 : Nat → List Bool := fun _ => []
def md106 : Nat → List Bool := fun _ => []
def md107 : Nat → List Bool := fun _ => []
def md108 : Nat → List Bool := fun _ => []
def md109 : Nat → List Bool := fun _ => []
def md110 : Nat → List Bool := fun _ => []
def md111 : Nat → List Bool
  | 1 => [false, false, false, false, false, false, false]
  | _ => []
def md112 : Nat → List Bool := fun _ => []
def md113 : Nat → List Bool := fun _ => []
def md114 : Nat → List Bool := fun _ => []
def md115 : Nat → List Bool
  | 3 => [false, false, false, false, false, false, false, false, false, false, false, false, false, false]
  | _ => []
def md116 : Nat → List Bool := fun _ => []
def md117 : Nat → List Bool := fun _ => []
def md118 : Nat → List Bool
  | 6 => [false, false, false, false, false, false, false, false, false, false]
  | 11 => [false, false, false, false, false, false, false, false, false, false]
  | _ => []
def md119 : Nat → List Bool := fun _ => []
def md120 : Nat → List Bool := fun _ => []
def md121 : Nat → List Bool := fun _ => []
def md122 : Nat → List Bool := fun _ => []
def md123 : Nat → List Bool := fun _ => []
def md124 : Nat → List Bool
  | 1 => [false, false, false, false, false, false, false, false, false, false]
  | _ => []
def md125 : Nat → List Bool
  | 6 => [false, false, false, false, false, false, false, false, false]
  | _ => []
def md126 : Nat → List Bool := fun _ => []
def md127 : Nat → List Bool := fun _ => []
def md128 : Nat → List Bool := fun _ => []
def md129 : Nat → List Bool := fun _ => []
def md130 : Nat → List Bool := fun _ => []
def md131 : Nat → List Bool
  | 1 => [false, false, false, false, false, false, false, false, false, false, false, false, false, false]
  | _ => []
def md132 : Nat → List Bool := fun _ => []
def md133 : Nat → List Bool
  | 1 => [false, false, false, false, false, false, false, false]
  | _ => []
def md134 : Nat → List Bool := fun _ => []
def md135 : Nat → List Bool := fun _ => []
def md136 : Nat → List Bool
  | 7 => [false, false, false, false, false, false, false, false, false, false, false, false, false, false, false, false, false, false, false, false, false, false, false, false, false, false, false, false, false, false, false, false, false, false, false, false, false, false, false, false, false, false, false, false, false]
  | _ => []
def md137 : Nat → List Bool := fun _ => []
def md138 : Nat → List Bool := fun _ => []
def md139 : Nat → List Bool := fun _ => []
def md140 : Nat → List Bool := fun _ => []
def md141 : Nat → List Bool := fun _ => []
def md142 : Nat → List Bool := fun _ => []
def md143 : Nat → List Bool := fun _ => []
def md144 : Nat → List Bool
  | 9 => [false, false, false, false, false, false, false, false, false, false, false, false, false, false, false]
  | 20 => [false, false, false, false, false, false, false, false, false]
  | _ => []
def md145 : Nat → List Bool
  | 1 => [false, false, false, false, false, false, false, false, false, false, false, false, false]
  | 2 => [false, false, false, false, false, false, false, false, false, false]
  | 3 => [false, false, false, false, false, false, false, false, false, false]
  | _ => []
def md146 : Nat → List Bool := fun _ => []
def md147 : Nat → List Bool := fun _ => []
def md148 : Nat → List Bool := fun _ => []
def md149 : Nat → List Bool := fun _ => []
def md150 : Nat → List Bool := fun _ => []
def md151 : Nat → List Bool
  | 0 => [false, false, false, false, false, false, false, false, false, false]
  | _ => []
def md152 : Nat → List Bool := fun _ => []
def md153 : Nat → List Bool := fun _ => []
def md154 : Nat → List Bool
  | 7 => [false, false, false, false, false, false, false, false, false, false]
  | _ => []
def md155 : Nat → List Bool := fun _ => []
def md156 : Nat → List Bool := fun _ => []
def md157 : Nat → List Bool := fun _ => []
def md158 : Nat → List Bool := fun _ => []
def md159 : Nat → List Bool := fun _ => []
def md160 : Nat → List Bool := fun _ => []
def md161 : Nat → List Bool := fun _ => []
def md162 : Nat → List Bool := fun _ => []
def md163 : Nat → List Bool
  | 17 => [false, false, false, false, false, false, false, false, false, false, false, false, false, false, false]
  | _ => []
def md164 : Nat → List Bool := fun _ => []
def md165 : Nat → List Bool
  | 2 => [false, false, false, false, false, false, false, false, false, false]
  | 3 => [false, false, false, false, false, false, false, false, false, false, false, false]
  | 6 => [false, false, false, false, false, false, false, false, false, false]
  | _ => []
def md166 : Nat → List Bool := fun _ => []
def md167 : Nat → List Bool := fun _ => []
def md168 : Nat → List Bool := fun _ => []
def md169 : Nat → List Bool := fun _ => []
def md170 : Nat → List Bool
  | 6 => [false, false, false, false, false, false, false, false]
  | _ => []
def md171 : Nat → List Bool
  | 1 => [false, false, false, false, false, false, false, false, false, false]
  | 3 => [false, false, false, false, false, false, false, false, false, false]
  | _ => []
def md172 : Nat → List Bool := fun _ => []
def md173 : Nat → List Bool := fun _ => []
def md174 : Nat → List Bool := fun _ => []
def md175 : Nat → List Bool := fun _ => []
def md176 : Nat → List Bool := fun _ => []
def md177 : Nat → List Bool
  | 4 => [false, false, false, false, false, false, false, false, false, false, false, false, false, false, false]
  | _ => []
def md178 : Nat → List Bool := fun _ => []
def md179 : Nat → List Bool := fun _ => []
def md180 : Nat → List Bool := fun _ => []
def md181 : Nat → List Bool := fun _ => []
def md182 : Nat → List Bool
  | 5 => [false, false, false, false, false, false, false, false, false, false, false, false, false, false, false, false]
  | 16 => [false, false, false, false, false, false, false, false, false, false, false]
  | 22 => [false, false, false, false, false, false, false, false, false, false, false]
  | _ => []
def md183 : Nat → List Bool := fun _ => []
def md184 : Nat → List Bool
  | 3 => [false, false, false, false, false, false, false, false, false, false, false, false, false, false, false]
  | 5 => [false, false, false, false, false, false, false, false, false, false, false, false, false, false]
  | _ => []
def md185 : Nat → List Bool
  | 3 => [false, false, false, false, false, false, false, false, false, false, false, false, false, false]
  | 5 => [false, false, false, false, false, false, false, false, false, false, false, false, false, false, false]
  | 13 => [false, false, false, false, false, false, false, false, false, false, false, false, false, false]
  | 15 => [false, false, false, false, false, false, false, false, false, false, false, false, false, false, false]
  | _ => []
def md186 : Nat → List Bool := fun _ => []
def md187 : Nat → List Bool := fun _ => []
def md188 : Nat → List Bool
  | 4 => [false, false, false, false, false, false, false, false, false, false, false, false, false, false, false, false, false]
  | _ => []
def md189 : Nat → List Bool
  | 5 => [false, false, false, false, false, false, false, false, false, false, false]
  | 17 => [false, false, false, false, false, false, false, false, false, false, false, false]
  | 35 => [false, false, false, false, false, false, false, false, false, false, false, false, false, false]
  | _ => []
def md190 : Nat → List Bool := fun _ => []
def md191 : Nat → List Bool := fun _ => []
def md192 : Nat → List Bool := fun _ => []
def md193 : Nat → List Bool
  | 3 => [false, false, false, false, false, false, false, false, false, false, false, false, false, false, false, false, false, false, false, false]
  | 5 => [false, false, false, false, false, false, false, false, false, false, false, false, false, false]
  | _ => []
def md194 : Nat → List Bool := fun _ => []
def md195 : Nat → List Bool
  | 1 => [false, false, false, false, false, false, false, false, false, true]
  | 2 => [false, false, false, false, false, false, false, false, false, true]
  | 3 => [false, false, false, false, false, false, false, false, false, true]
  | _ => []
def md196 : Nat → List Bool := fun _ => []
def md197 : Nat → List Bool := fun _ => []
def md198 : Nat → List Bool := fun _ => []
def md199 : Nat → List Bool
  | 1 => [false, false, false, false, false, false, false, false, false]
  | _ => []
def md200 : Nat → List Bool := fun _ => []

end Go.Proofs.Ytmngfcklmikbfaa
