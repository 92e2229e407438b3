/- Closed facts of the program, for the abstract layer: types and functions. Printed by gen_base.py. -/
import Derived.Test.YtdlddnnnfjnabaaProg
import Derived.Test.YtdlddnnnfjnabaaAbsM3
set_option linter.unusedVariables false
set_option linter.defProp false
namespace Go.Proofs.Ytdlddnnnfjnabaa
open Go Go.Abs

def zq0 := (And.intro @List.getD_cons_succ.{0} (And.intro @List.getD_cons_zero.{0} (And.intro @List.length_cons.{0} (And.intro @List.length_nil.{0} (And.intro @List.replicate_succ.{0} (And.intro @List.replicate_zero.{0} (And.intro @List.cons_append.{0} (And.intro @List.nil_append.{0} (And.intro @List.append_nil.{0} (And.intro @List.set_cons_succ.{0} (And.intro @List.set_cons_zero.{0} @true_and)))))))))))
def zq1 := (And.intro @and_true (And.intro @List.map_cons.{0,0} (And.intro @List.map_nil.{0,0} (And.intro @Int.toNat_natCast (And.intro @Int.natCast_nonneg (And.intro @exists_prop (And.intro @List.getElem_cons_zero.{0} (And.intro @List.getElem_cons_succ.{0} (And.intro @List.getElem?_cons_zero.{0} (And.intro @List.getElem?_cons_succ.{0} (And.intro @Nat.zero_lt_one @Option.bind_some.{0,0})))))))))))
def zq2 := (And.intro @Option.map_some.{0,0} (And.intro @Option.map_none.{0,0} (And.intro @Bool.not_true (And.intro @Bool.not_false (And.intro @List.all_cons.{0} (And.intro @List.all_nil.{0} (And.intro @Bool.and_true (And.intro @Bool.true_and (And.intro @List.take_zero.{0} (And.intro @List.drop_zero.{0} (And.intro @List.drop_succ_cons.{0} @List.take_succ_cons.{0})))))))))))
def zq3 := (And.intro @Nat.zero_add (And.intro @Nat.add_zero (And.intro @List.getElem?_toArray.{0} (And.intro @ge_iff_le.{0} (And.intro @gt_iff_lt.{0} (And.intro @Nat.le_refl (And.intro @Bool.false_eq_true (And.intro @Bool.not_eq_true (And.intro @Nat.succ_ne_self (And.intro @Option.some.injEq.{0} (And.intro @List.forall_mem_cons.{0} @List.not_mem_nil.{0})))))))))))
def zq4 := @false_implies

theorem mixed : Try.prog.follows .mixedOrders = true := by kernel_rfl
theorem cells2 : Try.prog.cellsOf 2 = 1 := by kernel_rfl
theorem bytes2 : Try.prog.bytesOf 2 = 8 := by kernel_rfl
theorem zero2 : zeroOf Try.prog 2 = .int .i64 0 := by kernel_rfl
theorem cells3 : Try.prog.cellsOf 3 = 1 := by kernel_rfl
theorem bytes3 : Try.prog.bytesOf 3 = 8 := by kernel_rfl
theorem zero3 : zeroOf Try.prog 3 = .int .i64 0 := by kernel_rfl
theorem cells4 : Try.prog.cellsOf 4 = 1 := by kernel_rfl
theorem bytes4 : Try.prog.bytesOf 4 = 1 := by kernel_rfl
theorem zero4 : zeroOf Try.prog 4 = .bool false := by kernel_rfl
theorem cells5 : Try.prog.cellsOf 5 = 1 := by kernel_rfl
theorem bytes5 : Try.prog.bytesOf 5 = 1 := by kernel_rfl
theorem zero5 : zeroOf Try.prog 5 = .int .u8 0 := by kernel_rfl
theorem cells6 : Try.prog.cellsOf 6 = 1 := by kernel_rfl
theorem bytes6 : Try.prog.bytesOf 6 = 1 := by kernel_rfl
theorem zero6 : zeroOf Try.prog 6 = .int .u8 0 := by kernel_rfl
theorem cells9 : Try.prog.cellsOf 9 = 1 := by kernel_rfl
theorem bytes9 : Try.prog.bytesOf 9 = 16 := by kernel_rfl
theorem zero9 : zeroOf Try.prog 9 = .str [] := by kernel_rfl
theorem cells12 : Try.prog.cellsOf 12 = 1 := by kernel_rfl
theorem bytes12 : Try.prog.bytesOf 12 = 8 := by kernel_rfl
theorem zero12 : zeroOf Try.prog 12 = .int .u64 0 := by kernel_rfl
theorem cells21 : Try.prog.cellsOf 21 = 1 := by kernel_rfl
theorem bytes21 : Try.prog.bytesOf 21 = 4 := by kernel_rfl
theorem zero21 : zeroOf Try.prog 21 = .int .i32 0 := by kernel_rfl
theorem cells22 : Try.prog.cellsOf 22 = 1 := by kernel_rfl
theorem bytes22 : Try.prog.bytesOf 22 = 24 := by kernel_rfl
theorem zero22 : zeroOf Try.prog 22 = .nils := by kernel_rfl
theorem cells25 : Try.prog.cellsOf 25 = 1 := by kernel_rfl
theorem bytes25 : Try.prog.bytesOf 25 = 24 := by kernel_rfl
theorem zero25 : zeroOf Try.prog 25 = .nils := by kernel_rfl
theorem cells33 : Try.prog.cellsOf 33 = 2 := by kernel_rfl
theorem bytes33 : Try.prog.bytesOf 33 = 48 := by kernel_rfl
theorem zero33 : zeroOf Try.prog 33 = .agg [.nils, .nils] := by kernel_rfl
theorem cells34 : Try.prog.cellsOf 34 = 2 := by kernel_rfl
theorem bytes34 : Try.prog.bytesOf 34 = 48 := by kernel_rfl
theorem zero34 : zeroOf Try.prog 34 = .agg [.nils, .nils] := by kernel_rfl
theorem cells47 : Try.prog.cellsOf 47 = 1 := by kernel_rfl
theorem bytes47 : Try.prog.bytesOf 47 = 24 := by kernel_rfl
theorem zero47 : zeroOf Try.prog 47 = .nils := by kernel_rfl
theorem cells54 : Try.prog.cellsOf 54 = 3 := by kernel_rfl
theorem bytes54 : Try.prog.bytesOf 54 = 24 := by kernel_rfl
theorem zero54 : zeroOf Try.prog 54 = .agg [.int .i64 0, .int .i64 0, .int .i64 0] := by kernel_rfl
theorem cells55 : Try.prog.cellsOf 55 = 3 := by kernel_rfl
theorem bytes55 : Try.prog.bytesOf 55 = 24 := by kernel_rfl
theorem zero55 : zeroOf Try.prog 55 = .agg [.int .i64 0, .int .i64 0, .int .i64 0] := by kernel_rfl
theorem cells59 : Try.prog.cellsOf 59 = 1 := by kernel_rfl
theorem bytes59 : Try.prog.bytesOf 59 = 8 := by kernel_rfl
theorem zero59 : zeroOf Try.prog 59 = .nilp := by kernel_rfl
theorem cells69 : Try.prog.cellsOf 69 = 1 := by kernel_rfl
theorem bytes69 : Try.prog.bytesOf 69 = 24 := by kernel_rfl
theorem zero69 : zeroOf Try.prog 69 = .nils := by kernel_rfl
theorem cells86 : Try.prog.cellsOf 86 = 1 := by kernel_rfl
theorem bytes86 : Try.prog.bytesOf 86 = 24 := by kernel_rfl
theorem zero86 : zeroOf Try.prog 86 = .nils := by kernel_rfl
theorem cells88 : Try.prog.cellsOf 88 = 1 := by kernel_rfl
theorem bytes88 : Try.prog.bytesOf 88 = 8 := by kernel_rfl
theorem zero88 : zeroOf Try.prog 88 = .nilp := by kernel_rfl
theorem cells90 : Try.prog.cellsOf 90 = 1 := by kernel_rfl
theorem bytes90 : Try.prog.bytesOf 90 = 8 := by kernel_rfl
theorem zero90 : zeroOf Try.prog 90 = .int .u64 0 := by kernel_rfl
theorem cells91 : Try.prog.cellsOf 91 = 3 := by kernel_rfl
theorem bytes91 : Try.prog.bytesOf 91 = 40 := by kernel_rfl
theorem zero91 : zeroOf Try.prog 91 = .agg [.nils, .int .i64 0, .int .u64 0] := by kernel_rfl
theorem cells92 : Try.prog.cellsOf 92 = 3 := by kernel_rfl
theorem bytes92 : Try.prog.bytesOf 92 = 40 := by kernel_rfl
theorem zero92 : zeroOf Try.prog 92 = .agg [.nils, .int .i64 0, .int .u64 0] := by kernel_rfl
theorem cells95 : Try.prog.cellsOf 95 = 1 := by kernel_rfl
theorem bytes95 : Try.prog.bytesOf 95 = 24 := by kernel_rfl
theorem zero95 : zeroOf Try.prog 95 = .nils := by kernel_rfl
theorem cells99 : Try.prog.cellsOf 99 = 1 := by kernel_rfl
theorem bytes99 : Try.prog.bytesOf 99 = 8 := by kernel_rfl
theorem zero99 : zeroOf Try.prog 99 = .int .u64 0 := by kernel_rfl
theorem cells101 : Try.prog.cellsOf 101 = 1 := by kernel_rfl
theorem bytes101 : Try.prog.bytesOf 101 = 24 := by kernel_rfl
theorem zero101 : zeroOf Try.prog 101 = .nils := by kernel_rfl
theorem cells109 : Try.prog.cellsOf 109 = 1 := by kernel_rfl
theorem bytes109 : Try.prog.bytesOf 109 = 8 := by kernel_rfl
theorem zero109 : zeroOf Try.prog 109 = .int .i64 0 := by kernel_rfl
theorem cells117 : Try.prog.cellsOf 117 = 1 := by kernel_rfl
theorem bytes117 : Try.prog.bytesOf 117 = 4 := by kernel_rfl
theorem zero117 : zeroOf Try.prog 117 = .int .u32 0 := by kernel_rfl
theorem cells124 : Try.prog.cellsOf 124 = 1 := by kernel_rfl
theorem bytes124 : Try.prog.bytesOf 124 = 8 := by kernel_rfl
theorem zero124 : zeroOf Try.prog 124 = .int .u64 0 := by kernel_rfl
theorem cells128 : Try.prog.cellsOf 128 = 1 := by kernel_rfl
theorem bytes128 : Try.prog.bytesOf 128 = 8 := by kernel_rfl
theorem zero128 : zeroOf Try.prog 128 = .nilp := by kernel_rfl
theorem cells130 : Try.prog.cellsOf 130 = 1 := by kernel_rfl
theorem bytes130 : Try.prog.bytesOf 130 = 8 := by kernel_rfl
theorem zero130 : zeroOf Try.prog 130 = .nilp := by kernel_rfl
theorem cells133 : Try.prog.cellsOf 133 = 1 := by kernel_rfl
theorem bytes133 : Try.prog.bytesOf 133 = 8 := by kernel_rfl
theorem zero133 : zeroOf Try.prog 133 = .nilp := by kernel_rfl
theorem cells135 : Try.prog.cellsOf 135 = 4 := by kernel_rfl
theorem bytes135 : Try.prog.bytesOf 135 = 40 := by kernel_rfl
theorem zero135 : zeroOf Try.prog 135 = .agg [.nilp, .nilp, .nilp, .str []] := by kernel_rfl
theorem cells136 : Try.prog.cellsOf 136 = 4 := by kernel_rfl
theorem bytes136 : Try.prog.bytesOf 136 = 40 := by kernel_rfl
theorem zero136 : zeroOf Try.prog 136 = .agg [.nilp, .nilp, .nilp, .str []] := by kernel_rfl
theorem cells141 : Try.prog.cellsOf 141 = 1 := by kernel_rfl
theorem bytes141 : Try.prog.bytesOf 141 = 1 := by kernel_rfl
theorem zero141 : zeroOf Try.prog 141 = .int .u8 0 := by kernel_rfl
theorem cells142 : Try.prog.cellsOf 142 = 1 := by kernel_rfl
theorem bytes142 : Try.prog.bytesOf 142 = 1 := by kernel_rfl
theorem zero142 : zeroOf Try.prog 142 = .int .u8 0 := by kernel_rfl
theorem cells144 : Try.prog.cellsOf 144 = 1 := by kernel_rfl
theorem bytes144 : Try.prog.bytesOf 144 = 8 := by kernel_rfl
theorem zero144 : zeroOf Try.prog 144 = .nilp := by kernel_rfl
theorem cells145 : Try.prog.cellsOf 145 = 1 := by kernel_rfl
theorem bytes145 : Try.prog.bytesOf 145 = 4 := by kernel_rfl
theorem zero145 : zeroOf Try.prog 145 = .int .i32 0 := by kernel_rfl
theorem cells146 : Try.prog.cellsOf 146 = 1 := by kernel_rfl
theorem bytes146 : Try.prog.bytesOf 146 = 4 := by kernel_rfl
theorem zero146 : zeroOf Try.prog 146 = .int .i32 0 := by kernel_rfl
theorem cells147 : Try.prog.cellsOf 147 = 11 := by kernel_rfl
theorem bytes147 : Try.prog.bytesOf 147 = 48 := by kernel_rfl
theorem zero147 : zeroOf Try.prog 147 = .agg [.int .u64 0, .int .u64 0, .int .u32 0, .int .u8 0, .int .u8 0, .int .u8 0, .int .u8 0, .nilf, .nilp, .int .i32 0, .int .i32 0] := by kernel_rfl
theorem cells148 : Try.prog.cellsOf 148 = 11 := by kernel_rfl
theorem bytes148 : Try.prog.bytesOf 148 = 48 := by kernel_rfl
theorem zero148 : zeroOf Try.prog 148 = .agg [.int .u64 0, .int .u64 0, .int .u32 0, .int .u8 0, .int .u8 0, .int .u8 0, .int .u8 0, .nilf, .nilp, .int .i32 0, .int .i32 0] := by kernel_rfl
theorem cells150 : Try.prog.cellsOf 150 = 1 := by kernel_rfl
theorem bytes150 : Try.prog.bytesOf 150 = 16 := by kernel_rfl
theorem zero150 : zeroOf Try.prog 150 = .agg [.str []] := by kernel_rfl
theorem cells151 : Try.prog.cellsOf 151 = 1 := by kernel_rfl
theorem bytes151 : Try.prog.bytesOf 151 = 16 := by kernel_rfl
theorem zero151 : zeroOf Try.prog 151 = .agg [.str []] := by kernel_rfl
theorem field33_0 : fieldOf Try.prog 33 0 = some ⟨ "Breaks", 25, 0, false, "", "", 0⟩ := by kernel_rfl
theorem field33_1 : fieldOf Try.prog 33 1 = some ⟨ "Rates", 25, 1, false, "", "", 24⟩ := by kernel_rfl
theorem field34_0 : fieldOf Try.prog 34 0 = some ⟨ "Breaks", 25, 0, false, "", "", 0⟩ := by kernel_rfl
theorem field34_1 : fieldOf Try.prog 34 1 = some ⟨ "Rates", 25, 1, false, "", "", 24⟩ := by kernel_rfl
theorem field54_0 : fieldOf Try.prog 54 0 = some ⟨ "Day", 2, 0, false, "", "", 0⟩ := by kernel_rfl
theorem field54_1 : fieldOf Try.prog 54 1 = some ⟨ "Rank", 2, 1, false, "", "", 8⟩ := by kernel_rfl
theorem field54_2 : fieldOf Try.prog 54 2 = some ⟨ "Cents", 2, 2, false, "", "", 16⟩ := by kernel_rfl
theorem field55_0 : fieldOf Try.prog 55 0 = some ⟨ "Day", 2, 0, false, "", "", 0⟩ := by kernel_rfl
theorem field55_1 : fieldOf Try.prog 55 1 = some ⟨ "Rank", 2, 1, false, "", "", 8⟩ := by kernel_rfl
theorem field55_2 : fieldOf Try.prog 55 2 = some ⟨ "Cents", 2, 2, false, "", "", 16⟩ := by kernel_rfl
theorem field91_0 : fieldOf Try.prog 91 0 = some ⟨ "code", 22, 0, false, "", "loop.example/g01393/spec", 0⟩ := by kernel_rfl
theorem field91_1 : fieldOf Try.prog 91 1 = some ⟨ "at", 3, 1, false, "", "loop.example/g01393/spec", 24⟩ := by kernel_rfl
theorem field91_2 : fieldOf Try.prog 91 2 = some ⟨ "seed", 90, 2, false, "", "loop.example/g01393/spec", 32⟩ := by kernel_rfl
theorem field92_0 : fieldOf Try.prog 92 0 = some ⟨ "code", 22, 0, false, "", "loop.example/g01393/spec", 0⟩ := by kernel_rfl
theorem field92_1 : fieldOf Try.prog 92 1 = some ⟨ "at", 3, 1, false, "", "loop.example/g01393/spec", 24⟩ := by kernel_rfl
theorem field92_2 : fieldOf Try.prog 92 2 = some ⟨ "seed", 90, 2, false, "", "loop.example/g01393/spec", 32⟩ := by kernel_rfl
theorem field135_0 : fieldOf Try.prog 135 0 = some ⟨ "_interface", 17, 0, false, "", "runtime", 0⟩ := by kernel_rfl
theorem field135_1 : fieldOf Try.prog 135 1 = some ⟨ "concrete", 17, 1, false, "", "runtime", 8⟩ := by kernel_rfl
theorem field135_2 : fieldOf Try.prog 135 2 = some ⟨ "asserted", 17, 2, false, "", "runtime", 16⟩ := by kernel_rfl
theorem field135_3 : fieldOf Try.prog 135 3 = some ⟨ "missingMethod", 9, 3, false, "", "runtime", 24⟩ := by kernel_rfl
theorem field136_0 : fieldOf Try.prog 136 0 = some ⟨ "_interface", 17, 0, false, "", "runtime", 0⟩ := by kernel_rfl
theorem field136_1 : fieldOf Try.prog 136 1 = some ⟨ "concrete", 17, 1, false, "", "runtime", 8⟩ := by kernel_rfl
theorem field136_2 : fieldOf Try.prog 136 2 = some ⟨ "asserted", 17, 2, false, "", "runtime", 16⟩ := by kernel_rfl
theorem field136_3 : fieldOf Try.prog 136 3 = some ⟨ "missingMethod", 9, 3, false, "", "runtime", 24⟩ := by kernel_rfl
theorem field147_0 : fieldOf Try.prog 147 0 = some ⟨ "Size_", 12, 0, false, "", "", 0⟩ := by kernel_rfl
theorem field147_1 : fieldOf Try.prog 147 1 = some ⟨ "PtrBytes", 12, 1, false, "", "", 8⟩ := by kernel_rfl
theorem field147_2 : fieldOf Try.prog 147 2 = some ⟨ "Hash", 117, 2, false, "", "", 16⟩ := by kernel_rfl
theorem field147_3 : fieldOf Try.prog 147 3 = some ⟨ "TFlag", 141, 3, false, "", "", 20⟩ := by kernel_rfl
theorem field147_4 : fieldOf Try.prog 147 4 = some ⟨ "Align_", 5, 4, false, "", "", 21⟩ := by kernel_rfl
theorem field147_5 : fieldOf Try.prog 147 5 = some ⟨ "FieldAlign_", 5, 5, false, "", "", 22⟩ := by kernel_rfl
theorem field147_6 : fieldOf Try.prog 147 6 = some ⟨ "Kind_", 142, 6, false, "", "", 23⟩ := by kernel_rfl
theorem field147_7 : fieldOf Try.prog 147 7 = some ⟨ "Equal", 143, 7, false, "", "", 24⟩ := by kernel_rfl
theorem field147_8 : fieldOf Try.prog 147 8 = some ⟨ "GCData", 144, 8, false, "", "", 32⟩ := by kernel_rfl
theorem field147_9 : fieldOf Try.prog 147 9 = some ⟨ "Str", 145, 9, false, "", "", 40⟩ := by kernel_rfl
theorem field147_10 : fieldOf Try.prog 147 10 = some ⟨ "PtrToThis", 146, 10, false, "", "", 44⟩ := by kernel_rfl
theorem field148_0 : fieldOf Try.prog 148 0 = some ⟨ "Size_", 12, 0, false, "", "", 0⟩ := by kernel_rfl
theorem field148_1 : fieldOf Try.prog 148 1 = some ⟨ "PtrBytes", 12, 1, false, "", "", 8⟩ := by kernel_rfl
theorem field148_2 : fieldOf Try.prog 148 2 = some ⟨ "Hash", 117, 2, false, "", "", 16⟩ := by kernel_rfl
theorem field148_3 : fieldOf Try.prog 148 3 = some ⟨ "TFlag", 141, 3, false, "", "", 20⟩ := by kernel_rfl
theorem field148_4 : fieldOf Try.prog 148 4 = some ⟨ "Align_", 5, 4, false, "", "", 21⟩ := by kernel_rfl
theorem field148_5 : fieldOf Try.prog 148 5 = some ⟨ "FieldAlign_", 5, 5, false, "", "", 22⟩ := by kernel_rfl
theorem field148_6 : fieldOf Try.prog 148 6 = some ⟨ "Kind_", 142, 6, false, "", "", 23⟩ := by kernel_rfl
theorem field148_7 : fieldOf Try.prog 148 7 = some ⟨ "Equal", 143, 7, false, "", "", 24⟩ := by kernel_rfl
theorem field148_8 : fieldOf Try.prog 148 8 = some ⟨ "GCData", 144, 8, false, "", "", 32⟩ := by kernel_rfl
theorem field148_9 : fieldOf Try.prog 148 9 = some ⟨ "Str", 145, 9, false, "", "", 40⟩ := by kernel_rfl
theorem field148_10 : fieldOf Try.prog 148 10 = some ⟨ "PtrToThis", 146, 10, false, "", "", 44⟩ := by kernel_rfl
theorem field150_0 : fieldOf Try.prog 150 0 = some ⟨ "s", 9, 0, false, "", "errors", 0⟩ := by kernel_rfl
theorem field151_0 : fieldOf Try.prog 151 0 = some ⟨ "s", 9, 0, false, "", "errors", 0⟩ := by kernel_rfl

theorem tys0 :
  Try.prog.cellsOf 2 = 1 ∧
  Try.prog.bytesOf 2 = 8 ∧
  zeroOf Try.prog 2 = .int .i64 0 ∧
  Try.prog.cellsOf 3 = 1 ∧
  Try.prog.bytesOf 3 = 8 ∧
  zeroOf Try.prog 3 = .int .i64 0 ∧
  Try.prog.cellsOf 4 = 1 ∧
  Try.prog.bytesOf 4 = 1 ∧
  zeroOf Try.prog 4 = .bool false ∧
  Try.prog.cellsOf 5 = 1 ∧
  Try.prog.bytesOf 5 = 1 ∧
  zeroOf Try.prog 5 = .int .u8 0 ∧
  Try.prog.cellsOf 6 = 1 ∧
  Try.prog.bytesOf 6 = 1 ∧
  zeroOf Try.prog 6 = .int .u8 0 ∧
  Try.prog.cellsOf 9 = 1 ∧
  Try.prog.bytesOf 9 = 16 ∧
  zeroOf Try.prog 9 = .str [] ∧
  Try.prog.cellsOf 12 = 1 ∧
  Try.prog.bytesOf 12 = 8 ∧
  zeroOf Try.prog 12 = .int .u64 0 ∧
  Try.prog.cellsOf 21 = 1 ∧
  Try.prog.bytesOf 21 = 4 ∧
  zeroOf Try.prog 21 = .int .i32 0 ∧
  Try.prog.cellsOf 22 = 1 ∧
  Try.prog.bytesOf 22 = 24 ∧
  zeroOf Try.prog 22 = .nils ∧
  Try.prog.cellsOf 25 = 1 ∧
  Try.prog.bytesOf 25 = 24 ∧
  zeroOf Try.prog 25 = .nils ∧
  Try.prog.cellsOf 33 = 2 ∧
  Try.prog.bytesOf 33 = 48 ∧
  zeroOf Try.prog 33 = .agg [.nils, .nils] ∧
  Try.prog.cellsOf 34 = 2 ∧
  Try.prog.bytesOf 34 = 48 ∧
  zeroOf Try.prog 34 = .agg [.nils, .nils] ∧
  Try.prog.cellsOf 47 = 1 ∧
  Try.prog.bytesOf 47 = 24 ∧
  zeroOf Try.prog 47 = .nils ∧
  Try.prog.cellsOf 54 = 3 :=
  ⟨cells2, bytes2, zero2, cells3, bytes3, zero3, cells4, bytes4, zero4, cells5, bytes5, zero5, cells6, bytes6, zero6, cells9, bytes9, zero9, cells12, bytes12, zero12, cells21, bytes21, zero21, cells22, bytes22, zero22, cells25, bytes25, zero25, cells33, bytes33, zero33, cells34, bytes34, zero34, cells47, bytes47, zero47, cells54⟩
theorem tys1 :
  Try.prog.bytesOf 54 = 24 ∧
  zeroOf Try.prog 54 = .agg [.int .i64 0, .int .i64 0, .int .i64 0] ∧
  Try.prog.cellsOf 55 = 3 ∧
  Try.prog.bytesOf 55 = 24 ∧
  zeroOf Try.prog 55 = .agg [.int .i64 0, .int .i64 0, .int .i64 0] ∧
  Try.prog.cellsOf 59 = 1 ∧
  Try.prog.bytesOf 59 = 8 ∧
  zeroOf Try.prog 59 = .nilp ∧
  Try.prog.cellsOf 69 = 1 ∧
  Try.prog.bytesOf 69 = 24 ∧
  zeroOf Try.prog 69 = .nils ∧
  Try.prog.cellsOf 86 = 1 ∧
  Try.prog.bytesOf 86 = 24 ∧
  zeroOf Try.prog 86 = .nils ∧
  Try.prog.cellsOf 88 = 1 ∧
  Try.prog.bytesOf 88 = 8 ∧
  zeroOf Try.prog 88 = .nilp ∧
  Try.prog.cellsOf 90 = 1 ∧
  Try.prog.bytesOf 90 = 8 ∧
  zeroOf Try.prog 90 = .int .u64 0 ∧
  Try.prog.cellsOf 91 = 3 ∧
  Try.prog.bytesOf 91 = 40 ∧
  zeroOf Try.prog 91 = .agg [.nils, .int .i64 0, .int .u64 0] ∧
  Try.prog.cellsOf 92 = 3 ∧
  Try.prog.bytesOf 92 = 40 ∧
  zeroOf Try.prog 92 = .agg [.nils, .int .i64 0, .int .u64 0] ∧
  Try.prog.cellsOf 95 = 1 ∧
  Try.prog.bytesOf 95 = 24 ∧
  zeroOf Try.prog 95 = .nils ∧
  Try.prog.cellsOf 99 = 1 ∧
  Try.prog.bytesOf 99 = 8 ∧
  zeroOf Try.prog 99 = .int .u64 0 ∧
  Try.prog.cellsOf 101 = 1 ∧
  Try.prog.bytesOf 101 = 24 ∧
  zeroOf Try.prog 101 = .nils ∧
  Try.prog.cellsOf 109 = 1 ∧
  Try.prog.bytesOf 109 = 8 ∧
  zeroOf Try.prog 109 = .int .i64 0 ∧
  Try.prog.cellsOf 117 = 1 ∧
  Try.prog.bytesOf 117 = 4 :=
  ⟨bytes54, zero54, cells55, bytes55, zero55, cells59, bytes59, zero59, cells69, bytes69, zero69, cells86, bytes86, zero86, cells88, bytes88, zero88, cells90, bytes90, zero90, cells91, bytes91, zero91, cells92, bytes92, zero92, cells95, bytes95, zero95, cells99, bytes99, zero99, cells101, bytes101, zero101, cells109, bytes109, zero109, cells117, bytes117⟩
theorem tys2 :
  zeroOf Try.prog 117 = .int .u32 0 ∧
  Try.prog.cellsOf 124 = 1 ∧
  Try.prog.bytesOf 124 = 8 ∧
  zeroOf Try.prog 124 = .int .u64 0 ∧
  Try.prog.cellsOf 128 = 1 ∧
  Try.prog.bytesOf 128 = 8 ∧
  zeroOf Try.prog 128 = .nilp ∧
  Try.prog.cellsOf 130 = 1 ∧
  Try.prog.bytesOf 130 = 8 ∧
  zeroOf Try.prog 130 = .nilp ∧
  Try.prog.cellsOf 133 = 1 ∧
  Try.prog.bytesOf 133 = 8 ∧
  zeroOf Try.prog 133 = .nilp ∧
  Try.prog.cellsOf 135 = 4 ∧
  Try.prog.bytesOf 135 = 40 ∧
  zeroOf Try.prog 135 = .agg [.nilp, .nilp, .nilp, .str []] ∧
  Try.prog.cellsOf 136 = 4 ∧
  Try.prog.bytesOf 136 = 40 ∧
  zeroOf Try.prog 136 = .agg [.nilp, .nilp, .nilp, .str []] ∧
  Try.prog.cellsOf 141 = 1 ∧
  Try.prog.bytesOf 141 = 1 ∧
  zeroOf Try.prog 141 = .int .u8 0 ∧
  Try.prog.cellsOf 142 = 1 ∧
  Try.prog.bytesOf 142 = 1 ∧
  zeroOf Try.prog 142 = .int .u8 0 ∧
  Try.prog.cellsOf 144 = 1 ∧
  Try.prog.bytesOf 144 = 8 ∧
  zeroOf Try.prog 144 = .nilp ∧
  Try.prog.cellsOf 145 = 1 ∧
  Try.prog.bytesOf 145 = 4 ∧
  zeroOf Try.prog 145 = .int .i32 0 ∧
  Try.prog.cellsOf 146 = 1 ∧
  Try.prog.bytesOf 146 = 4 ∧
  zeroOf Try.prog 146 = .int .i32 0 ∧
  Try.prog.cellsOf 147 = 11 ∧
  Try.prog.bytesOf 147 = 48 ∧
  zeroOf Try.prog 147 = .agg [.int .u64 0, .int .u64 0, .int .u32 0, .int .u8 0, .int .u8 0, .int .u8 0, .int .u8 0, .nilf, .nilp, .int .i32 0, .int .i32 0] ∧
  Try.prog.cellsOf 148 = 11 ∧
  Try.prog.bytesOf 148 = 48 ∧
  zeroOf Try.prog 148 = .agg [.int .u64 0, .int .u64 0, .int .u32 0, .int .u8 0, .int .u8 0, .int .u8 0, .int .u8 0, .nilf, .nilp, .int .i32 0, .int .i32 0] :=
  ⟨zero117, cells124, bytes124, zero124, cells128, bytes128, zero128, cells130, bytes130, zero130, cells133, bytes133, zero133, cells135, bytes135, zero135, cells136, bytes136, zero136, cells141, bytes141, zero141, cells142, bytes142, zero142, cells144, bytes144, zero144, cells145, bytes145, zero145, cells146, bytes146, zero146, cells147, bytes147, zero147, cells148, bytes148, zero148⟩
theorem tys3 :
  Try.prog.cellsOf 150 = 1 ∧
  Try.prog.bytesOf 150 = 16 ∧
  zeroOf Try.prog 150 = .agg [.str []] ∧
  Try.prog.cellsOf 151 = 1 ∧
  Try.prog.bytesOf 151 = 16 ∧
  zeroOf Try.prog 151 = .agg [.str []] ∧
  fieldOf Try.prog 33 0 = some ⟨ "Breaks", 25, 0, false, "", "", 0⟩ ∧
  fieldOf Try.prog 33 1 = some ⟨ "Rates", 25, 1, false, "", "", 24⟩ ∧
  fieldOf Try.prog 34 0 = some ⟨ "Breaks", 25, 0, false, "", "", 0⟩ ∧
  fieldOf Try.prog 34 1 = some ⟨ "Rates", 25, 1, false, "", "", 24⟩ ∧
  fieldOf Try.prog 54 0 = some ⟨ "Day", 2, 0, false, "", "", 0⟩ ∧
  fieldOf Try.prog 54 1 = some ⟨ "Rank", 2, 1, false, "", "", 8⟩ ∧
  fieldOf Try.prog 54 2 = some ⟨ "Cents", 2, 2, false, "", "", 16⟩ ∧
  fieldOf Try.prog 55 0 = some ⟨ "Day", 2, 0, false, "", "", 0⟩ ∧
  fieldOf Try.prog 55 1 = some ⟨ "Rank", 2, 1, false, "", "", 8⟩ ∧
  fieldOf Try.prog 55 2 = some ⟨ "Cents", 2, 2, false, "", "", 16⟩ ∧
  fieldOf Try.prog 91 0 = some ⟨ "code", 22, 0, false, "", "loop.example/g01393/spec", 0⟩ ∧
  fieldOf Try.prog 91 1 = some ⟨ "at", 3, 1, false, "", "loop.example/g01393/spec", 24⟩ ∧
  fieldOf Try.prog 91 2 = some ⟨ "seed", 90, 2, false, "", "loop.example/g01393/spec", 32⟩ ∧
  fieldOf Try.prog 92 0 = some ⟨ "code", 22, 0, false, "", "loop.example/g01393/spec", 0⟩ ∧
  fieldOf Try.prog 92 1 = some ⟨ "at", 3, 1, false, "", "loop.example/g01393/spec", 24⟩ ∧
  fieldOf Try.prog 92 2 = some ⟨ "seed", 90, 2, false, "", "loop.example/g01393/spec", 32⟩ ∧
  fieldOf Try.prog 135 0 = some ⟨ "_interface", 17, 0, false, "", "runtime", 0⟩ ∧
  fieldOf Try.prog 135 1 = some ⟨ "concrete", 17, 1, false, "", "runtime", 8⟩ ∧
  fieldOf Try.prog 135 2 = some ⟨ "asserted", 17, 2, false, "", "runtime", 16⟩ ∧
  fieldOf Try.prog 135 3 = some ⟨ "missingMethod", 9, 3, false, "", "runtime", 24⟩ ∧
  fieldOf Try.prog 136 0 = some ⟨ "_interface", 17, 0, false, "", "runtime", 0⟩ ∧
  fieldOf Try.prog 136 1 = some ⟨ "concrete", 17, 1, false, "", "runtime", 8⟩ ∧
  fieldOf Try.prog 136 2 = some ⟨ "asserted", 17, 2, false, "", "runtime", 16⟩ ∧
  fieldOf Try.prog 136 3 = some ⟨ "missingMethod", 9, 3, false, "", "runtime", 24⟩ ∧
  fieldOf Try.prog 147 0 = some ⟨ "Size_", 12, 0, false, "", "", 0⟩ ∧
  fieldOf Try.prog 147 1 = some ⟨ "PtrBytes", 12, 1, false, "", "", 8⟩ ∧
  fieldOf Try.prog 147 2 = some ⟨ "Hash", 117, 2, false, "", "", 16⟩ ∧
  fieldOf Try.prog 147 3 = some ⟨ "TFlag", 141, 3, false, "", "", 20⟩ ∧
  fieldOf Try.prog 147 4 = some ⟨ "Align_", 5, 4, false, "", "", 21⟩ ∧
  fieldOf Try.prog 147 5 = some ⟨ "FieldAlign_", 5, 5, false, "", "", 22⟩ ∧
  fieldOf Try.prog 147 6 = some ⟨ "Kind_", 142, 6, false, "", "", 23⟩ ∧
  fieldOf Try.prog 147 7 = some ⟨ "Equal", 143, 7, false, "", "", 24⟩ ∧
  fieldOf Try.prog 147 8 = some ⟨ "GCData", 144, 8, false, "", "", 32⟩ ∧
  fieldOf Try.prog 147 9 = some ⟨ "Str", 145, 9, false, "", "", 40⟩ :=
  ⟨cells150, bytes150, zero150, cells151, bytes151, zero151, field33_0, field33_1, field34_0, field34_1, field54_0, field54_1, field54_2, field55_0, field55_1, field55_2, field91_0, field91_1, field91_2, field92_0, field92_1, field92_2, field135_0, field135_1, field135_2, field135_3, field136_0, field136_1, field136_2, field136_3, field147_0, field147_1, field147_2, field147_3, field147_4, field147_5, field147_6, field147_7, field147_8, field147_9⟩
theorem tys4 :
  fieldOf Try.prog 147 10 = some ⟨ "PtrToThis", 146, 10, false, "", "", 44⟩ ∧
  fieldOf Try.prog 148 0 = some ⟨ "Size_", 12, 0, false, "", "", 0⟩ ∧
  fieldOf Try.prog 148 1 = some ⟨ "PtrBytes", 12, 1, false, "", "", 8⟩ ∧
  fieldOf Try.prog 148 2 = some ⟨ "Hash", 117, 2, false, "", "", 16⟩ ∧
  fieldOf Try.prog 148 3 = some ⟨ "TFlag", 141, 3, false, "", "", 20⟩ ∧
  fieldOf Try.prog 148 4 = some ⟨ "Align_", 5, 4, false, "", "", 21⟩ ∧
  fieldOf Try.prog 148 5 = some ⟨ "FieldAlign_", 5, 5, false, "", "", 22⟩ ∧
  fieldOf Try.prog 148 6 = some ⟨ "Kind_", 142, 6, false, "", "", 23⟩ ∧
  fieldOf Try.prog 148 7 = some ⟨ "Equal", 143, 7, false, "", "", 24⟩ ∧
  fieldOf Try.prog 148 8 = some ⟨ "GCData", 144, 8, false, "", "", 32⟩ ∧
  fieldOf Try.prog 148 9 = some ⟨ "Str", 145, 9, false, "", "", 40⟩ ∧
  fieldOf Try.prog 148 10 = some ⟨ "PtrToThis", 146, 10, false, "", "", 44⟩ ∧
  fieldOf Try.prog 150 0 = some ⟨ "s", 9, 0, false, "", "errors", 0⟩ ∧
  fieldOf Try.prog 151 0 = some ⟨ "s", 9, 0, false, "", "errors", 0⟩ :=
  ⟨field147_10, field148_0, field148_1, field148_2, field148_3, field148_4, field148_5, field148_6, field148_7, field148_8, field148_9, field148_10, field150_0, field151_0⟩
def und0 := And.intro @Try.underlying2 (And.intro @Try.underlying3 (And.intro @Try.underlying4 (And.intro @Try.underlying5 (And.intro @Try.underlying6 (And.intro @Try.underlying9 (And.intro @Try.underlying12 (And.intro @Try.underlying21 (And.intro @Try.underlying22 (And.intro @Try.underlying25 (And.intro @Try.underlying33 @Try.underlying34))))))))))
def und1 := And.intro @Try.underlying47 (And.intro @Try.underlying54 (And.intro @Try.underlying55 (And.intro @Try.underlying59 (And.intro @Try.underlying69 (And.intro @Try.underlying86 (And.intro @Try.underlying88 (And.intro @Try.underlying90 (And.intro @Try.underlying91 (And.intro @Try.underlying92 (And.intro @Try.underlying95 @Try.underlying99))))))))))
def und2 := And.intro @Try.underlying101 (And.intro @Try.underlying109 (And.intro @Try.underlying117 (And.intro @Try.underlying124 (And.intro @Try.underlying128 (And.intro @Try.underlying130 (And.intro @Try.underlying133 (And.intro @Try.underlying135 (And.intro @Try.underlying136 (And.intro @Try.underlying141 (And.intro @Try.underlying142 @Try.underlying144))))))))))
def und3 := And.intro @Try.underlying145 (And.intro @Try.underlying146 (And.intro @Try.underlying147 (And.intro @Try.underlying148 (And.intro @Try.underlying150 @Try.underlying151))))
theorem go3 : isGo Try.prog 3 := by unfold isGo; rw [Try.func3]; exact ⟨rfl, by kernel_rfl⟩
theorem go6 : isGo Try.prog 6 := by unfold isGo; rw [Try.func6]; exact ⟨rfl, by kernel_rfl⟩
theorem go7 : isGo Try.prog 7 := by unfold isGo; rw [Try.func7]; exact ⟨rfl, by kernel_rfl⟩
theorem go8 : isGo Try.prog 8 := by unfold isGo; rw [Try.func8]; exact ⟨rfl, by kernel_rfl⟩
theorem go9 : isGo Try.prog 9 := by unfold isGo; rw [Try.func9]; exact ⟨rfl, by kernel_rfl⟩
theorem go10 : isGo Try.prog 10 := by unfold isGo; rw [Try.func10]; exact ⟨rfl, by kernel_rfl⟩
theorem go11 : isGo Try.prog 11 := by unfold isGo; rw [Try.func11]; exact ⟨rfl, by kernel_rfl⟩
theorem go12 : isGo Try.prog 12 := by unfold isGo; rw [Try.func12]; exact ⟨rfl, by kernel_rfl⟩
theorem go13 : isGo Try.prog 13 := by unfold isGo; rw [Try.func13]; exact ⟨rfl, by kernel_rfl⟩
theorem go14 : isGo Try.prog 14 := by unfold isGo; rw [Try.func14]; exact ⟨rfl, by kernel_rfl⟩
theorem go15 : isGo Try.prog 15 := by unfold isGo; rw [Try.func15]; exact ⟨rfl, by kernel_rfl⟩
theorem go16 : isGo Try.prog 16 := by unfold isGo; rw [Try.func16]; exact ⟨rfl, by kernel_rfl⟩
theorem go40 : isGo Try.prog 40 := by unfold isGo; rw [Try.func40]; exact ⟨rfl, by kernel_rfl⟩
theorem go41 : isGo Try.prog 41 := by unfold isGo; rw [Try.func41]; exact ⟨rfl, by kernel_rfl⟩
theorem go42 : isGo Try.prog 42 := by unfold isGo; rw [Try.func42]; exact ⟨rfl, by kernel_rfl⟩
theorem go43 : isGo Try.prog 43 := by unfold isGo; rw [Try.func43]; exact ⟨rfl, by kernel_rfl⟩
theorem go44 : isGo Try.prog 44 := by unfold isGo; rw [Try.func44]; exact ⟨rfl, by kernel_rfl⟩
theorem go45 : isGo Try.prog 45 := by unfold isGo; rw [Try.func45]; exact ⟨rfl, by kernel_rfl⟩
theorem go46 : isGo Try.prog 46 := by unfold isGo; rw [Try.func46]; exact ⟨rfl, by kernel_rfl⟩
theorem go47 : isGo Try.prog 47 := by unfold isGo; rw [Try.func47]; exact ⟨rfl, by kernel_rfl⟩
theorem go48 : isGo Try.prog 48 := by unfold isGo; rw [Try.func48]; exact ⟨rfl, by kernel_rfl⟩
theorem go49 : isGo Try.prog 49 := by unfold isGo; rw [Try.func49]; exact ⟨rfl, by kernel_rfl⟩
theorem go50 : isGo Try.prog 50 := by unfold isGo; rw [Try.func50]; exact ⟨rfl, by kernel_rfl⟩
theorem go51 : isGo Try.prog 51 := by unfold isGo; rw [Try.func51]; exact ⟨rfl, by kernel_rfl⟩
theorem go52 : isGo Try.prog 52 := by unfold isGo; rw [Try.func52]; exact ⟨rfl, by kernel_rfl⟩
theorem go53 : isGo Try.prog 53 := by unfold isGo; rw [Try.func53]; exact ⟨rfl, by kernel_rfl⟩
theorem go54 : isGo Try.prog 54 := by unfold isGo; rw [Try.func54]; exact ⟨rfl, by kernel_rfl⟩
theorem go55 : isGo Try.prog 55 := by unfold isGo; rw [Try.func55]; exact ⟨rfl, by kernel_rfl⟩
theorem go66 : isGo Try.prog 66 := by unfold isGo; rw [Try.func66]; exact ⟨rfl, by kernel_rfl⟩
theorem go89 : isGo Try.prog 89 := by unfold isGo; rw [Try.func89]; exact ⟨rfl, by kernel_rfl⟩
theorem go90 : isGo Try.prog 90 := by unfold isGo; rw [Try.func90]; exact ⟨rfl, by kernel_rfl⟩
theorem go91 : isGo Try.prog 91 := by unfold isGo; rw [Try.func91]; exact ⟨rfl, by kernel_rfl⟩
theorem go96 : isGo Try.prog 96 := by unfold isGo; rw [Try.func96]; exact ⟨rfl, by kernel_rfl⟩
theorem go97 : isGo Try.prog 97 := by unfold isGo; rw [Try.func97]; exact ⟨rfl, by kernel_rfl⟩
theorem go105 : isGo Try.prog 105 := by unfold isGo; rw [Try.func105]; exact ⟨rfl, by kernel_rfl⟩
theorem go118 : isGo Try.prog 118 := by unfold isGo; rw [Try.func118]; exact ⟨rfl, by kernel_rfl⟩
def md3 : Nat → List Bool
  | 19 => [false, false, false, false, false, false, false, false, false, false, false, false, false, false, false, false, false, false, false, false, false, false]
  | 37 => [false, false, false, false, false, false, false, false, false, false, false, false, false, true]
  | 38 => [false, false, false, false, false, false, false, false, false, false, false, false, false]
  | _ => []
def md6 : Nat → List Bool := fun _ => []
def md7 : Nat → List Bool := fun _ => []
def md8 : Nat → List Bool := fun _ => []
def md9 : Nat → List Bool := fun _ => []
def md10 : Nat → List Bool := fun _ => []
def md11 : Nat → List Bool := fun _ => []
def md12 : Nat → List Bool := fun _ => []
def md13 : Nat → List Bool := fun _ => []
def md14 : Nat → List Bool := fun _ => []
def md15 : Nat → List Bool
  | 8 => [false, false, false, false, false, false, false, false, false, false]
  | _ => []
def md16 : Nat → List Bool := fun _ => []
def md40 : Nat → List Bool := fun _ => []
def md41 : Nat → List Bool := fun _ => []
def md42 : Nat → List Bool := fun _ => []
def md43 : Nat → List Bool := fun _ => []
def md44 : Nat → List Bool := fun _ => []
def md45 : Nat → List Bool := fun _ => []
def md46 : Nat → List Bool := fun _ => []
def md47 : Nat → List Bool
  | 1 => [false, false, false, false, false, false, false, false]
  | _ => []
def md48 : Nat → List Bool := fun _ => []
def md49 : Nat → List Bool := fun _ => []
def md50 : Nat → List Bool := fun _ => []
def md51 : Nat → List Bool
  | 1 => [false, false, false, false, false, false, false, false, false, false, false, false, false, false]
  | _ => []
def md52 : Nat → List Bool := fun _ => []
def md53 : Nat → List Bool
  | 1 => [false, false, false, false, false, false, false, false]
  | _ => []
def md54 : Nat → List Bool := fun _ => []
def md55 : Nat → List Bool := fun _ => []
def md66 : Nat → List Bool := fun _ => []
def md89 : Nat → List Bool
  | 2 => [false, false, false, false, false, false, false, false, false, false]
  | 3 => [false, false, false, false, false, false, false, false, false, false, false, false]
  | 6 => [false, false, false, false, false, false, false, false, false, false]
  | _ => []
def md90 : Nat → List Bool := fun _ => []
def md91 : Nat → List Bool := fun _ => []
def md96 : Nat → List Bool := fun _ => []
def md97 : Nat → List Bool := fun _ => []
def md105 : Nat → List Bool
  | 4 => [false, false, false, false, false, false, false, false, false, false, false, false, false, false, false, false, false]
  | _ => []
def md118 : Nat → List Bool := fun _ => []
end Go.Proofs.Ytdlddnnnfjnabaa
