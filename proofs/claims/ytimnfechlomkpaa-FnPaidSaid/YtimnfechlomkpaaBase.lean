/- Closed facts of the program, for the abstract layer: types and functions. Printed by gen_base.py. -/
import Derived.Test.YtimnfechlomkpaaProg
import Derived.Test.YtimnfechlomkpaaAbsM4
set_option linter.unusedVariables false
set_option linter.defProp false
namespace Go.Proofs.Ytimnfechlomkpaa
open Go Go.Abs

def zq0 := (And.intro @List.getD_cons_succ.{0} (And.intro @List.getD_cons_zero.{0} (And.intro @List.length_cons.{0} (And.intro @List.length_nil.{0} (And.intro @List.replicate_succ.{0} (And.intro @List.replicate_zero.{0} (And.intro @List.cons_append.{0} (And.intro @List.nil_append.{0} (And.intro @List.append_nil.{0} (And.intro @List.set_cons_succ.{0} (And.intro @List.set_cons_zero.{0} @true_and)))))))))))
def zq1 := (And.intro @and_true (And.intro @List.map_cons.{0,0} (And.intro @List.map_nil.{0,0} (And.intro @Int.toNat_natCast (And.intro @Int.natCast_nonneg (And.intro @exists_prop (And.intro @List.getElem_cons_zero.{0} (And.intro @List.getElem_cons_succ.{0} (And.intro @List.getElem?_cons_zero.{0} (And.intro @List.getElem?_cons_succ.{0} (And.intro @Nat.zero_lt_one @Option.bind_some.{0,0})))))))))))
def zq2 := (And.intro @Option.map_some.{0,0} (And.intro @Option.map_none.{0,0} (And.intro @Bool.not_true (And.intro @Bool.not_false (And.intro @List.all_cons.{0} (And.intro @List.all_nil.{0} (And.intro @Bool.and_true (And.intro @Bool.true_and (And.intro @List.take_zero.{0} (And.intro @List.drop_zero.{0} (And.intro @List.drop_succ_cons.{0} @List.take_succ_cons.{0})))))))))))
def zq3 := (And.intro @Nat.zero_add (And.intro @Nat.add_zero (And.intro @List.getElem?_toArray.{0} (And.intro @ge_iff_le.{0} (And.intro @gt_iff_lt.{0} (And.intro @Nat.le_refl (And.intro @Bool.false_eq_true (And.intro @Bool.not_eq_true (And.intro @Nat.succ_ne_self (And.intro @Option.some.injEq.{0} (And.intro @List.forall_mem_cons.{0} @List.not_mem_nil.{0})))))))))))
def zq4 := @false_implies

theorem mixed : Try.prog.follows .mixedOrders = true := by kernel_rfl
theorem cells2 : Try.prog.cellsOf 2 = 1 := by kernel_rfl
theorem bytes2 : Try.prog.bytesOf 2 = 8 := by kernel_rfl
theorem zero2 : zeroOf Try.prog 2 = .int .i64 0 := by kernel_rfl
theorem cells3 : Try.prog.cellsOf 3 = 1 := by kernel_rfl
theorem bytes3 : Try.prog.bytesOf 3 = 8 := by kernel_rfl
theorem zero3 : zeroOf Try.prog 3 = .int .i64 0 := by kernel_rfl
theorem cells4 : Try.prog.cellsOf 4 = 1 := by kernel_rfl
theorem bytes4 : Try.prog.bytesOf 4 = 1 := by kernel_rfl
theorem zero4 : zeroOf Try.prog 4 = .bool false := by kernel_rfl
theorem cells5 : Try.prog.cellsOf 5 = 1 := by kernel_rfl
theorem bytes5 : Try.prog.bytesOf 5 = 1 := by kernel_rfl
theorem zero5 : zeroOf Try.prog 5 = .int .u8 0 := by kernel_rfl
theorem cells6 : Try.prog.cellsOf 6 = 1 := by kernel_rfl
theorem bytes6 : Try.prog.bytesOf 6 = 1 := by kernel_rfl
theorem zero6 : zeroOf Try.prog 6 = .int .u8 0 := by kernel_rfl
theorem cells9 : Try.prog.cellsOf 9 = 1 := by kernel_rfl
theorem bytes9 : Try.prog.bytesOf 9 = 16 := by kernel_rfl
theorem zero9 : zeroOf Try.prog 9 = .str [] := by kernel_rfl
theorem cells12 : Try.prog.cellsOf 12 = 1 := by kernel_rfl
theorem bytes12 : Try.prog.bytesOf 12 = 8 := by kernel_rfl
theorem zero12 : zeroOf Try.prog 12 = .int .u64 0 := by kernel_rfl
theorem cells21 : Try.prog.cellsOf 21 = 1 := by kernel_rfl
theorem bytes21 : Try.prog.bytesOf 21 = 4 := by kernel_rfl
theorem zero21 : zeroOf Try.prog 21 = .int .i32 0 := by kernel_rfl
theorem cells22 : Try.prog.cellsOf 22 = 1 := by kernel_rfl
theorem bytes22 : Try.prog.bytesOf 22 = 24 := by kernel_rfl
theorem zero22 : zeroOf Try.prog 22 = .nils := by kernel_rfl
theorem cells24 : Try.prog.cellsOf 24 = 1 := by kernel_rfl
theorem bytes24 : Try.prog.bytesOf 24 = 24 := by kernel_rfl
theorem zero24 : zeroOf Try.prog 24 = .nils := by kernel_rfl
theorem cells27 : Try.prog.cellsOf 27 = 1 := by kernel_rfl
theorem bytes27 : Try.prog.bytesOf 27 = 24 := by kernel_rfl
theorem zero27 : zeroOf Try.prog 27 = .nils := by kernel_rfl
theorem cells33 : Try.prog.cellsOf 33 = 3 := by kernel_rfl
theorem bytes33 : Try.prog.bytesOf 33 = 24 := by kernel_rfl
theorem zero33 : zeroOf Try.prog 33 = .agg [.int .i64 0, .int .i64 0, .int .i64 0] := by kernel_rfl
theorem cells34 : Try.prog.cellsOf 34 = 3 := by kernel_rfl
theorem bytes34 : Try.prog.bytesOf 34 = 24 := by kernel_rfl
theorem zero34 : zeroOf Try.prog 34 = .agg [.int .i64 0, .int .i64 0, .int .i64 0] := by kernel_rfl
theorem cells38 : Try.prog.cellsOf 38 = 1 := by kernel_rfl
theorem bytes38 : Try.prog.bytesOf 38 = 8 := by kernel_rfl
theorem zero38 : zeroOf Try.prog 38 = .nilp := by kernel_rfl
theorem cells42 : Try.prog.cellsOf 42 = 1 := by kernel_rfl
theorem bytes42 : Try.prog.bytesOf 42 = 24 := by kernel_rfl
theorem zero42 : zeroOf Try.prog 42 = .nils := by kernel_rfl
theorem cells48 : Try.prog.cellsOf 48 = 1 := by kernel_rfl
theorem bytes48 : Try.prog.bytesOf 48 = 24 := by kernel_rfl
theorem zero48 : zeroOf Try.prog 48 = .nils := by kernel_rfl
theorem cells50 : Try.prog.cellsOf 50 = 1 := by kernel_rfl
theorem bytes50 : Try.prog.bytesOf 50 = 8 := by kernel_rfl
theorem zero50 : zeroOf Try.prog 50 = .nilp := by kernel_rfl
theorem cells57 : Try.prog.cellsOf 57 = 1 := by kernel_rfl
theorem bytes57 : Try.prog.bytesOf 57 = 8 := by kernel_rfl
theorem zero57 : zeroOf Try.prog 57 = .int .u64 0 := by kernel_rfl
theorem cells58 : Try.prog.cellsOf 58 = 3 := by kernel_rfl
theorem bytes58 : Try.prog.bytesOf 58 = 40 := by kernel_rfl
theorem zero58 : zeroOf Try.prog 58 = .agg [.nils, .int .i64 0, .int .u64 0] := by kernel_rfl
theorem cells59 : Try.prog.cellsOf 59 = 3 := by kernel_rfl
theorem bytes59 : Try.prog.bytesOf 59 = 40 := by kernel_rfl
theorem zero59 : zeroOf Try.prog 59 = .agg [.nils, .int .i64 0, .int .u64 0] := by kernel_rfl
theorem cells61 : Try.prog.cellsOf 61 = 1 := by kernel_rfl
theorem bytes61 : Try.prog.bytesOf 61 = 24 := by kernel_rfl
theorem zero61 : zeroOf Try.prog 61 = .nils := by kernel_rfl
theorem cells69 : Try.prog.cellsOf 69 = 1 := by kernel_rfl
theorem bytes69 : Try.prog.bytesOf 69 = 8 := by kernel_rfl
theorem zero69 : zeroOf Try.prog 69 = .int .u64 0 := by kernel_rfl
theorem cells79 : Try.prog.cellsOf 79 = 1 := by kernel_rfl
theorem bytes79 : Try.prog.bytesOf 79 = 8 := by kernel_rfl
theorem zero79 : zeroOf Try.prog 79 = .nilp := by kernel_rfl
theorem cells81 : Try.prog.cellsOf 81 = 4 := by kernel_rfl
theorem bytes81 : Try.prog.bytesOf 81 = 40 := by kernel_rfl
theorem zero81 : zeroOf Try.prog 81 = .agg [.nilp, .nilp, .nilp, .str []] := by kernel_rfl
theorem cells82 : Try.prog.cellsOf 82 = 4 := by kernel_rfl
theorem bytes82 : Try.prog.bytesOf 82 = 40 := by kernel_rfl
theorem zero82 : zeroOf Try.prog 82 = .agg [.nilp, .nilp, .nilp, .str []] := by kernel_rfl
theorem cells87 : Try.prog.cellsOf 87 = 1 := by kernel_rfl
theorem bytes87 : Try.prog.bytesOf 87 = 4 := by kernel_rfl
theorem zero87 : zeroOf Try.prog 87 = .int .u32 0 := by kernel_rfl
theorem cells88 : Try.prog.cellsOf 88 = 1 := by kernel_rfl
theorem bytes88 : Try.prog.bytesOf 88 = 1 := by kernel_rfl
theorem zero88 : zeroOf Try.prog 88 = .int .u8 0 := by kernel_rfl
theorem cells89 : Try.prog.cellsOf 89 = 1 := by kernel_rfl
theorem bytes89 : Try.prog.bytesOf 89 = 1 := by kernel_rfl
theorem zero89 : zeroOf Try.prog 89 = .int .u8 0 := by kernel_rfl
theorem cells91 : Try.prog.cellsOf 91 = 1 := by kernel_rfl
theorem bytes91 : Try.prog.bytesOf 91 = 8 := by kernel_rfl
theorem zero91 : zeroOf Try.prog 91 = .nilp := by kernel_rfl
theorem cells92 : Try.prog.cellsOf 92 = 1 := by kernel_rfl
theorem bytes92 : Try.prog.bytesOf 92 = 4 := by kernel_rfl
theorem zero92 : zeroOf Try.prog 92 = .int .i32 0 := by kernel_rfl
theorem cells93 : Try.prog.cellsOf 93 = 1 := by kernel_rfl
theorem bytes93 : Try.prog.bytesOf 93 = 4 := by kernel_rfl
theorem zero93 : zeroOf Try.prog 93 = .int .i32 0 := by kernel_rfl
theorem cells94 : Try.prog.cellsOf 94 = 11 := by kernel_rfl
theorem bytes94 : Try.prog.bytesOf 94 = 48 := by kernel_rfl
theorem zero94 : zeroOf Try.prog 94 = .agg [.int .u64 0, .int .u64 0, .int .u32 0, .int .u8 0, .int .u8 0, .int .u8 0, .int .u8 0, .nilf, .nilp, .int .i32 0, .int .i32 0] := by kernel_rfl
theorem cells95 : Try.prog.cellsOf 95 = 11 := by kernel_rfl
theorem bytes95 : Try.prog.bytesOf 95 = 48 := by kernel_rfl
theorem zero95 : zeroOf Try.prog 95 = .agg [.int .u64 0, .int .u64 0, .int .u32 0, .int .u8 0, .int .u8 0, .int .u8 0, .int .u8 0, .nilf, .nilp, .int .i32 0, .int .i32 0] := by kernel_rfl
theorem cells96 : Try.prog.cellsOf 96 = 1 := by kernel_rfl
theorem bytes96 : Try.prog.bytesOf 96 = 16 := by kernel_rfl
theorem zero96 : zeroOf Try.prog 96 = .agg [.str []] := by kernel_rfl
theorem cells97 : Try.prog.cellsOf 97 = 1 := by kernel_rfl
theorem bytes97 : Try.prog.bytesOf 97 = 16 := by kernel_rfl
theorem zero97 : zeroOf Try.prog 97 = .agg [.str []] := by kernel_rfl
theorem field33_0 : fieldOf Try.prog 33 0 = some ⟨ "Day", 2, 0, false, "", "", 0⟩ := by kernel_rfl
theorem field33_1 : fieldOf Try.prog 33 1 = some ⟨ "Rank", 2, 1, false, "", "", 8⟩ := by kernel_rfl
theorem field33_2 : fieldOf Try.prog 33 2 = some ⟨ "Cents", 2, 2, false, "", "", 16⟩ := by kernel_rfl
theorem field34_0 : fieldOf Try.prog 34 0 = some ⟨ "Day", 2, 0, false, "", "", 0⟩ := by kernel_rfl
theorem field34_1 : fieldOf Try.prog 34 1 = some ⟨ "Rank", 2, 1, false, "", "", 8⟩ := by kernel_rfl
theorem field34_2 : fieldOf Try.prog 34 2 = some ⟨ "Cents", 2, 2, false, "", "", 16⟩ := by kernel_rfl
theorem field58_0 : fieldOf Try.prog 58 0 = some ⟨ "code", 22, 0, false, "", "loop.example/g01393/spec", 0⟩ := by kernel_rfl
theorem field58_1 : fieldOf Try.prog 58 1 = some ⟨ "at", 3, 1, false, "", "loop.example/g01393/spec", 24⟩ := by kernel_rfl
theorem field58_2 : fieldOf Try.prog 58 2 = some ⟨ "seed", 57, 2, false, "", "loop.example/g01393/spec", 32⟩ := by kernel_rfl
theorem field59_0 : fieldOf Try.prog 59 0 = some ⟨ "code", 22, 0, false, "", "loop.example/g01393/spec", 0⟩ := by kernel_rfl
theorem field59_1 : fieldOf Try.prog 59 1 = some ⟨ "at", 3, 1, false, "", "loop.example/g01393/spec", 24⟩ := by kernel_rfl
theorem field59_2 : fieldOf Try.prog 59 2 = some ⟨ "seed", 57, 2, false, "", "loop.example/g01393/spec", 32⟩ := by kernel_rfl
theorem field81_0 : fieldOf Try.prog 81 0 = some ⟨ "_interface", 17, 0, false, "", "runtime", 0⟩ := by kernel_rfl
theorem field81_1 : fieldOf Try.prog 81 1 = some ⟨ "concrete", 17, 1, false, "", "runtime", 8⟩ := by kernel_rfl
theorem field81_2 : fieldOf Try.prog 81 2 = some ⟨ "asserted", 17, 2, false, "", "runtime", 16⟩ := by kernel_rfl
theorem field81_3 : fieldOf Try.prog 81 3 = some ⟨ "missingMethod", 9, 3, false, "", "runtime", 24⟩ := by kernel_rfl
theorem field82_0 : fieldOf Try.prog 82 0 = some ⟨ "_interface", 17, 0, false, "", "runtime", 0⟩ := by kernel_rfl
theorem field82_1 : fieldOf Try.prog 82 1 = some ⟨ "concrete", 17, 1, false, "", "runtime", 8⟩ := by kernel_rfl
theorem field82_2 : fieldOf Try.prog 82 2 = some ⟨ "asserted", 17, 2, false, "", "runtime", 16⟩ := by kernel_rfl
theorem field82_3 : fieldOf Try.prog 82 3 = some ⟨ "missingMethod", 9, 3, false, "", "runtime", 24⟩ := by kernel_rfl
theorem field94_0 : fieldOf Try.prog 94 0 = some ⟨ "Size_", 12, 0, false, "", "", 0⟩ := by kernel_rfl
theorem field94_1 : fieldOf Try.prog 94 1 = some ⟨ "PtrBytes", 12, 1, false, "", "", 8⟩ := by kernel_rfl
theorem field94_2 : fieldOf Try.prog 94 2 = some ⟨ "Hash", 87, 2, false, "", "", 16⟩ := by kernel_rfl
theorem field94_3 : fieldOf Try.prog 94 3 = some ⟨ "TFlag", 88, 3, false, "", "", 20⟩ := by kernel_rfl
theorem field94_4 : fieldOf Try.prog 94 4 = some ⟨ "Align_", 5, 4, false, "", "", 21⟩ := by kernel_rfl
theorem field94_5 : fieldOf Try.prog 94 5 = some ⟨ "FieldAlign_", 5, 5, false, "", "", 22⟩ := by kernel_rfl
theorem field94_6 : fieldOf Try.prog 94 6 = some ⟨ "Kind_", 89, 6, false, "", "", 23⟩ := by kernel_rfl
theorem field94_7 : fieldOf Try.prog 94 7 = some ⟨ "Equal", 90, 7, false, "", "", 24⟩ := by kernel_rfl
theorem field94_8 : fieldOf Try.prog 94 8 = some ⟨ "GCData", 91, 8, false, "", "", 32⟩ := by kernel_rfl
theorem field94_9 : fieldOf Try.prog 94 9 = some ⟨ "Str", 92, 9, false, "", "", 40⟩ := by kernel_rfl
theorem field94_10 : fieldOf Try.prog 94 10 = some ⟨ "PtrToThis", 93, 10, false, "", "", 44⟩ := by kernel_rfl
theorem field95_0 : fieldOf Try.prog 95 0 = some ⟨ "Size_", 12, 0, false, "", "", 0⟩ := by kernel_rfl
theorem field95_1 : fieldOf Try.prog 95 1 = some ⟨ "PtrBytes", 12, 1, false, "", "", 8⟩ := by kernel_rfl
theorem field95_2 : fieldOf Try.prog 95 2 = some ⟨ "Hash", 87, 2, false, "", "", 16⟩ := by kernel_rfl
theorem field95_3 : fieldOf Try.prog 95 3 = some ⟨ "TFlag", 88, 3, false, "", "", 20⟩ := by kernel_rfl
theorem field95_4 : fieldOf Try.prog 95 4 = some ⟨ "Align_", 5, 4, false, "", "", 21⟩ := by kernel_rfl
theorem field95_5 : fieldOf Try.prog 95 5 = some ⟨ "FieldAlign_", 5, 5, false, "", "", 22⟩ := by kernel_rfl
theorem field95_6 : fieldOf Try.prog 95 6 = some ⟨ "Kind_", 89, 6, false, "", "", 23⟩ := by kernel_rfl
theorem field95_7 : fieldOf Try.prog 95 7 = some ⟨ "Equal", 90, 7, false, "", "", 24⟩ := by kernel_rfl
theorem field95_8 : fieldOf Try.prog 95 8 = some ⟨ "GCData", 91, 8, false, "", "", 32⟩ := by kernel_rfl
theorem field95_9 : fieldOf Try.prog 95 9 = some ⟨ "Str", 92, 9, false, "", "", 40⟩ := by kernel_rfl
theorem field95_10 : fieldOf Try.prog 95 10 = some ⟨ "PtrToThis", 93, 10, false, "", "", 44⟩ := by kernel_rfl
theorem field96_0 : fieldOf Try.prog 96 0 = some ⟨ "s", 9, 0, false, "", "errors", 0⟩ := by kernel_rfl
theorem field97_0 : fieldOf Try.prog 97 0 = some ⟨ "s", 9, 0, false, "", "errors", 0⟩ := by kernel_rfl

theorem tys0 :
  Try.prog.cellsOf 2 = 1 ∧
  Try.prog.bytesOf 2 = 8 ∧
  zeroOf Try.prog 2 = .int .i64 0 ∧
  Try.prog.cellsOf 3 = 1 ∧
  Try.prog.bytesOf 3 = 8 ∧
  zeroOf Try.prog 3 = .int .i64 0 ∧
  Try.prog.cellsOf 4 = 1 ∧
  Try.prog.bytesOf 4 = 1 ∧
  zeroOf Try.prog 4 = .bool false ∧
  Try.prog.cellsOf 5 = 1 ∧
  Try.prog.bytesOf 5 = 1 ∧
  zeroOf Try.prog 5 = .int .u8 0 ∧
  Try.prog.cellsOf 6 = 1 ∧
  Try.prog.bytesOf 6 = 1 ∧
  zeroOf Try.prog 6 = .int .u8 0 ∧
  Try.prog.cellsOf 9 = 1 ∧
  Try.prog.bytesOf 9 = 16 ∧
  zeroOf Try.prog 9 = .str [] ∧
  Try.prog.cellsOf 12 = 1 ∧
  Try.prog.bytesOf 12 = 8 ∧
  zeroOf Try.prog 12 = .int .u64 0 ∧
  Try.prog.cellsOf 21 = 1 ∧
  Try.prog.bytesOf 21 = 4 ∧
  zeroOf Try.prog 21 = .int .i32 0 ∧
  Try.prog.cellsOf 22 = 1 ∧
  Try.prog.bytesOf 22 = 24 ∧
  zeroOf Try.prog 22 = .nils ∧
  Try.prog.cellsOf 24 = 1 ∧
  Try.prog.bytesOf 24 = 24 ∧
  zeroOf Try.prog 24 = .nils ∧
  Try.prog.cellsOf 27 = 1 ∧
  Try.prog.bytesOf 27 = 24 ∧
  zeroOf Try.prog 27 = .nils ∧
  Try.prog.cellsOf 33 = 3 ∧
  Try.prog.bytesOf 33 = 24 ∧
  zeroOf Try.prog 33 = .agg [.int .i64 0, .int .i64 0, .int .i64 0] ∧
  Try.prog.cellsOf 34 = 3 ∧
  Try.prog.bytesOf 34 = 24 ∧
  zeroOf Try.prog 34 = .agg [.int .i64 0, .int .i64 0, .int .i64 0] ∧
  Try.prog.cellsOf 38 = 1 :=
  ⟨cells2, bytes2, zero2, cells3, bytes3, zero3, cells4, bytes4, zero4, cells5, bytes5, zero5, cells6, bytes6, zero6, cells9, bytes9, zero9, cells12, bytes12, zero12, cells21, bytes21, zero21, cells22, bytes22, zero22, cells24, bytes24, zero24, cells27, bytes27, zero27, cells33, bytes33, zero33, cells34, bytes34, zero34, cells38⟩
theorem tys1 :
  Try.prog.bytesOf 38 = 8 ∧
  zeroOf Try.prog 38 = .nilp ∧
  Try.prog.cellsOf 42 = 1 ∧
  Try.prog.bytesOf 42 = 24 ∧
  zeroOf Try.prog 42 = .nils ∧
  Try.prog.cellsOf 48 = 1 ∧
  Try.prog.bytesOf 48 = 24 ∧
  zeroOf Try.prog 48 = .nils ∧
  Try.prog.cellsOf 50 = 1 ∧
  Try.prog.bytesOf 50 = 8 ∧
  zeroOf Try.prog 50 = .nilp ∧
  Try.prog.cellsOf 57 = 1 ∧
  Try.prog.bytesOf 57 = 8 ∧
  zeroOf Try.prog 57 = .int .u64 0 ∧
  Try.prog.cellsOf 58 = 3 ∧
  Try.prog.bytesOf 58 = 40 ∧
  zeroOf Try.prog 58 = .agg [.nils, .int .i64 0, .int .u64 0] ∧
  Try.prog.cellsOf 59 = 3 ∧
  Try.prog.bytesOf 59 = 40 ∧
  zeroOf Try.prog 59 = .agg [.nils, .int .i64 0, .int .u64 0] ∧
  Try.prog.cellsOf 61 = 1 ∧
  Try.prog.bytesOf 61 = 24 ∧
  zeroOf Try.prog 61 = .nils ∧
  Try.prog.cellsOf 69 = 1 ∧
  Try.prog.bytesOf 69 = 8 ∧
  zeroOf Try.prog 69 = .int .u64 0 ∧
  Try.prog.cellsOf 79 = 1 ∧
  Try.prog.bytesOf 79 = 8 ∧
  zeroOf Try.prog 79 = .nilp ∧
  Try.prog.cellsOf 81 = 4 ∧
  Try.prog.bytesOf 81 = 40 ∧
  zeroOf Try.prog 81 = .agg [.nilp, .nilp, .nilp, .str []] ∧
  Try.prog.cellsOf 82 = 4 ∧
  Try.prog.bytesOf 82 = 40 ∧
  zeroOf Try.prog 82 = .agg [.nilp, .nilp, .nilp, .str []] ∧
  Try.prog.cellsOf 87 = 1 ∧
  Try.prog.bytesOf 87 = 4 ∧
  zeroOf Try.prog 87 = .int .u32 0 ∧
  Try.prog.cellsOf 88 = 1 ∧
  Try.prog.bytesOf 88 = 1 :=
  ⟨bytes38, zero38, cells42, bytes42, zero42, cells48, bytes48, zero48, cells50, bytes50, zero50, cells57, bytes57, zero57, cells58, bytes58, zero58, cells59, bytes59, zero59, cells61, bytes61, zero61, cells69, bytes69, zero69, cells79, bytes79, zero79, cells81, bytes81, zero81, cells82, bytes82, zero82, cells87, bytes87, zero87, cells88, bytes88⟩
theorem tys2 :
  zeroOf Try.prog 88 = .int .u8 0 ∧
  Try.prog.cellsOf 89 = 1 ∧
  Try.prog.bytesOf 89 = 1 ∧
  zeroOf Try.prog 89 = .int .u8 0 ∧
  Try.prog.cellsOf 91 = 1 ∧
  Try.prog.bytesOf 91 = 8 ∧
  zeroOf Try.prog 91 = .nilp ∧
  Try.prog.cellsOf 92 = 1 ∧
  Try.prog.bytesOf 92 = 4 ∧
  zeroOf Try.prog 92 = .int .i32 0 ∧
  Try.prog.cellsOf 93 = 1 ∧
  Try.prog.bytesOf 93 = 4 ∧
  zeroOf Try.prog 93 = .int .i32 0 ∧
  Try.prog.cellsOf 94 = 11 ∧
  Try.prog.bytesOf 94 = 48 ∧
  zeroOf Try.prog 94 = .agg [.int .u64 0, .int .u64 0, .int .u32 0, .int .u8 0, .int .u8 0, .int .u8 0, .int .u8 0, .nilf, .nilp, .int .i32 0, .int .i32 0] ∧
  Try.prog.cellsOf 95 = 11 ∧
  Try.prog.bytesOf 95 = 48 ∧
  zeroOf Try.prog 95 = .agg [.int .u64 0, .int .u64 0, .int .u32 0, .int .u8 0, .int .u8 0, .int .u8 0, .int .u8 0, .nilf, .nilp, .int .i32 0, .int .i32 0] ∧
  Try.prog.cellsOf 96 = 1 ∧
  Try.prog.bytesOf 96 = 16 ∧
  zeroOf Try.prog 96 = .agg [.str []] ∧
  Try.prog.cellsOf 97 = 1 ∧
  Try.prog.bytesOf 97 = 16 ∧
  zeroOf Try.prog 97 = .agg [.str []] ∧
  fieldOf Try.prog 33 0 = some ⟨ "Day", 2, 0, false, "", "", 0⟩ ∧
  fieldOf Try.prog 33 1 = some ⟨ "Rank", 2, 1, false, "", "", 8⟩ ∧
  fieldOf Try.prog 33 2 = some ⟨ "Cents", 2, 2, false, "", "", 16⟩ ∧
  fieldOf Try.prog 34 0 = some ⟨ "Day", 2, 0, false, "", "", 0⟩ ∧
  fieldOf Try.prog 34 1 = some ⟨ "Rank", 2, 1, false, "", "", 8⟩ ∧
  fieldOf Try.prog 34 2 = some ⟨ "Cents", 2, 2, false, "", "", 16⟩ ∧
  fieldOf Try.prog 58 0 = some ⟨ "code", 22, 0, false, "", "loop.example/g01393/spec", 0⟩ ∧
  fieldOf Try.prog 58 1 = some ⟨ "at", 3, 1, false, "", "loop.example/g01393/spec", 24⟩ ∧
  fieldOf Try.prog 58 2 = some ⟨ "seed", 57, 2, false, "", "loop.example/g01393/spec", 32⟩ ∧
  fieldOf Try.prog 59 0 = some ⟨ "code", 22, 0, false, "", "loop.example/g01393/spec", 0⟩ ∧
  fieldOf Try.prog 59 1 = some ⟨ "at", 3, 1, false, "", "loop.example/g01393/spec", 24⟩ ∧
  fieldOf Try.prog 59 2 = some ⟨ "seed", 57, 2, false, "", "loop.example/g01393/spec", 32⟩ ∧
  fieldOf Try.prog 81 0 = some ⟨ "_interface", 17, 0, false, "", "runtime", 0⟩ ∧
  fieldOf Try.prog 81 1 = some ⟨ "concrete", 17, 1, false, "", "runtime", 8⟩ ∧
  fieldOf Try.prog 81 2 = some ⟨ "asserted", 17, 2, false, "", "runtime", 16⟩ :=
  ⟨zero88, cells89, bytes89, zero89, cells91, bytes91, zero91, cells92, bytes92, zero92, cells93, bytes93, zero93, cells94, bytes94, zero94, cells95, bytes95, zero95, cells96, bytes96, zero96, cells97, bytes97, zero97, field33_0, field33_1, field33_2, field34_0, field34_1, field34_2, field58_0, field58_1, field58_2, field59_0, field59_1, field59_2, field81_0, field81_1, field81_2⟩
theorem tys3 :
  fieldOf Try.prog 81 3 = some ⟨ "missingMethod", 9, 3, false, "", "runtime", 24⟩ ∧
  fieldOf Try.prog 82 0 = some ⟨ "_interface", 17, 0, false, "", "runtime", 0⟩ ∧
  fieldOf Try.prog 82 1 = some ⟨ "concrete", 17, 1, false, "", "runtime", 8⟩ ∧
  fieldOf Try.prog 82 2 = some ⟨ "asserted", 17, 2, false, "", "runtime", 16⟩ ∧
  fieldOf Try.prog 82 3 = some ⟨ "missingMethod", 9, 3, false, "", "runtime", 24⟩ ∧
  fieldOf Try.prog 94 0 = some ⟨ "Size_", 12, 0, false, "", "", 0⟩ ∧
  fieldOf Try.prog 94 1 = some ⟨ "PtrBytes", 12, 1, false, "", "", 8⟩ ∧
  fieldOf Try.prog 94 2 = some ⟨ "Hash", 87, 2, false, "", "", 16⟩ ∧
  fieldOf Try.prog 94 3 = some ⟨ "TFlag", 88, 3, false, "", "", 20⟩ ∧
  fieldOf Try.prog 94 4 = some ⟨ "Align_", 5, 4, false, "", "", 21⟩ ∧
  fieldOf Try.prog 94 5 = some ⟨ "FieldAlign_", 5, 5, false, "", "", 22⟩ ∧
  fieldOf Try.prog 94 6 = some ⟨ "Kind_", 89, 6, false, "", "", 23⟩ ∧
  fieldOf Try.prog 94 7 = some ⟨ "Equal", 90, 7, false, "", "", 24⟩ ∧
  fieldOf Try.prog 94 8 = some ⟨ "GCData", 91, 8, false, "", "", 32⟩ ∧
  fieldOf Try.prog 94 9 = some ⟨ "Str", 92, 9, false, "", "", 40⟩ ∧
  fieldOf Try.prog 94 10 = some ⟨ "PtrToThis", 93, 10, false, "", "", 44⟩ ∧
  fieldOf Try.prog 95 0 = some ⟨ "Size_", 12, 0, false, "", "", 0⟩ ∧
  fieldOf Try.prog 95 1 = some ⟨ "PtrBytes", 12, 1, false, "", "", 8⟩ ∧
  fieldOf Try.prog 95 2 = some ⟨ "Hash", 87, 2, false, "", "", 16⟩ ∧
  fieldOf Try.prog 95 3 = some ⟨ "TFlag", 88, 3, false, "", "", 20⟩ ∧
  fieldOf Try.prog 95 4 = some ⟨ "Align_", 5, 4, false, "", "", 21⟩ ∧
  fieldOf Try.prog 95 5 = some ⟨ "FieldAlign_", 5, 5, false, "", "", 22⟩ ∧
  fieldOf Try.prog 95 6 = some ⟨ "Kind_", 89, 6, false, "", "", 23⟩ ∧
  fieldOf Try.prog 95 7 = some ⟨ "Equal", 90, 7, false, "", "", 24⟩ ∧
  fieldOf Try.prog 95 8 = some ⟨ "GCData", 91, 8, false, "", "", 32⟩ ∧
  fieldOf Try.prog 95 9 = some ⟨ "Str", 92, 9, false, "", "", 40⟩ ∧
  fieldOf Try.prog 95 10 = some ⟨ "PtrToThis", 93, 10, false, "", "", 44⟩ ∧
  fieldOf Try.prog 96 0 = some ⟨ "s", 9, 0, false, "", "errors", 0⟩ ∧
  fieldOf Try.prog 97 0 = some ⟨ "s", 9, 0, false, "", "errors", 0⟩ :=
  ⟨field81_3, field82_0, field82_1, field82_2, field82_3, field94_0, field94_1, field94_2, field94_3, field94_4, field94_5, field94_6, field94_7, field94_8, field94_9, field94_10, field95_0, field95_1, field95_2, field95_3, field95_4, field95_5, field95_6, field95_7, field95_8, field95_9, field95_10, field96_0, field97_0⟩
def und0 := And.intro @Try.underlying2 (And.intro @Try.underlying3 (And.intro @Try.underlying4 (And.intro @Try.underlying5 (And.intro @Try.underlying6 (And.intro @Try.underlying9 (And.intro @Try.underlying12 (And.intro @Try.underlying21 (And.intro @Try.underlying22 (And.intro @Try.underlying24 (And.intro @Try.underlying27 @Try.underlying33))))))))))
def und1 := And.intro @Try.underlying34 (And.intro @Try.underlying38 (And.intro @Try.underlying42 (And.intro @Try.underlying48 (And.intro @Try.underlying50 (And.intro @Try.underlying57 (And.intro @Try.underlying58 (And.intro @Try.underlying59 (And.intro @Try.underlying61 (And.intro @Try.underlying69 (And.intro @Try.underlying79 @Try.underlying81))))))))))
def und2 := And.intro @Try.underlying82 (And.intro @Try.underlying87 (And.intro @Try.underlying88 (And.intro @Try.underlying89 (And.intro @Try.underlying91 (And.intro @Try.underlying92 (And.intro @Try.underlying93 (And.intro @Try.underlying94 (And.intro @Try.underlying95 (And.intro @Try.underlying96 @Try.underlying97)))))))))
theorem go3 : isGo Try.prog 3 := by unfold isGo; rw [Try.func3]; exact ⟨rfl, by kernel_rfl⟩
theorem go4 : isGo Try.prog 4 := by unfold isGo; rw [Try.func4]; exact ⟨rfl, by kernel_rfl⟩
theorem go5 : isGo Try.prog 5 := by unfold isGo; rw [Try.func5]; exact ⟨rfl, by kernel_rfl⟩
theorem go6 : isGo Try.prog 6 := by unfold isGo; rw [Try.func6]; exact ⟨rfl, by kernel_rfl⟩
theorem go7 : isGo Try.prog 7 := by unfold isGo; rw [Try.func7]; exact ⟨rfl, by kernel_rfl⟩
theorem go8 : isGo Try.prog 8 := by unfold isGo; rw [Try.func8]; exact ⟨rfl, by kernel_rfl⟩
theorem go9 : isGo Try.prog 9 := by unfold isGo; rw [Try.func9]; exact ⟨rfl, by kernel_rfl⟩
theorem go10 : isGo Try.prog 10 := by unfold isGo; rw [Try.func10]; exact ⟨rfl, by kernel_rfl⟩
theorem go11 : isGo Try.prog 11 := by unfold isGo; rw [Try.func11]; exact ⟨rfl, by kernel_rfl⟩
theorem go12 : isGo Try.prog 12 := by unfold isGo; rw [Try.func12]; exact ⟨rfl, by kernel_rfl⟩
theorem go13 : isGo Try.prog 13 := by unfold isGo; rw [Try.func13]; exact ⟨rfl, by kernel_rfl⟩
theorem go14 : isGo Try.prog 14 := by unfold isGo; rw [Try.func14]; exact ⟨rfl, by kernel_rfl⟩
theorem go15 : isGo Try.prog 15 := by unfold isGo; rw [Try.func15]; exact ⟨rfl, by kernel_rfl⟩
theorem go16 : isGo Try.prog 16 := by unfold isGo; rw [Try.func16]; exact ⟨rfl, by kernel_rfl⟩
theorem go17 : isGo Try.prog 17 := by unfold isGo; rw [Try.func17]; exact ⟨rfl, by kernel_rfl⟩
theorem go18 : isGo Try.prog 18 := by unfold isGo; rw [Try.func18]; exact ⟨rfl, by kernel_rfl⟩
theorem go19 : isGo Try.prog 19 := by unfold isGo; rw [Try.func19]; exact ⟨rfl, by kernel_rfl⟩
theorem go20 : isGo Try.prog 20 := by unfold isGo; rw [Try.func20]; exact ⟨rfl, by kernel_rfl⟩
theorem go21 : isGo Try.prog 21 := by unfold isGo; rw [Try.func21]; exact ⟨rfl, by kernel_rfl⟩
theorem go22 : isGo Try.prog 22 := by unfold isGo; rw [Try.func22]; exact ⟨rfl, by kernel_rfl⟩
theorem go23 : isGo Try.prog 23 := by unfold isGo; rw [Try.func23]; exact ⟨rfl, by kernel_rfl⟩
theorem go24 : isGo Try.prog 24 := by unfold isGo; rw [Try.func24]; exact ⟨rfl, by kernel_rfl⟩
theorem go25 : isGo Try.prog 25 := by unfold isGo; rw [Try.func25]; exact ⟨rfl, by kernel_rfl⟩
theorem go26 : isGo Try.prog 26 := by unfold isGo; rw [Try.func26]; exact ⟨rfl, by kernel_rfl⟩
theorem go27 : isGo Try.prog 27 := by unfold isGo; rw [Try.func27]; exact ⟨rfl, by kernel_rfl⟩
theorem go28 : isGo Try.prog 28 := by unfold isGo; rw [Try.func28]; exact ⟨rfl, by kernel_rfl⟩
theorem go29 : isGo Try.prog 29 := by unfold isGo; rw [Try.func29]; exact ⟨rfl, by kernel_rfl⟩
theorem go30 : isGo Try.prog 30 := by unfold isGo; rw [Try.func30]; exact ⟨rfl, by kernel_rfl⟩
theorem go31 : isGo Try.prog 31 := by unfold isGo; rw [Try.func31]; exact ⟨rfl, by kernel_rfl⟩
theorem go32 : isGo Try.prog 32 := by unfold isGo; rw [Try.func32]; exact ⟨rfl, by kernel_rfl⟩
theorem go33 : isGo Try.prog 33 := by unfold isGo; rw [Try.func33]; exact ⟨rfl, by kernel_rfl⟩
theorem go34 : isGo Try.prog 34 := by unfold isGo; rw [Try.func34]; exact ⟨rfl, by kernel_rfl⟩
theorem go35 : isGo Try.prog 35 := by unfold isGo; rw [Try.func35]; exact ⟨rfl, by kernel_rfl⟩
theorem go36 : isGo Try.prog 36 := by unfold isGo; rw [Try.func36]; exact ⟨rfl, by kernel_rfl⟩
theorem go37 : isGo Try.prog 37 := by unfold isGo; rw [Try.func37]; exact ⟨rfl, by kernel_rfl⟩
theorem go38 : isGo Try.prog 38 := by unfold isGo; rw [Try.func38]; exact ⟨rfl, by kernel_rfl⟩
theorem go39 : isGo Try.prog 39 := by unfold isGo; rw [Try.func39]; exact ⟨rfl, by kernel_rfl⟩
theorem go40 : isGo Try.prog 40 := by unfold isGo; rw [Try.func40]; exact ⟨rfl, by kernel_rfl⟩
theorem go41 : isGo Try.prog 41 := by unfold isGo; rw [Try.func41]; exact ⟨rfl, by kernel_rfl⟩
theorem go42 : isGo Try.prog 42 := by unfold isGo; rw [Try.func42]; exact ⟨rfl, by kernel_rfl⟩
theorem go43 : isGo Try.prog 43 := by unfold isGo; rw [Try.func43]; exact ⟨rfl, by kernel_rfl⟩
theorem go44 : isGo Try.prog 44 := by unfold isGo; rw [Try.func44]; exact ⟨rfl, by kernel_rfl⟩
theorem go45 : isGo Try.prog 45 := by unfold isGo; rw [Try.func45]; exact ⟨rfl, by kernel_rfl⟩
theorem go46 : isGo Try.prog 46 := by unfold isGo; rw [Try.func46]; exact ⟨rfl, by kernel_rfl⟩
theorem go47 : isGo Try.prog 47 := by unfold isGo; rw [Try.func47]; exact ⟨rfl, by kernel_rfl⟩
theorem go49 : isGo Try.prog 49 := by unfold isGo; rw [Try.func49]; exact ⟨rfl, by kernel_rfl⟩
theorem go51 : isGo Try.prog 51 := by unfold isGo; rw [Try.func51]; exact ⟨rfl, by kernel_rfl⟩
theorem go52 : isGo Try.prog 52 := by unfold isGo; rw [Try.func52]; exact ⟨rfl, by kernel_rfl⟩
theorem go53 : isGo Try.prog 53 := by unfold isGo; rw [Try.func53]; exact ⟨rfl, by kernel_rfl⟩
theorem go54 : isGo Try.prog 54 := by unfold isGo; rw [Try.func54]; exact ⟨rfl, by kernel_rfl⟩
theorem go57 : isGo Try.prog 57 := by unfold isGo; rw [Try.func57]; exact ⟨rfl, by kernel_rfl⟩
def md3 : Nat → List Bool
  | 14 => [false, false, false, false, false, false, false, false, false, false, false, false, false, false, false, false, false]
  | 32 => [false, false, false, false, false, false, false, false, false, false, false, false, false, false, false, false, false, false, false, false, false, false, false, false, false, false, false, false, false, false, false, false, false, false, false, false, false]
  | _ => []
def md4 : Nat → List Bool := fun _ => []
def md5 : Nat → List Bool := fun _ => []
def md6 : Nat → List Bool := fun _ => []
def md7 : Nat → List Bool := fun _ => []
def md8 : Nat → List Bool
  | 23 => [false, false, false, false, false, false, false, false, false, false, false, false, false, false, false, false, false, false, false]
  | _ => []
def md9 : Nat → List Bool := fun _ => []
def md10 : Nat → List Bool
  | 6 => [false, false, false, false, false, false, false, false, false]
  | _ => []
def md11 : Nat → List Bool := fun _ => []
def md12 : Nat → List Bool
  | 19 => [false, false, false, false, false]
  | _ => []
def md13 : Nat → List Bool
  | 20 => [false, false, false, false, false, false, false, false, false, false]
  | _ => []
def md14 : Nat → List Bool := fun _ => []
def md15 : Nat → List Bool
  | 12 => [false, false, false, false, false, false, false, false, false, false, false, false, false, false, false, false, false, false, false, false]
  | _ => []
def md16 : Nat → List Bool := fun _ => []
def md17 : Nat → List Bool := fun _ => []
def md18 : Nat → List Bool := fun _ => []
def md19 : Nat → List Bool := fun _ => []
def md20 : Nat → List Bool := fun _ => []
def md21 : Nat → List Bool := fun _ => []
def md22 : Nat → List Bool := fun _ => []
def md23 : Nat → List Bool := fun _ => []
def md24 : Nat → List Bool := fun _ => []
def md25 : Nat → List Bool := fun _ => []
def md26 : Nat → List Bool
  | 9 => [false, false, false, false, false, false, false, false, false, false, false, false, false, false, false]
  | 20 => [false, false, false, false, false, false, false, false, false]
  | _ => []
def md27 : Nat → List Bool
  | 1 => [false, false, false, false, false, false, false, false, false, false, false, false, false]
  | 2 => [false, false, false, false, false, false, false, false, false, false]
  | 3 => [false, false, false, false, false, false, false, false, false, false]
  | _ => []
def md28 : Nat → List Bool := fun _ => []
def md29 : Nat → List Bool := fun _ => []
def md30 : Nat → List Bool := fun _ => []
def md31 : Nat → List Bool := fun _ => []
def md32 : Nat → List Bool := fun _ => []
def md33 : Nat → List Bool := fun _ => []
def md34 : Nat → List Bool := fun _ => []
def md35 : Nat → List Bool
  | 0 => [false, false, false, false, false, false, false, false, false, false]
  | _ => []
def md36 : Nat → List Bool := fun _ => []
def md37 : Nat → List Bool := fun _ => []
def md38 : Nat → List Bool
  | 2 => [false, false, false, false, false, false, false, false, false, false]
  | 3 => [false, false, false, false, false, false, false, false, false, false, false, false]
  | 6 => [false, false, false, false, false, false, false, false, false, false]
  | _ => []
def md39 : Nat → List Bool := fun _ => []
def md40 : Nat → List Bool
  | 6 => [false, false, false, false, false, false, false, false]
  | _ => []
def md41 : Nat → List Bool
  | 1 => [false, false, false, false, false, false, false, false, false, false]
  | 3 => [false, false, false, false, false, false, false, false, false, false]
  | _ => []
def md42 : Nat → List Bool := fun _ => []
def md43 : Nat → List Bool := fun _ => []
def md44 : Nat → List Bool := fun _ => []
def md45 : Nat → List Bool := fun _ => []
def md46 : Nat → List Bool := fun _ => []
def md47 : Nat → List Bool := fun _ => []
def md49 : Nat → List Bool
  | 4 => [false, false, false, false, false, false, false, false, false, false, false, false, false, false, false, false, false]
  | _ => []
def md51 : Nat → List Bool := fun _ => []
def md52 : Nat → List Bool := fun _ => []
def md53 : Nat → List Bool := fun _ => []
def md54 : Nat → List Bool := fun _ => []
def md57 : Nat → List Bool := fun _ => []
end Go.Proofs.Ytimnfechlomkpaa
