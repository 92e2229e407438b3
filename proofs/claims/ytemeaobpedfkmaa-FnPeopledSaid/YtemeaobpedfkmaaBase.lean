/- Closed facts of the program, for the abstract layer: types and functions. Printed by gen_base.py. -/
import Derived.Test.YtemeaobpedfkmaaProg
import Derived.Test.YtemeaobpedfkmaaAbsM4
set_option linter.unusedVariables false
set_option linter.defProp false
namespace Go.Proofs.Ytemeaobpedfkmaa
open Go Go.Abs

def zq0 := (And.intro @List.getD_cons_succ.{0} (And.intro @List.getD_cons_zero.{0} (And.intro @List.length_cons.{0} (And.intro @List.length_nil.{0} (And.intro @List.replicate_succ.{0} (And.intro @List.replicate_zero.{0} (And.intro @List.cons_append.{0} (And.intro @List.nil_append.{0} (And.intro @List.append_nil.{0} (And.intro @List.set_cons_succ.{0} (And.intro @List.set_cons_zero.{0} @true_and)))))))))))
def zq1 := (And.intro @and_true (And.intro @List.map_cons.{0,0} (And.intro @List.map_nil.{0,0} (And.intro @Int.toNat_natCast (And.intro @Int.natCast_nonneg (And.intro @exists_prop (And.intro @List.getElem_cons_zero.{0} (And.intro @List.getElem_cons_succ.{0} (And.intro @List.getElem?_cons_zero.{0} (And.intro @List.getElem?_cons_succ.{0} (And.intro @Nat.zero_lt_one @Option.bind_some.{0,0})))))))))))
def zq2 := (And.intro @Option.map_some.{0,0} (And.intro @Option.map_none.{0,0} (And.intro @Bool.not_true (And.intro @Bool.not_false (And.intro @List.all_cons.{0} (And.intro @List.all_nil.{0} (And.intro @Bool.and_true (And.intro @Bool.true_and (And.intro @List.take_zero.{0} (And.intro @List.drop_zero.{0} (And.intro @List.drop_succ_cons.{0} @List.take_succ_cons.{0})))))))))))
def zq3 := (And.intro @Nat.zero_add (And.intro @Nat.add_zero (And.intro @List.getElem?_toArray.{0} (And.intro @ge_iff_le.{0} (And.intro @gt_iff_lt.{0} (And.intro @Nat.le_refl (And.intro @Bool.false_eq_true (And.intro @Bool.not_eq_true (And.intro @Nat.succ_ne_self (And.intro @Option.some.injEq.{0} (And.intro @List.forall_mem_cons.{0} @List.not_mem_nil.{0})))))))))))
def zq4 := @false_implies

theorem mixed : Try.prog.follows .mixedOrders = true := by kernel_rfl
theorem cells2 : Try.prog.cellsOf 2 = 1 := by kernel_rfl
theorem bytes2 : Try.prog.bytesOf 2 = 8 := by kernel_rfl
theorem zero2 : zeroOf Try.prog 2 = .int .i64 0 := by kernel_rfl
theorem cells3 : Try.prog.cellsOf 3 = 1 := by kernel_rfl
theorem bytes3 : Try.prog.bytesOf 3 = 8 := by kernel_rfl
theorem zero3 : zeroOf Try.prog 3 = .int .i64 0 := by kernel_rfl
theorem cells4 : Try.prog.cellsOf 4 = 1 := by kernel_rfl
theorem bytes4 : Try.prog.bytesOf 4 = 1 := by kernel_rfl
theorem zero4 : zeroOf Try.prog 4 = .bool false := by kernel_rfl
theorem cells5 : Try.prog.cellsOf 5 = 1 := by kernel_rfl
theorem bytes5 : Try.prog.bytesOf 5 = 1 := by kernel_rfl
theorem zero5 : zeroOf Try.prog 5 = .int .u8 0 := by kernel_rfl
theorem cells6 : Try.prog.cellsOf 6 = 1 := by kernel_rfl
theorem bytes6 : Try.prog.bytesOf 6 = 1 := by kernel_rfl
theorem zero6 : zeroOf Try.prog 6 = .int .u8 0 := by kernel_rfl
theorem cells9 : Try.prog.cellsOf 9 = 1 := by kernel_rfl
theorem bytes9 : Try.prog.bytesOf 9 = 16 := by kernel_rfl
theorem zero9 : zeroOf Try.prog 9 = .str [] := by kernel_rfl
theorem cells12 : Try.prog.cellsOf 12 = 1 := by kernel_rfl
theorem bytes12 : Try.prog.bytesOf 12 = 8 := by kernel_rfl
theorem zero12 : zeroOf Try.prog 12 = .int .u64 0 := by kernel_rfl
theorem cells21 : Try.prog.cellsOf 21 = 1 := by kernel_rfl
theorem bytes21 : Try.prog.bytesOf 21 = 4 := by kernel_rfl
theorem zero21 : zeroOf Try.prog 21 = .int .i32 0 := by kernel_rfl
theorem cells22 : Try.prog.cellsOf 22 = 1 := by kernel_rfl
theorem bytes22 : Try.prog.bytesOf 22 = 24 := by kernel_rfl
theorem zero22 : zeroOf Try.prog 22 = .nils := by kernel_rfl
theorem cells24 : Try.prog.cellsOf 24 = 1 := by kernel_rfl
theorem bytes24 : Try.prog.bytesOf 24 = 24 := by kernel_rfl
theorem zero24 : zeroOf Try.prog 24 = .nils := by kernel_rfl
theorem cells25 : Try.prog.cellsOf 25 = 3 := by kernel_rfl
theorem bytes25 : Try.prog.bytesOf 25 = 72 := by kernel_rfl
theorem zero25 : zeroOf Try.prog 25 = .agg [.nils, .nils, .nils] := by kernel_rfl
theorem cells26 : Try.prog.cellsOf 26 = 3 := by kernel_rfl
theorem bytes26 : Try.prog.bytesOf 26 = 72 := by kernel_rfl
theorem zero26 : zeroOf Try.prog 26 = .agg [.nils, .nils, .nils] := by kernel_rfl
theorem cells35 : Try.prog.cellsOf 35 = 1 := by kernel_rfl
theorem bytes35 : Try.prog.bytesOf 35 = 4 := by kernel_rfl
theorem zero35 : zeroOf Try.prog 35 = .flt .f32 0 := by kernel_rfl
theorem cells40 : Try.prog.cellsOf 40 = 1 := by kernel_rfl
theorem bytes40 : Try.prog.bytesOf 40 = 8 := by kernel_rfl
theorem zero40 : zeroOf Try.prog 40 = .flt .f64 0 := by kernel_rfl
theorem cells45 : Try.prog.cellsOf 45 = 1 := by kernel_rfl
theorem bytes45 : Try.prog.bytesOf 45 = 8 := by kernel_rfl
theorem zero45 : zeroOf Try.prog 45 = .cpx .f32 0 0 := by kernel_rfl
theorem cells50 : Try.prog.cellsOf 50 = 1 := by kernel_rfl
theorem bytes50 : Try.prog.bytesOf 50 = 8 := by kernel_rfl
theorem zero50 : zeroOf Try.prog 50 = .nilp := by kernel_rfl
theorem cells57 : Try.prog.cellsOf 57 = 1 := by kernel_rfl
theorem bytes57 : Try.prog.bytesOf 57 = 8 := by kernel_rfl
theorem zero57 : zeroOf Try.prog 57 = .nilp := by kernel_rfl
theorem cells69 : Try.prog.cellsOf 69 = 1 := by kernel_rfl
theorem bytes69 : Try.prog.bytesOf 69 = 8 := by kernel_rfl
theorem zero69 : zeroOf Try.prog 69 = .int .u64 0 := by kernel_rfl
theorem cells70 : Try.prog.cellsOf 70 = 3 := by kernel_rfl
theorem bytes70 : Try.prog.bytesOf 70 = 40 := by kernel_rfl
theorem zero70 : zeroOf Try.prog 70 = .agg [.nils, .int .i64 0, .int .u64 0] := by kernel_rfl
theorem cells71 : Try.prog.cellsOf 71 = 3 := by kernel_rfl
theorem bytes71 : Try.prog.bytesOf 71 = 40 := by kernel_rfl
theorem zero71 : zeroOf Try.prog 71 = .agg [.nils, .int .i64 0, .int .u64 0] := by kernel_rfl
theorem cells82 : Try.prog.cellsOf 82 = 1 := by kernel_rfl
theorem bytes82 : Try.prog.bytesOf 82 = 16 := by kernel_rfl
theorem zero82 : zeroOf Try.prog 82 = .cpx .f64 0 0 := by kernel_rfl
theorem cells90 : Try.prog.cellsOf 90 = 1 := by kernel_rfl
theorem bytes90 : Try.prog.bytesOf 90 = 4 := by kernel_rfl
theorem zero90 : zeroOf Try.prog 90 = .int .u32 0 := by kernel_rfl
theorem cells92 : Try.prog.cellsOf 92 = 1 := by kernel_rfl
theorem bytes92 : Try.prog.bytesOf 92 = 8 := by kernel_rfl
theorem zero92 : zeroOf Try.prog 92 = .int .u64 0 := by kernel_rfl
theorem cells97 : Try.prog.cellsOf 97 = 4 := by kernel_rfl
theorem bytes97 : Try.prog.bytesOf 97 = 40 := by kernel_rfl
theorem zero97 : zeroOf Try.prog 97 = .agg [.nilp, .nilp, .nilp, .str []] := by kernel_rfl
theorem cells98 : Try.prog.cellsOf 98 = 4 := by kernel_rfl
theorem bytes98 : Try.prog.bytesOf 98 = 40 := by kernel_rfl
theorem zero98 : zeroOf Try.prog 98 = .agg [.nilp, .nilp, .nilp, .str []] := by kernel_rfl
theorem cells103 : Try.prog.cellsOf 103 = 1 := by kernel_rfl
theorem bytes103 : Try.prog.bytesOf 103 = 1 := by kernel_rfl
theorem zero103 : zeroOf Try.prog 103 = .int .u8 0 := by kernel_rfl
theorem cells104 : Try.prog.cellsOf 104 = 1 := by kernel_rfl
theorem bytes104 : Try.prog.bytesOf 104 = 1 := by kernel_rfl
theorem zero104 : zeroOf Try.prog 104 = .int .u8 0 := by kernel_rfl
theorem cells106 : Try.prog.cellsOf 106 = 1 := by kernel_rfl
theorem bytes106 : Try.prog.bytesOf 106 = 8 := by kernel_rfl
theorem zero106 : zeroOf Try.prog 106 = .nilp := by kernel_rfl
theorem cells107 : Try.prog.cellsOf 107 = 1 := by kernel_rfl
theorem bytes107 : Try.prog.bytesOf 107 = 4 := by kernel_rfl
theorem zero107 : zeroOf Try.prog 107 = .int .i32 0 := by kernel_rfl
theorem cells108 : Try.prog.cellsOf 108 = 1 := by kernel_rfl
theorem bytes108 : Try.prog.bytesOf 108 = 4 := by kernel_rfl
theorem zero108 : zeroOf Try.prog 108 = .int .i32 0 := by kernel_rfl
theorem cells109 : Try.prog.cellsOf 109 = 11 := by kernel_rfl
theorem bytes109 : Try.prog.bytesOf 109 = 48 := by kernel_rfl
theorem zero109 : zeroOf Try.prog 109 = .agg [.int .u64 0, .int .u64 0, .int .u32 0, .int .u8 0, .int .u8 0, .int .u8 0, .int .u8 0, .nilf, .nilp, .int .i32 0, .int .i32 0] := by kernel_rfl
theorem cells110 : Try.prog.cellsOf 110 = 11 := by kernel_rfl
theorem bytes110 : Try.prog.bytesOf 110 = 48 := by kernel_rfl
theorem zero110 : zeroOf Try.prog 110 = .agg [.int .u64 0, .int .u64 0, .int .u32 0, .int .u8 0, .int .u8 0, .int .u8 0, .int .u8 0, .nilf, .nilp, .int .i32 0, .int .i32 0] := by kernel_rfl
theorem field25_0 : fieldOf Try.prog 25 0 = some ⟨ "Counts", 24, 0, false, "", "", 0⟩ := by kernel_rfl
theorem field25_1 : fieldOf Try.prog 25 1 = some ⟨ "Stays", 24, 1, false, "", "", 24⟩ := by kernel_rfl
theorem field25_2 : fieldOf Try.prog 25 2 = some ⟨ "Births", 24, 2, false, "", "", 48⟩ := by kernel_rfl
theorem field26_0 : fieldOf Try.prog 26 0 = some ⟨ "Counts", 24, 0, false, "", "", 0⟩ := by kernel_rfl
theorem field26_1 : fieldOf Try.prog 26 1 = some ⟨ "Stays", 24, 1, false, "", "", 24⟩ := by kernel_rfl
theorem field26_2 : fieldOf Try.prog 26 2 = some ⟨ "Births", 24, 2, false, "", "", 48⟩ := by kernel_rfl
theorem field70_0 : fieldOf Try.prog 70 0 = some ⟨ "code", 22, 0, false, "", "loop.example/g01393/spec", 0⟩ := by kernel_rfl
theorem field70_1 : fieldOf Try.prog 70 1 = some ⟨ "at", 3, 1, false, "", "loop.example/g01393/spec", 24⟩ := by kernel_rfl
theorem field70_2 : fieldOf Try.prog 70 2 = some ⟨ "seed", 69, 2, false, "", "loop.example/g01393/spec", 32⟩ := by kernel_rfl
theorem field71_0 : fieldOf Try.prog 71 0 = some ⟨ "code", 22, 0, false, "", "loop.example/g01393/spec", 0⟩ := by kernel_rfl
theorem field71_1 : fieldOf Try.prog 71 1 = some ⟨ "at", 3, 1, false, "", "loop.example/g01393/spec", 24⟩ := by kernel_rfl
theorem field71_2 : fieldOf Try.prog 71 2 = some ⟨ "seed", 69, 2, false, "", "loop.example/g01393/spec", 32⟩ := by kernel_rfl
theorem field97_0 : fieldOf Try.prog 97 0 = some ⟨ "_interface", 17, 0, false, "", "runtime", 0⟩ := by kernel_rfl
theorem field97_1 : fieldOf Try.prog 97 1 = some ⟨ "concrete", 17, 1, false, "", "runtime", 8⟩ := by kernel_rfl
theorem field97_2 : fieldOf Try.prog 97 2 = some ⟨ "asserted", 17, 2, false, "", "runtime", 16⟩ := by kernel_rfl
theorem field97_3 : fieldOf Try.prog 97 3 = some ⟨ "missingMethod", 9, 3, false, "", "runtime", 24⟩ := by kernel_rfl
theorem field98_0 : fieldOf Try.prog 98 0 = some ⟨ "_interface", 17, 0, false, "", "runtime", 0⟩ := by kernel_rfl
theorem field98_1 : fieldOf Try.prog 98 1 = some ⟨ "concrete", 17, 1, false, "", "runtime", 8⟩ := by kernel_rfl
theorem field98_2 : fieldOf Try.prog 98 2 = some ⟨ "asserted", 17, 2, false, "", "runtime", 16⟩ := by kernel_rfl
theorem field98_3 : fieldOf Try.prog 98 3 = some ⟨ "missingMethod", 9, 3, false, "", "runtime", 24⟩ := by kernel_rfl
theorem field109_0 : fieldOf Try.prog 109 0 = some ⟨ "Size_", 12, 0, false, "", "", 0⟩ := by kernel_rfl
theorem field109_1 : fieldOf Try.prog 109 1 = some ⟨ "PtrBytes", 12, 1, false, "", "", 8⟩ := by kernel_rfl
theorem field109_2 : fieldOf Try.prog 109 2 = some ⟨ "Hash", 90, 2, false, "", "", 16⟩ := by kernel_rfl
theorem field109_3 : fieldOf Try.prog 109 3 = some ⟨ "TFlag", 103, 3, false, "", "", 20⟩ := by kernel_rfl
theorem field109_4 : fieldOf Try.prog 109 4 = some ⟨ "Align_", 5, 4, false, "", "", 21⟩ := by kernel_rfl
theorem field109_5 : fieldOf Try.prog 109 5 = some ⟨ "FieldAlign_", 5, 5, false, "", "", 22⟩ := by kernel_rfl
theorem field109_6 : fieldOf Try.prog 109 6 = some ⟨ "Kind_", 104, 6, false, "", "", 23⟩ := by kernel_rfl
theorem field109_7 : fieldOf Try.prog 109 7 = some ⟨ "Equal", 105, 7, false, "", "", 24⟩ := by kernel_rfl
theorem field109_8 : fieldOf Try.prog 109 8 = some ⟨ "GCData", 106, 8, false, "", "", 32⟩ := by kernel_rfl
theorem field109_9 : fieldOf Try.prog 109 9 = some ⟨ "Str", 107, 9, false, "", "", 40⟩ := by kernel_rfl
theorem field109_10 : fieldOf Try.prog 109 10 = some ⟨ "PtrToThis", 108, 10, false, "", "", 44⟩ := by kernel_rfl
theorem field110_0 : fieldOf Try.prog 110 0 = some ⟨ "Size_", 12, 0, false, "", "", 0⟩ := by kernel_rfl
theorem field110_1 : fieldOf Try.prog 110 1 = some ⟨ "PtrBytes", 12, 1, false, "", "", 8⟩ := by kernel_rfl
theorem field110_2 : fieldOf Try.prog 110 2 = some ⟨ "Hash", 90, 2, false, "", "", 16⟩ := by kernel_rfl
theorem field110_3 : fieldOf Try.prog 110 3 = some ⟨ "TFlag", 103, 3, false, "", "", 20⟩ := by kernel_rfl
theorem field110_4 : fieldOf Try.prog 110 4 = some ⟨ "Align_", 5, 4, false, "", "", 21⟩ := by kernel_rfl
theorem field110_5 : fieldOf Try.prog 110 5 = some ⟨ "FieldAlign_", 5, 5, false, "", "", 22⟩ := by kernel_rfl
theorem field110_6 : fieldOf Try.prog 110 6 = some ⟨ "Kind_", 104, 6, false, "", "", 23⟩ := by kernel_rfl
theorem field110_7 : fieldOf Try.prog 110 7 = some ⟨ "Equal", 105, 7, false, "", "", 24⟩ := by kernel_rfl
theorem field110_8 : fieldOf Try.prog 110 8 = some ⟨ "GCData", 106, 8, false, "", "", 32⟩ := by kernel_rfl
theorem field110_9 : fieldOf Try.prog 110 9 = some ⟨ "Str", 107, 9, false, "", "", 40⟩ := by kernel_rfl
theorem field110_10 : fieldOf Try.prog 110 10 = some ⟨ "PtrToThis", 108, 10, false, "", "", 44⟩ := by kernel_rfl

theorem tys0 :
  Try.prog.cellsOf 2 = 1 ∧
  Try.prog.bytesOf 2 = 8 ∧
  zeroOf Try.prog 2 = .int .i64 0 ∧
  Try.prog.cellsOf 3 = 1 ∧
  Try.prog.bytesOf 3 = 8 ∧
  zeroOf Try.prog 3 = .int .i64 0 ∧
  Try.prog.cellsOf 4 = 1 ∧
  Try.prog.bytesOf 4 = 1 ∧
  zeroOf Try.prog 4 = .bool false ∧
  Try.prog.cellsOf 5 = 1 ∧
  Try.prog.bytesOf 5 = 1 ∧
  zeroOf Try.prog 5 = .int .u8 0 ∧
  Try.prog.cellsOf 6 = 1 ∧
  Try.prog.bytesOf 6 = 1 ∧
  zeroOf Try.prog 6 = .int .u8 0 ∧
  Try.prog.cellsOf 9 = 1 ∧
  Try.prog.bytesOf 9 = 16 ∧
  zeroOf Try.prog 9 = .str [] ∧
  Try.prog.cellsOf 12 = 1 ∧
  Try.prog.bytesOf 12 = 8 ∧
  zeroOf Try.prog 12 = .int .u64 0 ∧
  Try.prog.cellsOf 21 = 1 ∧
  Try.prog.bytesOf 21 = 4 ∧
  zeroOf Try.prog 21 = .int .i32 0 ∧
  Try.prog.cellsOf 22 = 1 ∧
  Try.prog.bytesOf 22 = 24 ∧
  zeroOf Try.prog 22 = .nils ∧
  Try.prog.cellsOf 24 = 1 ∧
  Try.prog.bytesOf 24 = 24 ∧
  zeroOf Try.prog 24 = .nils ∧
  Try.prog.cellsOf 25 = 3 ∧
  Try.prog.bytesOf 25 = 72 ∧
  zeroOf Try.prog 25 = .agg [.nils, .nils, .nils] ∧
  Try.prog.cellsOf 26 = 3 ∧
  Try.prog.bytesOf 26 = 72 ∧
  zeroOf Try.prog 26 = .agg [.nils, .nils, .nils] ∧
  Try.prog.cellsOf 35 = 1 ∧
  Try.prog.bytesOf 35 = 4 ∧
  zeroOf Try.prog 35 = .flt .f32 0 ∧
  Try.prog.cellsOf 40 = 1 :=
  ⟨cells2, bytes2, zero2, cells3, bytes3, zero3, cells4, bytes4, zero4, cells5, bytes5, zero5, cells6, bytes6, zero6, cells9, bytes9, zero9, cells12, bytes12, zero12, cells21, bytes21, zero21, cells22, bytes22, zero22, cells24, bytes24, zero24, cells25, bytes25, zero25, cells26, bytes26, zero26, cells35, bytes35, zero35, cells40⟩
theorem tys1 :
  Try.prog.bytesOf 40 = 8 ∧
  zeroOf Try.prog 40 = .flt .f64 0 ∧
  Try.prog.cellsOf 45 = 1 ∧
  Try.prog.bytesOf 45 = 8 ∧
  zeroOf Try.prog 45 = .cpx .f32 0 0 ∧
  Try.prog.cellsOf 50 = 1 ∧
  Try.prog.bytesOf 50 = 8 ∧
  zeroOf Try.prog 50 = .nilp ∧
  Try.prog.cellsOf 57 = 1 ∧
  Try.prog.bytesOf 57 = 8 ∧
  zeroOf Try.prog 57 = .nilp ∧
  Try.prog.cellsOf 69 = 1 ∧
  Try.prog.bytesOf 69 = 8 ∧
  zeroOf Try.prog 69 = .int .u64 0 ∧
  Try.prog.cellsOf 70 = 3 ∧
  Try.prog.bytesOf 70 = 40 ∧
  zeroOf Try.prog 70 = .agg [.nils, .int .i64 0, .int .u64 0] ∧
  Try.prog.cellsOf 71 = 3 ∧
  Try.prog.bytesOf 71 = 40 ∧
  zeroOf Try.prog 71 = .agg [.nils, .int .i64 0, .int .u64 0] ∧
  Try.prog.cellsOf 82 = 1 ∧
  Try.prog.bytesOf 82 = 16 ∧
  zeroOf Try.prog 82 = .cpx .f64 0 0 ∧
  Try.prog.cellsOf 90 = 1 ∧
  Try.prog.bytesOf 90 = 4 ∧
  zeroOf Try.prog 90 = .int .u32 0 ∧
  Try.prog.cellsOf 92 = 1 ∧
  Try.prog.bytesOf 92 = 8 ∧
  zeroOf Try.prog 92 = .int .u64 0 ∧
  Try.prog.cellsOf 97 = 4 ∧
  Try.prog.bytesOf 97 = 40 ∧
  zeroOf Try.prog 97 = .agg [.nilp, .nilp, .nilp, .str []] ∧
  Try.prog.cellsOf 98 = 4 ∧
  Try.prog.bytesOf 98 = 40 ∧
  zeroOf Try.prog 98 = .agg [.nilp, .nilp, .nilp, .str []] ∧
  Try.prog.cellsOf 103 = 1 ∧
  Try.prog.bytesOf 103 = 1 ∧
  zeroOf Try.prog 103 = .int .u8 0 ∧
  Try.prog.cellsOf 104 = 1 ∧
  Try.prog.bytesOf 104 = 1 :=
  ⟨bytes40, zero40, cells45, bytes45, zero45, cells50, bytes50, zero50, cells57, bytes57, zero57, cells69, bytes69, zero69, cells70, bytes70, zero70, cells71, bytes71, zero71, cells82, bytes82, zero82, cells90, bytes90, zero90, cells92, bytes92, zero92, cells97, bytes97, zero97, cells98, bytes98, zero98, cells103, bytes103, zero103, cells104, bytes104⟩
theorem tys2 :
  zeroOf Try.prog 104 = .int .u8 0 ∧
  Try.prog.cellsOf 106 = 1 ∧
  Try.prog.bytesOf 106 = 8 ∧
  zeroOf Try.prog 106 = .nilp ∧
  Try.prog.cellsOf 107 = 1 ∧
  Try.prog.bytesOf 107 = 4 ∧
  zeroOf Try.prog 107 = .int .i32 0 ∧
  Try.prog.cellsOf 108 = 1 ∧
  Try.prog.bytesOf 108 = 4 ∧
  zeroOf Try.prog 108 = .int .i32 0 ∧
  Try.prog.cellsOf 109 = 11 ∧
  Try.prog.bytesOf 109 = 48 ∧
  zeroOf Try.prog 109 = .agg [.int .u64 0, .int .u64 0, .int .u32 0, .int .u8 0, .int .u8 0, .int .u8 0, .int .u8 0, .nilf, .nilp, .int .i32 0, .int .i32 0] ∧
  Try.prog.cellsOf 110 = 11 ∧
  Try.prog.bytesOf 110 = 48 ∧
  zeroOf Try.prog 110 = .agg [.int .u64 0, .int .u64 0, .int .u32 0, .int .u8 0, .int .u8 0, .int .u8 0, .int .u8 0, .nilf, .nilp, .int .i32 0, .int .i32 0] ∧
  fieldOf Try.prog 25 0 = some ⟨ "Counts", 24, 0, false, "", "", 0⟩ ∧
  fieldOf Try.prog 25 1 = some ⟨ "Stays", 24, 1, false, "", "", 24⟩ ∧
  fieldOf Try.prog 25 2 = some ⟨ "Births", 24, 2, false, "", "", 48⟩ ∧
  fieldOf Try.prog 26 0 = some ⟨ "Counts", 24, 0, false, "", "", 0⟩ ∧
  fieldOf Try.prog 26 1 = some ⟨ "Stays", 24, 1, false, "", "", 24⟩ ∧
  fieldOf Try.prog 26 2 = some ⟨ "Births", 24, 2, false, "", "", 48⟩ ∧
  fieldOf Try.prog 70 0 = some ⟨ "code", 22, 0, false, "", "loop.example/g01393/spec", 0⟩ ∧
  fieldOf Try.prog 70 1 = some ⟨ "at", 3, 1, false, "", "loop.example/g01393/spec", 24⟩ ∧
  fieldOf Try.prog 70 2 = some ⟨ "seed", 69, 2, false, "", "loop.example/g01393/spec", 32⟩ ∧
  fieldOf Try.prog 71 0 = some ⟨ "code", 22, 0, false, "", "loop.example/g01393/spec", 0⟩ ∧
  fieldOf Try.prog 71 1 = some ⟨ "at", 3, 1, false, "", "loop.example/g01393/spec", 24⟩ ∧
  fieldOf Try.prog 71 2 = some ⟨ "seed", 69, 2, false, "", "loop.example/g01393/spec", 32⟩ ∧
  fieldOf Try.prog 97 0 = some ⟨ "_interface", 17, 0, false, "", "runtime", 0⟩ ∧
  fieldOf Try.prog 97 1 = some ⟨ "concrete", 17, 1, false, "", "runtime", 8⟩ ∧
  fieldOf Try.prog 97 2 = some ⟨ "asserted", 17, 2, false, "", "runtime", 16⟩ ∧
  fieldOf Try.prog 97 3 = some ⟨ "missingMethod", 9, 3, false, "", "runtime", 24⟩ ∧
  fieldOf Try.prog 98 0 = some ⟨ "_interface", 17, 0, false, "", "runtime", 0⟩ ∧
  fieldOf Try.prog 98 1 = some ⟨ "concrete", 17, 1, false, "", "runtime", 8⟩ ∧
  fieldOf Try.prog 98 2 = some ⟨ "asserted", 17, 2, false, "", "runtime", 16⟩ ∧
  fieldOf Try.prog 98 3 = some ⟨ "missingMethod", 9, 3, false, "", "runtime", 24⟩ ∧
  fieldOf Try.prog 109 0 = some ⟨ "Size_", 12, 0, false, "", "", 0⟩ ∧
  fieldOf Try.prog 109 1 = some ⟨ "PtrBytes", 12, 1, false, "", "", 8⟩ ∧
  fieldOf Try.prog 109 2 = some ⟨ "Hash", 90, 2, false, "", "", 16⟩ ∧
  fieldOf Try.prog 109 3 = some ⟨ "TFlag", 103, 3, false, "", "", 20⟩ :=
  ⟨zero104, cells106, bytes106, zero106, cells107, bytes107, zero107, cells108, bytes108, zero108, cells109, bytes109, zero109, cells110, bytes110, zero110, field25_0, field25_1, field25_2, field26_0, field26_1, field26_2, field70_0, field70_1, field70_2, field71_0, field71_1, field71_2, field97_0, field97_1, field97_2, field97_3, field98_0, field98_1, field98_2, field98_3, field109_0, field109_1, field109_2, field109_3⟩
theorem tys3 :
  fieldOf Try.prog 109 4 = some ⟨ "Align_", 5, 4, false, "", "", 21⟩ ∧
  fieldOf Try.prog 109 5 = some ⟨ "FieldAlign_", 5, 5, false, "", "", 22⟩ ∧
  fieldOf Try.prog 109 6 = some ⟨ "Kind_", 104, 6, false, "", "", 23⟩ ∧
  fieldOf Try.prog 109 7 = some ⟨ "Equal", 105, 7, false, "", "", 24⟩ ∧
  fieldOf Try.prog 109 8 = some ⟨ "GCData", 106, 8, false, "", "", 32⟩ ∧
  fieldOf Try.prog 109 9 = some ⟨ "Str", 107, 9, false, "", "", 40⟩ ∧
  fieldOf Try.prog 109 10 = some ⟨ "PtrToThis", 108, 10, false, "", "", 44⟩ ∧
  fieldOf Try.prog 110 0 = some ⟨ "Size_", 12, 0, false, "", "", 0⟩ ∧
  fieldOf Try.prog 110 1 = some ⟨ "PtrBytes", 12, 1, false, "", "", 8⟩ ∧
  fieldOf Try.prog 110 2 = some ⟨ "Hash", 90, 2, false, "", "", 16⟩ ∧
  fieldOf Try.prog 110 3 = some ⟨ "TFlag", 103, 3, false, "", "", 20⟩ ∧
  fieldOf Try.prog 110 4 = some ⟨ "Align_", 5, 4, false, "", "", 21⟩ ∧
  fieldOf Try.prog 110 5 = some ⟨ "FieldAlign_", 5, 5, false, "", "", 22⟩ ∧
  fieldOf Try.prog 110 6 = some ⟨ "Kind_", 104, 6, false, "", "", 23⟩ ∧
  fieldOf Try.prog 110 7 = some ⟨ "Equal", 105, 7, false, "", "", 24⟩ ∧
  fieldOf Try.prog 110 8 = some ⟨ "GCData", 106, 8, false, "", "", 32⟩ ∧
  fieldOf Try.prog 110 9 = some ⟨ "Str", 107, 9, false, "", "", 40⟩ ∧
  fieldOf Try.prog 110 10 = some ⟨ "PtrToThis", 108, 10, false, "", "", 44⟩ :=
  ⟨field109_4, field109_5, field109_6, field109_7, field109_8, field109_9, field109_10, field110_0, field110_1, field110_2, field110_3, field110_4, field110_5, field110_6, field110_7, field110_8, field110_9, field110_10⟩
def und0 := And.intro @Try.underlying2 (And.intro @Try.underlying3 (And.intro @Try.underlying4 (And.intro @Try.underlying5 (And.intro @Try.underlying6 (And.intro @Try.underlying9 (And.intro @Try.underlying12 (And.intro @Try.underlying21 (And.intro @Try.underlying22 (And.intro @Try.underlying24 (And.intro @Try.underlying25 @Try.underlying26))))))))))
def und1 := And.intro @Try.underlying35 (And.intro @Try.underlying40 (And.intro @Try.underlying45 (And.intro @Try.underlying50 (And.intro @Try.underlying57 (And.intro @Try.underlying69 (And.intro @Try.underlying70 (And.intro @Try.underlying71 (And.intro @Try.underlying82 (And.intro @Try.underlying90 (And.intro @Try.underlying92 @Try.underlying97))))))))))
def und2 := And.intro @Try.underlying98 (And.intro @Try.underlying103 (And.intro @Try.underlying104 (And.intro @Try.underlying106 (And.intro @Try.underlying107 (And.intro @Try.underlying108 (And.intro @Try.underlying109 @Try.underlying110))))))
theorem go3 : isGo Try.prog 3 := by unfold isGo; rw [Try.func3]; exact ⟨rfl, by kernel_rfl⟩
theorem go4 : isGo Try.prog 4 := by unfold isGo; rw [Try.func4]; exact ⟨rfl, by kernel_rfl⟩
theorem go5 : isGo Try.prog 5 := by unfold isGo; rw [Try.func5]; exact ⟨rfl, by kernel_rfl⟩
theorem go6 : isGo Try.prog 6 := by unfold isGo; rw [Try.func6]; exact ⟨rfl, by kernel_rfl⟩
theorem go7 : isGo Try.prog 7 := by unfold isGo; rw [Try.func7]; exact ⟨rfl, by kernel_rfl⟩
theorem go8 : isGo Try.prog 8 := by unfold isGo; rw [Try.func8]; exact ⟨rfl, by kernel_rfl⟩
theorem go9 : isGo Try.prog 9 := by unfold isGo; rw [Try.func9]; exact ⟨rfl, by kernel_rfl⟩
theorem go10 : isGo Try.prog 10 := by unfold isGo; rw [Try.func10]; exact ⟨rfl, by kernel_rfl⟩
theorem go11 : isGo Try.prog 11 := by unfold isGo; rw [Try.func11]; exact ⟨rfl, by kernel_rfl⟩
theorem go12 : isGo Try.prog 12 := by unfold isGo; rw [Try.func12]; exact ⟨rfl, by kernel_rfl⟩
theorem go13 : isGo Try.prog 13 := by unfold isGo; rw [Try.func13]; exact ⟨rfl, by kernel_rfl⟩
theorem go14 : isGo Try.prog 14 := by unfold isGo; rw [Try.func14]; exact ⟨rfl, by kernel_rfl⟩
theorem go15 : isGo Try.prog 15 := by unfold isGo; rw [Try.func15]; exact ⟨rfl, by kernel_rfl⟩
theorem go16 : isGo Try.prog 16 := by unfold isGo; rw [Try.func16]; exact ⟨rfl, by kernel_rfl⟩
theorem go17 : isGo Try.prog 17 := by unfold isGo; rw [Try.func17]; exact ⟨rfl, by kernel_rfl⟩
theorem go18 : isGo Try.prog 18 := by unfold isGo; rw [Try.func18]; exact ⟨rfl, by kernel_rfl⟩
theorem go19 : isGo Try.prog 19 := by unfold isGo; rw [Try.func19]; exact ⟨rfl, by kernel_rfl⟩
theorem go20 : isGo Try.prog 20 := by unfold isGo; rw [Try.func20]; exact ⟨rfl, by kernel_rfl⟩
theorem go21 : isGo Try.prog 21 := by unfold isGo; rw [Try.func21]; exact ⟨rfl, by kernel_rfl⟩
theorem go22 : isGo Try.prog 22 := by unfold isGo; rw [Try.func22]; exact ⟨rfl, by kernel_rfl⟩
theorem go23 : isGo Try.prog 23 := by unfold isGo; rw [Try.func23]; exact ⟨rfl, by kernel_rfl⟩
theorem go24 : isGo Try.prog 24 := by unfold isGo; rw [Try.func24]; exact ⟨rfl, by kernel_rfl⟩
theorem go25 : isGo Try.prog 25 := by unfold isGo; rw [Try.func25]; exact ⟨rfl, by kernel_rfl⟩
theorem go26 : isGo Try.prog 26 := by unfold isGo; rw [Try.func26]; exact ⟨rfl, by kernel_rfl⟩
theorem go27 : isGo Try.prog 27 := by unfold isGo; rw [Try.func27]; exact ⟨rfl, by kernel_rfl⟩
theorem go28 : isGo Try.prog 28 := by unfold isGo; rw [Try.func28]; exact ⟨rfl, by kernel_rfl⟩
theorem go29 : isGo Try.prog 29 := by unfold isGo; rw [Try.func29]; exact ⟨rfl, by kernel_rfl⟩
theorem go30 : isGo Try.prog 30 := by unfold isGo; rw [Try.func30]; exact ⟨rfl, by kernel_rfl⟩
theorem go31 : isGo Try.prog 31 := by unfold isGo; rw [Try.func31]; exact ⟨rfl, by kernel_rfl⟩
theorem go32 : isGo Try.prog 32 := by unfold isGo; rw [Try.func32]; exact ⟨rfl, by kernel_rfl⟩
theorem go33 : isGo Try.prog 33 := by unfold isGo; rw [Try.func33]; exact ⟨rfl, by kernel_rfl⟩
theorem go34 : isGo Try.prog 34 := by unfold isGo; rw [Try.func34]; exact ⟨rfl, by kernel_rfl⟩
theorem go35 : isGo Try.prog 35 := by unfold isGo; rw [Try.func35]; exact ⟨rfl, by kernel_rfl⟩
theorem go36 : isGo Try.prog 36 := by unfold isGo; rw [Try.func36]; exact ⟨rfl, by kernel_rfl⟩
theorem go37 : isGo Try.prog 37 := by unfold isGo; rw [Try.func37]; exact ⟨rfl, by kernel_rfl⟩
theorem go38 : isGo Try.prog 38 := by unfold isGo; rw [Try.func38]; exact ⟨rfl, by kernel_rfl⟩
theorem go39 : isGo Try.prog 39 := by unfold isGo; rw [Try.func39]; exact ⟨rfl, by kernel_rfl⟩
theorem go40 : isGo Try.prog 40 := by unfold isGo; rw [Try.func40]; exact ⟨rfl, by kernel_rfl⟩
theorem go41 : isGo Try.prog 41 := by unfold isGo; rw [Try.func41]; exact ⟨rfl, by kernel_rfl⟩
theorem go42 : isGo Try.prog 42 := by unfold isGo; rw [Try.func42]; exact ⟨rfl, by kernel_rfl⟩
theorem go43 : isGo Try.prog 43 := by unfold isGo; rw [Try.func43]; exact ⟨rfl, by kernel_rfl⟩
theorem go44 : isGo Try.prog 44 := by unfold isGo; rw [Try.func44]; exact ⟨rfl, by kernel_rfl⟩
theorem go45 : isGo Try.prog 45 := by unfold isGo; rw [Try.func45]; exact ⟨rfl, by kernel_rfl⟩
theorem go46 : isGo Try.prog 46 := by unfold isGo; rw [Try.func46]; exact ⟨rfl, by kernel_rfl⟩
theorem go47 : isGo Try.prog 47 := by unfold isGo; rw [Try.func47]; exact ⟨rfl, by kernel_rfl⟩
theorem go48 : isGo Try.prog 48 := by unfold isGo; rw [Try.func48]; exact ⟨rfl, by kernel_rfl⟩
theorem go49 : isGo Try.prog 49 := by unfold isGo; rw [Try.func49]; exact ⟨rfl, by kernel_rfl⟩
theorem go50 : isGo Try.prog 50 := by unfold isGo; rw [Try.func50]; exact ⟨rfl, by kernel_rfl⟩
theorem go51 : isGo Try.prog 51 := by unfold isGo; rw [Try.func51]; exact ⟨rfl, by kernel_rfl⟩
theorem go52 : isGo Try.prog 52 := by unfold isGo; rw [Try.func52]; exact ⟨rfl, by kernel_rfl⟩
theorem go53 : isGo Try.prog 53 := by unfold isGo; rw [Try.func53]; exact ⟨rfl, by kernel_rfl⟩
theorem go54 : isGo Try.prog 54 := by unfold isGo; rw [Try.func54]; exact ⟨rfl, by kernel_rfl⟩
theorem go55 : isGo Try.prog 55 := by unfold isGo; rw [Try.func55]; exact ⟨rfl, by kernel_rfl⟩
theorem go56 : isGo Try.prog 56 := by unfold isGo; rw [Try.func56]; exact ⟨rfl, by kernel_rfl⟩
theorem go57 : isGo Try.prog 57 := by unfold isGo; rw [Try.func57]; exact ⟨rfl, by kernel_rfl⟩
theorem go58 : isGo Try.prog 58 := by unfold isGo; rw [Try.func58]; exact ⟨rfl, by kernel_rfl⟩
theorem go59 : isGo Try.prog 59 := by unfold isGo; rw [Try.func59]; exact ⟨rfl, by kernel_rfl⟩
theorem go60 : isGo Try.prog 60 := by unfold isGo; rw [Try.func60]; exact ⟨rfl, by kernel_rfl⟩
theorem go61 : isGo Try.prog 61 := by unfold isGo; rw [Try.func61]; exact ⟨rfl, by kernel_rfl⟩
theorem go62 : isGo Try.prog 62 := by unfold isGo; rw [Try.func62]; exact ⟨rfl, by kernel_rfl⟩
theorem go63 : isGo Try.prog 63 := by unfold isGo; rw [Try.func63]; exact ⟨rfl, by kernel_rfl⟩
theorem go64 : isGo Try.prog 64 := by unfold isGo; rw [Try.func64]; exact ⟨rfl, by kernel_rfl⟩
theorem go65 : isGo Try.prog 65 := by unfold isGo; rw [Try.func65]; exact ⟨rfl, by kernel_rfl⟩
theorem go66 : isGo Try.prog 66 := by unfold isGo; rw [Try.func66]; exact ⟨rfl, by kernel_rfl⟩
theorem go67 : isGo Try.prog 67 := by unfold isGo; rw [Try.func67]; exact ⟨rfl, by kernel_rfl⟩
theorem go68 : isGo Try.prog 68 := by unfold isGo; rw [Try.func68]; exact ⟨rfl, by kernel_rfl⟩
theorem go69 : isGo Try.prog 69 := by unfold isGo; rw [Try.func69]; exact ⟨rfl, by kernel_rfl⟩
theorem go70 : isGo Try.prog 70 := by unfold isGo; rw [Try.func70]; exact ⟨rfl, by kernel_rfl⟩
theorem go71 : isGo Try.prog 71 := by unfold isGo; rw [Try.func71]; exact ⟨rfl, by kernel_rfl⟩
theorem go72 : isGo Try.prog 72 := by unfold isGo; rw [Try.func72]; exact ⟨rfl, by kernel_rfl⟩
theorem go73 : isGo Try.prog 73 := by unfold isGo; rw [Try.func73]; exact ⟨rfl, by kernel_rfl⟩
theorem go74 : isGo Try.prog 74 := by unfold isGo; rw [Try.func74]; exact ⟨rfl, by kernel_rfl⟩
theorem go75 : isGo Try.prog 75 := by unfold isGo; rw [Try.func75]; exact ⟨rfl, by kernel_rfl⟩
theorem go76 : isGo Try.prog 76 := by unfold isGo; rw [Try.func76]; exact ⟨rfl, by kernel_rfl⟩
theorem go77 : isGo Try.prog 77 := by unfold isGo; rw [Try.func77]; exact ⟨rfl, by kernel_rfl⟩
theorem go78 : isGo Try.prog 78 := by unfold isGo; rw [Try.func78]; exact ⟨rfl, by kernel_rfl⟩
theorem go79 : isGo Try.prog 79 := by unfold isGo; rw [Try.func79]; exact ⟨rfl, by kernel_rfl⟩
theorem go80 : isGo Try.prog 80 := by unfold isGo; rw [Try.func80]; exact ⟨rfl, by kernel_rfl⟩
theorem go81 : isGo Try.prog 81 := by unfold isGo; rw [Try.func81]; exact ⟨rfl, by kernel_rfl⟩
theorem go82 : isGo Try.prog 82 := by unfold isGo; rw [Try.func82]; exact ⟨rfl, by kernel_rfl⟩
theorem go83 : isGo Try.prog 83 := by unfold isGo; rw [Try.func83]; exact ⟨rfl, by kernel_rfl⟩
theorem go84 : isGo Try.prog 84 := by unfold isGo; rw [Try.func84]; exact ⟨rfl, by kernel_rfl⟩
theorem go85 : isGo Try.prog 85 := by unfold isGo; rw [Try.func85]; exact ⟨rfl, by kernel_rfl⟩
theorem go87 : isGo Try.prog 87 := by unfold isGo; rw [Try.func87]; exact ⟨rfl, by kernel_rfl⟩
def md3 : Nat → List Bool := fun _ => []
def md4 : Nat → List Bool := fun _ => []
def md5 : Nat → List Bool
  | 3 => [false, false, false, false, false, false, false, false, true]
  | 4 => [false, false, false, false, false, false, false, false, true]
  | _ => []
def md6 : Nat → List Bool := fun _ => []
def md7 : Nat → List Bool := fun _ => []
def md8 : Nat → List Bool := fun _ => []
def md9 : Nat → List Bool := fun _ => []
def md10 : Nat → List Bool := fun _ => []
def md11 : Nat → List Bool := fun _ => []
def md12 : Nat → List Bool
  | 6 => [false, false, false, false, false, false, false, false, false, false]
  | _ => []
def md13 : Nat → List Bool := fun _ => []
def md14 : Nat → List Bool
  | 23 => [false, false, false, false, false, false]
  | _ => []
def md15 : Nat → List Bool := fun _ => []
def md16 : Nat → List Bool := fun _ => []
def md17 : Nat → List Bool := fun _ => []
def md18 : Nat → List Bool
  | 7 => [false, false, false, false, false, false, false, false, false, false, false, false, false, false, false, true]
  | 11 => [false, false, false, false, false, false, false, false, false, false, false, false, false, false, false, true]
  | _ => []
def md19 : Nat → List Bool
  | 12 => [false, false, false, false, false, false, false, false, false, false, false, false, false, false, false, true]
  | _ => []
def md20 : Nat → List Bool
  | 9 => [false, false, false, false, false, false, false, false, false, false, false, false, false]
  | _ => []
def md21 : Nat → List Bool := fun _ => []
def md22 : Nat → List Bool := fun _ => []
def md23 : Nat → List Bool := fun _ => []
def md24 : Nat → List Bool
  | 3 => [false, false, false, false, false, false, false, false, false, false, false, false, false]
  | _ => []
def md25 : Nat → List Bool := fun _ => []
def md26 : Nat → List Bool := fun _ => []
def md27 : Nat → List Bool := fun _ => []
def md28 : Nat → List Bool := fun _ => []
def md29 : Nat → List Bool
  | 6 => [false, false, false, false, false, false, false, false, false, false, false, false, false, false]
  | 8 => [false, false, false, false, false, false, false, false, false, false, false, false, false, false]
  | _ => []
def md30 : Nat → List Bool := fun _ => []
def md31 : Nat → List Bool := fun _ => []
def md32 : Nat → List Bool := fun _ => []
def md33 : Nat → List Bool := fun _ => []
def md34 : Nat → List Bool := fun _ => []
def md35 : Nat → List Bool := fun _ => []
def md36 : Nat → List Bool := fun _ => []
def md37 : Nat → List Bool := fun _ => []
def md38 : Nat → List Bool := fun _ => []
def md39 : Nat → List Bool := fun _ => []
def md40 : Nat → List Bool := fun _ => []
def md41 : Nat → List Bool := fun _ => []
def md42 : Nat → List Bool := fun _ => []
def md43 : Nat → List Bool := fun _ => []
def md44 : Nat → List Bool := fun _ => []
def md45 : Nat → List Bool
  | 6 => [false, false, false, false, false, false, false, false, false, false, false, false, false, false, false]
  | 12 => [false, false, false, false, false, false, false, false, false, false, false, false, false, false, false]
  | 14 => [false, false, false, false, false, false, false, false, false, false, false, false, false, false, false]
  | _ => []
def md46 : Nat → List Bool := fun _ => []
def md47 : Nat → List Bool := fun _ => []
def md48 : Nat → List Bool := fun _ => []
def md49 : Nat → List Bool := fun _ => []
def md50 : Nat → List Bool := fun _ => []
def md51 : Nat → List Bool := fun _ => []
def md52 : Nat → List Bool := fun _ => []
def md53 : Nat → List Bool := fun _ => []
def md54 : Nat → List Bool := fun _ => []
def md55 : Nat → List Bool := fun _ => []
def md56 : Nat → List Bool := fun _ => []
def md57 : Nat → List Bool := fun _ => []
def md58 : Nat → List Bool := fun _ => []
def md59 : Nat → List Bool := fun _ => []
def md60 : Nat → List Bool := fun _ => []
def md61 : Nat → List Bool := fun _ => []
def md62 : Nat → List Bool := fun _ => []
def md63 : Nat → List Bool := fun _ => []
def md64 : Nat → List Bool := fun _ => []
def md65 : Nat → List Bool := fun _ => []
def md66 : Nat → List Bool := fun _ => []
def md67 : Nat → List Bool := fun _ => []
def md68 : Nat → List Bool := fun _ => []
def md69 : Nat → List Bool := fun _ => []
def md70 : Nat → List Bool := fun _ => []
def md71 : Nat → List Bool := fun _ => []
def md72 : Nat → List Bool := fun _ => []
def md73 : Nat → List Bool := fun _ => []
def md74 : Nat → List Bool := fun _ => []
def md75 : Nat → List Bool := fun _ => []
def md76 : Nat → List Bool := fun _ => []
def md77 : Nat → List Bool := fun _ => []
def md78 : Nat → List Bool := fun _ => []
def md79 : Nat → List Bool := fun _ => []
def md80 : Nat → List Bool := fun _ => []
def md81 : Nat → List Bool := fun _ => []
def md82 : Nat → List Bool
  | 2 => [false, false, false, false, false, false, false, false, false, false]
  | 3 => [false, false, false, false, false, false, false, false, false, false, false, false]
  | 6 => [false, false, false, false, false, false, false, false, false, false]
  | _ => []
def md83 : Nat → List Bool := fun _ => []
def md84 : Nat → List Bool := fun _ => []
def md85 : Nat → List Bool := fun _ => []
def md87 : Nat → List Bool := fun _ => []

end Go.Proofs.Ytemeaobpedfkmaa
