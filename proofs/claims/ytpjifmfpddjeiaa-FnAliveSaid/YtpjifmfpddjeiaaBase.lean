/- Closed facts of the program, for the abstract layer: types and functions. Printed by gen_base.py. -/
import Derived.Test.YtpjifmfpddjeiaaProg
import Derived.Test.YtpjifmfpddjeiaaAbsM4
set_option linter.unusedVariables false
set_option linter.defProp false
namespace Go.Proofs.Ytpjifmfpddjeiaa
open Go Go.Abs

def zq0 := (And.intro @List.getD_cons_succ.{0} (And.intro @List.getD_cons_zero.{0} (And.intro @List.length_cons.{0} (And.intro @List.length_nil.{0} (And.intro @List.replicate_succ.{0} (And.intro @List.replicate_zero.{0} (And.intro @List.cons_append.{0} (And.intro @List.nil_append.{0} (And.intro @List.append_nil.{0} (And.intro @List.set_cons_succ.{0} (And.intro @List.set_cons_zero.{0} @true_and)))))))))))
def zq1 := (And.intro @and_true (And.intro @List.map_cons.{0,0} (And.intro @List.map_nil.{0,0} (And.intro @Int.toNat_natCast (And.intro @Int.natCast_nonneg (And.intro @exists_prop (And.intro @List.getElem_cons_zero.{0} (And.intro @List.getElem_cons_succ.{0} (And.intro @List.getElem?_cons_zero.{0} (And.intro @List.getElem?_cons_succ.{0} (And.intro @Nat.zero_lt_one @Option.bind_some.{0,0})))))))))))
def zq2 := (And.intro @Option.map_some.{0,0} (And.intro @Option.map_none.{0,0} (And.intro @Bool.not_true (And.intro @Bool.not_false (And.intro @List.all_cons.{0} (And.intro @List.all_nil.{0} (And.intro @Bool.and_true (And.intro @Bool.true_and (And.intro @List.take_zero.{0} (And.intro @List.drop_zero.{0} (And.intro @List.drop_succ_cons.{0} @List.take_succ_cons.{0})))))))))))
def zq3 := (And.intro @Nat.zero_add (And.intro @Nat.add_zero (And.intro @List.getElem?_toArray.{0} (And.intro @ge_iff_le.{0} (And.intro @gt_iff_lt.{0} (And.intro @Nat.le_refl (And.intro @Bool.false_eq_true (And.intro @Bool.not_eq_true (And.intro @Nat.succ_ne_self (And.intro @Option.some.injEq.{0} (And.intro @List.forall_mem_cons.{0} @List.not_mem_nil.{0})))))))))))
def zq4 := @false_implies

theorem mixed : Try.prog.follows .mixedOrders = true := by kernel_rfl
theorem cells2 : Try.prog.cellsOf 2 = 1 := by kernel_rfl
theorem bytes2 : Try.prog.bytesOf 2 = 8 := by kernel_rfl
theorem zero2 : zeroOf Try.prog 2 = .int .i64 0 := by kernel_rfl
theorem cells3 : Try.prog.cellsOf 3 = 1 := by kernel_rfl
theorem bytes3 : Try.prog.bytesOf 3 = 8 := by kernel_rfl
theorem zero3 : zeroOf Try.prog 3 = .int .i64 0 := by kernel_rfl
theorem cells4 : Try.prog.cellsOf 4 = 1 := by kernel_rfl
theorem bytes4 : Try.prog.bytesOf 4 = 1 := by kernel_rfl
theorem zero4 : zeroOf Try.prog 4 = .bool false := by kernel_rfl
theorem cells5 : Try.prog.cellsOf 5 = 1 := by kernel_rfl
theorem bytes5 : Try.prog.bytesOf 5 = 1 := by kernel_rfl
theorem zero5 : zeroOf Try.prog 5 = .int .u8 0 := by kernel_rfl
theorem cells6 : Try.prog.cellsOf 6 = 1 := by kernel_rfl
theorem bytes6 : Try.prog.bytesOf 6 = 1 := by kernel_rfl
theorem zero6 : zeroOf Try.prog 6 = .int .u8 0 := by kernel_rfl
theorem cells9 : Try.prog.cellsOf 9 = 1 := by kernel_rfl
theorem bytes9 : Try.prog.bytesOf 9 = 16 := by kernel_rfl
theorem zero9 : zeroOf Try.prog 9 = .str [] := by kernel_rfl
theorem cells12 : Try.prog.cellsOf 12 = 1 := by kernel_rfl
theorem bytes12 : Try.prog.bytesOf 12 = 8 := by kernel_rfl
theorem zero12 : zeroOf Try.prog 12 = .int .u64 0 := by kernel_rfl
theorem cells21 : Try.prog.cellsOf 21 = 1 := by kernel_rfl
theorem bytes21 : Try.prog.bytesOf 21 = 4 := by kernel_rfl
theorem zero21 : zeroOf Try.prog 21 = .int .i32 0 := by kernel_rfl
theorem cells22 : Try.prog.cellsOf 22 = 1 := by kernel_rfl
theorem bytes22 : Try.prog.bytesOf 22 = 24 := by kernel_rfl
theorem zero22 : zeroOf Try.prog 22 = .nils := by kernel_rfl
theorem cells24 : Try.prog.cellsOf 24 = 1 := by kernel_rfl
theorem bytes24 : Try.prog.bytesOf 24 = 24 := by kernel_rfl
theorem zero24 : zeroOf Try.prog 24 = .nils := by kernel_rfl
theorem cells26 : Try.prog.cellsOf 26 = 1 := by kernel_rfl
theorem bytes26 : Try.prog.bytesOf 26 = 4 := by kernel_rfl
theorem zero26 : zeroOf Try.prog 26 = .flt .f32 0 := by kernel_rfl
theorem cells35 : Try.prog.cellsOf 35 = 1 := by kernel_rfl
theorem bytes35 : Try.prog.bytesOf 35 = 8 := by kernel_rfl
theorem zero35 : zeroOf Try.prog 35 = .flt .f64 0 := by kernel_rfl
theorem cells41 : Try.prog.cellsOf 41 = 1 := by kernel_rfl
theorem bytes41 : Try.prog.bytesOf 41 = 8 := by kernel_rfl
theorem zero41 : zeroOf Try.prog 41 = .nilp := by kernel_rfl
theorem cells51 : Try.prog.cellsOf 51 = 1 := by kernel_rfl
theorem bytes51 : Try.prog.bytesOf 51 = 8 := by kernel_rfl
theorem zero51 : zeroOf Try.prog 51 = .int .u64 0 := by kernel_rfl
theorem cells52 : Try.prog.cellsOf 52 = 3 := by kernel_rfl
theorem bytes52 : Try.prog.bytesOf 52 = 40 := by kernel_rfl
theorem zero52 : zeroOf Try.prog 52 = .agg [.nils, .int .i64 0, .int .u64 0] := by kernel_rfl
theorem cells53 : Try.prog.cellsOf 53 = 3 := by kernel_rfl
theorem bytes53 : Try.prog.bytesOf 53 = 40 := by kernel_rfl
theorem zero53 : zeroOf Try.prog 53 = .agg [.nils, .int .i64 0, .int .u64 0] := by kernel_rfl
theorem cells61 : Try.prog.cellsOf 61 = 1 := by kernel_rfl
theorem bytes61 : Try.prog.bytesOf 61 = 8 := by kernel_rfl
theorem zero61 : zeroOf Try.prog 61 = .int .u64 0 := by kernel_rfl
theorem cells66 : Try.prog.cellsOf 66 = 4 := by kernel_rfl
theorem bytes66 : Try.prog.bytesOf 66 = 40 := by kernel_rfl
theorem zero66 : zeroOf Try.prog 66 = .agg [.nilp, .nilp, .nilp, .str []] := by kernel_rfl
theorem cells67 : Try.prog.cellsOf 67 = 4 := by kernel_rfl
theorem bytes67 : Try.prog.bytesOf 67 = 40 := by kernel_rfl
theorem zero67 : zeroOf Try.prog 67 = .agg [.nilp, .nilp, .nilp, .str []] := by kernel_rfl
theorem cells72 : Try.prog.cellsOf 72 = 1 := by kernel_rfl
theorem bytes72 : Try.prog.bytesOf 72 = 4 := by kernel_rfl
theorem zero72 : zeroOf Try.prog 72 = .int .u32 0 := by kernel_rfl
theorem cells73 : Try.prog.cellsOf 73 = 1 := by kernel_rfl
theorem bytes73 : Try.prog.bytesOf 73 = 1 := by kernel_rfl
theorem zero73 : zeroOf Try.prog 73 = .int .u8 0 := by kernel_rfl
theorem cells74 : Try.prog.cellsOf 74 = 1 := by kernel_rfl
theorem bytes74 : Try.prog.bytesOf 74 = 1 := by kernel_rfl
theorem zero74 : zeroOf Try.prog 74 = .int .u8 0 := by kernel_rfl
theorem cells76 : Try.prog.cellsOf 76 = 1 := by kernel_rfl
theorem bytes76 : Try.prog.bytesOf 76 = 8 := by kernel_rfl
theorem zero76 : zeroOf Try.prog 76 = .nilp := by kernel_rfl
theorem cells77 : Try.prog.cellsOf 77 = 1 := by kernel_rfl
theorem bytes77 : Try.prog.bytesOf 77 = 4 := by kernel_rfl
theorem zero77 : zeroOf Try.prog 77 = .int .i32 0 := by kernel_rfl
theorem cells78 : Try.prog.cellsOf 78 = 1 := by kernel_rfl
theorem bytes78 : Try.prog.bytesOf 78 = 4 := by kernel_rfl
theorem zero78 : zeroOf Try.prog 78 = .int .i32 0 := by kernel_rfl
theorem cells79 : Try.prog.cellsOf 79 = 11 := by kernel_rfl
theorem bytes79 : Try.prog.bytesOf 79 = 48 := by kernel_rfl
theorem zero79 : zeroOf Try.prog 79 = .agg [.int .u64 0, .int .u64 0, .int .u32 0, .int .u8 0, .int .u8 0, .int .u8 0, .int .u8 0, .nilf, .nilp, .int .i32 0, .int .i32 0] := by kernel_rfl
theorem cells80 : Try.prog.cellsOf 80 = 11 := by kernel_rfl
theorem bytes80 : Try.prog.bytesOf 80 = 48 := by kernel_rfl
theorem zero80 : zeroOf Try.prog 80 = .agg [.int .u64 0, .int .u64 0, .int .u32 0, .int .u8 0, .int .u8 0, .int .u8 0, .int .u8 0, .nilf, .nilp, .int .i32 0, .int .i32 0] := by kernel_rfl
theorem field52_0 : fieldOf Try.prog 52 0 = some ⟨ "code", 22, 0, false, "", "loop.example/g01393/spec", 0⟩ := by kernel_rfl
theorem field52_1 : fieldOf Try.prog 52 1 = some ⟨ "at", 3, 1, false, "", "loop.example/g01393/spec", 24⟩ := by kernel_rfl
theorem field52_2 : fieldOf Try.prog 52 2 = some ⟨ "seed", 51, 2, false, "", "loop.example/g01393/spec", 32⟩ := by kernel_rfl
theorem field53_0 : fieldOf Try.prog 53 0 = some ⟨ "code", 22, 0, false, "", "loop.example/g01393/spec", 0⟩ := by kernel_rfl
theorem field53_1 : fieldOf Try.prog 53 1 = some ⟨ "at", 3, 1, false, "", "loop.example/g01393/spec", 24⟩ := by kernel_rfl
theorem field53_2 : fieldOf Try.prog 53 2 = some ⟨ "seed", 51, 2, false, "", "loop.example/g01393/spec", 32⟩ := by kernel_rfl
theorem field66_0 : fieldOf Try.prog 66 0 = some ⟨ "_interface", 17, 0, false, "", "runtime", 0⟩ := by kernel_rfl
theorem field66_1 : fieldOf Try.prog 66 1 = some ⟨ "concrete", 17, 1, false, "", "runtime", 8⟩ := by kernel_rfl
theorem field66_2 : fieldOf Try.prog 66 2 = some ⟨ "asserted", 17, 2, false, "", "runtime", 16⟩ := by kernel_rfl
theorem field66_3 : fieldOf Try.prog 66 3 = some ⟨ "missingMethod", 9, 3, false, "", "runtime", 24⟩ := by kernel_rfl
theorem field67_0 : fieldOf Try.prog 67 0 = some ⟨ "_interface", 17, 0, false, "", "runtime", 0⟩ := by kernel_rfl
theorem field67_1 : fieldOf Try.prog 67 1 = some ⟨ "concrete", 17, 1, false, "", "runtime", 8⟩ := by kernel_rfl
theorem field67_2 : fieldOf Try.prog 67 2 = some ⟨ "asserted", 17, 2, false, "", "runtime", 16⟩ := by kernel_rfl
theorem field67_3 : fieldOf Try.prog 67 3 = some ⟨ "missingMethod", 9, 3, false, "", "runtime", 24⟩ := by kernel_rfl
theorem field79_0 : fieldOf Try.prog 79 0 = some ⟨ "Size_", 12, 0, false, "", "", 0⟩ := by kernel_rfl
theorem field79_1 : fieldOf Try.prog 79 1 = some ⟨ "PtrBytes", 12, 1, false, "", "", 8⟩ := by kernel_rfl
theorem field79_2 : fieldOf Try.prog 79 2 = some ⟨ "Hash", 72, 2, false, "", "", 16⟩ := by kernel_rfl
theorem field79_3 : fieldOf Try.prog 79 3 = some ⟨ "TFlag", 73, 3, false, "", "", 20⟩ := by kernel_rfl
theorem field79_4 : fieldOf Try.prog 79 4 = some ⟨ "Align_", 5, 4, false, "", "", 21⟩ := by kernel_rfl
theorem field79_5 : fieldOf Try.prog 79 5 = some ⟨ "FieldAlign_", 5, 5, false, "", "", 22⟩ := by kernel_rfl
theorem field79_6 : fieldOf Try.prog 79 6 = some ⟨ "Kind_", 74, 6, false, "", "", 23⟩ := by kernel_rfl
theorem field79_7 : fieldOf Try.prog 79 7 = some ⟨ "Equal", 75, 7, false, "", "", 24⟩ := by kernel_rfl
theorem field79_8 : fieldOf Try.prog 79 8 = some ⟨ "GCData", 76, 8, false, "", "", 32⟩ := by kernel_rfl
theorem field79_9 : fieldOf Try.prog 79 9 = some ⟨ "Str", 77, 9, false, "", "", 40⟩ := by kernel_rfl
theorem field79_10 : fieldOf Try.prog 79 10 = some ⟨ "PtrToThis", 78, 10, false, "", "", 44⟩ := by kernel_rfl
theorem field80_0 : fieldOf Try.prog 80 0 = some ⟨ "Size_", 12, 0, false, "", "", 0⟩ := by kernel_rfl
theorem field80_1 : fieldOf Try.prog 80 1 = some ⟨ "PtrBytes", 12, 1, false, "", "", 8⟩ := by kernel_rfl
theorem field80_2 : fieldOf Try.prog 80 2 = some ⟨ "Hash", 72, 2, false, "", "", 16⟩ := by kernel_rfl
theorem field80_3 : fieldOf Try.prog 80 3 = some ⟨ "TFlag", 73, 3, false, "", "", 20⟩ := by kernel_rfl
theorem field80_4 : fieldOf Try.prog 80 4 = some ⟨ "Align_", 5, 4, false, "", "", 21⟩ := by kernel_rfl
theorem field80_5 : fieldOf Try.prog 80 5 = some ⟨ "FieldAlign_", 5, 5, false, "", "", 22⟩ := by kernel_rfl
theorem field80_6 : fieldOf Try.prog 80 6 = some ⟨ "Kind_", 74, 6, false, "", "", 23⟩ := by kernel_rfl
theorem field80_7 : fieldOf Try.prog 80 7 = some ⟨ "Equal", 75, 7, false, "", "", 24⟩ := by kernel_rfl
theorem field80_8 : fieldOf Try.prog 80 8 = some ⟨ "GCData", 76, 8, false, "", "", 32⟩ := by kernel_rfl
theorem field80_9 : fieldOf Try.prog 80 9 = some ⟨ "Str", 77, 9, false, "", "", 40⟩ := by kernel_rfl
theorem field80_10 : fieldOf Try.prog 80 10 = some ⟨ "PtrToThis", 78, 10, false, "", "", 44⟩ := by kernel_rfl

theorem tys0 :
  Try.prog.cellsOf 2 = 1 ∧
  Try.prog.bytesOf 2 = 8 ∧
  zeroOf Try.prog 2 = .int .i64 0 ∧
  Try.prog.cellsOf 3 = 1 ∧
  Try.prog.bytesOf 3 = 8 ∧
  zeroOf Try.prog 3 = .int .i64 0 ∧
  Try.prog.cellsOf 4 = 1 ∧
  Try.prog.bytesOf 4 = 1 ∧
  zeroOf Try.prog 4 = .bool false ∧
  Try.prog.cellsOf 5 = 1 ∧
  Try.prog.bytesOf 5 = 1 ∧
  zeroOf Try.prog 5 = .int .u8 0 ∧
  Try.prog.cellsOf 6 = 1 ∧
  Try.prog.bytesOf 6 = 1 ∧
  zeroOf Try.prog 6 = .int .u8 0 ∧
  Try.prog.cellsOf 9 = 1 ∧
  Try.prog.bytesOf 9 = 16 ∧
  zeroOf Try.prog 9 = .str [] ∧
  Try.prog.cellsOf 12 = 1 ∧
  Try.prog.bytesOf 12 = 8 ∧
  zeroOf Try.prog 12 = .int .u64 0 ∧
  Try.prog.cellsOf 21 = 1 ∧
  Try.prog.bytesOf 21 = 4 ∧
  zeroOf Try.prog 21 = .int .i32 0 ∧
  Try.prog.cellsOf 22 = 1 ∧
  Try.prog.bytesOf 22 = 24 ∧
  zeroOf Try.prog 22 = .nils ∧
  Try.prog.cellsOf 24 = 1 ∧
  Try.prog.bytesOf 24 = 24 ∧
  zeroOf Try.prog 24 = .nils ∧
  Try.prog.cellsOf 26 = 1 ∧
  Try.prog.bytesOf 26 = 4 ∧
  zeroOf Try.prog 26 = .flt .f32 0 ∧
  Try.prog.cellsOf 35 = 1 ∧
  Try.prog.bytesOf 35 = 8 ∧
  zeroOf Try.prog 35 = .flt .f64 0 ∧
  Try.prog.cellsOf 41 = 1 ∧
  Try.prog.bytesOf 41 = 8 ∧
  zeroOf Try.prog 41 = .nilp ∧
  Try.prog.cellsOf 51 = 1 :=
  ⟨cells2, bytes2, zero2, cells3, bytes3, zero3, cells4, bytes4, zero4, cells5, bytes5, zero5, cells6, bytes6, zero6, cells9, bytes9, zero9, cells12, bytes12, zero12, cells21, bytes21, zero21, cells22, bytes22, zero22, cells24, bytes24, zero24, cells26, bytes26, zero26, cells35, bytes35, zero35, cells41, bytes41, zero41, cells51⟩
theorem tys1 :
  Try.prog.bytesOf 51 = 8 ∧
  zeroOf Try.prog 51 = .int .u64 0 ∧
  Try.prog.cellsOf 52 = 3 ∧
  Try.prog.bytesOf 52 = 40 ∧
  zeroOf Try.prog 52 = .agg [.nils, .int .i64 0, .int .u64 0] ∧
  Try.prog.cellsOf 53 = 3 ∧
  Try.prog.bytesOf 53 = 40 ∧
  zeroOf Try.prog 53 = .agg [.nils, .int .i64 0, .int .u64 0] ∧
  Try.prog.cellsOf 61 = 1 ∧
  Try.prog.bytesOf 61 = 8 ∧
  zeroOf Try.prog 61 = .int .u64 0 ∧
  Try.prog.cellsOf 66 = 4 ∧
  Try.prog.bytesOf 66 = 40 ∧
  zeroOf Try.prog 66 = .agg [.nilp, .nilp, .nilp, .str []] ∧
  Try.prog.cellsOf 67 = 4 ∧
  Try.prog.bytesOf 67 = 40 ∧
  zeroOf Try.prog 67 = .agg [.nilp, .nilp, .nilp, .str []] ∧
  Try.prog.cellsOf 72 = 1 ∧
  Try.prog.bytesOf 72 = 4 ∧
  zeroOf Try.prog 72 = .int .u32 0 ∧
  Try.prog.cellsOf 73 = 1 ∧
  Try.prog.bytesOf 73 = 1 ∧
  zeroOf Try.prog 73 = .int .u8 0 ∧
  Try.prog.cellsOf 74 = 1 ∧
  Try.prog.bytesOf 74 = 1 ∧
  zeroOf Try.prog 74 = .int .u8 0 ∧
  Try.prog.cellsOf 76 = 1 ∧
  Try.prog.bytesOf 76 = 8 ∧
  zeroOf Try.prog 76 = .nilp ∧
  Try.prog.cellsOf 77 = 1 ∧
  Try.prog.bytesOf 77 = 4 ∧
  zeroOf Try.prog 77 = .int .i32 0 ∧
  Try.prog.cellsOf 78 = 1 ∧
  Try.prog.bytesOf 78 = 4 ∧
  zeroOf Try.prog 78 = .int .i32 0 ∧
  Try.prog.cellsOf 79 = 11 ∧
  Try.prog.bytesOf 79 = 48 ∧
  zeroOf Try.prog 79 = .agg [.int .u64 0, .int .u64 0, .int .u32 0, .int .u8 0, .int .u8 0, .int .u8 0, .int .u8 0, .nilf, .nilp, .int .i32 0, .int .i32 0] ∧
  Try.prog.cellsOf 80 = 11 ∧
  Try.prog.bytesOf 80 = 48 :=
  ⟨bytes51, zero51, cells52, bytes52, zero52, cells53, bytes53, zero53, cells61, bytes61, zero61, cells66, bytes66, zero66, cells67, bytes67, zero67, cells72, bytes72, zero72, cells73, bytes73, zero73, cells74, bytes74, zero74, cells76, bytes76, zero76, cells77, bytes77, zero77, cells78, bytes78, zero78, cells79, bytes79, zero79, cells80, bytes80⟩
theorem tys2 :
  zeroOf Try.prog 80 = .agg [.int .u64 0, .int .u64 0, .int .u32 0, .int .u8 0, .int .u8 0, .int .u8 0, .int .u8 0, .nilf, .nilp, .int .i32 0, .int .i32 0] ∧
  fieldOf Try.prog 52 0 = some ⟨ "code", 22, 0, false, "", "loop.example/g01393/spec", 0⟩ ∧
  fieldOf Try.prog 52 1 = some ⟨ "at", 3, 1, false, "", "loop.example/g01393/spec", 24⟩ ∧
  fieldOf Try.prog 52 2 = some ⟨ "seed", 51, 2, false, "", "loop.example/g01393/spec", 32⟩ ∧
  fieldOf Try.prog 53 0 = some ⟨ "code", 22, 0, false, "", "loop.example/g01393/spec", 0⟩ ∧
  fieldOf Try.prog 53 1 = some ⟨ "at", 3, 1, false, "", "loop.example/g01393/spec", 24⟩ ∧
  fieldOf Try.prog 53 2 = some ⟨ "seed", 51, 2, false, "", "loop.example/g01393/spec", 32⟩ ∧
  fieldOf Try.prog 66 0 = some ⟨ "_interface", 17, 0, false, "", "runtime", 0⟩ ∧
  fieldOf Try.prog 66 1 = some ⟨ "concrete", 17, 1, false, "", "runtime", 8⟩ ∧
  fieldOf Try.prog 66 2 = some ⟨ "asserted", 17, 2, false, "", "runtime", 16⟩ ∧
  fieldOf Try.prog 66 3 = some ⟨ "missingMethod", 9, 3, false, "", "runtime", 24⟩ ∧
  fieldOf Try.prog 67 0 = some ⟨ "_interface", 17, 0, false, "", "runtime", 0⟩ ∧
  fieldOf Try.prog 67 1 = some ⟨ "concrete", 17, 1, false, "", "runtime", 8⟩ ∧
  fieldOf Try.prog 67 2 = some ⟨ "asserted", 17, 2, false, "", "runtime", 16⟩ ∧
  fieldOf Try.prog 67 3 = some ⟨ "missingMethod", 9, 3, false, "", "runtime", 24⟩ ∧
  fieldOf Try.prog 79 0 = some ⟨ "Size_", 12, 0, false, "", "", 0⟩ ∧
  fieldOf Try.prog 79 1 = some ⟨ "PtrBytes", 12, 1, false, "", "", 8⟩ ∧
  fieldOf Try.prog 79 2 = some ⟨ "Hash", 72, 2, false, "", "", 16⟩ ∧
  fieldOf Try.prog 79 3 = some ⟨ "TFlag", 73, 3, false, "", "", 20⟩ ∧
  fieldOf Try.prog 79 4 = some ⟨ "Align_", 5, 4, false, "", "", 21⟩ ∧
  fieldOf Try.prog 79 5 = some ⟨ "FieldAlign_", 5, 5, false, "", "", 22⟩ ∧
  fieldOf Try.prog 79 6 = some ⟨ "Kind_", 74, 6, false, "", "", 23⟩ ∧
  fieldOf Try.prog 79 7 = some ⟨ "Equal", 75, 7, false, "", "", 24⟩ ∧
  fieldOf Try.prog 79 8 = some ⟨ "GCData", 76, 8, false, "", "", 32⟩ ∧
  fieldOf Try.prog 79 9 = some ⟨ "Str", 77, 9, false, "", "", 40⟩ ∧
  fieldOf Try.prog 79 10 = some ⟨ "PtrToThis", 78, 10, false, "", "", 44⟩ ∧
  fieldOf Try.prog 80 0 = some ⟨ "Size_", 12, 0, false, "", "", 0⟩ ∧
  fieldOf Try.prog 80 1 = some ⟨ "PtrBytes", 12, 1, false, "", "", 8⟩ ∧
  fieldOf Try.prog 80 2 = some ⟨ "Hash", 72, 2, false, "", "", 16⟩ ∧
  fieldOf Try.prog 80 3 = some ⟨ "TFlag", 73, 3, false, "", "", 20⟩ ∧
  fieldOf Try.prog 80 4 = some ⟨ "Align_", 5, 4, false, "", "", 21⟩ ∧
  fieldOf Try.prog 80 5 = some ⟨ "FieldAlign_", 5, 5, false, "", "", 22⟩ ∧
  fieldOf Try.prog 80 6 = some ⟨ "Kind_", 74, 6, false, "", "", 23⟩ ∧
  fieldOf Try.prog 80 7 = some ⟨ "Equal", 75, 7, false, "", "", 24⟩ ∧
  fieldOf Try.prog 80 8 = some ⟨ "GCData", 76, 8, false, "", "", 32⟩ ∧
  fieldOf Try.prog 80 9 = some ⟨ "Str", 77, 9, false, "", "", 40⟩ ∧
  fieldOf Try.prog 80 10 = some ⟨ "PtrToThis", 78, 10, false, "", "", 44⟩ :=
  ⟨zero80, field52_0, field52_1, field52_2, field53_0, field53_1, field53_2, field66_0, field66_1, field66_2, field66_3, field67_0, field67_1, field67_2, field67_3, field79_0, field79_1, field79_2, field79_3, field79_4, field79_5, field79_6, field79_7, field79_8, field79_9, field79_10, field80_0, field80_1, field80_2, field80_3, field80_4, field80_5, field80_6, field80_7, field80_8, field80_9, field80_10⟩
def und0 := And.intro @Try.underlying2 (And.intro @Try.underlying3 (And.intro @Try.underlying4 (And.intro @Try.underlying5 (And.intro @Try.underlying6 (And.intro @Try.underlying9 (And.intro @Try.underlying12 (And.intro @Try.underlying21 (And.intro @Try.underlying22 (And.intro @Try.underlying24 (And.intro @Try.underlying26 @Try.underlying35))))))))))
def und1 := And.intro @Try.underlying41 (And.intro @Try.underlying51 (And.intro @Try.underlying52 (And.intro @Try.underlying53 (And.intro @Try.underlying61 (And.intro @Try.underlying66 (And.intro @Try.underlying67 (And.intro @Try.underlying72 (And.intro @Try.underlying73 (And.intro @Try.underlying74 (And.intro @Try.underlying76 @Try.underlying77))))))))))
def und2 := And.intro @Try.underlying78 (And.intro @Try.underlying79 @Try.underlying80)
theorem go3 : isGo Try.prog 3 := by unfold isGo; rw [Try.func3]; exact ⟨rfl, by kernel_rfl⟩
theorem go4 : isGo Try.prog 4 := by unfold isGo; rw [Try.func4]; exact ⟨rfl, by kernel_rfl⟩
theorem go5 : isGo Try.prog 5 := by unfold isGo; rw [Try.func5]; exact ⟨rfl, by kernel_rfl⟩
theorem go6 : isGo Try.prog 6 := by unfold isGo; rw [Try.func6]; exact ⟨rfl, by kernel_rfl⟩
theorem go7 : isGo Try.prog 7 := by unfold isGo; rw [Try.func7]; exact ⟨rfl, by kernel_rfl⟩
theorem go8 : isGo Try.prog 8 := by unfold isGo; rw [Try.func8]; exact ⟨rfl, by kernel_rfl⟩
theorem go9 : isGo Try.prog 9 := by unfold isGo; rw [Try.func9]; exact ⟨rfl, by kernel_rfl⟩
theorem go10 : isGo Try.prog 10 := by unfold isGo; rw [Try.func10]; exact ⟨rfl, by kernel_rfl⟩
theorem go11 : isGo Try.prog 11 := by unfold isGo; rw [Try.func11]; exact ⟨rfl, by kernel_rfl⟩
theorem go12 : isGo Try.prog 12 := by unfold isGo; rw [Try.func12]; exact ⟨rfl, by kernel_rfl⟩
theorem go13 : isGo Try.prog 13 := by unfold isGo; rw [Try.func13]; exact ⟨rfl, by kernel_rfl⟩
theorem go14 : isGo Try.prog 14 := by unfold isGo; rw [Try.func14]; exact ⟨rfl, by kernel_rfl⟩
theorem go15 : isGo Try.prog 15 := by unfold isGo; rw [Try.func15]; exact ⟨rfl, by kernel_rfl⟩
theorem go16 : isGo Try.prog 16 := by unfold isGo; rw [Try.func16]; exact ⟨rfl, by kernel_rfl⟩
theorem go17 : isGo Try.prog 17 := by unfold isGo; rw [Try.func17]; exact ⟨rfl, by kernel_rfl⟩
theorem go18 : isGo Try.prog 18 := by unfold isGo; rw [Try.func18]; exact ⟨rfl, by kernel_rfl⟩
theorem go19 : isGo Try.prog 19 := by unfold isGo; rw [Try.func19]; exact ⟨rfl, by kernel_rfl⟩
theorem go20 : isGo Try.prog 20 := by unfold isGo; rw [Try.func20]; exact ⟨rfl, by kernel_rfl⟩
theorem go21 : isGo Try.prog 21 := by unfold isGo; rw [Try.func21]; exact ⟨rfl, by kernel_rfl⟩
theorem go22 : isGo Try.prog 22 := by unfold isGo; rw [Try.func22]; exact ⟨rfl, by kernel_rfl⟩
theorem go23 : isGo Try.prog 23 := by unfold isGo; rw [Try.func23]; exact ⟨rfl, by kernel_rfl⟩
theorem go24 : isGo Try.prog 24 := by unfold isGo; rw [Try.func24]; exact ⟨rfl, by kernel_rfl⟩
theorem go25 : isGo Try.prog 25 := by unfold isGo; rw [Try.func25]; exact ⟨rfl, by kernel_rfl⟩
theorem go26 : isGo Try.prog 26 := by unfold isGo; rw [Try.func26]; exact ⟨rfl, by kernel_rfl⟩
theorem go27 : isGo Try.prog 27 := by unfold isGo; rw [Try.func27]; exact ⟨rfl, by kernel_rfl⟩
theorem go30 : isGo Try.prog 30 := by unfold isGo; rw [Try.func30]; exact ⟨rfl, by kernel_rfl⟩
theorem go31 : isGo Try.prog 31 := by unfold isGo; rw [Try.func31]; exact ⟨rfl, by kernel_rfl⟩
theorem go33 : isGo Try.prog 33 := by unfold isGo; rw [Try.func33]; exact ⟨rfl, by kernel_rfl⟩
theorem go35 : isGo Try.prog 35 := by unfold isGo; rw [Try.func35]; exact ⟨rfl, by kernel_rfl⟩
theorem go36 : isGo Try.prog 36 := by unfold isGo; rw [Try.func36]; exact ⟨rfl, by kernel_rfl⟩
def md3 : Nat → List Bool
  | 16 => [false, false, false, false, false, false, false, false, false, false, false, false, false, false, false, false, false, false, false, false, false, false, false, false, false, false, false, false, false, false, false, false, false, false, false, false, false, false]
  | _ => []
def md4 : Nat → List Bool := fun _ => []
def md5 : Nat → List Bool := fun _ => []
def md6 : Nat → List Bool := fun _ => []
def md7 : Nat → List Bool := fun _ => []
def md8 : Nat → List Bool := fun _ => []
def md9 : Nat → List Bool := fun _ => []
def md10 : Nat → List Bool := fun _ => []
def md11 : Nat → List Bool := fun _ => []
def md12 : Nat → List Bool := fun _ => []
def md13 : Nat → List Bool := fun _ => []
def md14 : Nat → List Bool := fun _ => []
def md15 : Nat → List Bool := fun _ => []
def md16 : Nat → List Bool := fun _ => []
def md17 : Nat → List Bool := fun _ => []
def md18 : Nat → List Bool := fun _ => []
def md19 : Nat → List Bool := fun _ => []
def md20 : Nat → List Bool := fun _ => []
def md21 : Nat → List Bool := fun _ => []
def md22 : Nat → List Bool := fun _ => []
def md23 : Nat → List Bool := fun _ => []
def md24 : Nat → List Bool := fun _ => []
def md25 : Nat → List Bool := fun _ => []
def md26 : Nat → List Bool := fun _ => []
def md27 : Nat → List Bool := fun _ => []
def md30 : Nat → List Bool
  | 2 => [false, false, false, false, false, false, false, false, false, false]
  | 3 => [false, false, false, false, false, false, false, false, false, false, false, false]
  | 6 => [false, false, false, false, false, false, false, false, false, false]
  | _ => []
def md31 : Nat → List Bool := fun _ => []
def md33 : Nat → List Bool := fun _ => []
def md35 : Nat → List Bool := fun _ => []
def md36 : Nat → List Bool := fun _ => []
end Go.Proofs.Ytpjifmfpddjeiaa
