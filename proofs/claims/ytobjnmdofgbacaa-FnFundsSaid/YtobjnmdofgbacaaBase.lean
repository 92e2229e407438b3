/- Closed facts of the program, for the abstract layer: types and functions. Printed by gen_base.py. -/
import Derived.Test.YtobjnmdofgbacaaProg
import Derived.Test.YtobjnmdofgbacaaAbsM4
set_option linter.unusedVariables false
set_option linter.defProp false
namespace Go.Proofs.Ytobjnmdofgbacaa
open Go Go.Abs

def zq0 := (And.intro @List.getD_cons_succ.{0} (And.intro @List.getD_cons_zero.{0} (And.intro @List.length_cons.{0} (And.intro @List.length_nil.{0} (And.intro @List.replicate_succ.{0} (And.intro @List.replicate_zero.{0} (And.intro @List.cons_append.{0} (And.intro @List.nil_append.{0} (And.intro @List.append_nil.{0} (And.intro @List.set_cons_succ.{0} (And.intro @List.set_cons_zero.{0} @true_and)))))))))))
def zq1 := (And.intro @and_true (And.intro @List.map_cons.{0,0} (And.intro @List.map_nil.{0,0} (And.intro @Int.toNat_natCast (And.intro @Int.natCast_nonneg (And.intro @exists_prop (And.intro @List.getElem_cons_zero.{0} (And.intro @List.getElem_cons_succ.{0} (And.intro @List.getElem?_cons_zero.{0} (And.intro @List.getElem?_cons_succ.{0} (And.intro @Nat.zero_lt_one @Option.bind_some.{0,0})))))))))))
def zq2 := (And.intro @Option.map_some.{0,0} (And.intro @Option.map_none.{0,0} (And.intro @Bool.not_true (And.intro @Bool.not_false (And.intro @List.all_cons.{0} (And.intro @List.all_nil.{0} (And.intro @Bool.and_true (And.intro @Bool.true_and (And.intro @List.take_zero.{0} (And.intro @List.drop_zero.{0} (And.intro @List.drop_succ_cons.{0} @List.take_succ_cons.{0})))))))))))
def zq3 := (And.intro @Nat.zero_add (And.intro @Nat.add_zero (And.intro @List.getElem?_toArray.{0} (And.intro @ge_iff_le.{0} (And.intro @gt_iff_lt.{0} (And.intro @Nat.le_refl (And.intro @Bool.false_eq_true (And.intro @Bool.not_eq_true (And.intro @Nat.succ_ne_self (And.intro @Option.some.injEq.{0} (And.intro @List.forall_mem_cons.{0} @List.not_mem_nil.{0})))))))))))
def zq4 := @false_implies

theorem mixed : Try.prog.follows .mixedOrders = true := by kernel_rfl
theorem cells2 : Try.prog.cellsOf 2 = 1 := by kernel_rfl
theorem bytes2 : Try.prog.bytesOf 2 = 8 := by kernel_rfl
theorem zero2 : zeroOf Try.prog 2 = .int .i64 0 := by kernel_rfl
theorem cells3 : Try.prog.cellsOf 3 = 1 := by kernel_rfl
theorem bytes3 : Try.prog.bytesOf 3 = 8 := by kernel_rfl
theorem zero3 : zeroOf Try.prog 3 = .int .i64 0 := by kernel_rfl
theorem cells4 : Try.prog.cellsOf 4 = 1 := by kernel_rfl
theorem bytes4 : Try.prog.bytesOf 4 = 1 := by kernel_rfl
theorem zero4 : zeroOf Try.prog 4 = .bool false := by kernel_rfl
theorem cells5 : Try.prog.cellsOf 5 = 1 := by kernel_rfl
theorem bytes5 : Try.prog.bytesOf 5 = 1 := by kernel_rfl
theorem zero5 : zeroOf Try.prog 5 = .int .u8 0 := by kernel_rfl
theorem cells6 : Try.prog.cellsOf 6 = 1 := by kernel_rfl
theorem bytes6 : Try.prog.bytesOf 6 = 1 := by kernel_rfl
theorem zero6 : zeroOf Try.prog 6 = .int .u8 0 := by kernel_rfl
theorem cells9 : Try.prog.cellsOf 9 = 1 := by kernel_rfl
theorem bytes9 : Try.prog.bytesOf 9 = 16 := by kernel_rfl
theorem zero9 : zeroOf Try.prog 9 = .str [] := by kernel_rfl
theorem cells12 : Try.prog.cellsOf 12 = 1 := by kernel_rfl
theorem bytes12 : Try.prog.bytesOf 12 = 8 := by kernel_rfl
theorem zero12 : zeroOf Try.prog 12 = .int .u64 0 := by kernel_rfl
theorem cells21 : Try.prog.cellsOf 21 = 1 := by kernel_rfl
theorem bytes21 : Try.prog.bytesOf 21 = 4 := by kernel_rfl
theorem zero21 : zeroOf Try.prog 21 = .int .i32 0 := by kernel_rfl
theorem cells22 : Try.prog.cellsOf 22 = 1 := by kernel_rfl
theorem bytes22 : Try.prog.bytesOf 22 = 24 := by kernel_rfl
theorem zero22 : zeroOf Try.prog 22 = .nils := by kernel_rfl
theorem cells25 : Try.prog.cellsOf 25 = 1 := by kernel_rfl
theorem bytes25 : Try.prog.bytesOf 25 = 24 := by kernel_rfl
theorem zero25 : zeroOf Try.prog 25 = .nils := by kernel_rfl
theorem cells26 : Try.prog.cellsOf 26 = 1 := by kernel_rfl
theorem bytes26 : Try.prog.bytesOf 26 = 4 := by kernel_rfl
theorem zero26 : zeroOf Try.prog 26 = .flt .f32 0 := by kernel_rfl
theorem cells32 : Try.prog.cellsOf 32 = 1 := by kernel_rfl
theorem bytes32 : Try.prog.bytesOf 32 = 8 := by kernel_rfl
theorem zero32 : zeroOf Try.prog 32 = .flt .f64 0 := by kernel_rfl
theorem cells50 : Try.prog.cellsOf 50 = 1 := by kernel_rfl
theorem bytes50 : Try.prog.bytesOf 50 = 24 := by kernel_rfl
theorem zero50 : zeroOf Try.prog 50 = .nils := by kernel_rfl
theorem cells56 : Try.prog.cellsOf 56 = 1 := by kernel_rfl
theorem bytes56 : Try.prog.bytesOf 56 = 4 := by kernel_rfl
theorem zero56 : zeroOf Try.prog 56 = .int .u32 0 := by kernel_rfl
theorem cells60 : Try.prog.cellsOf 60 = 1 := by kernel_rfl
theorem bytes60 : Try.prog.bytesOf 60 = 8 := by kernel_rfl
theorem zero60 : zeroOf Try.prog 60 = .int .u64 0 := by kernel_rfl
theorem cells63 : Try.prog.cellsOf 63 = 4 := by kernel_rfl
theorem bytes63 : Try.prog.bytesOf 63 = 40 := by kernel_rfl
theorem zero63 : zeroOf Try.prog 63 = .agg [.nilp, .nilp, .nilp, .str []] := by kernel_rfl
theorem cells64 : Try.prog.cellsOf 64 = 4 := by kernel_rfl
theorem bytes64 : Try.prog.bytesOf 64 = 40 := by kernel_rfl
theorem zero64 : zeroOf Try.prog 64 = .agg [.nilp, .nilp, .nilp, .str []] := by kernel_rfl
theorem cells69 : Try.prog.cellsOf 69 = 1 := by kernel_rfl
theorem bytes69 : Try.prog.bytesOf 69 = 1 := by kernel_rfl
theorem zero69 : zeroOf Try.prog 69 = .int .u8 0 := by kernel_rfl
theorem cells70 : Try.prog.cellsOf 70 = 1 := by kernel_rfl
theorem bytes70 : Try.prog.bytesOf 70 = 1 := by kernel_rfl
theorem zero70 : zeroOf Try.prog 70 = .int .u8 0 := by kernel_rfl
theorem cells72 : Try.prog.cellsOf 72 = 1 := by kernel_rfl
theorem bytes72 : Try.prog.bytesOf 72 = 8 := by kernel_rfl
theorem zero72 : zeroOf Try.prog 72 = .nilp := by kernel_rfl
theorem cells73 : Try.prog.cellsOf 73 = 1 := by kernel_rfl
theorem bytes73 : Try.prog.bytesOf 73 = 4 := by kernel_rfl
theorem zero73 : zeroOf Try.prog 73 = .int .i32 0 := by kernel_rfl
theorem cells74 : Try.prog.cellsOf 74 = 1 := by kernel_rfl
theorem bytes74 : Try.prog.bytesOf 74 = 4 := by kernel_rfl
theorem zero74 : zeroOf Try.prog 74 = .int .i32 0 := by kernel_rfl
theorem cells75 : Try.prog.cellsOf 75 = 11 := by kernel_rfl
theorem bytes75 : Try.prog.bytesOf 75 = 48 := by kernel_rfl
theorem zero75 : zeroOf Try.prog 75 = .agg [.int .u64 0, .int .u64 0, .int .u32 0, .int .u8 0, .int .u8 0, .int .u8 0, .int .u8 0, .nilf, .nilp, .int .i32 0, .int .i32 0] := by kernel_rfl
theorem cells76 : Try.prog.cellsOf 76 = 11 := by kernel_rfl
theorem bytes76 : Try.prog.bytesOf 76 = 48 := by kernel_rfl
theorem zero76 : zeroOf Try.prog 76 = .agg [.int .u64 0, .int .u64 0, .int .u32 0, .int .u8 0, .int .u8 0, .int .u8 0, .int .u8 0, .nilf, .nilp, .int .i32 0, .int .i32 0] := by kernel_rfl
theorem field63_0 : fieldOf Try.prog 63 0 = some ⟨ "_interface", 17, 0, false, "", "runtime", 0⟩ := by kernel_rfl
theorem field63_1 : fieldOf Try.prog 63 1 = some ⟨ "concrete", 17, 1, false, "", "runtime", 8⟩ := by kernel_rfl
theorem field63_2 : fieldOf Try.prog 63 2 = some ⟨ "asserted", 17, 2, false, "", "runtime", 16⟩ := by kernel_rfl
theorem field63_3 : fieldOf Try.prog 63 3 = some ⟨ "missingMethod", 9, 3, false, "", "runtime", 24⟩ := by kernel_rfl
theorem field64_0 : fieldOf Try.prog 64 0 = some ⟨ "_interface", 17, 0, false, "", "runtime", 0⟩ := by kernel_rfl
theorem field64_1 : fieldOf Try.prog 64 1 = some ⟨ "concrete", 17, 1, false, "", "runtime", 8⟩ := by kernel_rfl
theorem field64_2 : fieldOf Try.prog 64 2 = some ⟨ "asserted", 17, 2, false, "", "runtime", 16⟩ := by kernel_rfl
theorem field64_3 : fieldOf Try.prog 64 3 = some ⟨ "missingMethod", 9, 3, false, "", "runtime", 24⟩ := by kernel_rfl
theorem field75_0 : fieldOf Try.prog 75 0 = some ⟨ "Size_", 12, 0, false, "", "", 0⟩ := by kernel_rfl
theorem field75_1 : fieldOf Try.prog 75 1 = some ⟨ "PtrBytes", 12, 1, false, "", "", 8⟩ := by kernel_rfl
theorem field75_2 : fieldOf Try.prog 75 2 = some ⟨ "Hash", 56, 2, false, "", "", 16⟩ := by kernel_rfl
theorem field75_3 : fieldOf Try.prog 75 3 = some ⟨ "TFlag", 69, 3, false, "", "", 20⟩ := by kernel_rfl
theorem field75_4 : fieldOf Try.prog 75 4 = some ⟨ "Align_", 5, 4, false, "", "", 21⟩ := by kernel_rfl
theorem field75_5 : fieldOf Try.prog 75 5 = some ⟨ "FieldAlign_", 5, 5, false, "", "", 22⟩ := by kernel_rfl
theorem field75_6 : fieldOf Try.prog 75 6 = some ⟨ "Kind_", 70, 6, false, "", "", 23⟩ := by kernel_rfl
theorem field75_7 : fieldOf Try.prog 75 7 = some ⟨ "Equal", 71, 7, false, "", "", 24⟩ := by kernel_rfl
theorem field75_8 : fieldOf Try.prog 75 8 = some ⟨ "GCData", 72, 8, false, "", "", 32⟩ := by kernel_rfl
theorem field75_9 : fieldOf Try.prog 75 9 = some ⟨ "Str", 73, 9, false, "", "", 40⟩ := by kernel_rfl
theorem field75_10 : fieldOf Try.prog 75 10 = some ⟨ "PtrToThis", 74, 10, false, "", "", 44⟩ := by kernel_rfl
theorem field76_0 : fieldOf Try.prog 76 0 = some ⟨ "Size_", 12, 0, false, "", "", 0⟩ := by kernel_rfl
theorem field76_1 : fieldOf Try.prog 76 1 = some ⟨ "PtrBytes", 12, 1, false, "", "", 8⟩ := by kernel_rfl
theorem field76_2 : fieldOf Try.prog 76 2 = some ⟨ "Hash", 56, 2, false, "", "", 16⟩ := by kernel_rfl
theorem field76_3 : fieldOf Try.prog 76 3 = some ⟨ "TFlag", 69, 3, false, "", "", 20⟩ := by kernel_rfl
theorem field76_4 : fieldOf Try.prog 76 4 = some ⟨ "Align_", 5, 4, false, "", "", 21⟩ := by kernel_rfl
theorem field76_5 : fieldOf Try.prog 76 5 = some ⟨ "FieldAlign_", 5, 5, false, "", "", 22⟩ := by kernel_rfl
theorem field76_6 : fieldOf Try.prog 76 6 = some ⟨ "Kind_", 70, 6, false, "", "", 23⟩ := by kernel_rfl
theorem field76_7 : fieldOf Try.prog 76 7 = some ⟨ "Equal", 71, 7, false, "", "", 24⟩ := by kernel_rfl
theorem field76_8 : fieldOf Try.prog 76 8 = some ⟨ "GCData", 72, 8, false, "", "", 32⟩ := by kernel_rfl
theorem field76_9 : fieldOf Try.prog 76 9 = some ⟨ "Str", 73, 9, false, "", "", 40⟩ := by kernel_rfl
theorem field76_10 : fieldOf Try.prog 76 10 = some ⟨ "PtrToThis", 74, 10, false, "", "", 44⟩ := by kernel_rfl

theorem tys0 :
  Try.prog.cellsOf 2 = 1 ∧
  Try.prog.bytesOf 2 = 8 ∧
  zeroOf Try.prog 2 = .int .i64 0 ∧
  Try.prog.cellsOf 3 = 1 ∧
  Try.prog.bytesOf 3 = 8 ∧
  zeroOf Try.prog 3 = .int .i64 0 ∧
  Try.prog.cellsOf 4 = 1 ∧
  Try.prog.bytesOf 4 = 1 ∧
  zeroOf Try.prog 4 = .bool false ∧
  Try.prog.cellsOf 5 = 1 ∧
  Try.prog.bytesOf 5 = 1 ∧
  zeroOf Try.prog 5 = .int .u8 0 ∧
  Try.prog.cellsOf 6 = 1 ∧
  Try.prog.bytesOf 6 = 1 ∧
  zeroOf Try.prog 6 = .int .u8 0 ∧
  Try.prog.cellsOf 9 = 1 ∧
  Try.prog.bytesOf 9 = 16 ∧
  zeroOf Try.prog 9 = .str [] ∧
  Try.prog.cellsOf 12 = 1 ∧
  Try.prog.bytesOf 12 = 8 ∧
  zeroOf Try.prog 12 = .int .u64 0 ∧
  Try.prog.cellsOf 21 = 1 ∧
  Try.prog.bytesOf 21 = 4 ∧
  zeroOf Try.prog 21 = .int .i32 0 ∧
  Try.prog.cellsOf 22 = 1 ∧
  Try.prog.bytesOf 22 = 24 ∧
  zeroOf Try.prog 22 = .nils ∧
  Try.prog.cellsOf 25 = 1 ∧
  Try.prog.bytesOf 25 = 24 ∧
  zeroOf Try.prog 25 = .nils ∧
  Try.prog.cellsOf 26 = 1 ∧
  Try.prog.bytesOf 26 = 4 ∧
  zeroOf Try.prog 26 = .flt .f32 0 ∧
  Try.prog.cellsOf 32 = 1 ∧
  Try.prog.bytesOf 32 = 8 ∧
  zeroOf Try.prog 32 = .flt .f64 0 ∧
  Try.prog.cellsOf 50 = 1 ∧
  Try.prog.bytesOf 50 = 24 ∧
  zeroOf Try.prog 50 = .nils ∧
  Try.prog.cellsOf 56 = 1 :=
  ⟨cells2, bytes2, zero2, cells3, bytes3, zero3, cells4, bytes4, zero4, cells5, bytes5, zero5, cells6, bytes6, zero6, cells9, bytes9, zero9, cells12, bytes12, zero12, cells21, bytes21, zero21, cells22, bytes22, zero22, cells25, bytes25, zero25, cells26, bytes26, zero26, cells32, bytes32, zero32, cells50, bytes50, zero50, cells56⟩
theorem tys1 :
  Try.prog.bytesOf 56 = 4 ∧
  zeroOf Try.prog 56 = .int .u32 0 ∧
  Try.prog.cellsOf 60 = 1 ∧
  Try.prog.bytesOf 60 = 8 ∧
  zeroOf Try.prog 60 = .int .u64 0 ∧
  Try.prog.cellsOf 63 = 4 ∧
  Try.prog.bytesOf 63 = 40 ∧
  zeroOf Try.prog 63 = .agg [.nilp, .nilp, .nilp, .str []] ∧
  Try.prog.cellsOf 64 = 4 ∧
  Try.prog.bytesOf 64 = 40 ∧
  zeroOf Try.prog 64 = .agg [.nilp, .nilp, .nilp, .str []] ∧
  Try.prog.cellsOf 69 = 1 ∧
  Try.prog.bytesOf 69 = 1 ∧
  zeroOf Try.prog 69 = .int .u8 0 ∧
  Try.prog.cellsOf 70 = 1 ∧
  Try.prog.bytesOf 70 = 1 ∧
  zeroOf Try.prog 70 = .int .u8 0 ∧
  Try.prog.cellsOf 72 = 1 ∧
  Try.prog.bytesOf 72 = 8 ∧
  zeroOf Try.prog 72 = .nilp ∧
  Try.prog.cellsOf 73 = 1 ∧
  Try.prog.bytesOf 73 = 4 ∧
  zeroOf Try.prog 73 = .int .i32 0 ∧
  Try.prog.cellsOf 74 = 1 ∧
  Try.prog.bytesOf 74 = 4 ∧
  zeroOf Try.prog 74 = .int .i32 0 ∧
  Try.prog.cellsOf 75 = 11 ∧
  Try.prog.bytesOf 75 = 48 ∧
  zeroOf Try.prog 75 = .agg [.int .u64 0, .int .u64 0, .int .u32 0, .int .u8 0, .int .u8 0, .int .u8 0, .int .u8 0, .nilf, .nilp, .int .i32 0, .int .i32 0] ∧
  Try.prog.cellsOf 76 = 11 ∧
  Try.prog.bytesOf 76 = 48 ∧
  zeroOf Try.prog 76 = .agg [.int .u64 0, .int .u64 0, .int .u32 0, .int .u8 0, .int .u8 0, .int .u8 0, .int .u8 0, .nilf, .nilp, .int .i32 0, .int .i32 0] ∧
  fieldOf Try.prog 63 0 = some ⟨ "_interface", 17, 0, false, "", "runtime", 0⟩ ∧
  fieldOf Try.prog 63 1 = some ⟨ "concrete", 17, 1, false, "", "runtime", 8⟩ ∧
  fieldOf Try.prog 63 2 = some ⟨ "asserted", 17, 2, false, "", "runtime", 16⟩ ∧
  fieldOf Try.prog 63 3 = some ⟨ "missingMethod", 9, 3, false, "", "runtime", 24⟩ ∧
  fieldOf Try.prog 64 0 = some ⟨ "_interface", 17, 0, false, "", "runtime", 0⟩ ∧
  fieldOf Try.prog 64 1 = some ⟨ "concrete", 17, 1, false, "", "runtime", 8⟩ ∧
  fieldOf Try.prog 64 2 = some ⟨ "asserted", 17, 2, false, "", "runtime", 16⟩ ∧
  fieldOf Try.prog 64 3 = some ⟨ "missingMethod", 9, 3, false, "", "runtime", 24⟩ :=
  ⟨bytes56, zero56, cells60, bytes60, zero60, cells63, bytes63, zero63, cells64, bytes64, zero64, cells69, bytes69, zero69, cells70, bytes70, zero70, cells72, bytes72, zero72, cells73, bytes73, zero73, cells74, bytes74, zero74, cells75, bytes75, zero75, cells76, bytes76, zero76, field63_0, field63_1, field63_2, field63_3, field64_0, field64_1, field64_2, field64_3⟩
theorem tys2 :
  fieldOf Try.prog 75 0 = some ⟨ "Size_", 12, 0, false, "", "", 0⟩ ∧
  fieldOf Try.prog 75 1 = some ⟨ "PtrBytes", 12, 1, false, "", "", 8⟩ ∧
  fieldOf Try.prog 75 2 = some ⟨ "Hash", 56, 2, false, "", "", 16⟩ ∧
  fieldOf Try.prog 75 3 = some ⟨ "TFlag", 69, 3, false, "", "", 20⟩ ∧
  fieldOf Try.prog 75 4 = some ⟨ "Align_", 5, 4, false, "", "", 21⟩ ∧
  fieldOf Try.prog 75 5 = some ⟨ "FieldAlign_", 5, 5, false, "", "", 22⟩ ∧
  fieldOf Try.prog 75 6 = some ⟨ "Kind_", 70, 6, false, "", "", 23⟩ ∧
  fieldOf Try.prog 75 7 = some ⟨ "Equal", 71, 7, false, "", "", 24⟩ ∧
  fieldOf Try.prog 75 8 = some ⟨ "GCData", 72, 8, false, "", "", 32⟩ ∧
  fieldOf Try.prog 75 9 = some ⟨ "Str", 73, 9, false, "", "", 40⟩ ∧
  fieldOf Try.prog 75 10 = some ⟨ "PtrToThis", 74, 10, false, "", "", 44⟩ ∧
  fieldOf Try.prog 76 0 = some ⟨ "Size_", 12, 0, false, "", "", 0⟩ ∧
  fieldOf Try.prog 76 1 = some ⟨ "PtrBytes", 12, 1, false, "", "", 8⟩ ∧
  fieldOf Try.prog 76 2 = some ⟨ "Hash", 56, 2, false, "", "", 16⟩ ∧
  fieldOf Try.prog 76 3 = some ⟨ "TFlag", 69, 3, false, "", "", 20⟩ ∧
  fieldOf Try.prog 76 4 = some ⟨ "Align_", 5, 4, false, "", "", 21⟩ ∧
  fieldOf Try.prog 76 5 = some ⟨ "FieldAlign_", 5, 5, false, "", "", 22⟩ ∧
  fieldOf Try.prog 76 6 = some ⟨ "Kind_", 70, 6, false, "", "", 23⟩ ∧
  fieldOf Try.prog 76 7 = some ⟨ "Equal", 71, 7, false, "", "", 24⟩ ∧
  fieldOf Try.prog 76 8 = some ⟨ "GCData", 72, 8, false, "", "", 32⟩ ∧
  fieldOf Try.prog 76 9 = some ⟨ "Str", 73, 9, false, "", "", 40⟩ ∧
  fieldOf Try.prog 76 10 = some ⟨ "PtrToThis", 74, 10, false, "", "", 44⟩ :=
  ⟨field75_0, field75_1, field75_2, field75_3, field75_4, field75_5, field75_6, field75_7, field75_8, field75_9, field75_10, field76_0, field76_1, field76_2, field76_3, field76_4, field76_5, field76_6, field76_7, field76_8, field76_9, field76_10⟩
def und0 := And.intro @Try.underlying2 (And.intro @Try.underlying3 (And.intro @Try.underlying4 (And.intro @Try.underlying5 (And.intro @Try.underlying6 (And.intro @Try.underlying9 (And.intro @Try.underlying12 (And.intro @Try.underlying21 (And.intro @Try.underlying22 (And.intro @Try.underlying25 (And.intro @Try.underlying26 @Try.underlying32))))))))))
def und1 := And.intro @Try.underlying50 (And.intro @Try.underlying56 (And.intro @Try.underlying60 (And.intro @Try.underlying63 (And.intro @Try.underlying64 (And.intro @Try.underlying69 (And.intro @Try.underlying70 (And.intro @Try.underlying72 (And.intro @Try.underlying73 (And.intro @Try.underlying74 (And.intro @Try.underlying75 @Try.underlying76))))))))))
theorem go3 : isGo Try.prog 3 := by unfold isGo; rw [Try.func3]; exact ⟨rfl, by kernel_rfl⟩
theorem go4 : isGo Try.prog 4 := by unfold isGo; rw [Try.func4]; exact ⟨rfl, by kernel_rfl⟩
theorem go5 : isGo Try.prog 5 := by unfold isGo; rw [Try.func5]; exact ⟨rfl, by kernel_rfl⟩
theorem go6 : isGo Try.prog 6 := by unfold isGo; rw [Try.func6]; exact ⟨rfl, by kernel_rfl⟩
theorem go7 : isGo Try.prog 7 := by unfold isGo; rw [Try.func7]; exact ⟨rfl, by kernel_rfl⟩
theorem go8 : isGo Try.prog 8 := by unfold isGo; rw [Try.func8]; exact ⟨rfl, by kernel_rfl⟩
theorem go9 : isGo Try.prog 9 := by unfold isGo; rw [Try.func9]; exact ⟨rfl, by kernel_rfl⟩
theorem go10 : isGo Try.prog 10 := by unfold isGo; rw [Try.func10]; exact ⟨rfl, by kernel_rfl⟩
theorem go11 : isGo Try.prog 11 := by unfold isGo; rw [Try.func11]; exact ⟨rfl, by kernel_rfl⟩
theorem go12 : isGo Try.prog 12 := by unfold isGo; rw [Try.func12]; exact ⟨rfl, by kernel_rfl⟩
theorem go13 : isGo Try.prog 13 := by unfold isGo; rw [Try.func13]; exact ⟨rfl, by kernel_rfl⟩
theorem go14 : isGo Try.prog 14 := by unfold isGo; rw [Try.func14]; exact ⟨rfl, by kernel_rfl⟩
theorem go15 : isGo Try.prog 15 := by unfold isGo; rw [Try.func15]; exact ⟨rfl, by kernel_rfl⟩
theorem go16 : isGo Try.prog 16 := by unfold isGo; rw [Try.func16]; exact ⟨rfl, by kernel_rfl⟩
theorem go17 : isGo Try.prog 17 := by unfold isGo; rw [Try.func17]; exact ⟨rfl, by kernel_rfl⟩
theorem go18 : isGo Try.prog 18 := by unfold isGo; rw [Try.func18]; exact ⟨rfl, by kernel_rfl⟩
theorem go19 : isGo Try.prog 19 := by unfold isGo; rw [Try.func19]; exact ⟨rfl, by kernel_rfl⟩
theorem go20 : isGo Try.prog 20 := by unfold isGo; rw [Try.func20]; exact ⟨rfl, by kernel_rfl⟩
theorem go21 : isGo Try.prog 21 := by unfold isGo; rw [Try.func21]; exact ⟨rfl, by kernel_rfl⟩
theorem go22 : isGo Try.prog 22 := by unfold isGo; rw [Try.func22]; exact ⟨rfl, by kernel_rfl⟩
theorem go23 : isGo Try.prog 23 := by unfold isGo; rw [Try.func23]; exact ⟨rfl, by kernel_rfl⟩
theorem go24 : isGo Try.prog 24 := by unfold isGo; rw [Try.func24]; exact ⟨rfl, by kernel_rfl⟩
theorem go25 : isGo Try.prog 25 := by unfold isGo; rw [Try.func25]; exact ⟨rfl, by kernel_rfl⟩
theorem go26 : isGo Try.prog 26 := by unfold isGo; rw [Try.func26]; exact ⟨rfl, by kernel_rfl⟩
theorem go27 : isGo Try.prog 27 := by unfold isGo; rw [Try.func27]; exact ⟨rfl, by kernel_rfl⟩
theorem go28 : isGo Try.prog 28 := by unfold isGo; rw [Try.func28]; exact ⟨rfl, by kernel_rfl⟩
theorem go29 : isGo Try.prog 29 := by unfold isGo; rw [Try.func29]; exact ⟨rfl, by kernel_rfl⟩
theorem go30 : isGo Try.prog 30 := by unfold isGo; rw [Try.func30]; exact ⟨rfl, by kernel_rfl⟩
theorem go31 : isGo Try.prog 31 := by unfold isGo; rw [Try.func31]; exact ⟨rfl, by kernel_rfl⟩
theorem go32 : isGo Try.prog 32 := by unfold isGo; rw [Try.func32]; exact ⟨rfl, by kernel_rfl⟩
theorem go33 : isGo Try.prog 33 := by unfold isGo; rw [Try.func33]; exact ⟨rfl, by kernel_rfl⟩
theorem go34 : isGo Try.prog 34 := by unfold isGo; rw [Try.func34]; exact ⟨rfl, by kernel_rfl⟩
theorem go35 : isGo Try.prog 35 := by unfold isGo; rw [Try.func35]; exact ⟨rfl, by kernel_rfl⟩
theorem go36 : isGo Try.prog 36 := by unfold isGo; rw [Try.func36]; exact ⟨rfl, by kernel_rfl⟩
theorem go37 : isGo Try.prog 37 := by unfold isGo; rw [Try.func37]; exact ⟨rfl, by kernel_rfl⟩
theorem go38 : isGo Try.prog 38 := by unfold isGo; rw [Try.func38]; exact ⟨rfl, by kernel_rfl⟩
theorem go39 : isGo Try.prog 39 := by unfold isGo; rw [Try.func39]; exact ⟨rfl, by kernel_rfl⟩
theorem go40 : isGo Try.prog 40 := by unfold isGo; rw [Try.func40]; exact ⟨rfl, by kernel_rfl⟩
theorem go41 : isGo Try.prog 41 := by unfold isGo; rw [Try.func41]; exact ⟨rfl, by kernel_rfl⟩
theorem go43 : isGo Try.prog 43 := by unfold isGo; rw [Try.func43]; exact ⟨rfl, by kernel_rfl⟩
def md3 : Nat → List Bool
  | 26 => [false, false, false, false, false, false, false, false, false, false, false, false, false, false]
  | _ => []
def md4 : Nat → List Bool := fun _ => []
def md5 : Nat → List Bool := fun _ => []
def md6 : Nat → List Bool := fun _ => []
def md7 : Nat → List Bool := fun _ => []
def md8 : Nat → List Bool := fun _ => []
def md9 : Nat → List Bool := fun _ => []
def md10 : Nat → List Bool
  | 6 => [false, false, false, false, false, false, false, false, false, false]
  | _ => []
def md11 : Nat → List Bool := fun _ => []
def md12 : Nat → List Bool := fun _ => []
def md13 : Nat → List Bool := fun _ => []
def md14 : Nat → List Bool := fun _ => []
def md15 : Nat → List Bool := fun _ => []
def md16 : Nat → List Bool := fun _ => []
def md17 : Nat → List Bool := fun _ => []
def md18 : Nat → List Bool := fun _ => []
def md19 : Nat → List Bool := fun _ => []
def md20 : Nat → List Bool := fun _ => []
def md21 : Nat → List Bool := fun _ => []
def md22 : Nat → List Bool := fun _ => []
def md23 : Nat → List Bool := fun _ => []
def md24 : Nat → List Bool
  | 5 => [false, false, false, false, false, false, false, false, false, false, false, false, false, false, false, false, false]
  | _ => []
def md25 : Nat → List Bool := fun _ => []
def md26 : Nat → List Bool
  | 5 => [false, false, false, false, false, false, false, false, false, false, false, false, false, false, false, false, false, false, false, false]
  | _ => []
def md27 : Nat → List Bool := fun _ => []
def md28 : Nat → List Bool := fun _ => []
def md29 : Nat → List Bool := fun _ => []
def md30 : Nat → List Bool := fun _ => []
def md31 : Nat → List Bool := fun _ => []
def md32 : Nat → List Bool := fun _ => []
def md33 : Nat → List Bool := fun _ => []
def md34 : Nat → List Bool := fun _ => []
def md35 : Nat → List Bool := fun _ => []
def md36 : Nat → List Bool := fun _ => []
def md37 : Nat → List Bool := fun _ => []
def md38 : Nat → List Bool := fun _ => []
def md39 : Nat → List Bool := fun _ => []
def md40 : Nat → List Bool := fun _ => []
def md41 : Nat → List Bool := fun _ => []
def md43 : Nat → List Bool := fun _ => []

end Go.Proofs.Ytobjnmdofgbacaa
