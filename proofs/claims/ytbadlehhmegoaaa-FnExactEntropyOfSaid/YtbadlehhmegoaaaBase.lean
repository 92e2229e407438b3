/- Closed facts of the program, for the abstract layer: types and functions. Printed by gen_base.py. -/
import Derived.Test.YtbadlehhmegoaaaProg
import Derived.Test.YtbadlehhmegoaaaAbsM4
set_option linter.unusedVariables false
set_option linter.defProp false
namespace Go.Proofs.Ytbadlehhmegoaaa
open Go Go.Abs

def zq0 := (And.intro @List.getD_cons_succ.{0} (And.intro @List.getD_cons_zero.{0} (And.intro @List.length_cons.{0} (And.intro @List.length_nil.{0} (And.intro @List.replicate_succ.{0} (And.intro @List.replicate_zero.{0} (And.intro @List.cons_append.{0} (And.intro @List.nil_append.{0} (And.intro @List.append_nil.{0} (And.intro @List.set_cons_succ.{0} (And.intro @List.set_cons_zero.{0} @true_and)))))))))))
def zq1 := (And.intro @and_true (And.intro @List.map_cons.{0,0} (And.intro @List.map_nil.{0,0} (And.intro @Int.toNat_natCast (And.intro @Int.natCast_nonneg (And.intro @exists_prop (And.intro @List.getElem_cons_zero.{0} (And.intro @List.getElem_cons_succ.{0} (And.intro @List.getElem?_cons_zero.{0} (And.intro @List.getElem?_cons_succ.{0} (And.intro @Nat.zero_lt_one @Option.bind_some.{0,0})))))))))))
def zq2 := (And.intro @Option.map_some.{0,0} (And.intro @Option.map_none.{0,0} (And.intro @Bool.not_true (And.intro @Bool.not_false (And.intro @List.all_cons.{0} (And.intro @List.all_nil.{0} (And.intro @Bool.and_true (And.intro @Bool.true_and (And.intro @List.take_zero.{0} (And.intro @List.drop_zero.{0} (And.intro @List.drop_succ_cons.{0} @List.take_succ_cons.{0})))))))))))
def zq3 := (And.intro @Nat.zero_add (And.intro @Nat.add_zero (And.intro @List.getElem?_toArray.{0} (And.intro @ge_iff_le.{0} (And.intro @gt_iff_lt.{0} (And.intro @Nat.le_refl (And.intro @Bool.false_eq_true (And.intro @Bool.not_eq_true (And.intro @Nat.succ_ne_self (And.intro @Option.some.injEq.{0} (And.intro @List.forall_mem_cons.{0} @List.not_mem_nil.{0})))))))))))
def zq4 := @false_implies

theorem mixed : Try.prog.follows .mixedOrders = true := by kernel_rfl
theorem cells2 : Try.prog.cellsOf 2 = 1 := by kernel_rfl
theorem bytes2 : Try.prog.bytesOf 2 = 8 := by kernel_rfl
theorem zero2 : zeroOf Try.prog 2 = .int .i64 0 := by kernel_rfl
theorem cells3 : Try.prog.cellsOf 3 = 1 := by kernel_rfl
theorem bytes3 : Try.prog.bytesOf 3 = 8 := by kernel_rfl
theorem zero3 : zeroOf Try.prog 3 = .int .i64 0 := by kernel_rfl
theorem cells4 : Try.prog.cellsOf 4 = 1 := by kernel_rfl
theorem bytes4 : Try.prog.bytesOf 4 = 1 := by kernel_rfl
theorem zero4 : zeroOf Try.prog 4 = .bool false := by kernel_rfl
theorem cells5 : Try.prog.cellsOf 5 = 1 := by kernel_rfl
theorem bytes5 : Try.prog.bytesOf 5 = 1 := by kernel_rfl
theorem zero5 : zeroOf Try.prog 5 = .int .u8 0 := by kernel_rfl
theorem cells6 : Try.prog.cellsOf 6 = 1 := by kernel_rfl
theorem bytes6 : Try.prog.bytesOf 6 = 1 := by kernel_rfl
theorem zero6 : zeroOf Try.prog 6 = .int .u8 0 := by kernel_rfl
theorem cells9 : Try.prog.cellsOf 9 = 1 := by kernel_rfl
theorem bytes9 : Try.prog.bytesOf 9 = 16 := by kernel_rfl
theorem zero9 : zeroOf Try.prog 9 = .str [] := by kernel_rfl
theorem cells12 : Try.prog.cellsOf 12 = 1 := by kernel_rfl
theorem bytes12 : Try.prog.bytesOf 12 = 8 := by kernel_rfl
theorem zero12 : zeroOf Try.prog 12 = .int .u64 0 := by kernel_rfl
theorem cells21 : Try.prog.cellsOf 21 = 1 := by kernel_rfl
theorem bytes21 : Try.prog.bytesOf 21 = 4 := by kernel_rfl
theorem zero21 : zeroOf Try.prog 21 = .int .i32 0 := by kernel_rfl
theorem cells22 : Try.prog.cellsOf 22 = 1 := by kernel_rfl
theorem bytes22 : Try.prog.bytesOf 22 = 24 := by kernel_rfl
theorem zero22 : zeroOf Try.prog 22 = .nils := by kernel_rfl
theorem cells23 : Try.prog.cellsOf 23 = 1 := by kernel_rfl
theorem bytes23 : Try.prog.bytesOf 23 = 4 := by kernel_rfl
theorem zero23 : zeroOf Try.prog 23 = .flt .f32 0 := by kernel_rfl
theorem cells28 : Try.prog.cellsOf 28 = 1 := by kernel_rfl
theorem bytes28 : Try.prog.bytesOf 28 = 8 := by kernel_rfl
theorem zero28 : zeroOf Try.prog 28 = .flt .f64 0 := by kernel_rfl
theorem cells44 : Try.prog.cellsOf 44 = 1 := by kernel_rfl
theorem bytes44 : Try.prog.bytesOf 44 = 8 := by kernel_rfl
theorem zero44 : zeroOf Try.prog 44 = .int .u64 0 := by kernel_rfl
theorem cells51 : Try.prog.cellsOf 51 = 4 := by kernel_rfl
theorem bytes51 : Try.prog.bytesOf 51 = 40 := by kernel_rfl
theorem zero51 : zeroOf Try.prog 51 = .agg [.nilp, .nilp, .nilp, .str []] := by kernel_rfl
theorem cells52 : Try.prog.cellsOf 52 = 4 := by kernel_rfl
theorem bytes52 : Try.prog.bytesOf 52 = 40 := by kernel_rfl
theorem zero52 : zeroOf Try.prog 52 = .agg [.nilp, .nilp, .nilp, .str []] := by kernel_rfl
theorem cells57 : Try.prog.cellsOf 57 = 1 := by kernel_rfl
theorem bytes57 : Try.prog.bytesOf 57 = 4 := by kernel_rfl
theorem zero57 : zeroOf Try.prog 57 = .int .u32 0 := by kernel_rfl
theorem cells58 : Try.prog.cellsOf 58 = 1 := by kernel_rfl
theorem bytes58 : Try.prog.bytesOf 58 = 1 := by kernel_rfl
theorem zero58 : zeroOf Try.prog 58 = .int .u8 0 := by kernel_rfl
theorem cells59 : Try.prog.cellsOf 59 = 1 := by kernel_rfl
theorem bytes59 : Try.prog.bytesOf 59 = 1 := by kernel_rfl
theorem zero59 : zeroOf Try.prog 59 = .int .u8 0 := by kernel_rfl
theorem cells61 : Try.prog.cellsOf 61 = 1 := by kernel_rfl
theorem bytes61 : Try.prog.bytesOf 61 = 8 := by kernel_rfl
theorem zero61 : zeroOf Try.prog 61 = .nilp := by kernel_rfl
theorem cells62 : Try.prog.cellsOf 62 = 1 := by kernel_rfl
theorem bytes62 : Try.prog.bytesOf 62 = 4 := by kernel_rfl
theorem zero62 : zeroOf Try.prog 62 = .int .i32 0 := by kernel_rfl
theorem cells63 : Try.prog.cellsOf 63 = 1 := by kernel_rfl
theorem bytes63 : Try.prog.bytesOf 63 = 4 := by kernel_rfl
theorem zero63 : zeroOf Try.prog 63 = .int .i32 0 := by kernel_rfl
theorem cells64 : Try.prog.cellsOf 64 = 11 := by kernel_rfl
theorem bytes64 : Try.prog.bytesOf 64 = 48 := by kernel_rfl
theorem zero64 : zeroOf Try.prog 64 = .agg [.int .u64 0, .int .u64 0, .int .u32 0, .int .u8 0, .int .u8 0, .int .u8 0, .int .u8 0, .nilf, .nilp, .int .i32 0, .int .i32 0] := by kernel_rfl
theorem cells65 : Try.prog.cellsOf 65 = 11 := by kernel_rfl
theorem bytes65 : Try.prog.bytesOf 65 = 48 := by kernel_rfl
theorem zero65 : zeroOf Try.prog 65 = .agg [.int .u64 0, .int .u64 0, .int .u32 0, .int .u8 0, .int .u8 0, .int .u8 0, .int .u8 0, .nilf, .nilp, .int .i32 0, .int .i32 0] := by kernel_rfl
theorem field51_0 : fieldOf Try.prog 51 0 = some ⟨ "_interface", 17, 0, false, "", "runtime", 0⟩ := by kernel_rfl
theorem field51_1 : fieldOf Try.prog 51 1 = some ⟨ "concrete", 17, 1, false, "", "runtime", 8⟩ := by kernel_rfl
theorem field51_2 : fieldOf Try.prog 51 2 = some ⟨ "asserted", 17, 2, false, "", "runtime", 16⟩ := by kernel_rfl
theorem field51_3 : fieldOf Try.prog 51 3 = some ⟨ "missingMethod", 9, 3, false, "", "runtime", 24⟩ := by kernel_rfl
theorem field52_0 : fieldOf Try.prog 52 0 = some ⟨ "_interface", 17, 0, false, "", "runtime", 0⟩ := by kernel_rfl
theorem field52_1 : fieldOf Try.prog 52 1 = some ⟨ "concrete", 17, 1, false, "", "runtime", 8⟩ := by kernel_rfl
theorem field52_2 : fieldOf Try.prog 52 2 = some ⟨ "asserted", 17, 2, false, "", "runtime", 16⟩ := by kernel_rfl
theorem field52_3 : fieldOf Try.prog 52 3 = some ⟨ "missingMethod", 9, 3, false, "", "runtime", 24⟩ := by kernel_rfl
theorem field64_0 : fieldOf Try.prog 64 0 = some ⟨ "Size_", 12, 0, false, "", "", 0⟩ := by kernel_rfl
theorem field64_1 : fieldOf Try.prog 64 1 = some ⟨ "PtrBytes", 12, 1, false, "", "", 8⟩ := by kernel_rfl
theorem field64_2 : fieldOf Try.prog 64 2 = some ⟨ "Hash", 57, 2, false, "", "", 16⟩ := by kernel_rfl
theorem field64_3 : fieldOf Try.prog 64 3 = some ⟨ "TFlag", 58, 3, false, "", "", 20⟩ := by kernel_rfl
theorem field64_4 : fieldOf Try.prog 64 4 = some ⟨ "Align_", 5, 4, false, "", "", 21⟩ := by kernel_rfl
theorem field64_5 : fieldOf Try.prog 64 5 = some ⟨ "FieldAlign_", 5, 5, false, "", "", 22⟩ := by kernel_rfl
theorem field64_6 : fieldOf Try.prog 64 6 = some ⟨ "Kind_", 59, 6, false, "", "", 23⟩ := by kernel_rfl
theorem field64_7 : fieldOf Try.prog 64 7 = some ⟨ "Equal", 60, 7, false, "", "", 24⟩ := by kernel_rfl
theorem field64_8 : fieldOf Try.prog 64 8 = some ⟨ "GCData", 61, 8, false, "", "", 32⟩ := by kernel_rfl
theorem field64_9 : fieldOf Try.prog 64 9 = some ⟨ "Str", 62, 9, false, "", "", 40⟩ := by kernel_rfl
theorem field64_10 : fieldOf Try.prog 64 10 = some ⟨ "PtrToThis", 63, 10, false, "", "", 44⟩ := by kernel_rfl
theorem field65_0 : fieldOf Try.prog 65 0 = some ⟨ "Size_", 12, 0, false, "", "", 0⟩ := by kernel_rfl
theorem field65_1 : fieldOf Try.prog 65 1 = some ⟨ "PtrBytes", 12, 1, false, "", "", 8⟩ := by kernel_rfl
theorem field65_2 : fieldOf Try.prog 65 2 = some ⟨ "Hash", 57, 2, false, "", "", 16⟩ := by kernel_rfl
theorem field65_3 : fieldOf Try.prog 65 3 = some ⟨ "TFlag", 58, 3, false, "", "", 20⟩ := by kernel_rfl
theorem field65_4 : fieldOf Try.prog 65 4 = some ⟨ "Align_", 5, 4, false, "", "", 21⟩ := by kernel_rfl
theorem field65_5 : fieldOf Try.prog 65 5 = some ⟨ "FieldAlign_", 5, 5, false, "", "", 22⟩ := by kernel_rfl
theorem field65_6 : fieldOf Try.prog 65 6 = some ⟨ "Kind_", 59, 6, false, "", "", 23⟩ := by kernel_rfl
theorem field65_7 : fieldOf Try.prog 65 7 = some ⟨ "Equal", 60, 7, false, "", "", 24⟩ := by kernel_rfl
theorem field65_8 : fieldOf Try.prog 65 8 = some ⟨ "GCData", 61, 8, false, "", "", 32⟩ := by kernel_rfl
theorem field65_9 : fieldOf Try.prog 65 9 = some ⟨ "Str", 62, 9, false, "", "", 40⟩ := by kernel_rfl
theorem field65_10 : fieldOf Try.prog 65 10 = some ⟨ "PtrToThis", 63, 10, false, "", "", 44⟩ := by kernel_rfl

theorem tys0 :
  Try.prog.cellsOf 2 = 1 ∧
  Try.prog.bytesOf 2 = 8 ∧
  zeroOf Try.prog 2 = .int .i64 0 ∧
  Try.prog.cellsOf 3 = 1 ∧
  Try.prog.bytesOf 3 = 8 ∧
  zeroOf Try.prog 3 = .int .i64 0 ∧
  Try.prog.cellsOf 4 = 1 ∧
  Try.prog.bytesOf 4 = 1 ∧
  zeroOf Try.prog 4 = .bool false ∧
  Try.prog.cellsOf 5 = 1 ∧
  Try.prog.bytesOf 5 = 1 ∧
  zeroOf Try.prog 5 = .int .u8 0 ∧
  Try.prog.cellsOf 6 = 1 ∧
  Try.prog.bytesOf 6 = 1 ∧
  zeroOf Try.prog 6 = .int .u8 0 ∧
  Try.prog.cellsOf 9 = 1 ∧
  Try.prog.bytesOf 9 = 16 ∧
  zeroOf Try.prog 9 = .str [] ∧
  Try.prog.cellsOf 12 = 1 ∧
  Try.prog.bytesOf 12 = 8 ∧
  zeroOf Try.prog 12 = .int .u64 0 ∧
  Try.prog.cellsOf 21 = 1 ∧
  Try.prog.bytesOf 21 = 4 ∧
  zeroOf Try.prog 21 = .int .i32 0 ∧
  Try.prog.cellsOf 22 = 1 ∧
  Try.prog.bytesOf 22 = 24 ∧
  zeroOf Try.prog 22 = .nils ∧
  Try.prog.cellsOf 23 = 1 ∧
  Try.prog.bytesOf 23 = 4 ∧
  zeroOf Try.prog 23 = .flt .f32 0 ∧
  Try.prog.cellsOf 28 = 1 ∧
  Try.prog.bytesOf 28 = 8 ∧
  zeroOf Try.prog 28 = .flt .f64 0 ∧
  Try.prog.cellsOf 44 = 1 ∧
  Try.prog.bytesOf 44 = 8 ∧
  zeroOf Try.prog 44 = .int .u64 0 ∧
  Try.prog.cellsOf 51 = 4 ∧
  Try.prog.bytesOf 51 = 40 ∧
  zeroOf Try.prog 51 = .agg [.nilp, .nilp, .nilp, .str []] ∧
  Try.prog.cellsOf 52 = 4 :=
  ⟨cells2, bytes2, zero2, cells3, bytes3, zero3, cells4, bytes4, zero4, cells5, bytes5, zero5, cells6, bytes6, zero6, cells9, bytes9, zero9, cells12, bytes12, zero12, cells21, bytes21, zero21, cells22, bytes22, zero22, cells23, bytes23, zero23, cells28, bytes28, zero28, cells44, bytes44, zero44, cells51, bytes51, zero51, cells52⟩
theorem tys1 :
  Try.prog.bytesOf 52 = 40 ∧
  zeroOf Try.prog 52 = .agg [.nilp, .nilp, .nilp, .str []] ∧
  Try.prog.cellsOf 57 = 1 ∧
  Try.prog.bytesOf 57 = 4 ∧
  zeroOf Try.prog 57 = .int .u32 0 ∧
  Try.prog.cellsOf 58 = 1 ∧
  Try.prog.bytesOf 58 = 1 ∧
  zeroOf Try.prog 58 = .int .u8 0 ∧
  Try.prog.cellsOf 59 = 1 ∧
  Try.prog.bytesOf 59 = 1 ∧
  zeroOf Try.prog 59 = .int .u8 0 ∧
  Try.prog.cellsOf 61 = 1 ∧
  Try.prog.bytesOf 61 = 8 ∧
  zeroOf Try.prog 61 = .nilp ∧
  Try.prog.cellsOf 62 = 1 ∧
  Try.prog.bytesOf 62 = 4 ∧
  zeroOf Try.prog 62 = .int .i32 0 ∧
  Try.prog.cellsOf 63 = 1 ∧
  Try.prog.bytesOf 63 = 4 ∧
  zeroOf Try.prog 63 = .int .i32 0 ∧
  Try.prog.cellsOf 64 = 11 ∧
  Try.prog.bytesOf 64 = 48 ∧
  zeroOf Try.prog 64 = .agg [.int .u64 0, .int .u64 0, .int .u32 0, .int .u8 0, .int .u8 0, .int .u8 0, .int .u8 0, .nilf, .nilp, .int .i32 0, .int .i32 0] ∧
  Try.prog.cellsOf 65 = 11 ∧
  Try.prog.bytesOf 65 = 48 ∧
  zeroOf Try.prog 65 = .agg [.int .u64 0, .int .u64 0, .int .u32 0, .int .u8 0, .int .u8 0, .int .u8 0, .int .u8 0, .nilf, .nilp, .int .i32 0, .int .i32 0] ∧
  fieldOf Try.prog 51 0 = some ⟨ "_interface", 17, 0, false, "", "runtime", 0⟩ ∧
  fieldOf Try.prog 51 1 = some ⟨ "concrete", 17, 1, false, "", "runtime", 8⟩ ∧
  fieldOf Try.prog 51 2 = some ⟨ "asserted", 17, 2, false, "", "runtime", 16⟩ ∧
  fieldOf Try.prog 51 3 = some ⟨ "missingMethod", 9, 3, false, "", "runtime", 24⟩ ∧
  fieldOf Try.prog 52 0 = some ⟨ "_interface", 17, 0, false, "", "runtime", 0⟩ ∧
  fieldOf Try.prog 52 1 = some ⟨ "concrete", 17, 1, false, "", "runtime", 8⟩ ∧
  fieldOf Try.prog 52 2 = some ⟨ "asserted", 17, 2, false, "", "runtime", 16⟩ ∧
  fieldOf Try.prog 52 3 = some ⟨ "missingMethod", 9, 3, false, "", "runtime", 24⟩ ∧
  fieldOf Try.prog 64 0 = some ⟨ "Size_", 12, 0, false, "", "", 0⟩ ∧
  fieldOf Try.prog 64 1 = some ⟨ "PtrBytes", 12, 1, false, "", "", 8⟩ ∧
  fieldOf Try.prog 64 2 = some ⟨ "Hash", 57, 2, false, "", "", 16⟩ ∧
  fieldOf Try.prog 64 3 = some ⟨ "TFlag", 58, 3, false, "", "", 20⟩ ∧
  fieldOf Try.prog 64 4 = some ⟨ "Align_", 5, 4, false, "", "", 21⟩ ∧
  fieldOf Try.prog 64 5 = some ⟨ "FieldAlign_", 5, 5, false, "", "", 22⟩ :=
  ⟨bytes52, zero52, cells57, bytes57, zero57, cells58, bytes58, zero58, cells59, bytes59, zero59, cells61, bytes61, zero61, cells62, bytes62, zero62, cells63, bytes63, zero63, cells64, bytes64, zero64, cells65, bytes65, zero65, field51_0, field51_1, field51_2, field51_3, field52_0, field52_1, field52_2, field52_3, field64_0, field64_1, field64_2, field64_3, field64_4, field64_5⟩
theorem tys2 :
  fieldOf Try.prog 64 6 = some ⟨ "Kind_", 59, 6, false, "", "", 23⟩ ∧
  fieldOf Try.prog 64 7 = some ⟨ "Equal", 60, 7, false, "", "", 24⟩ ∧
  fieldOf Try.prog 64 8 = some ⟨ "GCData", 61, 8, false, "", "", 32⟩ ∧
  fieldOf Try.prog 64 9 = some ⟨ "Str", 62, 9, false, "", "", 40⟩ ∧
  fieldOf Try.prog 64 10 = some ⟨ "PtrToThis", 63, 10, false, "", "", 44⟩ ∧
  fieldOf Try.prog 65 0 = some ⟨ "Size_", 12, 0, false, "", "", 0⟩ ∧
  fieldOf Try.prog 65 1 = some ⟨ "PtrBytes", 12, 1, false, "", "", 8⟩ ∧
  fieldOf Try.prog 65 2 = some ⟨ "Hash", 57, 2, false, "", "", 16⟩ ∧
  fieldOf Try.prog 65 3 = some ⟨ "TFlag", 58, 3, false, "", "", 20⟩ ∧
  fieldOf Try.prog 65 4 = some ⟨ "Align_", 5, 4, false, "", "", 21⟩ ∧
  fieldOf Try.prog 65 5 = some ⟨ "FieldAlign_", 5, 5, false, "", "", 22⟩ ∧
  fieldOf Try.prog 65 6 = some ⟨ "Kind_", 59, 6, false, "", "", 23⟩ ∧
  fieldOf Try.prog 65 7 = some ⟨ "Equal", 60, 7, false, "", "", 24⟩ ∧
  fieldOf Try.prog 65 8 = some ⟨ "GCData", 61, 8, false, "", "", 32⟩ ∧
  fieldOf Try.prog 65 9 = some ⟨ "Str", 62, 9, false, "", "", 40⟩ ∧
  fieldOf Try.prog 65 10 = some ⟨ "PtrToThis", 63, 10, false, "", "", 44⟩ :=
  ⟨field64_6, field64_7, field64_8, field64_9, field64_10, field65_0, field65_1, field65_2, field65_3, field65_4, field65_5, field65_6, field65_7, field65_8, field65_9, field65_10⟩
def und0 := And.intro @Try.underlying2 (And.intro @Try.underlying3 (And.intro @Try.underlying4 (And.intro @Try.underlying5 (And.intro @Try.underlying6 (And.intro @Try.underlying9 (And.intro @Try.underlying12 (And.intro @Try.underlying21 (And.intro @Try.underlying22 (And.intro @Try.underlying23 (And.intro @Try.underlying28 @Try.underlying44))))))))))
def und1 := And.intro @Try.underlying51 (And.intro @Try.underlying52 (And.intro @Try.underlying57 (And.intro @Try.underlying58 (And.intro @Try.underlying59 (And.intro @Try.underlying61 (And.intro @Try.underlying62 (And.intro @Try.underlying63 (And.intro @Try.underlying64 @Try.underlying65))))))))
theorem go3 : isGo Try.prog 3 := by unfold isGo; rw [Try.func3]; exact ⟨rfl, by kernel_rfl⟩
theorem go4 : isGo Try.prog 4 := by unfold isGo; rw [Try.func4]; exact ⟨rfl, by kernel_rfl⟩
theorem go5 : isGo Try.prog 5 := by unfold isGo; rw [Try.func5]; exact ⟨rfl, by kernel_rfl⟩
theorem go6 : isGo Try.prog 6 := by unfold isGo; rw [Try.func6]; exact ⟨rfl, by kernel_rfl⟩
theorem go7 : isGo Try.prog 7 := by unfold isGo; rw [Try.func7]; exact ⟨rfl, by kernel_rfl⟩
theorem go8 : isGo Try.prog 8 := by unfold isGo; rw [Try.func8]; exact ⟨rfl, by kernel_rfl⟩
theorem go9 : isGo Try.prog 9 := by unfold isGo; rw [Try.func9]; exact ⟨rfl, by kernel_rfl⟩
theorem go10 : isGo Try.prog 10 := by unfold isGo; rw [Try.func10]; exact ⟨rfl, by kernel_rfl⟩
theorem go11 : isGo Try.prog 11 := by unfold isGo; rw [Try.func11]; exact ⟨rfl, by kernel_rfl⟩
theorem go12 : isGo Try.prog 12 := by unfold isGo; rw [Try.func12]; exact ⟨rfl, by kernel_rfl⟩
theorem go13 : isGo Try.prog 13 := by unfold isGo; rw [Try.func13]; exact ⟨rfl, by kernel_rfl⟩
theorem go14 : isGo Try.prog 14 := by unfold isGo; rw [Try.func14]; exact ⟨rfl, by kernel_rfl⟩
theorem go15 : isGo Try.prog 15 := by unfold isGo; rw [Try.func15]; exact ⟨rfl, by kernel_rfl⟩
theorem go16 : isGo Try.prog 16 := by unfold isGo; rw [Try.func16]; exact ⟨rfl, by kernel_rfl⟩
theorem go17 : isGo Try.prog 17 := by unfold isGo; rw [Try.func17]; exact ⟨rfl, by kernel_rfl⟩
theorem go18 : isGo Try.prog 18 := by unfold isGo; rw [Try.func18]; exact ⟨rfl, by kernel_rfl⟩
theorem go19 : isGo Try.prog 19 := by unfold isGo; rw [Try.func19]; exact ⟨rfl, by kernel_rfl⟩
theorem go20 : isGo Try.prog 20 := by unfold isGo; rw [Try.func20]; exact ⟨rfl, by kernel_rfl⟩
theorem go21 : isGo Try.prog 21 := by unfold isGo; rw [Try.func21]; exact ⟨rfl, by kernel_rfl⟩
theorem go24 : isGo Try.prog 24 := by unfold isGo; rw [Try.func24]; exact ⟨rfl, by kernel_rfl⟩
theorem go25 : isGo Try.prog 25 := by unfold isGo; rw [Try.func25]; exact ⟨rfl, by kernel_rfl⟩
theorem go26 : isGo Try.prog 26 := by unfold isGo; rw [Try.func26]; exact ⟨rfl, by kernel_rfl⟩
theorem go27 : isGo Try.prog 27 := by unfold isGo; rw [Try.func27]; exact ⟨rfl, by kernel_rfl⟩
theorem go29 : isGo Try.prog 29 := by unfold isGo; rw [Try.func29]; exact ⟨rfl, by kernel_rfl⟩
theorem go30 : isGo Try.prog 30 := by unfold isGo; rw [Try.func30]; exact ⟨rfl, by kernel_rfl⟩
theorem go31 : isGo Try.prog 31 := by unfold isGo; rw [Try.func31]; exact ⟨rfl, by kernel_rfl⟩
theorem go32 : isGo Try.prog 32 := by unfold isGo; rw [Try.func32]; exact ⟨rfl, by kernel_rfl⟩
theorem go33 : isGo Try.prog 33 := by unfold isGo; rw [Try.func33]; exact ⟨rfl, by kernel_rfl⟩
theorem go34 : isGo Try.prog 34 := by unfold isGo; rw [Try.func34]; exact ⟨rfl, by kernel_rfl⟩
theorem go36 : isGo Try.prog 36 := by unfold isGo; rw [Try.func36]; exact ⟨rfl, by kernel_rfl⟩
def md3 : Nat → List Bool := fun _ => []
def md4 : Nat → List Bool := fun _ => []
def md5 : Nat → List Bool := fun _ => []
def md6 : Nat → List Bool := fun _ => []
def md7 : Nat → List Bool := fun _ => []
def md8 : Nat → List Bool
  | 6 => [false, false, false, false, false, false, false, false, false]
  | _ => []
def md9 : Nat → List Bool := fun _ => []
def md10 : Nat → List Bool := fun _ => []
def md11 : Nat → List Bool := fun _ => []
def md12 : Nat → List Bool := fun _ => []
def md13 : Nat → List Bool := fun _ => []
def md14 : Nat → List Bool := fun _ => []
def md15 : Nat → List Bool := fun _ => []
def md16 : Nat → List Bool := fun _ => []
def md17 : Nat → List Bool := fun _ => []
def md18 : Nat → List Bool := fun _ => []
def md19 : Nat → List Bool := fun _ => []
def md20 : Nat → List Bool := fun _ => []
def md21 : Nat → List Bool := fun _ => []
def md24 : Nat → List Bool := fun _ => []
def md25 : Nat → List Bool := fun _ => []
def md26 : Nat → List Bool := fun _ => []
def md27 : Nat → List Bool := fun _ => []
def md29 : Nat → List Bool := fun _ => []
def md30 : Nat → List Bool := fun _ => []
def md31 : Nat → List Bool := fun _ => []
def md32 : Nat → List Bool := fun _ => []
def md33 : Nat → List Bool := fun _ => []
def md34 : Nat → List Bool := fun _ => []
def md36 : Nat → List Bool := fun _ => []

end Go.Proofs.Ytbadlehhmegoaaa
