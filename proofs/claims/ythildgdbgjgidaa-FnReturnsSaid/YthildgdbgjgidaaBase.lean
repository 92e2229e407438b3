/- Closed facts of the program, for the abstract layer: types and functions. Printed by gen_base.py. -/
import Derived.Test.YthildgdbgjgidaaProg
import Derived.Test.YthildgdbgjgidaaAbsM4
set_option linter.unusedVariables false
set_option linter.defProp false
namespace Go.Proofs.Ythildgdbgjgidaa
open Go Go.Abs

def zq0 := (And.intro @List.getD_cons_succ.{0} (And.intro @List.getD_cons_zero.{0} (And.intro @List.length_cons.{0} (And.intro @List.length_nil.{0} (And.intro @List.replicate_succ.{0} (And.intro @List.replicate_zero.{0} (And.intro @List.cons_append.{0} (And.intro @List.nil_append.{0} (And.intro @List.append_nil.{0} (And.intro @List.set_cons_succ.{0} (And.intro @List.set_cons_zero.{0} @true_and)))))))))))
def zq1 := (And.intro @and_true (And.intro @List.map_cons.{0,0} (And.intro @List.map_nil.{0,0} (And.intro @Int.toNat_natCast (And.intro @Int.natCast_nonneg (And.intro @exists_prop (And.intro @List.getElem_cons_zero.{0} (And.intro @List.getElem_cons_succ.{0} (And.intro @List.getElem?_cons_zero.{0} (And.intro @List.getElem?_cons_succ.{0} (And.intro @Nat.zero_lt_one @Option.bind_some.{0,0})))))))))))
def zq2 := (And.intro @Option.map_some.{0,0} (And.intro @Option.map_none.{0,0} (And.intro @Bool.not_true (And.intro @Bool.not_false (And.intro @List.all_cons.{0} (And.intro @List.all_nil.{0} (And.intro @Bool.and_true (And.intro @Bool.true_and (And.intro @List.take_zero.{0} (And.intro @List.drop_zero.{0} (And.intro @List.drop_succ_cons.{0} @List.take_succ_cons.{0})))))))))))
def zq3 := (And.intro @Nat.zero_add (And.intro @Nat.add_zero (And.intro @List.getElem?_toArray.{0} (And.intro @ge_iff_le.{0} (And.intro @gt_iff_lt.{0} (And.intro @Nat.le_refl (And.intro @Bool.false_eq_true (And.intro @Bool.not_eq_true (And.intro @Nat.succ_ne_self (And.intro @Option.some.injEq.{0} (And.intro @List.forall_mem_cons.{0} @List.not_mem_nil.{0})))))))))))
def zq4 := @false_implies

theorem mixed : Try.prog.follows .mixedOrders = true := by kernel_rfl
theorem cells2 : Try.prog.cellsOf 2 = 1 := by kernel_rfl
theorem bytes2 : Try.prog.bytesOf 2 = 8 := by kernel_rfl
theorem zero2 : zeroOf Try.prog 2 = .int .i64 0 := by kernel_rfl
theorem cells3 : Try.prog.cellsOf 3 = 1 := by kernel_rfl
theorem bytes3 : Try.prog.bytesOf 3 = 8 := by kernel_rfl
theorem zero3 : zeroOf Try.prog 3 = .int .i64 0 := by kernel_rfl
theorem cells4 : Try.prog.cellsOf 4 = 1 := by kernel_rfl
theorem bytes4 : Try.prog.bytesOf 4 = 1 := by kernel_rfl
theorem zero4 : zeroOf Try.prog 4 = .bool false := by kernel_rfl
theorem cells5 : Try.prog.cellsOf 5 = 1 := by kernel_rfl
theorem bytes5 : Try.prog.bytesOf 5 = 1 := by kernel_rfl
theorem zero5 : zeroOf Try.prog 5 = .int .u8 0 := by kernel_rfl
theorem cells6 : Try.prog.cellsOf 6 = 1 := by kernel_rfl
theorem bytes6 : Try.prog.bytesOf 6 = 1 := by kernel_rfl
theorem zero6 : zeroOf Try.prog 6 = .int .u8 0 := by kernel_rfl
theorem cells9 : Try.prog.cellsOf 9 = 1 := by kernel_rfl
theorem bytes9 : Try.prog.bytesOf 9 = 16 := by kernel_rfl
theorem zero9 : zeroOf Try.prog 9 = .str [] := by kernel_rfl
theorem cells12 : Try.prog.cellsOf 12 = 1 := by kernel_rfl
theorem bytes12 : Try.prog.bytesOf 12 = 8 := by kernel_rfl
theorem zero12 : zeroOf Try.prog 12 = .int .u64 0 := by kernel_rfl
theorem cells21 : Try.prog.cellsOf 21 = 1 := by kernel_rfl
theorem bytes21 : Try.prog.bytesOf 21 = 4 := by kernel_rfl
theorem zero21 : zeroOf Try.prog 21 = .int .i32 0 := by kernel_rfl
theorem cells22 : Try.prog.cellsOf 22 = 1 := by kernel_rfl
theorem bytes22 : Try.prog.bytesOf 22 = 24 := by kernel_rfl
theorem zero22 : zeroOf Try.prog 22 = .nils := by kernel_rfl
theorem cells25 : Try.prog.cellsOf 25 = 1 := by kernel_rfl
theorem bytes25 : Try.prog.bytesOf 25 = 24 := by kernel_rfl
theorem zero25 : zeroOf Try.prog 25 = .nils := by kernel_rfl
theorem cells29 : Try.prog.cellsOf 29 = 1 := by kernel_rfl
theorem bytes29 : Try.prog.bytesOf 29 = 4 := by kernel_rfl
theorem zero29 : zeroOf Try.prog 29 = .flt .f32 0 := by kernel_rfl
theorem cells32 : Try.prog.cellsOf 32 = 1 := by kernel_rfl
theorem bytes32 : Try.prog.bytesOf 32 = 8 := by kernel_rfl
theorem zero32 : zeroOf Try.prog 32 = .flt .f64 0 := by kernel_rfl
theorem cells36 : Try.prog.cellsOf 36 = 1 := by kernel_rfl
theorem bytes36 : Try.prog.bytesOf 36 = 8 := by kernel_rfl
theorem zero36 : zeroOf Try.prog 36 = .nilp := by kernel_rfl
theorem cells46 : Try.prog.cellsOf 46 = 1 := by kernel_rfl
theorem bytes46 : Try.prog.bytesOf 46 = 8 := by kernel_rfl
theorem zero46 : zeroOf Try.prog 46 = .int .u64 0 := by kernel_rfl
theorem cells47 : Try.prog.cellsOf 47 = 3 := by kernel_rfl
theorem bytes47 : Try.prog.bytesOf 47 = 40 := by kernel_rfl
theorem zero47 : zeroOf Try.prog 47 = .agg [.nils, .int .i64 0, .int .u64 0] := by kernel_rfl
theorem cells48 : Try.prog.cellsOf 48 = 3 := by kernel_rfl
theorem bytes48 : Try.prog.bytesOf 48 = 40 := by kernel_rfl
theorem zero48 : zeroOf Try.prog 48 = .agg [.nils, .int .i64 0, .int .u64 0] := by kernel_rfl
theorem cells55 : Try.prog.cellsOf 55 = 1 := by kernel_rfl
theorem bytes55 : Try.prog.bytesOf 55 = 8 := by kernel_rfl
theorem zero55 : zeroOf Try.prog 55 = .int .u64 0 := by kernel_rfl
theorem cells64 : Try.prog.cellsOf 64 = 4 := by kernel_rfl
theorem bytes64 : Try.prog.bytesOf 64 = 40 := by kernel_rfl
theorem zero64 : zeroOf Try.prog 64 = .agg [.nilp, .nilp, .nilp, .str []] := by kernel_rfl
theorem cells65 : Try.prog.cellsOf 65 = 4 := by kernel_rfl
theorem bytes65 : Try.prog.bytesOf 65 = 40 := by kernel_rfl
theorem zero65 : zeroOf Try.prog 65 = .agg [.nilp, .nilp, .nilp, .str []] := by kernel_rfl
theorem cells70 : Try.prog.cellsOf 70 = 1 := by kernel_rfl
theorem bytes70 : Try.prog.bytesOf 70 = 4 := by kernel_rfl
theorem zero70 : zeroOf Try.prog 70 = .int .u32 0 := by kernel_rfl
theorem cells71 : Try.prog.cellsOf 71 = 1 := by kernel_rfl
theorem bytes71 : Try.prog.bytesOf 71 = 1 := by kernel_rfl
theorem zero71 : zeroOf Try.prog 71 = .int .u8 0 := by kernel_rfl
theorem cells72 : Try.prog.cellsOf 72 = 1 := by kernel_rfl
theorem bytes72 : Try.prog.bytesOf 72 = 1 := by kernel_rfl
theorem zero72 : zeroOf Try.prog 72 = .int .u8 0 := by kernel_rfl
theorem cells74 : Try.prog.cellsOf 74 = 1 := by kernel_rfl
theorem bytes74 : Try.prog.bytesOf 74 = 8 := by kernel_rfl
theorem zero74 : zeroOf Try.prog 74 = .nilp := by kernel_rfl
theorem cells75 : Try.prog.cellsOf 75 = 1 := by kernel_rfl
theorem bytes75 : Try.prog.bytesOf 75 = 4 := by kernel_rfl
theorem zero75 : zeroOf Try.prog 75 = .int .i32 0 := by kernel_rfl
theorem cells76 : Try.prog.cellsOf 76 = 1 := by kernel_rfl
theorem bytes76 : Try.prog.bytesOf 76 = 4 := by kernel_rfl
theorem zero76 : zeroOf Try.prog 76 = .int .i32 0 := by kernel_rfl
theorem cells77 : Try.prog.cellsOf 77 = 11 := by kernel_rfl
theorem bytes77 : Try.prog.bytesOf 77 = 48 := by kernel_rfl
theorem zero77 : zeroOf Try.prog 77 = .agg [.int .u64 0, .int .u64 0, .int .u32 0, .int .u8 0, .int .u8 0, .int .u8 0, .int .u8 0, .nilf, .nilp, .int .i32 0, .int .i32 0] := by kernel_rfl
theorem cells78 : Try.prog.cellsOf 78 = 11 := by kernel_rfl
theorem bytes78 : Try.prog.bytesOf 78 = 48 := by kernel_rfl
theorem zero78 : zeroOf Try.prog 78 = .agg [.int .u64 0, .int .u64 0, .int .u32 0, .int .u8 0, .int .u8 0, .int .u8 0, .int .u8 0, .nilf, .nilp, .int .i32 0, .int .i32 0] := by kernel_rfl
theorem field47_0 : fieldOf Try.prog 47 0 = some ⟨ "code", 22, 0, false, "", "loop.example/g01393/spec", 0⟩ := by kernel_rfl
theorem field47_1 : fieldOf Try.prog 47 1 = some ⟨ "at", 3, 1, false, "", "loop.example/g01393/spec", 24⟩ := by kernel_rfl
theorem field47_2 : fieldOf Try.prog 47 2 = some ⟨ "seed", 46, 2, false, "", "loop.example/g01393/spec", 32⟩ := by kernel_rfl
theorem field48_0 : fieldOf Try.prog 48 0 = some ⟨ "code", 22, 0, false, "", "loop.example/g01393/spec", 0⟩ := by kernel_rfl
theorem field48_1 : fieldOf Try.prog 48 1 = some ⟨ "at", 3, 1, false, "", "loop.example/g01393/spec", 24⟩ := by kernel_rfl
theorem field48_2 : fieldOf Try.prog 48 2 = some ⟨ "seed", 46, 2, false, "", "loop.example/g01393/spec", 32⟩ := by kernel_rfl
theorem field64_0 : fieldOf Try.prog 64 0 = some ⟨ "_interface", 17, 0, false, "", "runtime", 0⟩ := by kernel_rfl
theorem field64_1 : fieldOf Try.prog 64 1 = some ⟨ "concrete", 17, 1, false, "", "runtime", 8⟩ := by kernel_rfl
theorem field64_2 : fieldOf Try.prog 64 2 = some ⟨ "asserted", 17, 2, false, "", "runtime", 16⟩ := by kernel_rfl
theorem field64_3 : fieldOf Try.prog 64 3 = some ⟨ "missingMethod", 9, 3, false, "", "runtime", 24⟩ := by kernel_rfl
theorem field65_0 : fieldOf Try.prog 65 0 = some ⟨ "_interface", 17, 0, false, "", "runtime", 0⟩ := by kernel_rfl
theorem field65_1 : fieldOf Try.prog 65 1 = some ⟨ "concrete", 17, 1, false, "", "runtime", 8⟩ := by kernel_rfl
theorem field65_2 : fieldOf Try.prog 65 2 = some ⟨ "asserted", 17, 2, false, "", "runtime", 16⟩ := by kernel_rfl
theorem field65_3 : fieldOf Try.prog 65 3 = some ⟨ "missingMethod", 9, 3, false, "", "runtime", 24⟩ := by kernel_rfl
theorem field77_0 : fieldOf Try.prog 77 0 = some ⟨ "Size_", 12, 0, false, "", "", 0⟩ := by kernel_rfl
theorem field77_1 : fieldOf Try.prog 77 1 = some ⟨ "PtrBytes", 12, 1, false, "", "", 8⟩ := by kernel_rfl
theorem field77_2 : fieldOf Try.prog 77 2 = some ⟨ "Hash", 70, 2, false, "", "", 16⟩ := by kernel_rfl
theorem field77_3 : fieldOf Try.prog 77 3 = some ⟨ "TFlag", 71, 3, false, "", "", 20⟩ := by kernel_rfl
theorem field77_4 : fieldOf Try.prog 77 4 = some ⟨ "Align_", 5, 4, false, "", "", 21⟩ := by kernel_rfl
theorem field77_5 : fieldOf Try.prog 77 5 = some ⟨ "FieldAlign_", 5, 5, false, "", "", 22⟩ := by kernel_rfl
theorem field77_6 : fieldOf Try.prog 77 6 = some ⟨ "Kind_", 72, 6, false, "", "", 23⟩ := by kernel_rfl
theorem field77_7 : fieldOf Try.prog 77 7 = some ⟨ "Equal", 73, 7, false, "", "", 24⟩ := by kernel_rfl
theorem field77_8 : fieldOf Try.prog 77 8 = some ⟨ "GCData", 74, 8, false, "", "", 32⟩ := by kernel_rfl
theorem field77_9 : fieldOf Try.prog 77 9 = some ⟨ "Str", 75, 9, false, "", "", 40⟩ := by kernel_rfl
theorem field77_10 : fieldOf Try.prog 77 10 = some ⟨ "PtrToThis", 76, 10, false, "", "", 44⟩ := by kernel_rfl
theorem field78_0 : fieldOf Try.prog 78 0 = some ⟨ "Size_", 12, 0, false, "", "", 0⟩ := by kernel_rfl
theorem field78_1 : fieldOf Try.prog 78 1 = some ⟨ "PtrBytes", 12, 1, false, "", "", 8⟩ := by kernel_rfl
theorem field78_2 : fieldOf Try.prog 78 2 = some ⟨ "Hash", 70, 2, false, "", "", 16⟩ := by kernel_rfl
theorem field78_3 : fieldOf Try.prog 78 3 = some ⟨ "TFlag", 71, 3, false, "", "", 20⟩ := by kernel_rfl
theorem field78_4 : fieldOf Try.prog 78 4 = some ⟨ "Align_", 5, 4, false, "", "", 21⟩ := by kernel_rfl
theorem field78_5 : fieldOf Try.prog 78 5 = some ⟨ "FieldAlign_", 5, 5, false, "", "", 22⟩ := by kernel_rfl
theorem field78_6 : fieldOf Try.prog 78 6 = some ⟨ "Kind_", 72, 6, false, "", "", 23⟩ := by kernel_rfl
theorem field78_7 : fieldOf Try.prog 78 7 = some ⟨ "Equal", 73, 7, false, "", "", 24⟩ := by kernel_rfl
theorem field78_8 : fieldOf Try.prog 78 8 = some ⟨ "GCData", 74, 8, false, "", "", 32⟩ := by kernel_rfl
theorem field78_9 : fieldOf Try.prog 78 9 = some ⟨ "Str", 75, 9, false, "", "", 40⟩ := by kernel_rfl
theorem field78_10 : fieldOf Try.prog 78 10 = some ⟨ "PtrToThis", 76, 10, false, "", "", 44⟩ := by kernel_rfl

theorem tys0 :
  Try.prog.cellsOf 2 = 1 ∧
  Try.prog.bytesOf 2 = 8 ∧
  zeroOf Try.prog 2 = .int .i64 0 ∧
  Try.prog.cellsOf 3 = 1 ∧
  Try.prog.bytesOf 3 = 8 ∧
  zeroOf Try.prog 3 = .int .i64 0 ∧
  Try.prog.cellsOf 4 = 1 ∧
  Try.prog.bytesOf 4 = 1 ∧
  zeroOf Try.prog 4 = .bool false ∧
  Try.prog.cellsOf 5 = 1 ∧
  Try.prog.bytesOf 5 = 1 ∧
  zeroOf Try.prog 5 = .int .u8 0 ∧
  Try.prog.cellsOf 6 = 1 ∧
  Try.prog.bytesOf 6 = 1 ∧
  zeroOf Try.prog 6 = .int .u8 0 ∧
  Try.prog.cellsOf 9 = 1 ∧
  Try.prog.bytesOf 9 = 16 ∧
  zeroOf Try.prog 9 = .str [] ∧
  Try.prog.cellsOf 12 = 1 ∧
  Try.prog.bytesOf 12 = 8 ∧
  zeroOf Try.prog 12 = .int .u64 0 ∧
  Try.prog.cellsOf 21 = 1 ∧
  Try.prog.bytesOf 21 = 4 ∧
  zeroOf Try.prog 21 = .int .i32 0 ∧
  Try.prog.cellsOf 22 = 1 ∧
  Try.prog.bytesOf 22 = 24 ∧
  zeroOf Try.prog 22 = .nils ∧
  Try.prog.cellsOf 25 = 1 ∧
  Try.prog.bytesOf 25 = 24 ∧
  zeroOf Try.prog 25 = .nils ∧
  Try.prog.cellsOf 29 = 1 ∧
  Try.prog.bytesOf 29 = 4 ∧
  zeroOf Try.prog 29 = .flt .f32 0 ∧
  Try.prog.cellsOf 32 = 1 ∧
  Try.prog.bytesOf 32 = 8 ∧
  zeroOf Try.prog 32 = .flt .f64 0 ∧
  Try.prog.cellsOf 36 = 1 ∧
  Try.prog.bytesOf 36 = 8 ∧
  zeroOf Try.prog 36 = .nilp ∧
  Try.prog.cellsOf 46 = 1 :=
  ⟨cells2, bytes2, zero2, cells3, bytes3, zero3, cells4, bytes4, zero4, cells5, bytes5, zero5, cells6, bytes6, zero6, cells9, bytes9, zero9, cells12, bytes12, zero12, cells21, bytes21, zero21, cells22, bytes22, zero22, cells25, bytes25, zero25, cells29, bytes29, zero29, cells32, bytes32, zero32, cells36, bytes36, zero36, cells46⟩
theorem tys1 :
  Try.prog.bytesOf 46 = 8 ∧
  zeroOf Try.prog 46 = .int .u64 0 ∧
  Try.prog.cellsOf 47 = 3 ∧
  Try.prog.bytesOf 47 = 40 ∧
  zeroOf Try.prog 47 = .agg [.nils, .int .i64 0, .int .u64 0] ∧
  Try.prog.cellsOf 48 = 3 ∧
  Try.prog.bytesOf 48 = 40 ∧
  zeroOf Try.prog 48 = .agg [.nils, .int .i64 0, .int .u64 0] ∧
  Try.prog.cellsOf 55 = 1 ∧
  Try.prog.bytesOf 55 = 8 ∧
  zeroOf Try.prog 55 = .int .u64 0 ∧
  Try.prog.cellsOf 64 = 4 ∧
  Try.prog.bytesOf 64 = 40 ∧
  zeroOf Try.prog 64 = .agg [.nilp, .nilp, .nilp, .str []] ∧
  Try.prog.cellsOf 65 = 4 ∧
  Try.prog.bytesOf 65 = 40 ∧
  zeroOf Try.prog 65 = .agg [.nilp, .nilp, .nilp, .str []] ∧
  Try.prog.cellsOf 70 = 1 ∧
  Try.prog.bytesOf 70 = 4 ∧
  zeroOf Try.prog 70 = .int .u32 0 ∧
  Try.prog.cellsOf 71 = 1 ∧
  Try.prog.bytesOf 71 = 1 ∧
  zeroOf Try.prog 71 = .int .u8 0 ∧
  Try.prog.cellsOf 72 = 1 ∧
  Try.prog.bytesOf 72 = 1 ∧
  zeroOf Try.prog 72 = .int .u8 0 ∧
  Try.prog.cellsOf 74 = 1 ∧
  Try.prog.bytesOf 74 = 8 ∧
  zeroOf Try.prog 74 = .nilp ∧
  Try.prog.cellsOf 75 = 1 ∧
  Try.prog.bytesOf 75 = 4 ∧
  zeroOf Try.prog 75 = .int .i32 0 ∧
  Try.prog.cellsOf 76 = 1 ∧
  Try.prog.bytesOf 76 = 4 ∧
  zeroOf Try.prog 76 = .int .i32 0 ∧
  Try.prog.cellsOf 77 = 11 ∧
  Try.prog.bytesOf 77 = 48 ∧
  zeroOf Try.prog 77 = .agg [.int .u64 0, .int .u64 0, .int .u32 0, .int .u8 0, .int .u8 0, .int .u8 0, .int .u8 0, .nilf, .nilp, .int .i32 0, .int .i32 0] ∧
  Try.prog.cellsOf 78 = 11 ∧
  Try.prog.bytesOf 78 = 48 :=
  ⟨bytes46, zero46, cells47, bytes47, zero47, cells48, bytes48, zero48, cells55, bytes55, zero55, cells64, bytes64, zero64, cells65, bytes65, zero65, cells70, bytes70, zero70, cells71, bytes71, zero71, cells72, bytes72, zero72, cells74, bytes74, zero74, cells75, bytes75, zero75, cells76, bytes76, zero76, cells77, bytes77, zero77, cells78, bytes78⟩
theorem tys2 :
  zeroOf Try.prog 78 = .agg [.int .u64 0, .int .u64 0, .int .u32 0, .int .u8 0, .int .u8 0, .int .u8 0, .int .u8 0, .nilf, .nilp, .int .i32 0, .int .i32 0] ∧
  fieldOf Try.prog 47 0 = some ⟨ "code", 22, 0, false, "", "loop.example/g01393/spec", 0⟩ ∧
  fieldOf Try.prog 47 1 = some ⟨ "at", 3, 1, false, "", "loop.example/g01393/spec", 24⟩ ∧
  fieldOf Try.prog 47 2 = some ⟨ "seed", 46, 2, false, "", "loop.example/g01393/spec", 32⟩ ∧
  fieldOf Try.prog 48 0 = some ⟨ "code", 22, 0, false, "", "loop.example/g01393/spec", 0⟩ ∧
  fieldOf Try.prog 48 1 = some ⟨ "at", 3, 1, false, "", "loop.example/g01393/spec", 24⟩ ∧
  fieldOf Try.prog 48 2 = some ⟨ "seed", 46, 2, false, "", "loop.example/g01393/spec", 32⟩ ∧
  fieldOf Try.prog 64 0 = some ⟨ "_interface", 17, 0, false, "", "runtime", 0⟩ ∧
  fieldOf Try.prog 64 1 = some ⟨ "concrete", 17, 1, false, "", "runtime", 8⟩ ∧
  fieldOf Try.prog 64 2 = some ⟨ "asserted", 17, 2, false, "", "runtime", 16⟩ ∧
  fieldOf Try.prog 64 3 = some ⟨ "missingMethod", 9, 3, false, "", "runtime", 24⟩ ∧
  fieldOf Try.prog 65 0 = some ⟨ "_interface", 17, 0, false, "", "runtime", 0⟩ ∧
  fieldOf Try.prog 65 1 = some ⟨ "concrete", 17, 1, false, "", "runtime", 8⟩ ∧
  fieldOf Try.prog 65 2 = some ⟨ "asserted", 17, 2, false, "", "runtime", 16⟩ ∧
  fieldOf Try.prog 65 3 = some ⟨ "missingMethod", 9, 3, false, "", "runtime", 24⟩ ∧
  fieldOf Try.prog 77 0 = some ⟨ "Size_", 12, 0, false, "", "", 0⟩ ∧
  fieldOf Try.prog 77 1 = some ⟨ "PtrBytes", 12, 1, false, "", "", 8⟩ ∧
  fieldOf Try.prog 77 2 = some ⟨ "Hash", 70, 2, false, "", "", 16⟩ ∧
  fieldOf Try.prog 77 3 = some ⟨ "TFlag", 71, 3, false, "", "", 20⟩ ∧
  fieldOf Try.prog 77 4 = some ⟨ "Align_", 5, 4, false, "", "", 21⟩ ∧
  fieldOf Try.prog 77 5 = some ⟨ "FieldAlign_", 5, 5, false, "", "", 22⟩ ∧
  fieldOf Try.prog 77 6 = some ⟨ "Kind_", 72, 6, false, "", "", 23⟩ ∧
  fieldOf Try.prog 77 7 = some ⟨ "Equal", 73, 7, false, "", "", 24⟩ ∧
  fieldOf Try.prog 77 8 = some ⟨ "GCData", 74, 8, false, "", "", 32⟩ ∧
  fieldOf Try.prog 77 9 = some ⟨ "Str", 75, 9, false, "", "", 40⟩ ∧
  fieldOf Try.prog 77 10 = some ⟨ "PtrToThis", 76, 10, false, "", "", 44⟩ ∧
  fieldOf Try.prog 78 0 = some ⟨ "Size_", 12, 0, false, "", "", 0⟩ ∧
  fieldOf Try.prog 78 1 = some ⟨ "PtrBytes", 12, 1, false, "", "", 8⟩ ∧
  fieldOf Try.prog 78 2 = some ⟨ "Hash", 70, 2, false, "", "", 16⟩ ∧
  fieldOf Try.prog 78 3 = some ⟨ "TFlag", 71, 3, false, "", "", 20⟩ ∧
  fieldOf Try.prog 78 4 = some ⟨ "Align_", 5, 4, false, "", "", 21⟩ ∧
  fieldOf Try.prog 78 5 = some ⟨ "FieldAlign_", 5, 5, false, "", "", 22⟩ ∧
  fieldOf Try.prog 78 6 = some ⟨ "Kind_", 72, 6, false, "", "", 23⟩ ∧
  fieldOf Try.prog 78 7 = some ⟨ "Equal", 73, 7, false, "", "", 24⟩ ∧
  fieldOf Try.prog 78 8 = some ⟨ "GCData", 74, 8, false, "", "", 32⟩ ∧
  fieldOf Try.prog 78 9 = some ⟨ "Str", 75, 9, false, "", "", 40⟩ ∧
  fieldOf Try.prog 78 10 = some ⟨ "PtrToThis", 76, 10, false, "", "", 44⟩ :=
  ⟨zero78, field47_0, field47_1, field47_2, field48_0, field48_1, field48_2, field64_0, field64_1, field64_2, field64_3, field65_0, field65_1, field65_2, field65_3, field77_0, field77_1, field77_2, field77_3, field77_4, field77_5, field77_6, field77_7, field77_8, field77_9, field77_10, field78_0, field78_1, field78_2, field78_3, field78_4, field78_5, field78_6, field78_7, field78_8, field78_9, field78_10⟩
def und0 := And.intro @Try.underlying2 (And.intro @Try.underlying3 (And.intro @Try.underlying4 (And.intro @Try.underlying5 (And.intro @Try.underlying6 (And.intro @Try.underlying9 (And.intro @Try.underlying12 (And.intro @Try.underlying21 (And.intro @Try.underlying22 (And.intro @Try.underlying25 (And.intro @Try.underlying29 @Try.underlying32))))))))))
def und1 := And.intro @Try.underlying36 (And.intro @Try.underlying46 (And.intro @Try.underlying47 (And.intro @Try.underlying48 (And.intro @Try.underlying55 (And.intro @Try.underlying64 (And.intro @Try.underlying65 (And.intro @Try.underlying70 (And.intro @Try.underlying71 (And.intro @Try.underlying72 (And.intro @Try.underlying74 @Try.underlying75))))))))))
def und2 := And.intro @Try.underlying76 (And.intro @Try.underlying77 @Try.underlying78)
theorem go3 : isGo Try.prog 3 := by unfold isGo; rw [Try.func3]; exact ⟨rfl, by kernel_rfl⟩
theorem go4 : isGo Try.prog 4 := by unfold isGo; rw [Try.func4]; exact ⟨rfl, by kernel_rfl⟩
theorem go5 : isGo Try.prog 5 := by unfold isGo; rw [Try.func5]; exact ⟨rfl, by kernel_rfl⟩
theorem go6 : isGo Try.prog 6 := by unfold isGo; rw [Try.func6]; exact ⟨rfl, by kernel_rfl⟩
theorem go7 : isGo Try.prog 7 := by unfold isGo; rw [Try.func7]; exact ⟨rfl, by kernel_rfl⟩
theorem go8 : isGo Try.prog 8 := by unfold isGo; rw [Try.func8]; exact ⟨rfl, by kernel_rfl⟩
theorem go9 : isGo Try.prog 9 := by unfold isGo; rw [Try.func9]; exact ⟨rfl, by kernel_rfl⟩
theorem go10 : isGo Try.prog 10 := by unfold isGo; rw [Try.func10]; exact ⟨rfl, by kernel_rfl⟩
theorem go11 : isGo Try.prog 11 := by unfold isGo; rw [Try.func11]; exact ⟨rfl, by kernel_rfl⟩
theorem go12 : isGo Try.prog 12 := by unfold isGo; rw [Try.func12]; exact ⟨rfl, by kernel_rfl⟩
theorem go13 : isGo Try.prog 13 := by unfold isGo; rw [Try.func13]; exact ⟨rfl, by kernel_rfl⟩
theorem go14 : isGo Try.prog 14 := by unfold isGo; rw [Try.func14]; exact ⟨rfl, by kernel_rfl⟩
theorem go15 : isGo Try.prog 15 := by unfold isGo; rw [Try.func15]; exact ⟨rfl, by kernel_rfl⟩
theorem go16 : isGo Try.prog 16 := by unfold isGo; rw [Try.func16]; exact ⟨rfl, by kernel_rfl⟩
theorem go17 : isGo Try.prog 17 := by unfold isGo; rw [Try.func17]; exact ⟨rfl, by kernel_rfl⟩
theorem go18 : isGo Try.prog 18 := by unfold isGo; rw [Try.func18]; exact ⟨rfl, by kernel_rfl⟩
theorem go19 : isGo Try.prog 19 := by unfold isGo; rw [Try.func19]; exact ⟨rfl, by kernel_rfl⟩
theorem go20 : isGo Try.prog 20 := by unfold isGo; rw [Try.func20]; exact ⟨rfl, by kernel_rfl⟩
theorem go21 : isGo Try.prog 21 := by unfold isGo; rw [Try.func21]; exact ⟨rfl, by kernel_rfl⟩
theorem go22 : isGo Try.prog 22 := by unfold isGo; rw [Try.func22]; exact ⟨rfl, by kernel_rfl⟩
theorem go23 : isGo Try.prog 23 := by unfold isGo; rw [Try.func23]; exact ⟨rfl, by kernel_rfl⟩
theorem go24 : isGo Try.prog 24 := by unfold isGo; rw [Try.func24]; exact ⟨rfl, by kernel_rfl⟩
theorem go25 : isGo Try.prog 25 := by unfold isGo; rw [Try.func25]; exact ⟨rfl, by kernel_rfl⟩
theorem go26 : isGo Try.prog 26 := by unfold isGo; rw [Try.func26]; exact ⟨rfl, by kernel_rfl⟩
theorem go27 : isGo Try.prog 27 := by unfold isGo; rw [Try.func27]; exact ⟨rfl, by kernel_rfl⟩
theorem go30 : isGo Try.prog 30 := by unfold isGo; rw [Try.func30]; exact ⟨rfl, by kernel_rfl⟩
theorem go31 : isGo Try.prog 31 := by unfold isGo; rw [Try.func31]; exact ⟨rfl, by kernel_rfl⟩
theorem go32 : isGo Try.prog 32 := by unfold isGo; rw [Try.func32]; exact ⟨rfl, by kernel_rfl⟩
theorem go34 : isGo Try.prog 34 := by unfold isGo; rw [Try.func34]; exact ⟨rfl, by kernel_rfl⟩
theorem go35 : isGo Try.prog 35 := by unfold isGo; rw [Try.func35]; exact ⟨rfl, by kernel_rfl⟩
theorem go36 : isGo Try.prog 36 := by unfold isGo; rw [Try.func36]; exact ⟨rfl, by kernel_rfl⟩
theorem go37 : isGo Try.prog 37 := by unfold isGo; rw [Try.func37]; exact ⟨rfl, by kernel_rfl⟩
theorem go38 : isGo Try.prog 38 := by unfold isGo; rw [Try.func38]; exact ⟨rfl, by kernel_rfl⟩
theorem go39 : isGo Try.prog 39 := by unfold isGo; rw [Try.func39]; exact ⟨rfl, by kernel_rfl⟩
theorem go40 : isGo Try.prog 40 := by unfold isGo; rw [Try.func40]; exact ⟨rfl, by kernel_rfl⟩
def md3 : Nat → List Bool
  | 23 => [false, false, false, false, false, false, false, false, false, false, false, false, false, false, false, false, false, false, false, false, false, false, false, false, false, false, false, false, false, false, false, false, false, false, false, false, false, false, false, false, false]
  | _ => []
def md4 : Nat → List Bool := fun _ => []
def md5 : Nat → List Bool := fun _ => []
def md6 : Nat → List Bool := fun _ => []
def md7 : Nat → List Bool := fun _ => []
def md8 : Nat → List Bool := fun _ => []
def md9 : Nat → List Bool := fun _ => []
def md10 : Nat → List Bool := fun _ => []
def md11 : Nat → List Bool := fun _ => []
def md12 : Nat → List Bool := fun _ => []
def md13 : Nat → List Bool := fun _ => []
def md14 : Nat → List Bool := fun _ => []
def md15 : Nat → List Bool := fun _ => []
def md16 : Nat → List Bool := fun _ => []
def md17 : Nat → List Bool := fun _ => []
def md18 : Nat → List Bool
  | 1 => [false, false, false, false, false, false, false, false]
  | _ => []
def md19 : Nat → List Bool := fun _ => []
def md20 : Nat → List Bool := fun _ => []
def md21 : Nat → List Bool := fun _ => []
def md22 : Nat → List Bool := fun _ => []
def md23 : Nat → List Bool := fun _ => []
def md24 : Nat → List Bool := fun _ => []
def md25 : Nat → List Bool := fun _ => []
def md26 : Nat → List Bool
  | 2 => [false, false, false, false, false, false, false, false, false, false]
  | 3 => [false, false, false, false, false, false, false, false, false, false, false, false]
  | 6 => [false, false, false, false, false, false, false, false, false, false]
  | _ => []
def md27 : Nat → List Bool := fun _ => []
def md30 : Nat → List Bool := fun _ => []
def md31 : Nat → List Bool := fun _ => []
def md32 : Nat → List Bool := fun _ => []
def md34 : Nat → List Bool := fun _ => []
def md35 : Nat → List Bool := fun _ => []
def md36 : Nat → List Bool := fun _ => []
def md37 : Nat → List Bool := fun _ => []
def md38 : Nat → List Bool := fun _ => []
def md39 : Nat → List Bool := fun _ => []
def md40 : Nat → List Bool := fun _ => []

end Go.Proofs.Ythildgdbgjgidaa
