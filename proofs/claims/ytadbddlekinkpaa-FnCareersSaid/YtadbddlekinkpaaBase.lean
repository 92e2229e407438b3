/- Closed facts of the program, for the abstract layer: types and functions. Printed by gen_base.py. -/
import Derived.Test.YtadbddlekinkpaaProg
import Derived.Test.YtadbddlekinkpaaAbsM3
set_option linter.unusedVariables false
set_option linter.defProp false
namespace Go.Proofs.Ytadbddlekinkpaa
open Go Go.Abs

def zq0 := (And.intro @List.getD_cons_succ.{0} (And.intro @List.getD_cons_zero.{0} (And.intro @List.length_cons.{0} (And.intro @List.length_nil.{0} (And.intro @List.replicate_zero.{0} (And.intro @List.cons_append.{0} (And.intro @List.nil_append.{0} (And.intro @List.append_nil.{0} (And.intro @List.set_cons_succ.{0} (And.intro @List.set_cons_zero.{0} (And.intro @true_and @and_true)))))))))))
def zq1 := (And.intro @List.map_cons.{0,0} (And.intro @List.map_nil.{0,0} (And.intro @Int.toNat_natCast (And.intro @Int.natCast_nonneg (And.intro @exists_prop (And.intro @List.getElem_cons_zero.{0} (And.intro @List.getElem_cons_succ.{0} (And.intro @List.getElem?_cons_zero.{0} (And.intro @List.getElem?_cons_succ.{0} (And.intro @Nat.zero_lt_one (And.intro @Option.bind_some.{0,0} @Option.map_some.{0,0})))))))))))
def zq2 := (And.intro @Option.map_none.{0,0} (And.intro @Bool.not_true (And.intro @Bool.not_false (And.intro @List.all_cons.{0} (And.intro @List.all_nil.{0} (And.intro @Bool.and_true (And.intro @Bool.true_and (And.intro @List.take_zero.{0} (And.intro @List.drop_zero.{0} (And.intro @List.drop_succ_cons.{0} (And.intro @List.take_succ_cons.{0} @Nat.zero_add)))))))))))
def zq3 := (And.intro @Nat.add_zero (And.intro @List.getElem?_toArray.{0} (And.intro @ge_iff_le.{0} (And.intro @gt_iff_lt.{0} (And.intro @Nat.le_refl (And.intro @Bool.false_eq_true (And.intro @Bool.not_eq_true (And.intro @Nat.succ_ne_self (And.intro @Option.some.injEq.{0} (And.intro @List.forall_mem_cons.{0} (And.intro @List.not_mem_nil.{0} @false_implies)))))))))))

theorem mixed : Try.prog.follows .mixedOrders = true := by kernel_rfl
theorem cells2 : Try.prog.cellsOf 2 = 1 := by kernel_rfl
theorem bytes2 : Try.prog.bytesOf 2 = 8 := by kernel_rfl
theorem zero2 : zeroOf Try.prog 2 = .int .i64 0 := by kernel_rfl
theorem cells3 : Try.prog.cellsOf 3 = 1 := by kernel_rfl
theorem bytes3 : Try.prog.bytesOf 3 = 8 := by kernel_rfl
theorem zero3 : zeroOf Try.prog 3 = .int .i64 0 := by kernel_rfl
theorem cells4 : Try.prog.cellsOf 4 = 1 := by kernel_rfl
theorem bytes4 : Try.prog.bytesOf 4 = 1 := by kernel_rfl
theorem zero4 : zeroOf Try.prog 4 = .bool false := by kernel_rfl
theorem cells5 : Try.prog.cellsOf 5 = 1 := by kernel_rfl
theorem bytes5 : Try.prog.bytesOf 5 = 1 := by kernel_rfl
theorem zero5 : zeroOf Try.prog 5 = .int .u8 0 := by kernel_rfl
theorem cells6 : Try.prog.cellsOf 6 = 1 := by kernel_rfl
theorem bytes6 : Try.prog.bytesOf 6 = 1 := by kernel_rfl
theorem zero6 : zeroOf Try.prog 6 = .int .u8 0 := by kernel_rfl
theorem cells9 : Try.prog.cellsOf 9 = 1 := by kernel_rfl
theorem bytes9 : Try.prog.bytesOf 9 = 16 := by kernel_rfl
theorem zero9 : zeroOf Try.prog 9 = .str [] := by kernel_rfl
theorem cells12 : Try.prog.cellsOf 12 = 1 := by kernel_rfl
theorem bytes12 : Try.prog.bytesOf 12 = 8 := by kernel_rfl
theorem zero12 : zeroOf Try.prog 12 = .int .u64 0 := by kernel_rfl
theorem cells21 : Try.prog.cellsOf 21 = 1 := by kernel_rfl
theorem bytes21 : Try.prog.bytesOf 21 = 4 := by kernel_rfl
theorem zero21 : zeroOf Try.prog 21 = .int .i32 0 := by kernel_rfl
theorem cells22 : Try.prog.cellsOf 22 = 1 := by kernel_rfl
theorem bytes22 : Try.prog.bytesOf 22 = 24 := by kernel_rfl
theorem zero22 : zeroOf Try.prog 22 = .nils := by kernel_rfl
theorem cells24 : Try.prog.cellsOf 24 = 1 := by kernel_rfl
theorem bytes24 : Try.prog.bytesOf 24 = 24 := by kernel_rfl
theorem zero24 : zeroOf Try.prog 24 = .nils := by kernel_rfl
theorem cells41 : Try.prog.cellsOf 41 = 1 := by kernel_rfl
theorem bytes41 : Try.prog.bytesOf 41 = 24 := by kernel_rfl
theorem zero41 : zeroOf Try.prog 41 = .nils := by kernel_rfl
theorem cells46 : Try.prog.cellsOf 46 = 1 := by kernel_rfl
theorem bytes46 : Try.prog.bytesOf 46 = 8 := by kernel_rfl
theorem zero46 : zeroOf Try.prog 46 = .nilp := by kernel_rfl
theorem cells59 : Try.prog.cellsOf 59 = 1 := by kernel_rfl
theorem bytes59 : Try.prog.bytesOf 59 = 8 := by kernel_rfl
theorem zero59 : zeroOf Try.prog 59 = .int .u64 0 := by kernel_rfl
theorem cells60 : Try.prog.cellsOf 60 = 3 := by kernel_rfl
theorem bytes60 : Try.prog.bytesOf 60 = 40 := by kernel_rfl
theorem zero60 : zeroOf Try.prog 60 = .agg [.nils, .int .i64 0, .int .u64 0] := by kernel_rfl
theorem cells61 : Try.prog.cellsOf 61 = 3 := by kernel_rfl
theorem bytes61 : Try.prog.bytesOf 61 = 40 := by kernel_rfl
theorem zero61 : zeroOf Try.prog 61 = .agg [.nils, .int .i64 0, .int .u64 0] := by kernel_rfl
theorem cells65 : Try.prog.cellsOf 65 = 1 := by kernel_rfl
theorem bytes65 : Try.prog.bytesOf 65 = 8 := by kernel_rfl
theorem zero65 : zeroOf Try.prog 65 = .int .u64 0 := by kernel_rfl
theorem cells68 : Try.prog.cellsOf 68 = 1 := by kernel_rfl
theorem bytes68 : Try.prog.bytesOf 68 = 8 := by kernel_rfl
theorem zero68 : zeroOf Try.prog 68 = .int .i64 0 := by kernel_rfl
theorem cells77 : Try.prog.cellsOf 77 = 1 := by kernel_rfl
theorem bytes77 : Try.prog.bytesOf 77 = 4 := by kernel_rfl
theorem zero77 : zeroOf Try.prog 77 = .int .u32 0 := by kernel_rfl
theorem cells80 : Try.prog.cellsOf 80 = 1 := by kernel_rfl
theorem bytes80 : Try.prog.bytesOf 80 = 8 := by kernel_rfl
theorem zero80 : zeroOf Try.prog 80 = .int .u64 0 := by kernel_rfl
theorem cells84 : Try.prog.cellsOf 84 = 1 := by kernel_rfl
theorem bytes84 : Try.prog.bytesOf 84 = 8 := by kernel_rfl
theorem zero84 : zeroOf Try.prog 84 = .nilp := by kernel_rfl
theorem cells86 : Try.prog.cellsOf 86 = 1 := by kernel_rfl
theorem bytes86 : Try.prog.bytesOf 86 = 8 := by kernel_rfl
theorem zero86 : zeroOf Try.prog 86 = .nilp := by kernel_rfl
theorem cells90 : Try.prog.cellsOf 90 = 4 := by kernel_rfl
theorem bytes90 : Try.prog.bytesOf 90 = 40 := by kernel_rfl
theorem zero90 : zeroOf Try.prog 90 = .agg [.nilp, .nilp, .nilp, .str []] := by kernel_rfl
theorem cells91 : Try.prog.cellsOf 91 = 4 := by kernel_rfl
theorem bytes91 : Try.prog.bytesOf 91 = 40 := by kernel_rfl
theorem zero91 : zeroOf Try.prog 91 = .agg [.nilp, .nilp, .nilp, .str []] := by kernel_rfl
theorem cells96 : Try.prog.cellsOf 96 = 1 := by kernel_rfl
theorem bytes96 : Try.prog.bytesOf 96 = 1 := by kernel_rfl
theorem zero96 : zeroOf Try.prog 96 = .int .u8 0 := by kernel_rfl
theorem cells97 : Try.prog.cellsOf 97 = 1 := by kernel_rfl
theorem bytes97 : Try.prog.bytesOf 97 = 1 := by kernel_rfl
theorem zero97 : zeroOf Try.prog 97 = .int .u8 0 := by kernel_rfl
theorem cells99 : Try.prog.cellsOf 99 = 1 := by kernel_rfl
theorem bytes99 : Try.prog.bytesOf 99 = 8 := by kernel_rfl
theorem zero99 : zeroOf Try.prog 99 = .nilp := by kernel_rfl
theorem cells100 : Try.prog.cellsOf 100 = 1 := by kernel_rfl
theorem bytes100 : Try.prog.bytesOf 100 = 4 := by kernel_rfl
theorem zero100 : zeroOf Try.prog 100 = .int .i32 0 := by kernel_rfl
theorem cells101 : Try.prog.cellsOf 101 = 1 := by kernel_rfl
theorem bytes101 : Try.prog.bytesOf 101 = 4 := by kernel_rfl
theorem zero101 : zeroOf Try.prog 101 = .int .i32 0 := by kernel_rfl
theorem cells102 : Try.prog.cellsOf 102 = 11 := by kernel_rfl
theorem bytes102 : Try.prog.bytesOf 102 = 48 := by kernel_rfl
theorem zero102 : zeroOf Try.prog 102 = .agg [.int .u64 0, .int .u64 0, .int .u32 0, .int .u8 0, .int .u8 0, .int .u8 0, .int .u8 0, .nilf, .nilp, .int .i32 0, .int .i32 0] := by kernel_rfl
theorem cells103 : Try.prog.cellsOf 103 = 11 := by kernel_rfl
theorem bytes103 : Try.prog.bytesOf 103 = 48 := by kernel_rfl
theorem zero103 : zeroOf Try.prog 103 = .agg [.int .u64 0, .int .u64 0, .int .u32 0, .int .u8 0, .int .u8 0, .int .u8 0, .int .u8 0, .nilf, .nilp, .int .i32 0, .int .i32 0] := by kernel_rfl
theorem field60_0 : fieldOf Try.prog 60 0 = some ⟨ "code", 22, 0, false, "", "loop.example/g01393/spec", 0⟩ := by kernel_rfl
theorem field60_1 : fieldOf Try.prog 60 1 = some ⟨ "at", 3, 1, false, "", "loop.example/g01393/spec", 24⟩ := by kernel_rfl
theorem field60_2 : fieldOf Try.prog 60 2 = some ⟨ "seed", 59, 2, false, "", "loop.example/g01393/spec", 32⟩ := by kernel_rfl
theorem field61_0 : fieldOf Try.prog 61 0 = some ⟨ "code", 22, 0, false, "", "loop.example/g01393/spec", 0⟩ := by kernel_rfl
theorem field61_1 : fieldOf Try.prog 61 1 = some ⟨ "at", 3, 1, false, "", "loop.example/g01393/spec", 24⟩ := by kernel_rfl
theorem field61_2 : fieldOf Try.prog 61 2 = some ⟨ "seed", 59, 2, false, "", "loop.example/g01393/spec", 32⟩ := by kernel_rfl
theorem field90_0 : fieldOf Try.prog 90 0 = some ⟨ "_interface", 17, 0, false, "", "runtime", 0⟩ := by kernel_rfl
theorem field90_1 : fieldOf Try.prog 90 1 = some ⟨ "concrete", 17, 1, false, "", "runtime", 8⟩ := by kernel_rfl
theorem field90_2 : fieldOf Try.prog 90 2 = some ⟨ "asserted", 17, 2, false, "", "runtime", 16⟩ := by kernel_rfl
theorem field90_3 : fieldOf Try.prog 90 3 = some ⟨ "missingMethod", 9, 3, false, "", "runtime", 24⟩ := by kernel_rfl
theorem field91_0 : fieldOf Try.prog 91 0 = some ⟨ "_interface", 17, 0, false, "", "runtime", 0⟩ := by kernel_rfl
theorem field91_1 : fieldOf Try.prog 91 1 = some ⟨ "concrete", 17, 1, false, "", "runtime", 8⟩ := by kernel_rfl
theorem field91_2 : fieldOf Try.prog 91 2 = some ⟨ "asserted", 17, 2, false, "", "runtime", 16⟩ := by kernel_rfl
theorem field91_3 : fieldOf Try.prog 91 3 = some ⟨ "missingMethod", 9, 3, false, "", "runtime", 24⟩ := by kernel_rfl
theorem field102_0 : fieldOf Try.prog 102 0 = some ⟨ "Size_", 12, 0, false, "", "", 0⟩ := by kernel_rfl
theorem field102_1 : fieldOf Try.prog 102 1 = some ⟨ "PtrBytes", 12, 1, false, "", "", 8⟩ := by kernel_rfl
theorem field102_2 : fieldOf Try.prog 102 2 = some ⟨ "Hash", 77, 2, false, "", "", 16⟩ := by kernel_rfl
theorem field102_3 : fieldOf Try.prog 102 3 = some ⟨ "TFlag", 96, 3, false, "", "", 20⟩ := by kernel_rfl
theorem field102_4 : fieldOf Try.prog 102 4 = some ⟨ "Align_", 5, 4, false, "", "", 21⟩ := by kernel_rfl
theorem field102_5 : fieldOf Try.prog 102 5 = some ⟨ "FieldAlign_", 5, 5, false, "", "", 22⟩ := by kernel_rfl
theorem field102_6 : fieldOf Try.prog 102 6 = some ⟨ "Kind_", 97, 6, false, "", "", 23⟩ := by kernel_rfl
theorem field102_7 : fieldOf Try.prog 102 7 = some ⟨ "Equal", 98, 7, false, "", "", 24⟩ := by kernel_rfl
theorem field102_8 : fieldOf Try.prog 102 8 = some ⟨ "GCData", 99, 8, false, "", "", 32⟩ := by kernel_rfl
theorem field102_9 : fieldOf Try.prog 102 9 = some ⟨ "Str", 100, 9, false, "", "", 40⟩ := by kernel_rfl
theorem field102_10 : fieldOf Try.prog 102 10 = some ⟨ "PtrToThis", 101, 10, false, "", "", 44⟩ := by kernel_rfl
theorem field103_0 : fieldOf Try.prog 103 0 = some ⟨ "Size_", 12, 0, false, "", "", 0⟩ := by kernel_rfl
theorem field103_1 : fieldOf Try.prog 103 1 = some ⟨ "PtrBytes", 12, 1, false, "", "", 8⟩ := by kernel_rfl
theorem field103_2 : fieldOf Try.prog 103 2 = some ⟨ "Hash", 77, 2, false, "", "", 16⟩ := by kernel_rfl
theorem field103_3 : fieldOf Try.prog 103 3 = some ⟨ "TFlag", 96, 3, false, "", "", 20⟩ := by kernel_rfl
theorem field103_4 : fieldOf Try.prog 103 4 = some ⟨ "Align_", 5, 4, false, "", "", 21⟩ := by kernel_rfl
theorem field103_5 : fieldOf Try.prog 103 5 = some ⟨ "FieldAlign_", 5, 5, false, "", "", 22⟩ := by kernel_rfl
theorem field103_6 : fieldOf Try.prog 103 6 = some ⟨ "Kind_", 97, 6, false, "", "", 23⟩ := by kernel_rfl
theorem field103_7 : fieldOf Try.prog 103 7 = some ⟨ "Equal", 98, 7, false, "", "", 24⟩ := by kernel_rfl
theorem field103_8 : fieldOf Try.prog 103 8 = some ⟨ "GCData", 99, 8, false, "", "", 32⟩ := by kernel_rfl
theorem field103_9 : fieldOf Try.prog 103 9 = some ⟨ "Str", 100, 9, false, "", "", 40⟩ := by kernel_rfl
theorem field103_10 : fieldOf Try.prog 103 10 = some ⟨ "PtrToThis", 101, 10, false, "", "", 44⟩ := by kernel_rfl

theorem tys0 :
  Try.prog.cellsOf 2 = 1 ∧
  Try.prog.bytesOf 2 = 8 ∧
  zeroOf Try.prog 2 = .int .i64 0 ∧
  Try.prog.cellsOf 3 = 1 ∧
  Try.prog.bytesOf 3 = 8 ∧
  zeroOf Try.prog 3 = .int .i64 0 ∧
  Try.prog.cellsOf 4 = 1 ∧
  Try.prog.bytesOf 4 = 1 ∧
  zeroOf Try.prog 4 = .bool false ∧
  Try.prog.cellsOf 5 = 1 ∧
  Try.prog.bytesOf 5 = 1 ∧
  zeroOf Try.prog 5 = .int .u8 0 ∧
  Try.prog.cellsOf 6 = 1 ∧
  Try.prog.bytesOf 6 = 1 ∧
  zeroOf Try.prog 6 = .int .u8 0 ∧
  Try.prog.cellsOf 9 = 1 ∧
  Try.prog.bytesOf 9 = 16 ∧
  zeroOf Try.prog 9 = .str [] ∧
  Try.prog.cellsOf 12 = 1 ∧
  Try.prog.bytesOf 12 = 8 ∧
  zeroOf Try.prog 12 = .int .u64 0 ∧
  Try.prog.cellsOf 21 = 1 ∧
  Try.prog.bytesOf 21 = 4 ∧
  zeroOf Try.prog 21 = .int .i32 0 ∧
  Try.prog.cellsOf 22 = 1 ∧
  Try.prog.bytesOf 22 = 24 ∧
  zeroOf Try.prog 22 = .nils ∧
  Try.prog.cellsOf 24 = 1 ∧
  Try.prog.bytesOf 24 = 24 ∧
  zeroOf Try.prog 24 = .nils ∧
  Try.prog.cellsOf 41 = 1 ∧
  Try.prog.bytesOf 41 = 24 ∧
  zeroOf Try.prog 41 = .nils ∧
  Try.prog.cellsOf 46 = 1 ∧
  Try.prog.bytesOf 46 = 8 ∧
  zeroOf Try.prog 46 = .nilp ∧
  Try.prog.cellsOf 59 = 1 ∧
  Try.prog.bytesOf 59 = 8 ∧
  zeroOf Try.prog 59 = .int .u64 0 ∧
  Try.prog.cellsOf 60 = 3 :=
  ⟨cells2, bytes2, zero2, cells3, bytes3, zero3, cells4, bytes4, zero4, cells5, bytes5, zero5, cells6, bytes6, zero6, cells9, bytes9, zero9, cells12, bytes12, zero12, cells21, bytes21, zero21, cells22, bytes22, zero22, cells24, bytes24, zero24, cells41, bytes41, zero41, cells46, bytes46, zero46, cells59, bytes59, zero59, cells60⟩
theorem tys1 :
  Try.prog.bytesOf 60 = 40 ∧
  zeroOf Try.prog 60 = .agg [.nils, .int .i64 0, .int .u64 0] ∧
  Try.prog.cellsOf 61 = 3 ∧
  Try.prog.bytesOf 61 = 40 ∧
  zeroOf Try.prog 61 = .agg [.nils, .int .i64 0, .int .u64 0] ∧
  Try.prog.cellsOf 65 = 1 ∧
  Try.prog.bytesOf 65 = 8 ∧
  zeroOf Try.prog 65 = .int .u64 0 ∧
  Try.prog.cellsOf 68 = 1 ∧
  Try.prog.bytesOf 68 = 8 ∧
  zeroOf Try.prog 68 = .int .i64 0 ∧
  Try.prog.cellsOf 77 = 1 ∧
  Try.prog.bytesOf 77 = 4 ∧
  zeroOf Try.prog 77 = .int .u32 0 ∧
  Try.prog.cellsOf 80 = 1 ∧
  Try.prog.bytesOf 80 = 8 ∧
  zeroOf Try.prog 80 = .int .u64 0 ∧
  Try.prog.cellsOf 84 = 1 ∧
  Try.prog.bytesOf 84 = 8 ∧
  zeroOf Try.prog 84 = .nilp ∧
  Try.prog.cellsOf 86 = 1 ∧
  Try.prog.bytesOf 86 = 8 ∧
  zeroOf Try.prog 86 = .nilp ∧
  Try.prog.cellsOf 90 = 4 ∧
  Try.prog.bytesOf 90 = 40 ∧
  zeroOf Try.prog 90 = .agg [.nilp, .nilp, .nilp, .str []] ∧
  Try.prog.cellsOf 91 = 4 ∧
  Try.prog.bytesOf 91 = 40 ∧
  zeroOf Try.prog 91 = .agg [.nilp, .nilp, .nilp, .str []] ∧
  Try.prog.cellsOf 96 = 1 ∧
  Try.prog.bytesOf 96 = 1 ∧
  zeroOf Try.prog 96 = .int .u8 0 ∧
  Try.prog.cellsOf 97 = 1 ∧
  Try.prog.bytesOf 97 = 1 ∧
  zeroOf Try.prog 97 = .int .u8 0 ∧
  Try.prog.cellsOf 99 = 1 ∧
  Try.prog.bytesOf 99 = 8 ∧
  zeroOf Try.prog 99 = .nilp ∧
  Try.prog.cellsOf 100 = 1 ∧
  Try.prog.bytesOf 100 = 4 :=
  ⟨bytes60, zero60, cells61, bytes61, zero61, cells65, bytes65, zero65, cells68, bytes68, zero68, cells77, bytes77, zero77, cells80, bytes80, zero80, cells84, bytes84, zero84, cells86, bytes86, zero86, cells90, bytes90, zero90, cells91, bytes91, zero91, cells96, bytes96, zero96, cells97, bytes97, zero97, cells99, bytes99, zero99, cells100, bytes100⟩
theorem tys2 :
  zeroOf Try.prog 100 = .int .i32 0 ∧
  Try.prog.cellsOf 101 = 1 ∧
  Try.prog.bytesOf 101 = 4 ∧
  zeroOf Try.prog 101 = .int .i32 0 ∧
  Try.prog.cellsOf 102 = 11 ∧
  Try.prog.bytesOf 102 = 48 ∧
  zeroOf Try.prog 102 = .agg [.int .u64 0, .int .u64 0, .int .u32 0, .int .u8 0, .int .u8 0, .int .u8 0, .int .u8 0, .nilf, .nilp, .int .i32 0, .int .i32 0] ∧
  Try.prog.cellsOf 103 = 11 ∧
  Try.prog.bytesOf 103 = 48 ∧
  zeroOf Try.prog 103 = .agg [.int .u64 0, .int .u64 0, .int .u32 0, .int .u8 0, .int .u8 0, .int .u8 0, .int .u8 0, .nilf, .nilp, .int .i32 0, .int .i32 0] ∧
  fieldOf Try.prog 60 0 = some ⟨ "code", 22, 0, false, "", "loop.example/g01393/spec", 0⟩ ∧
  fieldOf Try.prog 60 1 = some ⟨ "at", 3, 1, false, "", "loop.example/g01393/spec", 24⟩ ∧
  fieldOf Try.prog 60 2 = some ⟨ "seed", 59, 2, false, "", "loop.example/g01393/spec", 32⟩ ∧
  fieldOf Try.prog 61 0 = some ⟨ "code", 22, 0, false, "", "loop.example/g01393/spec", 0⟩ ∧
  fieldOf Try.prog 61 1 = some ⟨ "at", 3, 1, false, "", "loop.example/g01393/spec", 24⟩ ∧
  fieldOf Try.prog 61 2 = some ⟨ "seed", 59, 2, false, "", "loop.example/g01393/spec", 32⟩ ∧
  fieldOf Try.prog 90 0 = some ⟨ "_interface", 17, 0, false, "", "runtime", 0⟩ ∧
  fieldOf Try.prog 90 1 = some ⟨ "concrete", 17, 1, false, "", "runtime", 8⟩ ∧
  fieldOf Try.prog 90 2 = some ⟨ "asserted", 17, 2, false, "", "runtime", 16⟩ ∧
  fieldOf Try.prog 90 3 = some ⟨ "missingMethod", 9, 3, false, "", "runtime", 24⟩ ∧
  fieldOf Try.prog 91 0 = some ⟨ "_interface", 17, 0, false, "", "runtime", 0⟩ ∧
  fieldOf Try.prog 91 1 = some ⟨ "concrete", 17, 1, false, "", "runtime", 8⟩ ∧
  fieldOf Try.prog 91 2 = some ⟨ "asserted", 17, 2, false, "", "runtime", 16⟩ ∧
  fieldOf Try.prog 91 3 = some ⟨ "missingMethod", 9, 3, false, "", "runtime", 24⟩ ∧
  fieldOf Try.prog 102 0 = some ⟨ "Size_", 12, 0, false, "", "", 0⟩ ∧
  fieldOf Try.prog 102 1 = some ⟨ "PtrBytes", 12, 1, false, "", "", 8⟩ ∧
  fieldOf Try.prog 102 2 = some ⟨ "Hash", 77, 2, false, "", "", 16⟩ ∧
  fieldOf Try.prog 102 3 = some ⟨ "TFlag", 96, 3, false, "", "", 20⟩ ∧
  fieldOf Try.prog 102 4 = some ⟨ "Align_", 5, 4, false, "", "", 21⟩ ∧
  fieldOf Try.prog 102 5 = some ⟨ "FieldAlign_", 5, 5, false, "", "", 22⟩ ∧
  fieldOf Try.prog 102 6 = some ⟨ "Kind_", 97, 6, false, "", "", 23⟩ ∧
  fieldOf Try.prog 102 7 = some ⟨ "Equal", 98, 7, false, "", "", 24⟩ ∧
  fieldOf Try.prog 102 8 = some ⟨ "GCData", 99, 8, false, "", "", 32⟩ ∧
  fieldOf Try.prog 102 9 = some ⟨ "Str", 100, 9, false, "", "", 40⟩ ∧
  fieldOf Try.prog 102 10 = some ⟨ "PtrToThis", 101, 10, false, "", "", 44⟩ ∧
  fieldOf Try.prog 103 0 = some ⟨ "Size_", 12, 0, false, "", "", 0⟩ ∧
  fieldOf Try.prog 103 1 = some ⟨ "PtrBytes", 12, 1, false, "", "", 8⟩ ∧
  fieldOf Try.prog 103 2 = some ⟨ "Hash", 77, 2, false, "", "", 16⟩ ∧
  fieldOf Try.prog 103 3 = some ⟨ "TFlag", 96, 3, false, "", "", 20⟩ ∧
  fieldOf Try.prog 103 4 = some ⟨ "Align_", 5, 4, false, "", "", 21⟩ :=
  ⟨zero100, cells101, bytes101, zero101, cells102, bytes102, zero102, cells103, bytes103, zero103, field60_0, field60_1, field60_2, field61_0, field61_1, field61_2, field90_0, field90_1, field90_2, field90_3, field91_0, field91_1, field91_2, field91_3, field102_0, field102_1, field102_2, field102_3, field102_4, field102_5, field102_6, field102_7, field102_8, field102_9, field102_10, field103_0, field103_1, field103_2, field103_3, field103_4⟩
theorem tys3 :
  fieldOf Try.prog 103 5 = some ⟨ "FieldAlign_", 5, 5, false, "", "", 22⟩ ∧
  fieldOf Try.prog 103 6 = some ⟨ "Kind_", 97, 6, false, "", "", 23⟩ ∧
  fieldOf Try.prog 103 7 = some ⟨ "Equal", 98, 7, false, "", "", 24⟩ ∧
  fieldOf Try.prog 103 8 = some ⟨ "GCData", 99, 8, false, "", "", 32⟩ ∧
  fieldOf Try.prog 103 9 = some ⟨ "Str", 100, 9, false, "", "", 40⟩ ∧
  fieldOf Try.prog 103 10 = some ⟨ "PtrToThis", 101, 10, false, "", "", 44⟩ :=
  ⟨field103_5, field103_6, field103_7, field103_8, field103_9, field103_10⟩
def und0 := And.intro @Try.underlying2 (And.intro @Try.underlying3 (And.intro @Try.underlying4 (And.intro @Try.underlying5 (And.intro @Try.underlying6 (And.intro @Try.underlying9 (And.intro @Try.underlying12 (And.intro @Try.underlying21 (And.intro @Try.underlying22 (And.intro @Try.underlying24 (And.intro @Try.underlying41 @Try.underlying46))))))))))
def und1 := And.intro @Try.underlying59 (And.intro @Try.underlying60 (And.intro @Try.underlying61 (And.intro @Try.underlying65 (And.intro @Try.underlying68 (And.intro @Try.underlying77 (And.intro @Try.underlying80 (And.intro @Try.underlying84 (And.intro @Try.underlying86 (And.intro @Try.underlying90 (And.intro @Try.underlying91 @Try.underlying96))))))))))
def und2 := And.intro @Try.underlying97 (And.intro @Try.underlying99 (And.intro @Try.underlying100 (And.intro @Try.underlying101 (And.intro @Try.underlying102 @Try.underlying103))))
theorem go3 : isGo Try.prog 3 := by unfold isGo; rw [Try.func3]; exact ⟨rfl, by kernel_rfl⟩
theorem go4 : isGo Try.prog 4 := by unfold isGo; rw [Try.func4]; exact ⟨rfl, by kernel_rfl⟩
theorem go5 : isGo Try.prog 5 := by unfold isGo; rw [Try.func5]; exact ⟨rfl, by kernel_rfl⟩
theorem go6 : isGo Try.prog 6 := by unfold isGo; rw [Try.func6]; exact ⟨rfl, by kernel_rfl⟩
theorem go7 : isGo Try.prog 7 := by unfold isGo; rw [Try.func7]; exact ⟨rfl, by kernel_rfl⟩
theorem go8 : isGo Try.prog 8 := by unfold isGo; rw [Try.func8]; exact ⟨rfl, by kernel_rfl⟩
theorem go9 : isGo Try.prog 9 := by unfold isGo; rw [Try.func9]; exact ⟨rfl, by kernel_rfl⟩
theorem go10 : isGo Try.prog 10 := by unfold isGo; rw [Try.func10]; exact ⟨rfl, by kernel_rfl⟩
theorem go11 : isGo Try.prog 11 := by unfold isGo; rw [Try.func11]; exact ⟨rfl, by kernel_rfl⟩
theorem go12 : isGo Try.prog 12 := by unfold isGo; rw [Try.func12]; exact ⟨rfl, by kernel_rfl⟩
theorem go13 : isGo Try.prog 13 := by unfold isGo; rw [Try.func13]; exact ⟨rfl, by kernel_rfl⟩
theorem go14 : isGo Try.prog 14 := by unfold isGo; rw [Try.func14]; exact ⟨rfl, by kernel_rfl⟩
theorem go15 : isGo Try.prog 15 := by unfold isGo; rw [Try.func15]; exact ⟨rfl, by kernel_rfl⟩
theorem go16 : isGo Try.prog 16 := by unfold isGo; rw [Try.func16]; exact ⟨rfl, by kernel_rfl⟩
theorem go17 : isGo Try.prog 17 := by unfold isGo; rw [Try.func17]; exact ⟨rfl, by kernel_rfl⟩
theorem go18 : isGo Try.prog 18 := by unfold isGo; rw [Try.func18]; exact ⟨rfl, by kernel_rfl⟩
theorem go19 : isGo Try.prog 19 := by unfold isGo; rw [Try.func19]; exact ⟨rfl, by kernel_rfl⟩
theorem go20 : isGo Try.prog 20 := by unfold isGo; rw [Try.func20]; exact ⟨rfl, by kernel_rfl⟩
theorem go21 : isGo Try.prog 21 := by unfold isGo; rw [Try.func21]; exact ⟨rfl, by kernel_rfl⟩
theorem go22 : isGo Try.prog 22 := by unfold isGo; rw [Try.func22]; exact ⟨rfl, by kernel_rfl⟩
theorem go23 : isGo Try.prog 23 := by unfold isGo; rw [Try.func23]; exact ⟨rfl, by kernel_rfl⟩
theorem go24 : isGo Try.prog 24 := by unfold isGo; rw [Try.func24]; exact ⟨rfl, by kernel_rfl⟩
theorem go25 : isGo Try.prog 25 := by unfold isGo; rw [Try.func25]; exact ⟨rfl, by kernel_rfl⟩
theorem go26 : isGo Try.prog 26 := by unfold isGo; rw [Try.func26]; exact ⟨rfl, by kernel_rfl⟩
theorem go27 : isGo Try.prog 27 := by unfold isGo; rw [Try.func27]; exact ⟨rfl, by kernel_rfl⟩
theorem go28 : isGo Try.prog 28 := by unfold isGo; rw [Try.func28]; exact ⟨rfl, by kernel_rfl⟩
theorem go29 : isGo Try.prog 29 := by unfold isGo; rw [Try.func29]; exact ⟨rfl, by kernel_rfl⟩
theorem go30 : isGo Try.prog 30 := by unfold isGo; rw [Try.func30]; exact ⟨rfl, by kernel_rfl⟩
theorem go31 : isGo Try.prog 31 := by unfold isGo; rw [Try.func31]; exact ⟨rfl, by kernel_rfl⟩
theorem go32 : isGo Try.prog 32 := by unfold isGo; rw [Try.func32]; exact ⟨rfl, by kernel_rfl⟩
theorem go33 : isGo Try.prog 33 := by unfold isGo; rw [Try.func33]; exact ⟨rfl, by kernel_rfl⟩
theorem go34 : isGo Try.prog 34 := by unfold isGo; rw [Try.func34]; exact ⟨rfl, by kernel_rfl⟩
theorem go35 : isGo Try.prog 35 := by unfold isGo; rw [Try.func35]; exact ⟨rfl, by kernel_rfl⟩
theorem go36 : isGo Try.prog 36 := by unfold isGo; rw [Try.func36]; exact ⟨rfl, by kernel_rfl⟩
theorem go39 : isGo Try.prog 39 := by unfold isGo; rw [Try.func39]; exact ⟨rfl, by kernel_rfl⟩
theorem go40 : isGo Try.prog 40 := by unfold isGo; rw [Try.func40]; exact ⟨rfl, by kernel_rfl⟩
theorem go52 : isGo Try.prog 52 := by unfold isGo; rw [Try.func52]; exact ⟨rfl, by kernel_rfl⟩
def md3 : Nat → List Bool
  | 24 => [false, false, false, false, false, false, false, false, false, false, false, false, false, false, false, false, false, false, false, false, false, false, false, false, false, false]
  | 26 => [false, false, false, false, false, false, false, false, false, false, false, false, false]
  | 40 => [false, false, false, false, false, false, false, false, false, false, false, false, false, false, false, false, false, false, false, false, false, false, false, false, false, false, false, false, false, false, false, false, false, false, false, false, false, false, false, false, false, false, false, false, false, false, false, false, false, false, false, false, false, false, false, false, false, false, false, false, false, false, false, false, false, false, false, false, false, false, false, false]
  | 51 => [false, false, false, false, false, false, false, false, false]
  | 79 => [false, false, false, false, false, false, false, false, false, false, false, false, false, false, false, false, false, false, false, false, false, false, false, false, false, false, false, false, false, false, false, false, false, false, false, false, false, false, false, false, false, false, false, false, false, false, false, false, false, false, false, false, false, false, false, false, false, false, false, false, false, false, false, false, false]
  | _ => []
def md4 : Nat → List Bool := fun _ => []
def md5 : Nat → List Bool := fun _ => []
def md6 : Nat → List Bool := fun _ => []
def md7 : Nat → List Bool := fun _ => []
def md8 : Nat → List Bool := fun _ => []
def md9 : Nat → List Bool := fun _ => []
def md10 : Nat → List Bool
  | 7 => [false, false, false, false, false, false, false, false, false, false, false, false, false, false, false, false, false, false, false, false, false]
  | 8 => [false, false, false, false, false, false, false, false, false]
  | _ => []
def md11 : Nat → List Bool := fun _ => []
def md12 : Nat → List Bool := fun _ => []
def md13 : Nat → List Bool := fun _ => []
def md14 : Nat → List Bool := fun _ => []
def md15 : Nat → List Bool := fun _ => []
def md16 : Nat → List Bool := fun _ => []
def md17 : Nat → List Bool := fun _ => []
def md18 : Nat → List Bool
  | 7 => [false, false, false, false, false, false, false, false, false, false]
  | _ => []
def md19 : Nat → List Bool := fun _ => []
def md20 : Nat → List Bool := fun _ => []
def md21 : Nat → List Bool := fun _ => []
def md22 : Nat → List Bool := fun _ => []
def md23 : Nat → List Bool := fun _ => []
def md24 : Nat → List Bool := fun _ => []
def md25 : Nat → List Bool := fun _ => []
def md27 : Nat → List Bool := fun _ => []
def md28 : Nat → List Bool := fun _ => []
def md29 : Nat → List Bool := fun _ => []
def md30 : Nat → List Bool := fun _ => []
def md31 : Nat → List Bool
  | 1 => [false, false, false, false, false, false, false, false]
  | _ => []
def md32 : Nat → List Bool := fun _ => []
def md33 : Nat → List Bool := fun _ => []
def md34 : Nat → List Bool := fun _ => []
def md35 : Nat → List Bool := fun _ => []
def md36 : Nat → List Bool
  | 2 => [false, false, false, false, false, false, false, false, false, false]
  | 3 => [false, false, false, false, false, false, false, false, false, false, false, false]
  | 6 => [false, false, false, false, false, false, false, false, false, false]
  | _ => []
def md39 : Nat → List Bool := fun _ => []
def md40 : Nat → List Bool := fun _ => []
def md52 : Nat → List Bool := fun _ => []
end Go.Proofs.Ytadbddlekinkpaa
