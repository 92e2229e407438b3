/- Closed facts of the program, for the abstract layer: types and functions. Printed by gen_base.py. -/
import Derived.Test.YtigipcckflcilaaGreatDoorProg
import Derived.Test.YtigipcckflcilaaGreatDoorAbsM3
set_option linter.unusedVariables false
set_option linter.defProp false
namespace Go.Proofs.YtigipcckflcilaaGreatDoor
open Go Go.Abs

def zq0 := (And.intro @List.getD_cons_succ.{0} (And.intro @List.getD_cons_zero.{0} (And.intro @List.length_cons.{0} (And.intro @List.length_nil.{0} (And.intro @List.replicate_succ.{0} (And.intro @List.replicate_zero.{0} (And.intro @List.cons_append.{0} (And.intro @List.nil_append.{0} (And.intro @List.append_nil.{0} (And.intro @List.set_cons_succ.{0} (And.intro @List.set_cons_zero.{0} @true_and)))))))))))
def zq1 := (And.intro @and_true (And.intro @List.map_cons.{0,0} (And.intro @List.map_nil.{0,0} (And.intro @Int.toNat_natCast (And.intro @Int.natCast_nonneg (And.intro @exists_prop (And.intro @List.getElem_cons_zero.{0} (And.intro @List.getElem_cons_succ.{0} (And.intro @List.getElem?_cons_zero.{0} (And.intro @List.getElem?_cons_succ.{0} (And.intro @Nat.zero_lt_one @Option.bind_some.{0,0})))))))))))
def zq2 := (And.intro @Option.map_some.{0,0} (And.intro @Option.map_none.{0,0} (And.intro @Bool.not_true (And.intro @Bool.not_false (And.intro @List.all_cons.{0} (And.intro @List.all_nil.{0} (And.intro @Bool.and_true (And.intro @Bool.true_and (And.intro @List.take_zero.{0} (And.intro @List.drop_zero.{0} (And.intro @List.drop_succ_cons.{0} @List.take_succ_cons.{0})))))))))))
def zq3 := (And.intro @Nat.zero_add (And.intro @Nat.add_zero (And.intro @List.getElem?_toArray.{0} (And.intro @ge_iff_le.{0} (And.intro @gt_iff_lt.{0} (And.intro @Nat.le_refl (And.intro @Bool.false_eq_true (And.intro @Bool.not_eq_true (And.intro @Nat.succ_ne_self (And.intro @Option.some.injEq.{0} (And.intro @List.forall_mem_cons.{0} @List.not_mem_nil.{0})))))))))))
def zq4 := @false_implies

theorem mixed : Tryz.prog.follows .mixedOrders = true := by kernel_rfl
theorem cells2 : Tryz.prog.cellsOf 2 = 1 := by kernel_rfl
theorem bytes2 : Tryz.prog.bytesOf 2 = 8 := by kernel_rfl
theorem zero2 : zeroOf Tryz.prog 2 = .int .i64 0 := by kernel_rfl
theorem cells3 : Tryz.prog.cellsOf 3 = 1 := by kernel_rfl
theorem bytes3 : Tryz.prog.bytesOf 3 = 8 := by kernel_rfl
theorem zero3 : zeroOf Tryz.prog 3 = .int .i64 0 := by kernel_rfl
theorem cells4 : Tryz.prog.cellsOf 4 = 1 := by kernel_rfl
theorem bytes4 : Tryz.prog.bytesOf 4 = 1 := by kernel_rfl
theorem zero4 : zeroOf Tryz.prog 4 = .bool false := by kernel_rfl
theorem cells5 : Tryz.prog.cellsOf 5 = 1 := by kernel_rfl
theorem bytes5 : Tryz.prog.bytesOf 5 = 1 := by kernel_rfl
theorem zero5 : zeroOf Tryz.prog 5 = .int .u8 0 := by kernel_rfl
theorem cells9 : Tryz.prog.cellsOf 9 = 1 := by kernel_rfl
theorem bytes9 : Tryz.prog.bytesOf 9 = 16 := by kernel_rfl
theorem zero9 : zeroOf Tryz.prog 9 = .str [] := by kernel_rfl
theorem cells22 : Tryz.prog.cellsOf 22 = 1 := by kernel_rfl
theorem bytes22 : Tryz.prog.bytesOf 22 = 24 := by kernel_rfl
theorem zero22 : zeroOf Tryz.prog 22 = .nils := by kernel_rfl
theorem cells24 : Tryz.prog.cellsOf 24 = 1 := by kernel_rfl
theorem bytes24 : Tryz.prog.bytesOf 24 = 24 := by kernel_rfl
theorem zero24 : zeroOf Tryz.prog 24 = .nils := by kernel_rfl
theorem cells26 : Tryz.prog.cellsOf 26 = 1 := by kernel_rfl
theorem bytes26 : Tryz.prog.bytesOf 26 = 24 := by kernel_rfl
theorem zero26 : zeroOf Tryz.prog 26 = .nils := by kernel_rfl
theorem cells29 : Tryz.prog.cellsOf 29 = 1 := by kernel_rfl
theorem bytes29 : Tryz.prog.bytesOf 29 = 24 := by kernel_rfl
theorem zero29 : zeroOf Tryz.prog 29 = .nils := by kernel_rfl
theorem cells30 : Tryz.prog.cellsOf 30 = 1 := by kernel_rfl
theorem bytes30 : Tryz.prog.bytesOf 30 = 24 := by kernel_rfl
theorem zero30 : zeroOf Tryz.prog 30 = .nils := by kernel_rfl
theorem cells31 : Tryz.prog.cellsOf 31 = 3 := by kernel_rfl
theorem bytes31 : Tryz.prog.bytesOf 31 = 64 := by kernel_rfl
theorem zero31 : zeroOf Tryz.prog 31 = .agg [.str [], .nils, .nils] := by kernel_rfl
theorem cells32 : Tryz.prog.cellsOf 32 = 3 := by kernel_rfl
theorem bytes32 : Tryz.prog.bytesOf 32 = 64 := by kernel_rfl
theorem zero32 : zeroOf Tryz.prog 32 = .agg [.str [], .nils, .nils] := by kernel_rfl
theorem cells47 : Tryz.prog.cellsOf 47 = 5 := by kernel_rfl
theorem bytes47 : Tryz.prog.bytesOf 47 = 56 := by kernel_rfl
theorem zero47 : zeroOf Tryz.prog 47 = .agg [.int .i64 0, .nils, .int .i64 0, .int .i64 0, .int .i64 0] := by kernel_rfl
theorem cells48 : Tryz.prog.cellsOf 48 = 5 := by kernel_rfl
theorem bytes48 : Tryz.prog.bytesOf 48 = 56 := by kernel_rfl
theorem zero48 : zeroOf Tryz.prog 48 = .agg [.int .i64 0, .nils, .int .i64 0, .int .i64 0, .int .i64 0] := by kernel_rfl
theorem cells56 : Tryz.prog.cellsOf 56 = 1 := by kernel_rfl
theorem bytes56 : Tryz.prog.bytesOf 56 = 8 := by kernel_rfl
theorem zero56 : zeroOf Tryz.prog 56 = .nilp := by kernel_rfl
theorem cells60 : Tryz.prog.cellsOf 60 = 1 := by kernel_rfl
theorem bytes60 : Tryz.prog.bytesOf 60 = 24 := by kernel_rfl
theorem zero60 : zeroOf Tryz.prog 60 = .nils := by kernel_rfl
theorem cells72 : Tryz.prog.cellsOf 72 = 1 := by kernel_rfl
theorem bytes72 : Tryz.prog.bytesOf 72 = 8 := by kernel_rfl
theorem zero72 : zeroOf Tryz.prog 72 = .nilp := by kernel_rfl
theorem cells88 : Tryz.prog.cellsOf 88 = 1 := by kernel_rfl
theorem bytes88 : Tryz.prog.bytesOf 88 = 8 := by kernel_rfl
theorem zero88 : zeroOf Tryz.prog 88 = .int .u64 0 := by kernel_rfl
theorem cells89 : Tryz.prog.cellsOf 89 = 3 := by kernel_rfl
theorem bytes89 : Tryz.prog.bytesOf 89 = 40 := by kernel_rfl
theorem zero89 : zeroOf Tryz.prog 89 = .agg [.nils, .int .i64 0, .int .u64 0] := by kernel_rfl
theorem cells90 : Tryz.prog.cellsOf 90 = 3 := by kernel_rfl
theorem bytes90 : Tryz.prog.bytesOf 90 = 40 := by kernel_rfl
theorem zero90 : zeroOf Tryz.prog 90 = .agg [.nils, .int .i64 0, .int .u64 0] := by kernel_rfl
theorem cells96 : Tryz.prog.cellsOf 96 = 1 := by kernel_rfl
theorem bytes96 : Tryz.prog.bytesOf 96 = 8 := by kernel_rfl
theorem zero96 : zeroOf Tryz.prog 96 = .nilp := by kernel_rfl
theorem cells97 : Tryz.prog.cellsOf 97 = 3 := by kernel_rfl
theorem bytes97 : Tryz.prog.bytesOf 97 = 32 := by kernel_rfl
theorem zero97 : zeroOf Tryz.prog 97 = .agg [.str [], .int .i64 0, .bool false] := by kernel_rfl
theorem cells98 : Tryz.prog.cellsOf 98 = 3 := by kernel_rfl
theorem bytes98 : Tryz.prog.bytesOf 98 = 32 := by kernel_rfl
theorem zero98 : zeroOf Tryz.prog 98 = .agg [.str [], .int .i64 0, .bool false] := by kernel_rfl
theorem cells116 : Tryz.prog.cellsOf 116 = 1 := by kernel_rfl
theorem bytes116 : Tryz.prog.bytesOf 116 = 8 := by kernel_rfl
theorem zero116 : zeroOf Tryz.prog 116 = .nilp := by kernel_rfl
theorem field31_0 : fieldOf Tryz.prog 31 0 = some ⟨ "Name", 9, 0, false, "", "", 0⟩ := by kernel_rfl
theorem field31_1 : fieldOf Tryz.prog 31 1 = some ⟨ "Rules", 29, 1, false, "", "", 16⟩ := by kernel_rfl
theorem field31_2 : fieldOf Tryz.prog 31 2 = some ⟨ "Incomes", 30, 2, false, "", "", 40⟩ := by kernel_rfl
theorem field32_0 : fieldOf Tryz.prog 32 0 = some ⟨ "Name", 9, 0, false, "", "", 0⟩ := by kernel_rfl
theorem field32_1 : fieldOf Tryz.prog 32 1 = some ⟨ "Rules", 29, 1, false, "", "", 16⟩ := by kernel_rfl
theorem field32_2 : fieldOf Tryz.prog 32 2 = some ⟨ "Incomes", 30, 2, false, "", "", 40⟩ := by kernel_rfl
theorem field47_0 : fieldOf Tryz.prog 47 0 = some ⟨ "Head", 2, 0, false, "", "", 0⟩ := by kernel_rfl
theorem field47_1 : fieldOf Tryz.prog 47 1 = some ⟨ "Ifs", 30, 1, false, "", "", 8⟩ := by kernel_rfl
theorem field47_2 : fieldOf Tryz.prog 47 2 = some ⟨ "From", 2, 2, false, "", "", 32⟩ := by kernel_rfl
theorem field47_3 : fieldOf Tryz.prog 47 3 = some ⟨ "To", 2, 3, false, "", "", 40⟩ := by kernel_rfl
theorem field47_4 : fieldOf Tryz.prog 47 4 = some ⟨ "Rank", 2, 4, false, "", "", 48⟩ := by kernel_rfl
theorem field48_0 : fieldOf Tryz.prog 48 0 = some ⟨ "Head", 2, 0, false, "", "", 0⟩ := by kernel_rfl
theorem field48_1 : fieldOf Tryz.prog 48 1 = some ⟨ "Ifs", 30, 1, false, "", "", 8⟩ := by kernel_rfl
theorem field48_2 : fieldOf Tryz.prog 48 2 = some ⟨ "From", 2, 2, false, "", "", 32⟩ := by kernel_rfl
theorem field48_3 : fieldOf Tryz.prog 48 3 = some ⟨ "To", 2, 3, false, "", "", 40⟩ := by kernel_rfl
theorem field48_4 : fieldOf Tryz.prog 48 4 = some ⟨ "Rank", 2, 4, false, "", "", 48⟩ := by kernel_rfl
theorem field89_0 : fieldOf Tryz.prog 89 0 = some ⟨ "code", 22, 0, false, "", "loop.example/g01393/spec", 0⟩ := by kernel_rfl
theorem field89_1 : fieldOf Tryz.prog 89 1 = some ⟨ "at", 3, 1, false, "", "loop.example/g01393/spec", 24⟩ := by kernel_rfl
theorem field89_2 : fieldOf Tryz.prog 89 2 = some ⟨ "seed", 88, 2, false, "", "loop.example/g01393/spec", 32⟩ := by kernel_rfl
theorem field90_0 : fieldOf Tryz.prog 90 0 = some ⟨ "code", 22, 0, false, "", "loop.example/g01393/spec", 0⟩ := by kernel_rfl
theorem field90_1 : fieldOf Tryz.prog 90 1 = some ⟨ "at", 3, 1, false, "", "loop.example/g01393/spec", 24⟩ := by kernel_rfl
theorem field90_2 : fieldOf Tryz.prog 90 2 = some ⟨ "seed", 88, 2, false, "", "loop.example/g01393/spec", 32⟩ := by kernel_rfl
theorem field97_0 : fieldOf Tryz.prog 97 0 = some ⟨ "s", 9, 0, false, "", "loop.example/g01393/impl", 0⟩ := by kernel_rfl
theorem field97_1 : fieldOf Tryz.prog 97 1 = some ⟨ "at", 3, 1, false, "", "loop.example/g01393/impl", 16⟩ := by kernel_rfl
theorem field97_2 : fieldOf Tryz.prog 97 2 = some ⟨ "bad", 4, 2, false, "", "loop.example/g01393/impl", 24⟩ := by kernel_rfl
theorem field98_0 : fieldOf Tryz.prog 98 0 = some ⟨ "s", 9, 0, false, "", "loop.example/g01393/impl", 0⟩ := by kernel_rfl
theorem field98_1 : fieldOf Tryz.prog 98 1 = some ⟨ "at", 3, 1, false, "", "loop.example/g01393/impl", 16⟩ := by kernel_rfl
theorem field98_2 : fieldOf Tryz.prog 98 2 = some ⟨ "bad", 4, 2, false, "", "loop.example/g01393/impl", 24⟩ := by kernel_rfl

theorem tys0 :
  Tryz.prog.cellsOf 2 = 1 ∧
  Tryz.prog.bytesOf 2 = 8 ∧
  zeroOf Tryz.prog 2 = .int .i64 0 ∧
  Tryz.prog.cellsOf 3 = 1 ∧
  Tryz.prog.bytesOf 3 = 8 ∧
  zeroOf Tryz.prog 3 = .int .i64 0 ∧
  Tryz.prog.cellsOf 4 = 1 ∧
  Tryz.prog.bytesOf 4 = 1 ∧
  zeroOf Tryz.prog 4 = .bool false ∧
  Tryz.prog.cellsOf 5 = 1 ∧
  Tryz.prog.bytesOf 5 = 1 ∧
  zeroOf Tryz.prog 5 = .int .u8 0 ∧
  Tryz.prog.cellsOf 9 = 1 ∧
  Tryz.prog.bytesOf 9 = 16 ∧
  zeroOf Tryz.prog 9 = .str [] ∧
  Tryz.prog.cellsOf 22 = 1 ∧
  Tryz.prog.bytesOf 22 = 24 ∧
  zeroOf Tryz.prog 22 = .nils ∧
  Tryz.prog.cellsOf 24 = 1 ∧
  Tryz.prog.bytesOf 24 = 24 ∧
  zeroOf Tryz.prog 24 = .nils ∧
  Tryz.prog.cellsOf 26 = 1 ∧
  Tryz.prog.bytesOf 26 = 24 ∧
  zeroOf Tryz.prog 26 = .nils ∧
  Tryz.prog.cellsOf 29 = 1 ∧
  Tryz.prog.bytesOf 29 = 24 ∧
  zeroOf Tryz.prog 29 = .nils ∧
  Tryz.prog.cellsOf 30 = 1 ∧
  Tryz.prog.bytesOf 30 = 24 ∧
  zeroOf Tryz.prog 30 = .nils ∧
  Tryz.prog.cellsOf 31 = 3 ∧
  Tryz.prog.bytesOf 31 = 64 ∧
  zeroOf Tryz.prog 31 = .agg [.str [], .nils, .nils] ∧
  Tryz.prog.cellsOf 32 = 3 ∧
  Tryz.prog.bytesOf 32 = 64 ∧
  zeroOf Tryz.prog 32 = .agg [.str [], .nils, .nils] ∧
  Tryz.prog.cellsOf 47 = 5 ∧
  Tryz.prog.bytesOf 47 = 56 ∧
  zeroOf Tryz.prog 47 = .agg [.int .i64 0, .nils, .int .i64 0, .int .i64 0, .int .i64 0] ∧
  Tryz.prog.cellsOf 48 = 5 :=
  ⟨cells2, bytes2, zero2, cells3, bytes3, zero3, cells4, bytes4, zero4, cells5, bytes5, zero5, cells9, bytes9, zero9, cells22, bytes22, zero22, cells24, bytes24, zero24, cells26, bytes26, zero26, cells29, bytes29, zero29, cells30, bytes30, zero30, cells31, bytes31, zero31, cells32, bytes32, zero32, cells47, bytes47, zero47, cells48⟩
theorem tys1 :
  Tryz.prog.bytesOf 48 = 56 ∧
  zeroOf Tryz.prog 48 = .agg [.int .i64 0, .nils, .int .i64 0, .int .i64 0, .int .i64 0] ∧
  Tryz.prog.cellsOf 56 = 1 ∧
  Tryz.prog.bytesOf 56 = 8 ∧
  zeroOf Tryz.prog 56 = .nilp ∧
  Tryz.prog.cellsOf 60 = 1 ∧
  Tryz.prog.bytesOf 60 = 24 ∧
  zeroOf Tryz.prog 60 = .nils ∧
  Tryz.prog.cellsOf 72 = 1 ∧
  Tryz.prog.bytesOf 72 = 8 ∧
  zeroOf Tryz.prog 72 = .nilp ∧
  Tryz.prog.cellsOf 88 = 1 ∧
  Tryz.prog.bytesOf 88 = 8 ∧
  zeroOf Tryz.prog 88 = .int .u64 0 ∧
  Tryz.prog.cellsOf 89 = 3 ∧
  Tryz.prog.bytesOf 89 = 40 ∧
  zeroOf Tryz.prog 89 = .agg [.nils, .int .i64 0, .int .u64 0] ∧
  Tryz.prog.cellsOf 90 = 3 ∧
  Tryz.prog.bytesOf 90 = 40 ∧
  zeroOf Tryz.prog 90 = .agg [.nils, .int .i64 0, .int .u64 0] ∧
  Tryz.prog.cellsOf 96 = 1 ∧
  Tryz.prog.bytesOf 96 = 8 ∧
  zeroOf Tryz.prog 96 = .nilp ∧
  Tryz.prog.cellsOf 97 = 3 ∧
  Tryz.prog.bytesOf 97 = 32 ∧
  zeroOf Tryz.prog 97 = .agg [.str [], .int .i64 0, .bool false] ∧
  Tryz.prog.cellsOf 98 = 3 ∧
  Tryz.prog.bytesOf 98 = 32 ∧
  zeroOf Tryz.prog 98 = .agg [.str [], .int .i64 0, .bool false] ∧
  Tryz.prog.cellsOf 116 = 1 ∧
  Tryz.prog.bytesOf 116 = 8 ∧
  zeroOf Tryz.prog 116 = .nilp ∧
  fieldOf Tryz.prog 31 0 = some ⟨ "Name", 9, 0, false, "", "", 0⟩ ∧
  fieldOf Tryz.prog 31 1 = some ⟨ "Rules", 29, 1, false, "", "", 16⟩ ∧
  fieldOf Tryz.prog 31 2 = some ⟨ "Incomes", 30, 2, false, "", "", 40⟩ ∧
  fieldOf Tryz.prog 32 0 = some ⟨ "Name", 9, 0, false, "", "", 0⟩ ∧
  fieldOf Tryz.prog 32 1 = some ⟨ "Rules", 29, 1, false, "", "", 16⟩ ∧
  fieldOf Tryz.prog 32 2 = some ⟨ "Incomes", 30, 2, false, "", "", 40⟩ ∧
  fieldOf Tryz.prog 47 0 = some ⟨ "Head", 2, 0, false, "", "", 0⟩ ∧
  fieldOf Tryz.prog 47 1 = some ⟨ "Ifs", 30, 1, false, "", "", 8⟩ :=
  ⟨bytes48, zero48, cells56, bytes56, zero56, cells60, bytes60, zero60, cells72, bytes72, zero72, cells88, bytes88, zero88, cells89, bytes89, zero89, cells90, bytes90, zero90, cells96, bytes96, zero96, cells97, bytes97, zero97, cells98, bytes98, zero98, cells116, bytes116, zero116, field31_0, field31_1, field31_2, field32_0, field32_1, field32_2, field47_0, field47_1⟩
theorem tys2 :
  fieldOf Tryz.prog 47 2 = some ⟨ "From", 2, 2, false, "", "", 32⟩ ∧
  fieldOf Tryz.prog 47 3 = some ⟨ "To", 2, 3, false, "", "", 40⟩ ∧
  fieldOf Tryz.prog 47 4 = some ⟨ "Rank", 2, 4, false, "", "", 48⟩ ∧
  fieldOf Tryz.prog 48 0 = some ⟨ "Head", 2, 0, false, "", "", 0⟩ ∧
  fieldOf Tryz.prog 48 1 = some ⟨ "Ifs", 30, 1, false, "", "", 8⟩ ∧
  fieldOf Tryz.prog 48 2 = some ⟨ "From", 2, 2, false, "", "", 32⟩ ∧
  fieldOf Tryz.prog 48 3 = some ⟨ "To", 2, 3, false, "", "", 40⟩ ∧
  fieldOf Tryz.prog 48 4 = some ⟨ "Rank", 2, 4, false, "", "", 48⟩ ∧
  fieldOf Tryz.prog 89 0 = some ⟨ "code", 22, 0, false, "", "loop.example/g01393/spec", 0⟩ ∧
  fieldOf Tryz.prog 89 1 = some ⟨ "at", 3, 1, false, "", "loop.example/g01393/spec", 24⟩ ∧
  fieldOf Tryz.prog 89 2 = some ⟨ "seed", 88, 2, false, "", "loop.example/g01393/spec", 32⟩ ∧
  fieldOf Tryz.prog 90 0 = some ⟨ "code", 22, 0, false, "", "loop.example/g01393/spec", 0⟩ ∧
  fieldOf Tryz.prog 90 1 = some ⟨ "at", 3, 1, false, "", "loop.example/g01393/spec", 24⟩ ∧
  fieldOf Tryz.prog 90 2 = some ⟨ "seed", 88, 2, false, "", "loop.example/g01393/spec", 32⟩ ∧
  fieldOf Tryz.prog 97 0 = some ⟨ "s", 9, 0, false, "", "loop.example/g01393/impl", 0⟩ ∧
  fieldOf Tryz.prog 97 1 = some ⟨ "at", 3, 1, false, "", "loop.example/g01393/impl", 16⟩ ∧
  fieldOf Tryz.prog 97 2 = some ⟨ "bad", 4, 2, false, "", "loop.example/g01393/impl", 24⟩ ∧
  fieldOf Tryz.prog 98 0 = some ⟨ "s", 9, 0, false, "", "loop.example/g01393/impl", 0⟩ ∧
  fieldOf Tryz.prog 98 1 = some ⟨ "at", 3, 1, false, "", "loop.example/g01393/impl", 16⟩ ∧
  fieldOf Tryz.prog 98 2 = some ⟨ "bad", 4, 2, false, "", "loop.example/g01393/impl", 24⟩ :=
  ⟨field47_2, field47_3, field47_4, field48_0, field48_1, field48_2, field48_3, field48_4, field89_0, field89_1, field89_2, field90_0, field90_1, field90_2, field97_0, field97_1, field97_2, field98_0, field98_1, field98_2⟩
def und0 := And.intro @Tryz.underlying2 (And.intro @Tryz.underlying3 (And.intro @Tryz.underlying4 (And.intro @Tryz.underlying5 (And.intro @Tryz.underlying9 (And.intro @Tryz.underlying22 (And.intro @Tryz.underlying24 (And.intro @Tryz.underlying26 (And.intro @Tryz.underlying29 (And.intro @Tryz.underlying30 (And.intro @Tryz.underlying31 @Tryz.underlying32))))))))))
def und1 := And.intro @Tryz.underlying47 (And.intro @Tryz.underlying48 (And.intro @Tryz.underlying56 (And.intro @Tryz.underlying60 (And.intro @Tryz.underlying72 (And.intro @Tryz.underlying88 (And.intro @Tryz.underlying89 (And.intro @Tryz.underlying90 (And.intro @Tryz.underlying96 (And.intro @Tryz.underlying97 (And.intro @Tryz.underlying98 @Tryz.underlying116))))))))))
theorem go4 : isGo Tryz.prog 4 := by unfold isGo; rw [Tryz.func4]; exact ⟨rfl, by kernel_rfl⟩
theorem go7 : isGo Tryz.prog 7 := by unfold isGo; rw [Tryz.func7]; exact ⟨rfl, by kernel_rfl⟩
theorem go15 : isGo Tryz.prog 15 := by unfold isGo; rw [Tryz.func15]; exact ⟨rfl, by kernel_rfl⟩
theorem go16 : isGo Tryz.prog 16 := by unfold isGo; rw [Tryz.func16]; exact ⟨rfl, by kernel_rfl⟩
theorem go17 : isGo Tryz.prog 17 := by unfold isGo; rw [Tryz.func17]; exact ⟨rfl, by kernel_rfl⟩
theorem go18 : isGo Tryz.prog 18 := by unfold isGo; rw [Tryz.func18]; exact ⟨rfl, by kernel_rfl⟩
theorem go19 : isGo Tryz.prog 19 := by unfold isGo; rw [Tryz.func19]; exact ⟨rfl, by kernel_rfl⟩
theorem go20 : isGo Tryz.prog 20 := by unfold isGo; rw [Tryz.func20]; exact ⟨rfl, by kernel_rfl⟩
theorem go21 : isGo Tryz.prog 21 := by unfold isGo; rw [Tryz.func21]; exact ⟨rfl, by kernel_rfl⟩
theorem go22 : isGo Tryz.prog 22 := by unfold isGo; rw [Tryz.func22]; exact ⟨rfl, by kernel_rfl⟩
theorem go23 : isGo Tryz.prog 23 := by unfold isGo; rw [Tryz.func23]; exact ⟨rfl, by kernel_rfl⟩
theorem go24 : isGo Tryz.prog 24 := by unfold isGo; rw [Tryz.func24]; exact ⟨rfl, by kernel_rfl⟩
theorem go33 : isGo Tryz.prog 33 := by unfold isGo; rw [Tryz.func33]; exact ⟨rfl, by kernel_rfl⟩
theorem go34 : isGo Tryz.prog 34 := by unfold isGo; rw [Tryz.func34]; exact ⟨rfl, by kernel_rfl⟩
theorem go36 : isGo Tryz.prog 36 := by unfold isGo; rw [Tryz.func36]; exact ⟨rfl, by kernel_rfl⟩
theorem go40 : isGo Tryz.prog 40 := by unfold isGo; rw [Tryz.func40]; exact ⟨rfl, by kernel_rfl⟩
theorem go46 : isGo Tryz.prog 46 := by unfold isGo; rw [Tryz.func46]; exact ⟨rfl, by kernel_rfl⟩
theorem go47 : isGo Tryz.prog 47 := by unfold isGo; rw [Tryz.func47]; exact ⟨rfl, by kernel_rfl⟩
theorem go48 : isGo Tryz.prog 48 := by unfold isGo; rw [Tryz.func48]; exact ⟨rfl, by kernel_rfl⟩
theorem go49 : isGo Tryz.prog 49 := by unfold isGo; rw [Tryz.func49]; exact ⟨rfl, by kernel_rfl⟩
theorem go50 : isGo Tryz.prog 50 := by unfold isGo; rw [Tryz.func50]; exact ⟨rfl, by kernel_rfl⟩
theorem go51 : isGo Tryz.prog 51 := by unfold isGo; rw [Tryz.func51]; exact ⟨rfl, by kernel_rfl⟩
theorem go52 : isGo Tryz.prog 52 := by unfold isGo; rw [Tryz.func52]; exact ⟨rfl, by kernel_rfl⟩
theorem go53 : isGo Tryz.prog 53 := by unfold isGo; rw [Tryz.func53]; exact ⟨rfl, by kernel_rfl⟩
theorem go54 : isGo Tryz.prog 54 := by unfold isGo; rw [Tryz.func54]; exact ⟨rfl, by kernel_rfl⟩
theorem go55 : isGo Tryz.prog 55 := by unfold isGo; rw [Tryz.func55]; exact ⟨rfl, by kernel_rfl⟩
theorem go56 : isGo Tryz.prog 56 := by unfold isGo; rw [Tryz.func56]; exact ⟨rfl, by kernel_rfl⟩
theorem go57 : isGo Tryz.prog 57 := by unfold isGo; rw [Tryz.func57]; exact ⟨rfl, by kernel_rfl⟩
theorem go58 : isGo Tryz.prog 58 := by unfold isGo; rw [Tryz.func58]; exact ⟨rfl, by kernel_rfl⟩
theorem go59 : isGo Tryz.prog 59 := by unfold isGo; rw [Tryz.func59]; exact ⟨rfl, by kernel_rfl⟩
theorem go60 : isGo Tryz.prog 60 := by unfold isGo; rw [Tryz.func60]; exact ⟨rfl, by kernel_rfl⟩
theorem go69 : isGo Tryz.prog 69 := by unfold isGo; rw [Tryz.func69]; exact ⟨rfl, by kernel_rfl⟩
theorem go70 : isGo Tryz.prog 70 := by unfold isGo; rw [Tryz.func70]; exact ⟨rfl, by kernel_rfl⟩
theorem go71 : isGo Tryz.prog 71 := by unfold isGo; rw [Tryz.func71]; exact ⟨rfl, by kernel_rfl⟩
theorem go76 : isGo Tryz.prog 76 := by unfold isGo; rw [Tryz.func76]; exact ⟨rfl, by kernel_rfl⟩
theorem go77 : isGo Tryz.prog 77 := by unfold isGo; rw [Tryz.func77]; exact ⟨rfl, by kernel_rfl⟩
theorem go81 : isGo Tryz.prog 81 := by unfold isGo; rw [Tryz.func81]; exact ⟨rfl, by kernel_rfl⟩
theorem go82 : isGo Tryz.prog 82 := by unfold isGo; rw [Tryz.func82]; exact ⟨rfl, by kernel_rfl⟩
theorem go84 : isGo Tryz.prog 84 := by unfold isGo; rw [Tryz.func84]; exact ⟨rfl, by kernel_rfl⟩
theorem go85 : isGo Tryz.prog 85 := by unfold isGo; rw [Tryz.func85]; exact ⟨rfl, by kernel_rfl⟩
theorem go89 : isGo Tryz.prog 89 := by unfold isGo; rw [Tryz.func89]; exact ⟨rfl, by kernel_rfl⟩
theorem go90 : isGo Tryz.prog 90 := by unfold isGo; rw [Tryz.func90]; exact ⟨rfl, by kernel_rfl⟩
theorem go91 : isGo Tryz.prog 91 := by unfold isGo; rw [Tryz.func91]; exact ⟨rfl, by kernel_rfl⟩
theorem go95 : isGo Tryz.prog 95 := by unfold isGo; rw [Tryz.func95]; exact ⟨rfl, by kernel_rfl⟩
theorem go96 : isGo Tryz.prog 96 := by unfold isGo; rw [Tryz.func96]; exact ⟨rfl, by kernel_rfl⟩
theorem go98 : isGo Tryz.prog 98 := by unfold isGo; rw [Tryz.func98]; exact ⟨rfl, by kernel_rfl⟩
theorem go99 : isGo Tryz.prog 99 := by unfold isGo; rw [Tryz.func99]; exact ⟨rfl, by kernel_rfl⟩
theorem go100 : isGo Tryz.prog 100 := by unfold isGo; rw [Tryz.func100]; exact ⟨rfl, by kernel_rfl⟩
theorem go101 : isGo Tryz.prog 101 := by unfold isGo; rw [Tryz.func101]; exact ⟨rfl, by kernel_rfl⟩
theorem go105 : isGo Tryz.prog 105 := by unfold isGo; rw [Tryz.func105]; exact ⟨rfl, by kernel_rfl⟩
theorem go106 : isGo Tryz.prog 106 := by unfold isGo; rw [Tryz.func106]; exact ⟨rfl, by kernel_rfl⟩
theorem go116 : isGo Tryz.prog 116 := by unfold isGo; rw [Tryz.func116]; exact ⟨rfl, by kernel_rfl⟩
def md4 : Nat → List Bool
  | 24 => [false, false, false, false, false, false, false, false, false, false, true]
  | _ => []
def md7 : Nat → List Bool := fun _ => []
def md15 : Nat → List Bool := fun _ => []
def md16 : Nat → List Bool := fun _ => []
def md17 : Nat → List Bool := fun _ => []
def md18 : Nat → List Bool := fun _ => []
def md19 : Nat → List Bool := fun _ => []
def md20 : Nat → List Bool
  | 6 => [false, false, false, false, false, false, false, false, false, false, false, false, false, false, false, false, false, false, false, false, false, false, false, false, false, false, false, false, false, false, false, false, false, false, false, false, false, false, false, false, false, false, false, false, false, false, false, false, false, false, false, false, false, false, false, false, false, false, false, false, false, false, false, false]
  | _ => []
def md21 : Nat → List Bool := fun _ => []
def md22 : Nat → List Bool := fun _ => []
def md23 : Nat → List Bool := fun _ => []
def md24 : Nat → List Bool := fun _ => []
def md33 : Nat → List Bool := fun _ => []
def md34 : Nat → List Bool := fun _ => []
def md36 : Nat → List Bool
  | 4 => [false, false, false, false, false, false, true]
  | _ => []
def md40 : Nat → List Bool := fun _ => []
def md46 : Nat → List Bool := fun _ => []
def md47 : Nat → List Bool := fun _ => []
def md48 : Nat → List Bool := fun _ => []
def md49 : Nat → List Bool
  | 1 => [false, false, false, false, false, false, false, false, false, false, false, false, false, false, false, false, false, false, false, false, false]
  | _ => []
def md51 : Nat → List Bool
  | 6 => [false, false, false, false, false, false, false, false, false]
  | _ => []
def md52 : Nat → List Bool
  | 4 => [false, false, false, false, false, false, false, false, false, false, false, false, false, false, false, false, false, false, false, false, false, false]
  | _ => []
def md56 : Nat → List Bool := fun _ => []
def md57 : Nat → List Bool := fun _ => []
def md58 : Nat → List Bool := fun _ => []
def md59 : Nat → List Bool := fun _ => []
def md60 : Nat → List Bool := fun _ => []
def md69 : Nat → List Bool
  | 2 => [false, false, false, false, false, false, false, false, false, false]
  | 3 => [false, false, false, false, false, false, false, false, false, false, false, false]
  | 6 => [false, false, false, false, false, false, false, false, false, false]
  | _ => []
def md70 : Nat → List Bool := fun _ => []
def md71 : Nat → List Bool := fun _ => []
def md76 : Nat → List Bool := fun _ => []
def md77 : Nat → List Bool := fun _ => []
def md81 : Nat → List Bool
  | 1 => [false, false, false, false, false, false, false, false, false, false, false, false, false, false, false, false, false, false, false, false, false, false, false, false, false, false, false, false, false, false, false, false, false, false, false, false, false, false, false, false, false, false, false, false, false, false, false, false, false, false, false, false, false]
  | _ => []
def md82 : Nat → List Bool := fun _ => []
def md84 : Nat → List Bool := fun _ => []
def md85 : Nat → List Bool := fun _ => []
def md89 : Nat → List Bool := fun _ => []
def md90 : Nat → List Bool := fun _ => []
def md91 : Nat → List Bool := fun _ => []
def md95 : Nat → List Bool := fun _ => []
def md96 : Nat → List Bool := fun _ => []
def md98 : Nat → List Bool := fun _ => []
def md99 : Nat → List Bool
  | 4 => [false, false, false, false, false, false, false, false, false, false, false, false, false, false, false, false, false, false, false, false, false, false, false, false]
  | _ => []
def md100 : Nat → List Bool := fun _ => []
def md101 : Nat → List Bool := fun _ => []
def md116 : Nat → List Bool := fun _ => []
end Go.Proofs.YtigipcckflcilaaGreatDoor
