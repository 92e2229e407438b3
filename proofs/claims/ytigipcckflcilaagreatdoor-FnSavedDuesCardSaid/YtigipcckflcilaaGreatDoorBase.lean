/- Closed facts of the program, for the abstract layer: types and functions. Printed by gen_base.py. -/
import Derived.Test.YtigipcckflcilaaGreatDoorProg
import Derived.Test.YtigipcckflcilaaGreatDoorAbsM3
set_option linter.unusedVariables false
set_option linter.defProp false
namespace Go.Proofs.YtigipcckflcilaaGreatDoor
open Go Go.Abs

def zq0 := (And.intro @List.getD_cons_succ.{0} (And.intro @List.getD_cons_zero.{0} (And.intro @List.length_cons.{0} (And.intro @List.length_nil.{0} (And.intro @List.replicate_succ.{0} (And.intro @List.replicate_zero.{0} (And.intro @List.cons_append.{0} (And.intro @List.nil_append.{0} (And.intro @List.append_nil.{0} (And.intro @List.set_cons_succ.{0} (And.intro @List.set_cons_zero.{0} @true_and)))))))))))
def zq1 := (And.intro @and_true (And.intro @List.map_cons.{0,0} (And.intro @List.map_nil.{0,0} (And.intro @Int.toNat_natCast (And.intro @Int.natCast_nonneg (And.intro @exists_prop (And.intro @List.getElem_cons_zero.{0} (And.intro @List.getElem_cons_succ.{0} (And.intro @List.getElem?_cons_zero.{0} (And.intro @List.getElem?_cons_succ.{0} (And.intro @Nat.zero_lt_one @Option.bind_some.{0,0})))))))))))
def zq2 := (And.intro @Option.map_some.{0,0} (And.intro @Option.map_none.{0,0} (And.intro @Bool.not_true (And.intro @Bool.not_false (And.intro @List.all_cons.{0} (And.intro @List.all_nil.{0} (And.intro @Bool.and_true (And.intro @Bool.true_and (And.intro @List.take_zero.{0} (And.intro @List.drop_zero.{0} (And.intro @List.drop_succ_cons.{0} @List.take_succ_cons.{0})))))))))))
def zq3 := (And.intro @Nat.zero_add (And.intro @Nat.add_zero (And.intro @List.getElem?_toArray.{0} (And.intro @ge_iff_le.{0} (And.intro @gt_iff_lt.{0} (And.intro @Nat.le_refl (And.intro @Bool.false_eq_true (And.intro @Bool.not_eq_true (And.intro @Nat.succ_ne_self (And.intro @Option.some.injEq.{0} (And.intro @List.forall_mem_cons.{0} @List.not_mem_nil.{0})))))))))))
def zq4 := @false_implies

def zr0 := (And.intro (And.intro (And.intro (And.intro (And.intro @guardSlot.eq_1 @quietA.eq_1) (And.intro @quietA.eq_2 (And.intro @quietA.eq_3 @quietA.eq_4))) (And.intro (And.intro @quietA.eq_5 @quietA.eq_6) (And.intro @quietA.eq_7 (And.intro @quietA.eq_8 @quietA.eq_9)))) (And.intro (And.intro (And.intro @quietA.eq_10 @quietA.eq_11) (And.intro @quietA.eq_12 (And.intro @quietA.eq_13 @quietA.eq_14))) (And.intro (And.intro @quietA.eq_15 (And.intro @quietA.eq_16 @quietA.eq_17)) (And.intro @quietA.eq_18 (And.intro @nilC.eq_1 @nilC.eq_2))))) (And.intro (And.intro (And.intro (And.intro @nilA.eq_1 @nilA.eq_2) (And.intro @nilA.eq_3 (And.intro @quietB.eq_1 @quietB.eq_2))) (And.intro (And.intro @quietB.eq_3 (And.intro @quietB.eq_4 @quietB.eq_5)) (And.intro @quietB.eq_6 (And.intro @quietB.eq_7 @St.ev.eq_1)))) (And.intro (And.intro (And.intro @St.ev.eq_2 @St.ev.eq_3) (And.intro @St.ev.eq_4 (And.intro @St.put.eq_1 @St.put.eq_2))) (And.intro (And.intro @St.after.eq_1 (And.intro @St.after.eq_2 @ofV.eq_1)) (And.intro @ofV.eq_2 (And.intro @ofL.eq_1 @ofL.eq_2))))))
def zr1 := (And.intro (And.intro (And.intro (And.intro (And.intro @ofL.eq_3 @ofL.eq_4) (And.intro @ofL.eq_5 (And.intro @ofL.eq_6 @ofL.eq_7))) (And.intro (And.intro @ofL.eq_8 @ofL.eq_9) (And.intro @binA.eq_1 (And.intro @binA.eq_2 @binA.eq_3)))) (And.intro (And.intro (And.intro @binA.eq_4 @binA.eq_5) (And.intro @binA.eq_6 (And.intro @binA.eq_7 @binA.eq_8))) (And.intro (And.intro @binA.eq_9 (And.intro @intBin.eq_1 @intBin.eq_2)) (And.intro @intBin.eq_3 (And.intro @intBin.eq_4 @intBin.eq_5))))) (And.intro (And.intro (And.intro (And.intro @intBin.eq_6 @intBin.eq_7) (And.intro @intBin.eq_8 (And.intro @intBin.eq_9 @intBin.eq_10))) (And.intro (And.intro @intBin.eq_11 (And.intro @intBin.eq_12 @intBin.eq_13)) (And.intro @intBin.eq_14 (And.intro @intBin.eq_15 @intBin.eq_16)))) (And.intro (And.intro (And.intro @fltBin.eq_1 @fltBin.eq_2) (And.intro @fltBin.eq_3 (And.intro @fltBin.eq_4 @fltBin.eq_5))) (And.intro (And.intro @fltBin.eq_6 (And.intro @fltBin.eq_7 @fltBin.eq_8)) (And.intro @fltBin.eq_9 (And.intro @fltBin.eq_10 @fltBin.eq_11))))))
def zr2 := (And.intro (And.intro (And.intro (And.intro (And.intro @strBin.eq_1 @strBin.eq_2) (And.intro @strBin.eq_3 (And.intro @strBin.eq_4 @cpxBin.eq_1))) (And.intro (And.intro @cpxBin.eq_2 @cpxBin.eq_3) (And.intro @cpxBin.eq_4 (And.intro @cpxBin.eq_5 @unA.eq_1)))) (And.intro (And.intro (And.intro @unA.eq_2 @unA.eq_3) (And.intro @unA.eq_4 (And.intro @unA.eq_5 @convB.eq_1))) (And.intro (And.intro @convB.eq_2 (And.intro @convB.eq_3 @convB.eq_4)) (And.intro @convO.eq_1 (And.intro @convO.eq_2 @convO.eq_3))))) (And.intro (And.intro (And.intro (And.intro @pickV.eq_1 @pickV.eq_2) (And.intro @resL.eq_1 (And.intro @resL.eq_2 @resL.eq_3))) (And.intro (And.intro @oneA.eq_1 (And.intro @oneA.eq_2 @isQuiet.eq_1)) (And.intro @isQuiet.eq_2 (And.intro @isQuiet.eq_3 @isQuiet.eq_4)))) (And.intro (And.intro (And.intro @isQuiet.eq_5 @isQuiet.eq_6) (And.intro @isQuiet.eq_7 (And.intro @loadA.eq_1 @loadA.eq_2))) (And.intro (And.intro @loadA.eq_3 (And.intro @loadC.eq_1 @storeA.eq_1)) (And.intro @storeA.eq_2 (And.intro @fieldA.eq_1 @partA.eq_1))))))
def zr3 := (And.intro (And.intro (And.intro (And.intro (And.intro @partA.eq_2 @sliceA.eq_1) (And.intro @sliceA.eq_2 (And.intro @sliceA.eq_3 @sliceA.eq_4))) (And.intro (And.intro @sliceA.eq_5 @boundA.eq_1) (And.intro @boundA.eq_2 (And.intro @boundA.eq_3 @buildA.eq_1)))) (And.intro (And.intro (And.intro @buildA.eq_2 @placeA.eq_1) (And.intro @setAll.eq_1 (And.intro @setAll.eq_2 @appendA.eq_1))) (And.intro (And.intro @readSl.eq_1 (And.intro @readSl.eq_2 @readSl.eq_3)) (And.intro @readSl.eq_4 (And.intro @readSl.eq_5 @newEl.eq_1))))) (And.intro (And.intro (And.intro (And.intro @AV.cells.eq_1 @AV.cells.eq_2) (And.intro @AV.solid.eq_1 (And.intro @AV.solid.eq_2 @AV.one.eq_1))) (And.intro (And.intro @AV.one.eq_2 (And.intro @AV.one.eq_3 @AV.one.eq_4)) (And.intro @kill.eq_1 (And.intro @kill.eq_2 @killM.eq_1)))) (And.intro (And.intro (And.intro @killM.eq_2 @killM.eq_3) (And.intro @killL.eq_1 (And.intro @killL.eq_2 @killL.eq_3))) (And.intro (And.intro @killL.eq_4 (And.intro @killL.eq_5 @killL.eq_6)) (And.intro @notInt.eq_1 (And.intro @putF.eq_1 @putF.eq_2))))))

theorem mixed : Tryz.prog.follows .mixedOrders = true := by kernel_rfl
theorem cells2 : Tryz.prog.cellsOf 2 = 1 := by kernel_rfl
theorem bytes2 : Tryz.prog.bytesOf 2 = 8 := by kernel_rfl
theorem zero2 : zeroOf Tryz.prog 2 = .int .i64 0 := by kernel_rfl
theorem cells3 : Tryz.prog.cellsOf 3 = 1 := by kernel_rfl
theorem bytes3 : Tryz.prog.bytesOf 3 = 8 := by kernel_rfl
theorem zero3 : zeroOf Tryz.prog 3 = .int .i64 0 := by kernel_rfl
theorem cells4 : Tryz.prog.cellsOf 4 = 1 := by kernel_rfl
theorem bytes4 : Tryz.prog.bytesOf 4 = 1 := by kernel_rfl
theorem zero4 : zeroOf Tryz.prog 4 = .bool false := by kernel_rfl
theorem cells5 : Tryz.prog.cellsOf 5 = 1 := by kernel_rfl
theorem bytes5 : Tryz.prog.bytesOf 5 = 1 := by kernel_rfl
theorem zero5 : zeroOf Tryz.prog 5 = .int .u8 0 := by kernel_rfl
theorem cells9 : Tryz.prog.cellsOf 9 = 1 := by kernel_rfl
theorem bytes9 : Tryz.prog.bytesOf 9 = 16 := by kernel_rfl
theorem zero9 : zeroOf Tryz.prog 9 = .str [] := by kernel_rfl
theorem cells22 : Tryz.prog.cellsOf 22 = 1 := by kernel_rfl
theorem bytes22 : Tryz.prog.bytesOf 22 = 24 := by kernel_rfl
theorem zero22 : zeroOf Tryz.prog 22 = .nils := by kernel_rfl
theorem cells24 : Tryz.prog.cellsOf 24 = 1 := by kernel_rfl
theorem bytes24 : Tryz.prog.bytesOf 24 = 24 := by kernel_rfl
theorem zero24 : zeroOf Tryz.prog 24 = .nils := by kernel_rfl
theorem cells26 : Tryz.prog.cellsOf 26 = 1 := by kernel_rfl
theorem bytes26 : Tryz.prog.bytesOf 26 = 24 := by kernel_rfl
theorem zero26 : zeroOf Tryz.prog 26 = .nils := by kernel_rfl
theorem cells29 : Tryz.prog.cellsOf 29 = 1 := by kernel_rfl
theorem bytes29 : Tryz.prog.bytesOf 29 = 24 := by kernel_rfl
theorem zero29 : zeroOf Tryz.prog 29 = .nils := by kernel_rfl
theorem cells30 : Tryz.prog.cellsOf 30 = 1 := by kernel_rfl
theorem bytes30 : Tryz.prog.bytesOf 30 = 24 := by kernel_rfl
theorem zero30 : zeroOf Tryz.prog 30 = .nils := by kernel_rfl
theorem cells31 : Tryz.prog.cellsOf 31 = 3 := by kernel_rfl
theorem bytes31 : Tryz.prog.bytesOf 31 = 64 := by kernel_rfl
theorem zero31 : zeroOf Tryz.prog 31 = .agg [.str [], .nils, .nils] := by kernel_rfl
theorem cells32 : Tryz.prog.cellsOf 32 = 3 := by kernel_rfl
theorem bytes32 : Tryz.prog.bytesOf 32 = 64 := by kernel_rfl
theorem zero32 : zeroOf Tryz.prog 32 = .agg [.str [], .nils, .nils] := by kernel_rfl
theorem cells47 : Tryz.prog.cellsOf 47 = 5 := by kernel_rfl
theorem bytes47 : Tryz.prog.bytesOf 47 = 56 := by kernel_rfl
theorem zero47 : zeroOf Tryz.prog 47 = .agg [.int .i64 0, .nils, .int .i64 0, .int .i64 0, .int .i64 0] := by kernel_rfl
theorem cells48 : Tryz.prog.cellsOf 48 = 5 := by kernel_rfl
theorem bytes48 : Tryz.prog.bytesOf 48 = 56 := by kernel_rfl
theorem zero48 : zeroOf Tryz.prog 48 = .agg [.int .i64 0, .nils, .int .i64 0, .int .i64 0, .int .i64 0] := by kernel_rfl
theorem cells56 : Tryz.prog.cellsOf 56 = 1 := by kernel_rfl
theorem bytes56 : Tryz.prog.bytesOf 56 = 8 := by kernel_rfl
theorem zero56 : zeroOf Tryz.prog 56 = .nilp := by kernel_rfl
theorem cells60 : Tryz.prog.cellsOf 60 = 1 := by kernel_rfl
theorem bytes60 : Tryz.prog.bytesOf 60 = 24 := by kernel_rfl
theorem zero60 : zeroOf Tryz.prog 60 = .nils := by kernel_rfl
theorem cells72 : Tryz.prog.cellsOf 72 = 1 := by kernel_rfl
theorem bytes72 : Tryz.prog.bytesOf 72 = 8 := by kernel_rfl
theorem zero72 : zeroOf Tryz.prog 72 = .nilp := by kernel_rfl
theorem cells88 : Tryz.prog.cellsOf 88 = 1 := by kernel_rfl
theorem bytes88 : Tryz.prog.bytesOf 88 = 8 := by kernel_rfl
theorem zero88 : zeroOf Tryz.prog 88 = .int .u64 0 := by kernel_rfl
theorem cells89 : Tryz.prog.cellsOf 89 = 3 := by kernel_rfl
theorem bytes89 : Tryz.prog.bytesOf 89 = 40 := by kernel_rfl
theorem zero89 : zeroOf Tryz.prog 89 = .agg [.nils, .int .i64 0, .int .u64 0] := by kernel_rfl
theorem cells90 : Tryz.prog.cellsOf 90 = 3 := by kernel_rfl
theorem bytes90 : Tryz.prog.bytesOf 90 = 40 := by kernel_rfl
theorem zero90 : zeroOf Tryz.prog 90 = .agg [.nils, .int .i64 0, .int .u64 0] := by kernel_rfl
theorem cells96 : Tryz.prog.cellsOf 96 = 1 := by kernel_rfl
theorem bytes96 : Tryz.prog.bytesOf 96 = 8 := by kernel_rfl
theorem zero96 : zeroOf Tryz.prog 96 = .nilp := by kernel_rfl
theorem cells97 : Tryz.prog.cellsOf 97 = 3 := by kernel_rfl
theorem bytes97 : Tryz.prog.bytesOf 97 = 32 := by kernel_rfl
theorem zero97 : zeroOf Tryz.prog 97 = .agg [.str [], .int .i64 0, .bool false] := by kernel_rfl
theorem cells98 : Tryz.prog.cellsOf 98 = 3 := by kernel_rfl
theorem bytes98 : Tryz.prog.bytesOf 98 = 32 := by kernel_rfl
theorem zero98 : zeroOf Tryz.prog 98 = .agg [.str [], .int .i64 0, .bool false] := by kernel_rfl
theorem cells116 : Tryz.prog.cellsOf 116 = 1 := by kernel_rfl
theorem bytes116 : Tryz.prog.bytesOf 116 = 8 := by kernel_rfl
theorem zero116 : zeroOf Tryz.prog 116 = .nilp := by kernel_rfl
theorem field31_0 : fieldOf Tryz.prog 31 0 = some ⟨ "Name", 9, 0, false, "", "", 0⟩ := by kernel_rfl
theorem field31_1 : fieldOf Tryz.prog 31 1 = some ⟨ "Rules", 29, 1, false, "", "", 16⟩ := by kernel_rfl
theorem field31_2 : fieldOf Tryz.prog 31 2 = some ⟨ "Incomes", 30, 2, false, "", "", 40⟩ := by kernel_rfl
theorem field32_0 : fieldOf Tryz.prog 32 0 = some ⟨ "Name", 9, 0, false, "", "", 0⟩ := by kernel_rfl
theorem field32_1 : fieldOf Tryz.prog 32 1 = some ⟨ "Rules", 29, 1, false, "", "", 16⟩ := by kernel_rfl
theorem field32_2 : fieldOf Tryz.prog 32 2 = some ⟨ "Incomes", 30, 2, false, "", "", 40⟩ := by kernel_rfl
theorem field47_0 : fieldOf Tryz.prog 47 0 = some ⟨ "Head", 2, 0, false, "", "", 0⟩ := by kernel_rfl
theorem field47_1 : fieldOf Tryz.prog 47 1 = some ⟨ "Ifs", 30, 1, false, "", "", 8⟩ := by kernel_rfl
theorem field47_2 : fieldOf Tryz.prog 47 2 = some ⟨ "From", 2, 2, false, "", "", 32⟩ := by kernel_rfl
theorem field47_3 : fieldOf Tryz.prog 47 3 = some ⟨ "To", 2, 3, false, "", "", 40⟩ := by kernel_rfl
theorem field47_4 : fieldOf Tryz.prog 47 4 = some ⟨ "Rank", 2, 4, false, "", "", 48⟩ := by kernel_rfl
theorem field48_0 : fieldOf Tryz.prog 48 0 = some ⟨ "Head", 2, 0, false, "", "", 0⟩ := by kernel_rfl
theorem field48_1 : fieldOf Tryz.prog 48 1 = some ⟨ "Ifs", 30, 1, false, "", "", 8⟩ := by kernel_rfl
theorem field48_2 : fieldOf Tryz.prog 48 2 = some ⟨ "From", 2, 2, false, "", "", 32⟩ := by kernel_rfl
theorem field48_3 : fieldOf Tryz.prog 48 3 = some ⟨ "To", 2, 3, false, "", "", 40⟩ := by kernel_rfl
theorem field48_4 : fieldOf Tryz.prog 48 4 = some ⟨ "Rank", 2, 4, false, "", "", 48⟩ := by kernel_rfl
theorem field89_0 : fieldOf Tryz.prog 89 0 = some ⟨ "code", 22, 0, false, "", "loop.example/g01393/spec", 0⟩ := by kernel_rfl
theorem field89_1 : fieldOf Tryz.prog 89 1 = some ⟨ "at", 3, 1, false, "", "loop.example/g01393/spec", 24⟩ := by kernel_rfl
theorem field89_2 : fieldOf Tryz.prog 89 2 = some ⟨ "seed", 88, 2, false, "", "loop.example/g01393/spec", 32⟩ := by kernel_rfl
theorem field90_0 : fieldOf Tryz.prog 90 0 = some ⟨ "code", 22, 0, false, "", "loop.example/g01393/spec", 0⟩ := by kernel_rfl
theorem field90_1 : fieldOf Tryz.prog 90 1 = some ⟨ "at", 3, 1, false, "", "loop.example/g01393/spec", 24⟩ := by kernel_rfl
theorem field90_2 : fieldOf Tryz.prog 90 2 = some ⟨ "seed", 88, 2, false, "", "loop.example/g01393/spec", 32⟩ := by kernel_rfl
theorem field97_0 : fieldOf Tryz.prog 97 0 = some ⟨ "s", 9, 0, false, "", "loop.example/g01393/impl", 0⟩ := by kernel_rfl
theorem field97_1 : fieldOf Tryz.prog 97 1 = some ⟨ "at", 3, 1, false, "", "loop.example/g01393/impl", 16⟩ := by kernel_rfl
theorem field97_2 : fieldOf Tryz.prog 97 2 = some ⟨ "bad", 4, 2, false, "", "loop.example/g01393/impl", 24⟩ := by kernel_rfl
theorem field98_0 : fieldOf Tryz.prog 98 0 = some ⟨ "s", 9, 0, false, "", "loop.example/g01393/impl", 0⟩ := by kernel_rfl
theorem field98_1 : fieldOf Tryz.prog 98 1 = some ⟨ "at", 3, 1, false, "", "loop.example/g01393/impl", 16⟩ := by kernel_rfl
theorem field98_2 : fieldOf Tryz.prog 98 2 = some ⟨ "bad", 4, 2, false, "", "loop.example/g01393/impl", 24⟩ := by kernel_rfl

theorem tys0 :
  Tryz.prog.cellsOf 2 = 1 ∧
  Tryz.prog.bytesOf 2 = 8 ∧
  zeroOf Tryz.prog 2 = .int .i64 0 ∧
  Tryz.prog.cellsOf 3 = 1 ∧
  Tryz.prog.bytesOf 3 = 8 ∧
  zeroOf Tryz.prog 3 = .int .i64 0 ∧
  Tryz.prog.cellsOf 4 = 1 ∧
  Tryz.prog.bytesOf 4 = 1 ∧
  zeroOf Tryz.prog 4 = .bool false ∧
  Tryz.prog.cellsOf 5 = 1 ∧
  Tryz.prog.bytesOf 5 = 1 ∧
  zeroOf Tryz.prog 5 = .int .u8 0 ∧
  Tryz.prog.cellsOf 9 = 1 ∧
  Tryz.prog.bytesOf 9 = 16 ∧
  zeroOf Tryz.prog 9 = .str [] ∧
  Tryz.prog.cellsOf 22 = 1 ∧
  Tryz.prog.bytesOf 22 = 24 ∧
  zeroOf Tryz.prog 22 = .nils ∧
  Tryz.prog.cellsOf 24 = 1 ∧
  Tryz.prog.bytesOf 24 = 24 ∧
  zeroOf Tryz.prog 24 = .nils ∧
  Tryz.prog.cellsOf 26 = 1 ∧
  Tryz.prog.bytesOf 26 = 24 ∧
  zeroOf Tryz.prog 26 = .nils ∧
  Tryz.prog.cellsOf 29 = 1 ∧
  Tryz.prog.bytesOf 29 = 24 ∧
  zeroOf Tryz.prog 29 = .nils ∧
  Tryz.prog.cellsOf 30 = 1 ∧
  Tryz.prog.bytesOf 30 = 24 ∧
  zeroOf Tryz.prog 30 = .nils ∧
  Tryz.prog.cellsOf 31 = 3 ∧
  Tryz.prog.bytesOf 31 = 64 ∧
  zeroOf Tryz.prog 31 = .agg [.str [], .nils, .nils] ∧
  Tryz.prog.cellsOf 32 = 3 ∧
  Tryz.prog.bytesOf 32 = 64 ∧
  zeroOf Tryz.prog 32 = .agg [.str [], .nils, .nils] ∧
  Tryz.prog.cellsOf 47 = 5 ∧
  Tryz.prog.bytesOf 47 = 56 ∧
  zeroOf Tryz.prog 47 = .agg [.int .i64 0, .nils, .int .i64 0, .int .i64 0, .int .i64 0] ∧
  Tryz.prog.cellsOf 48 = 5 :=
  ⟨cells2, bytes2, zero2, cells3, bytes3, zero3, cells4, bytes4, zero4, cells5, bytes5, zero5, cells9, bytes9, zero9, cells22, bytes22, zero22, cells24, bytes24, zero24, cells26, bytes26, zero26, cells29, bytes29, zero29, cells30, bytes30, zero30, cells31, bytes31, zero31, cells32, bytes32, zero32, cells47, bytes47, zero47, cells48⟩
theorem tys1 :
  Tryz.prog.bytesOf 48 = 56 ∧
  zeroOf Tryz.prog 48 = .agg [.int .i64 0, .nils, .int .i64 0, .int .i64 0, .int .i64 0] ∧
  Tryz.prog.cellsOf 56 = 1 ∧
  Tryz.prog.bytesOf 56 = 8 ∧
  zeroOf Tryz.prog 56 = .nilp ∧
  Tryz.prog.cellsOf 60 = 1 ∧
  Tryz.prog.bytesOf 60 = 24 ∧
  zeroOf Tryz.prog 60 = .nils ∧
  Tryz.prog.cellsOf 72 = 1 ∧
  Tryz.prog.bytesOf 72 = 8 ∧
  zeroOf Tryz.prog 72 = .nilp ∧
  Tryz.prog.cellsOf 88 = 1 ∧
  Tryz.prog.bytesOf 88 = 8 ∧
  zeroOf Tryz.prog 88 = .int .u64 0 ∧
  Tryz.prog.cellsOf 89 = 3 ∧
  Tryz.prog.bytesOf 89 = 40 ∧
  zeroOf Tryz.prog 89 = .agg [.nils, .int .i64 0, .int .u64 0] ∧
  Tryz.prog.cellsOf 90 = 3 ∧
  Tryz.prog.bytesOf 90 = 40 ∧
  zeroOf Tryz.prog 90 = .agg [.nils, .int .i64 0, .int .u64 0] ∧
  Tryz.prog.cellsOf 96 = 1 ∧
  Tryz.prog.bytesOf 96 = 8 ∧
  zeroOf Tryz.prog 96 = .nilp ∧
  Tryz.prog.cellsOf 97 = 3 ∧
  Tryz.prog.bytesOf 97 = 32 ∧
  zeroOf Tryz.prog 97 = .agg [.str [], .int .i64 0, .bool false] ∧
  Tryz.prog.cellsOf 98 = 3 ∧
  Tryz.prog.bytesOf 98 = 32 ∧
  zeroOf Tryz.prog 98 = .agg [.str [], .int .i64 0, .bool false] ∧
  Tryz.prog.cellsOf 116 = 1 ∧
  Tryz.prog.bytesOf 116 = 8 ∧
  zeroOf Tryz.prog 116 = .nilp ∧
  fieldOf Tryz.prog 31 0 = some ⟨ "Name", 9, 0, false, "", "", 0⟩ ∧
  fieldOf Tryz.prog 31 1 = some ⟨ "Rules", 29, 1, false, "", "", 16⟩ ∧
  fieldOf Tryz.prog 31 2 = some ⟨ "Incomes", 30, 2, false, "", "", 40⟩ ∧
  fieldOf Tryz.prog 32 0 = some ⟨ "Name", 9, 0, false, "", "", 0⟩ ∧
  fieldOf Tryz.prog 32 1 = some ⟨ "Rules", 29, 1, false, "", "", 16⟩ ∧
  fieldOf Tryz.prog 32 2 = some ⟨ "Incomes", 30, 2, false, "", "", 40⟩ ∧
  fieldOf Tryz.prog 47 0 = some ⟨ "Head", 2, 0, false, "", "", 0⟩ ∧
  fieldOf Tryz.prog 47 1 = some ⟨ "Ifs", 30, 1, false, "", "", 8⟩ :=
  ⟨bytes48, zero48, cells56, bytes56, zero56, cells60, bytes60, zero60, cells72, bytes72, zero72, cells88, bytes88, zero88, cells89, bytes89, zero89, cells90, bytes90, zero90, cells96, bytes96, zero96, cells97, bytes97, zero97, cells98, bytes98, zero98, cells116, bytes116, zero116, field31_0, field31_1, field31_2, field32_0, field32_1, field32_2, field47_0, field47_1⟩
theorem tys2 :
  fieldOf Tryz.prog 47 2 = some ⟨ "From", 2, 2, false, "", "", 32⟩ ∧
  fieldOf Tryz.prog 47 3 = some ⟨ "To", 2, 3, false, "", "", 40⟩ ∧
  fieldOf Tryz.prog 47 4 = some ⟨ "Rank", 2, 4, false, "", "", 48⟩ ∧
  fieldOf Tryz.prog 48 0 = some ⟨ "Head", 2, 0, false, "", "", 0⟩ ∧
  fieldOf Tryz.prog 48 1 = some ⟨ "Ifs", 30, 1, false, "", "", 8⟩ ∧
  fieldOf Tryz.prog 48 2 = some ⟨ "From", 2, 2, false, "", "", 32⟩ ∧
  fieldOf Tryz.prog 48 3 = some ⟨ "To", 2, 3, false, "", "", 40⟩ ∧
  fieldOf Tryz.prog 48 4 = some ⟨ "Rank", 2, 4, false, "", "", 48⟩ ∧
  fieldOf Tryz.prog 89 0 = some ⟨ "code", 22, 0, false, "", "loop.example/g01393/spec", 0⟩ ∧
  fieldOf Tryz.prog 89 1 = some ⟨ "at", 3, 1, false, "", "loop.example/g01393/spec", 24⟩ ∧
  fieldOf Tryz.prog 89 2 = some ⟨ "seed", 88, 2, false, "", "loop.example/g01393/spec", 32⟩ ∧
  fieldOf Tryz.prog 90 0 = some ⟨ "code", 22, 0, false, "", "loop.example/g01393/spec", 0⟩ ∧
  fieldOf Tryz.prog 90 1 = some ⟨ "at", 3, 1, false, "", "loop.example/g01393/spec", 24⟩ ∧
  fieldOf Tryz.prog 90 2 = some ⟨ "seed", 88, 2, false, "", "loop.example/g01393/spec", 32⟩ ∧
  fieldOf Tryz.prog 97 0 = some ⟨ "s", 9, 0, false, "", "loop.example/g01393/impl", 0⟩ ∧
  fieldOf Tryz.prog 97 1 = some ⟨ "at", 3, 1, false, "", "loop.example/g01393/impl", 16⟩ ∧
  fieldOf Tryz.prog 97 2 = some ⟨ "bad", 4, 2, false, "", "loop.example/g01393/impl", 24⟩ ∧
  fieldOf Tryz.prog 98 0 = some ⟨ "s", 9, 0, false, "", "loop.example/g01393/impl", 0⟩ ∧
  fieldOf Tryz.prog 98 1 = some ⟨ "at", 3, 1, false, "", "loop.example/g01393/impl", 16⟩ ∧
  fieldOf Tryz.prog 98 2 = some ⟨ "bad", 4, 2, false, "", "loop.example/g01393/impl", 24⟩ :=
  ⟨field47_2, field47_3, field47_4, field48_0, field48_1, field48_2, field48_3, field48_4, field89_0, field89_1, field89_2, field90_0, field90_1, field90_2, field97_0, field97_1, field97_2, field98_0, field98_1, field98_2⟩
def und0 := And.intro @Tryz.underlying2 (And.intro @Tryz.underlying3 (And.intro @Tryz.underlying4 (And.intro @Tryz.underlying5 (And.intro @Tryz.underlying9 (And.intro @Tryz.underlying22 (And.intro @Tryz.underlying24 (And.intro @Tryz.underlying26 (And.intro @Tryz.underlying29 (And.intro @Tryz.underlying30 (And.intro @Tryz.underlying31 @Tryz.underlying32))))))))))
def und1 := And.intro @Tryz.underlying47 (And.intro @Tryz.underlying48 (And.intro @Tryz.underlying56 (And.intro @Tryz.underlying60 (And.intro @Tryz.underlying72 (And.intro @Tryz.underlying88 (And.intro @Tryz.underlying89 (And.intro @Tryz.underlying90 (And.intro @Tryz.underlying96 (And.intro @Tryz.underlying97 (And.intro @Tryz.underlying98 @Tryz.underlying116))))))))))
theorem go3 : isGo Tryz.prog 3 := by unfold isGo; rw [Tryz.func3]; exact ⟨rfl, by kernel_rfl⟩
theorem go7 : isGo Tryz.prog 7 := by unfold isGo; rw [Tryz.func7]; exact ⟨rfl, by kernel_rfl⟩
theorem go8 : isGo Tryz.prog 8 := by unfold isGo; rw [Tryz.func8]; exact ⟨rfl, by kernel_rfl⟩
theorem go9 : isGo Tryz.prog 9 := by unfold isGo; rw [Tryz.func9]; exact ⟨rfl, by kernel_rfl⟩
theorem go10 : isGo Tryz.prog 10 := by unfold isGo; rw [Tryz.func10]; exact ⟨rfl, by kernel_rfl⟩
theorem go11 : isGo Tryz.prog 11 := by unfold isGo; rw [Tryz.func11]; exact ⟨rfl, by kernel_rfl⟩
theorem go12 : isGo Tryz.prog 12 := by unfold isGo; rw [Tryz.func12]; exact ⟨rfl, by kernel_rfl⟩
theorem go13 : isGo Tryz.prog 13 := by unfold isGo; rw [Tryz.func13]; exact ⟨rfl, by kernel_rfl⟩
theorem go14 : isGo Tryz.prog 14 := by unfold isGo; rw [Tryz.func14]; exact ⟨rfl, by kernel_rfl⟩
theorem go15 : isGo Tryz.prog 15 := by unfold isGo; rw [Tryz.func15]; exact ⟨rfl, by kernel_rfl⟩
theorem go17 : isGo Tryz.prog 17 := by unfold isGo; rw [Tryz.func17]; exact ⟨rfl, by kernel_rfl⟩
theorem go19 : isGo Tryz.prog 19 := by unfold isGo; rw [Tryz.func19]; exact ⟨rfl, by kernel_rfl⟩
theorem go21 : isGo Tryz.prog 21 := by unfold isGo; rw [Tryz.func21]; exact ⟨rfl, by kernel_rfl⟩
theorem go22 : isGo Tryz.prog 22 := by unfold isGo; rw [Tryz.func22]; exact ⟨rfl, by kernel_rfl⟩
theorem go23 : isGo Tryz.prog 23 := by unfold isGo; rw [Tryz.func23]; exact ⟨rfl, by kernel_rfl⟩
theorem go33 : isGo Tryz.prog 33 := by unfold isGo; rw [Tryz.func33]; exact ⟨rfl, by kernel_rfl⟩
theorem go34 : isGo Tryz.prog 34 := by unfold isGo; rw [Tryz.func34]; exact ⟨rfl, by kernel_rfl⟩
theorem go35 : isGo Tryz.prog 35 := by unfold isGo; rw [Tryz.func35]; exact ⟨rfl, by kernel_rfl⟩
theorem go36 : isGo Tryz.prog 36 := by unfold isGo; rw [Tryz.func36]; exact ⟨rfl, by kernel_rfl⟩
theorem go37 : isGo Tryz.prog 37 := by unfold isGo; rw [Tryz.func37]; exact ⟨rfl, by kernel_rfl⟩
theorem go38 : isGo Tryz.prog 38 := by unfold isGo; rw [Tryz.func38]; exact ⟨rfl, by kernel_rfl⟩
theorem go39 : isGo Tryz.prog 39 := by unfold isGo; rw [Tryz.func39]; exact ⟨rfl, by kernel_rfl⟩
theorem go40 : isGo Tryz.prog 40 := by unfold isGo; rw [Tryz.func40]; exact ⟨rfl, by kernel_rfl⟩
theorem go41 : isGo Tryz.prog 41 := by unfold isGo; rw [Tryz.func41]; exact ⟨rfl, by kernel_rfl⟩
theorem go42 : isGo Tryz.prog 42 := by unfold isGo; rw [Tryz.func42]; exact ⟨rfl, by kernel_rfl⟩
theorem go43 : isGo Tryz.prog 43 := by unfold isGo; rw [Tryz.func43]; exact ⟨rfl, by kernel_rfl⟩
theorem go44 : isGo Tryz.prog 44 := by unfold isGo; rw [Tryz.func44]; exact ⟨rfl, by kernel_rfl⟩
theorem go45 : isGo Tryz.prog 45 := by unfold isGo; rw [Tryz.func45]; exact ⟨rfl, by kernel_rfl⟩
theorem go47 : isGo Tryz.prog 47 := by unfold isGo; rw [Tryz.func47]; exact ⟨rfl, by kernel_rfl⟩
theorem go50 : isGo Tryz.prog 50 := by unfold isGo; rw [Tryz.func50]; exact ⟨rfl, by kernel_rfl⟩
theorem go52 : isGo Tryz.prog 52 := by unfold isGo; rw [Tryz.func52]; exact ⟨rfl, by kernel_rfl⟩
theorem go53 : isGo Tryz.prog 53 := by unfold isGo; rw [Tryz.func53]; exact ⟨rfl, by kernel_rfl⟩
theorem go54 : isGo Tryz.prog 54 := by unfold isGo; rw [Tryz.func54]; exact ⟨rfl, by kernel_rfl⟩
theorem go55 : isGo Tryz.prog 55 := by unfold isGo; rw [Tryz.func55]; exact ⟨rfl, by kernel_rfl⟩
theorem go56 : isGo Tryz.prog 56 := by unfold isGo; rw [Tryz.func56]; exact ⟨rfl, by kernel_rfl⟩
theorem go57 : isGo Tryz.prog 57 := by unfold isGo; rw [Tryz.func57]; exact ⟨rfl, by kernel_rfl⟩
theorem go58 : isGo Tryz.prog 58 := by unfold isGo; rw [Tryz.func58]; exact ⟨rfl, by kernel_rfl⟩
theorem go59 : isGo Tryz.prog 59 := by unfold isGo; rw [Tryz.func59]; exact ⟨rfl, by kernel_rfl⟩
theorem go69 : isGo Tryz.prog 69 := by unfold isGo; rw [Tryz.func69]; exact ⟨rfl, by kernel_rfl⟩
theorem go70 : isGo Tryz.prog 70 := by unfold isGo; rw [Tryz.func70]; exact ⟨rfl, by kernel_rfl⟩
theorem go71 : isGo Tryz.prog 71 := by unfold isGo; rw [Tryz.func71]; exact ⟨rfl, by kernel_rfl⟩
theorem go72 : isGo Tryz.prog 72 := by unfold isGo; rw [Tryz.func72]; exact ⟨rfl, by kernel_rfl⟩
theorem go73 : isGo Tryz.prog 73 := by unfold isGo; rw [Tryz.func73]; exact ⟨rfl, by kernel_rfl⟩
theorem go74 : isGo Tryz.prog 74 := by unfold isGo; rw [Tryz.func74]; exact ⟨rfl, by kernel_rfl⟩
theorem go75 : isGo Tryz.prog 75 := by unfold isGo; rw [Tryz.func75]; exact ⟨rfl, by kernel_rfl⟩
theorem go76 : isGo Tryz.prog 76 := by unfold isGo; rw [Tryz.func76]; exact ⟨rfl, by kernel_rfl⟩
theorem go77 : isGo Tryz.prog 77 := by unfold isGo; rw [Tryz.func77]; exact ⟨rfl, by kernel_rfl⟩
theorem go78 : isGo Tryz.prog 78 := by unfold isGo; rw [Tryz.func78]; exact ⟨rfl, by kernel_rfl⟩
theorem go79 : isGo Tryz.prog 79 := by unfold isGo; rw [Tryz.func79]; exact ⟨rfl, by kernel_rfl⟩
theorem go80 : isGo Tryz.prog 80 := by unfold isGo; rw [Tryz.func80]; exact ⟨rfl, by kernel_rfl⟩
theorem go84 : isGo Tryz.prog 84 := by unfold isGo; rw [Tryz.func84]; exact ⟨rfl, by kernel_rfl⟩
theorem go85 : isGo Tryz.prog 85 := by unfold isGo; rw [Tryz.func85]; exact ⟨rfl, by kernel_rfl⟩
theorem go89 : isGo Tryz.prog 89 := by unfold isGo; rw [Tryz.func89]; exact ⟨rfl, by kernel_rfl⟩
theorem go95 : isGo Tryz.prog 95 := by unfold isGo; rw [Tryz.func95]; exact ⟨rfl, by kernel_rfl⟩
theorem go96 : isGo Tryz.prog 96 := by unfold isGo; rw [Tryz.func96]; exact ⟨rfl, by kernel_rfl⟩
theorem go97 : isGo Tryz.prog 97 := by unfold isGo; rw [Tryz.func97]; exact ⟨rfl, by kernel_rfl⟩
theorem go105 : isGo Tryz.prog 105 := by unfold isGo; rw [Tryz.func105]; exact ⟨rfl, by kernel_rfl⟩
theorem go106 : isGo Tryz.prog 106 := by unfold isGo; rw [Tryz.func106]; exact ⟨rfl, by kernel_rfl⟩
theorem go114 : isGo Tryz.prog 114 := by unfold isGo; rw [Tryz.func114]; exact ⟨rfl, by kernel_rfl⟩
theorem go115 : isGo Tryz.prog 115 := by unfold isGo; rw [Tryz.func115]; exact ⟨rfl, by kernel_rfl⟩
theorem go133 : isGo Tryz.prog 133 := by unfold isGo; rw [Tryz.func133]; exact ⟨rfl, by kernel_rfl⟩
def md3 : Nat → List Bool
  | 28 => [false, false, false, false, false, false, false, false, false, false, true]
  | _ => []
def md7 : Nat → List Bool := fun _ => []
def md8 : Nat → List Bool := fun _ => []
def md9 : Nat → List Bool := fun _ => []
def md10 : Nat → List Bool := fun _ => []
def md11 : Nat → List Bool := fun _ => []
def md12 : Nat → List Bool := fun _ => []
def md13 : Nat → List Bool := fun _ => []
def md14 : Nat → List Bool := fun _ => []
def md15 : Nat → List Bool := fun _ => []
def md17 : Nat → List Bool := fun _ => []
def md19 : Nat → List Bool := fun _ => []
def md21 : Nat → List Bool := fun _ => []
def md22 : Nat → List Bool := fun _ => []
def md23 : Nat → List Bool := fun _ => []
def md33 : Nat → List Bool := fun _ => []
def md34 : Nat → List Bool := fun _ => []
def md35 : Nat → List Bool := fun _ => []
def md36 : Nat → List Bool
  | 4 => [false, false, false, false, false, false, true]
  | _ => []
def md37 : Nat → List Bool
  | 2 => [false, false, false, false, false, false, false, false, false, false, false, false, false, false, false, false, false, false, false, false]
  | _ => []
def md38 : Nat → List Bool
  | 11 => [false, false, false, false, false, false, false, false, false, false, false, false, false, false, false, false, false, false, false, false, false, false, false, false]
  | _ => []
def md39 : Nat → List Bool := fun _ => []
def md40 : Nat → List Bool := fun _ => []
def md41 : Nat → List Bool := fun _ => []
def md42 : Nat → List Bool := fun _ => []
def md43 : Nat → List Bool := fun _ => []
def md44 : Nat → List Bool := fun _ => []
def md45 : Nat → List Bool
  | 6 => [false, false, false, false, false, false, false, false, false]
  | _ => []
def md47 : Nat → List Bool := fun _ => []
def md52 : Nat → List Bool
  | 4 => [false, false, false, false, false, false, false, false, false, false, false, false, false, false, false, false, false, false, false, false, false, false]
  | _ => []
def md56 : Nat → List Bool := fun _ => []
def md57 : Nat → List Bool := fun _ => []
def md58 : Nat → List Bool := fun _ => []
def md59 : Nat → List Bool := fun _ => []
def md69 : Nat → List Bool
  | 2 => [false, false, false, false, false, false, false, false, false, false]
  | 3 => [false, false, false, false, false, false, false, false, false, false, false, false]
  | 6 => [false, false, false, false, false, false, false, false, false, false]
  | _ => []
def md70 : Nat → List Bool := fun _ => []
def md71 : Nat → List Bool := fun _ => []
def md72 : Nat → List Bool := fun _ => []
def md73 : Nat → List Bool := fun _ => []
def md74 : Nat → List Bool
  | 1 => [false, false, false, false, false, false, false, false, false, false, false, false, false, false, false, false, false, false]
  | 5 => [false, false, false, false, false, false, false, false, false, false, false, false, false, false, false, false]
  | _ => []
def md75 : Nat → List Bool := fun _ => []
def md76 : Nat → List Bool := fun _ => []
def md77 : Nat → List Bool := fun _ => []
def md78 : Nat → List Bool := fun _ => []
def md79 : Nat → List Bool := fun _ => []
def md80 : Nat → List Bool := fun _ => []
def md84 : Nat → List Bool := fun _ => []
def md85 : Nat → List Bool := fun _ => []
def md89 : Nat → List Bool := fun _ => []
def md95 : Nat → List Bool := fun _ => []
def md96 : Nat → List Bool := fun _ => []
def md97 : Nat → List Bool := fun _ => []
def md114 : Nat → List Bool := fun _ => []
def md115 : Nat → List Bool := fun _ => []
def md133 : Nat → List Bool := fun _ => []
end Go.Proofs.YtigipcckflcilaaGreatDoor
