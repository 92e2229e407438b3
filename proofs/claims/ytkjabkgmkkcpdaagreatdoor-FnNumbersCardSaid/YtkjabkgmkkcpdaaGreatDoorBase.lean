/- Closed facts of the program, for the abstract layer: types and functions. Printed by gen_base.py. -/
import Derived.Test.YtkjabkgmkkcpdaaGreatDoorProg
import Derived.Test.YtkjabkgmkkcpdaaGreatDoorAbsM5
set_option linter.unusedVariables false
set_option linter.defProp false
namespace Go.Proofs.YtkjabkgmkkcpdaaGreatDoor
open Go Go.Abs

def zq0 := (And.intro @List.getD_cons_succ.{0} (And.intro @List.getD_cons_zero.{0} (And.intro @List.length_cons.{0} (And.intro @List.length_nil.{0} (And.intro @List.replicate_succ.{0} (And.intro @List.replicate_zero.{0} (And.intro @List.cons_append.{0} (And.intro @List.nil_append.{0} (And.intro @List.append_nil.{0} (And.intro @List.set_cons_succ.{0} (And.intro @List.set_cons_zero.{0} @true_and)))))))))))
def zq1 := (And.intro @and_true (And.intro @List.map_cons.{0,0} (And.intro @List.map_nil.{0,0} (And.intro @Int.toNat_natCast (And.intro @Int.natCast_nonneg (And.intro @exists_prop (And.intro @List.getElem_cons_zero.{0} (And.intro @List.getElem_cons_succ.{0} (And.intro @List.getElem?_cons_zero.{0} (And.intro @List.getElem?_cons_succ.{0} (And.intro @Nat.zero_lt_one @Option.bind_some.{0,0})))))))))))
def zq2 := (And.intro @Option.map_some.{0,0} (And.intro @Option.map_none.{0,0} (And.intro @Bool.not_true (And.intro @Bool.not_false (And.intro @List.all_cons.{0} (And.intro @List.all_nil.{0} (And.intro @Bool.and_true (And.intro @Bool.true_and (And.intro @List.take_zero.{0} (And.intro @List.drop_zero.{0} (And.intro @List.drop_succ_cons.{0} @List.take_succ_cons.{0})))))))))))
def zq3 := (And.intro @Nat.zero_add (And.intro @Nat.add_zero (And.intro @List.getElem?_toArray.{0} (And.intro @ge_iff_le.{0} (And.intro @gt_iff_lt.{0} (And.intro @Nat.le_refl (And.intro @Bool.false_eq_true (And.intro @Bool.not_eq_true (And.intro @Nat.succ_ne_self (And.intro @Option.some.injEq.{0} (And.intro @List.forall_mem_cons.{0} @List.not_mem_nil.{0})))))))))))
def zq4 := @false_implies

def zr0 := (And.intro (And.intro (And.intro (And.intro (And.intro @guardSlot.eq_1 (And.intro @quietA.eq_1 @quietA.eq_2)) (And.intro @quietA.eq_3 (And.intro @quietA.eq_4 @quietA.eq_5))) (And.intro (And.intro @quietA.eq_6 (And.intro @quietA.eq_7 @quietA.eq_8)) (And.intro @quietA.eq_9 (And.intro @quietA.eq_10 @quietA.eq_11)))) (And.intro (And.intro (And.intro @quietA.eq_12 (And.intro @quietA.eq_13 @quietA.eq_14)) (And.intro @quietA.eq_15 (And.intro @quietA.eq_16 @quietA.eq_17))) (And.intro (And.intro @quietA.eq_18 (And.intro @quietA.eq_19 @nilC.eq_1)) (And.intro @nilC.eq_2 (And.intro @nilA.eq_1 @nilA.eq_2))))) (And.intro (And.intro (And.intro (And.intro @nilA.eq_3 (And.intro @quietB.eq_1 @quietB.eq_2)) (And.intro @quietB.eq_3 (And.intro @quietB.eq_4 @quietB.eq_5))) (And.intro (And.intro @quietB.eq_6 (And.intro @quietB.eq_7 @quietB.eq_8)) (And.intro @St.ev.eq_1 (And.intro @St.ev.eq_2 @St.ev.eq_3)))) (And.intro (And.intro (And.intro @St.ev.eq_4 (And.intro @St.put.eq_1 @St.put.eq_2)) (And.intro @St.after.eq_1 (And.intro @St.after.eq_2 @ofV.eq_1))) (And.intro (And.intro @ofV.eq_2 (And.intro @ofL.eq_1 @ofL.eq_2)) (And.intro @ofL.eq_3 (And.intro @ofL.eq_4 @ofL.eq_5))))))
def zr1 := (And.intro (And.intro (And.intro (And.intro (And.intro @ofL.eq_6 (And.intro @ofL.eq_7 @ofL.eq_8)) (And.intro @ofL.eq_9 (And.intro @binA.eq_1 @binA.eq_2))) (And.intro (And.intro @binA.eq_3 (And.intro @binA.eq_4 @binA.eq_5)) (And.intro @binA.eq_6 (And.intro @binA.eq_7 @binA.eq_8)))) (And.intro (And.intro (And.intro @binA.eq_9 (And.intro @intBin.eq_1 @intBin.eq_2)) (And.intro @intBin.eq_3 (And.intro @intBin.eq_4 @intBin.eq_5))) (And.intro (And.intro @intBin.eq_6 (And.intro @intBin.eq_7 @intBin.eq_8)) (And.intro @intBin.eq_9 (And.intro @intBin.eq_10 @intBin.eq_11))))) (And.intro (And.intro (And.intro (And.intro @intBin.eq_12 (And.intro @intBin.eq_13 @intBin.eq_14)) (And.intro @intBin.eq_15 (And.intro @intBin.eq_16 @fltBin.eq_1))) (And.intro (And.intro @fltBin.eq_2 (And.intro @fltBin.eq_3 @fltBin.eq_4)) (And.intro @fltBin.eq_5 (And.intro @fltBin.eq_6 @fltBin.eq_7)))) (And.intro (And.intro (And.intro @fltBin.eq_8 (And.intro @fltBin.eq_9 @fltBin.eq_10)) (And.intro @fltBin.eq_11 (And.intro @strBin.eq_1 @strBin.eq_2))) (And.intro (And.intro @strBin.eq_3 (And.intro @strBin.eq_4 @cpxBin.eq_1)) (And.intro @cpxBin.eq_2 (And.intro @cpxBin.eq_3 @cpxBin.eq_4))))))
def zr2 := (And.intro (And.intro (And.intro (And.intro (And.intro @cpxBin.eq_5 (And.intro @unA.eq_1 @unA.eq_2)) (And.intro @unA.eq_3 (And.intro @unA.eq_4 @unA.eq_5))) (And.intro (And.intro @convB.eq_1 (And.intro @convB.eq_2 @convB.eq_3)) (And.intro @convB.eq_4 (And.intro @convO.eq_1 @convO.eq_2)))) (And.intro (And.intro (And.intro @convO.eq_3 (And.intro @pickV.eq_1 @pickV.eq_2)) (And.intro @resL.eq_1 (And.intro @resL.eq_2 @resL.eq_3))) (And.intro (And.intro @oneA.eq_1 (And.intro @oneA.eq_2 @isQuiet.eq_1)) (And.intro @isQuiet.eq_2 (And.intro @isQuiet.eq_3 @isQuiet.eq_4))))) (And.intro (And.intro (And.intro (And.intro @isQuiet.eq_5 (And.intro @isQuiet.eq_6 @isQuiet.eq_7)) (And.intro @isQuiet.eq_8 (And.intro @isQuiet.eq_9 @isQuiet.eq_10))) (And.intro (And.intro @isQuiet.eq_11 (And.intro @loadA.eq_1 @loadA.eq_2)) (And.intro @loadA.eq_3 (And.intro @loadC.eq_1 @storeA.eq_1)))) (And.intro (And.intro (And.intro @storeA.eq_2 (And.intro @fieldA.eq_1 @partA.eq_1)) (And.intro @partA.eq_2 (And.intro @sliceA.eq_1 @sliceA.eq_2))) (And.intro (And.intro @sliceA.eq_3 (And.intro @sliceA.eq_4 @sliceA.eq_5)) (And.intro @boundA.eq_1 (And.intro @boundA.eq_2 @boundA.eq_3))))))
def zr3 := (And.intro (And.intro (And.intro (And.intro (And.intro @buildA.eq_1 @buildA.eq_2) (And.intro @placeA.eq_1 (And.intro @setAll.eq_1 @setAll.eq_2))) (And.intro (And.intro @appendA.eq_1 (And.intro @readSl.eq_1 @readSl.eq_2)) (And.intro @readSl.eq_3 (And.intro @readSl.eq_4 @readSl.eq_5)))) (And.intro (And.intro (And.intro @newEl.eq_1 (And.intro @AV.cells.eq_1 @AV.cells.eq_2)) (And.intro @AV.solid.eq_1 (And.intro @AV.solid.eq_2 @AV.one.eq_1))) (And.intro (And.intro @AV.one.eq_2 (And.intro @AV.one.eq_3 @AV.one.eq_4)) (And.intro @kill.eq_1 (And.intro @kill.eq_2 @killM.eq_1))))) (And.intro (And.intro (And.intro (And.intro @killM.eq_2 (And.intro @killM.eq_3 @killM.eq_4)) (And.intro @killL.eq_1 (And.intro @killL.eq_2 @killL.eq_3))) (And.intro (And.intro @killL.eq_4 (And.intro @killL.eq_5 @killL.eq_6)) (And.intro @killL.eq_7 (And.intro @killL.eq_8 @notInt.eq_1)))) (And.intro (And.intro (And.intro @putF.eq_1 (And.intro @putF.eq_2 @lookA.eq_1)) (And.intro @lookA.eq_2 (And.intro @lookA.eq_3 @putA.eq_1))) (And.intro (And.intro @putA.eq_2 (And.intro @entryA.eq_1 @entryA.eq_2)) (And.intro @entrySetA.eq_1 (And.intro @entrySetA.eq_2 @mapTy.eq_1))))))

theorem mixed : Tryz.prog.follows .mixedOrders = true := by kernel_rfl
theorem cells2 : Tryz.prog.cellsOf 2 = 1 := by kernel_rfl
theorem bytes2 : Tryz.prog.bytesOf 2 = 8 := by kernel_rfl
theorem zero2 : zeroOf Tryz.prog 2 = .int .i64 0 := by kernel_rfl
theorem cells3 : Tryz.prog.cellsOf 3 = 1 := by kernel_rfl
theorem bytes3 : Tryz.prog.bytesOf 3 = 8 := by kernel_rfl
theorem zero3 : zeroOf Tryz.prog 3 = .int .i64 0 := by kernel_rfl
theorem cells4 : Tryz.prog.cellsOf 4 = 1 := by kernel_rfl
theorem bytes4 : Tryz.prog.bytesOf 4 = 1 := by kernel_rfl
theorem zero4 : zeroOf Tryz.prog 4 = .bool false := by kernel_rfl
theorem cells5 : Tryz.prog.cellsOf 5 = 1 := by kernel_rfl
theorem bytes5 : Tryz.prog.bytesOf 5 = 1 := by kernel_rfl
theorem zero5 : zeroOf Tryz.prog 5 = .int .u8 0 := by kernel_rfl
theorem cells9 : Tryz.prog.cellsOf 9 = 1 := by kernel_rfl
theorem bytes9 : Tryz.prog.bytesOf 9 = 16 := by kernel_rfl
theorem zero9 : zeroOf Tryz.prog 9 = .str [] := by kernel_rfl
theorem cells12 : Tryz.prog.cellsOf 12 = 1 := by kernel_rfl
theorem bytes12 : Tryz.prog.bytesOf 12 = 8 := by kernel_rfl
theorem zero12 : zeroOf Tryz.prog 12 = .int .u64 0 := by kernel_rfl
theorem cells22 : Tryz.prog.cellsOf 22 = 1 := by kernel_rfl
theorem bytes22 : Tryz.prog.bytesOf 22 = 24 := by kernel_rfl
theorem zero22 : zeroOf Tryz.prog 22 = .nils := by kernel_rfl
theorem cells24 : Tryz.prog.cellsOf 24 = 1 := by kernel_rfl
theorem bytes24 : Tryz.prog.bytesOf 24 = 8 := by kernel_rfl
theorem zero24 : zeroOf Tryz.prog 24 = .cpx .f32 0 0 := by kernel_rfl
theorem cells25 : Tryz.prog.cellsOf 25 = 1 := by kernel_rfl
theorem bytes25 : Tryz.prog.bytesOf 25 = 24 := by kernel_rfl
theorem zero25 : zeroOf Tryz.prog 25 = .nils := by kernel_rfl
theorem cells28 : Tryz.prog.cellsOf 28 = 1 := by kernel_rfl
theorem bytes28 : Tryz.prog.bytesOf 28 = 4 := by kernel_rfl
theorem zero28 : zeroOf Tryz.prog 28 = .flt .f32 0 := by kernel_rfl
theorem cells45 : Tryz.prog.cellsOf 45 = 1 := by kernel_rfl
theorem bytes45 : Tryz.prog.bytesOf 45 = 16 := by kernel_rfl
theorem zero45 : zeroOf Tryz.prog 45 = .cpx .f64 0 0 := by kernel_rfl
theorem cells46 : Tryz.prog.cellsOf 46 = 1 := by kernel_rfl
theorem bytes46 : Tryz.prog.bytesOf 46 = 8 := by kernel_rfl
theorem zero46 : zeroOf Tryz.prog 46 = .flt .f64 0 := by kernel_rfl
theorem cells52 : Tryz.prog.cellsOf 52 = 1 := by kernel_rfl
theorem bytes52 : Tryz.prog.bytesOf 52 = 24 := by kernel_rfl
theorem zero52 : zeroOf Tryz.prog 52 = .nils := by kernel_rfl
theorem cells60 : Tryz.prog.cellsOf 60 = 1 := by kernel_rfl
theorem bytes60 : Tryz.prog.bytesOf 60 = 8 := by kernel_rfl
theorem zero60 : zeroOf Tryz.prog 60 = .nilp := by kernel_rfl
theorem cells69 : Tryz.prog.cellsOf 69 = 1 := by kernel_rfl
theorem bytes69 : Tryz.prog.bytesOf 69 = 24 := by kernel_rfl
theorem zero69 : zeroOf Tryz.prog 69 = .nils := by kernel_rfl
theorem cells80 : Tryz.prog.cellsOf 80 = 1 := by kernel_rfl
theorem bytes80 : Tryz.prog.bytesOf 80 = 4 := by kernel_rfl
theorem zero80 : zeroOf Tryz.prog 80 = .int .u32 0 := by kernel_rfl
theorem cells87 : Tryz.prog.cellsOf 87 = 1 := by kernel_rfl
theorem bytes87 : Tryz.prog.bytesOf 87 = 8 := by kernel_rfl
theorem zero87 : zeroOf Tryz.prog 87 = .int .u64 0 := by kernel_rfl
theorem cells88 : Tryz.prog.cellsOf 88 = 3 := by kernel_rfl
theorem bytes88 : Tryz.prog.bytesOf 88 = 40 := by kernel_rfl
theorem zero88 : zeroOf Tryz.prog 88 = .agg [.nils, .int .i64 0, .int .u64 0] := by kernel_rfl
theorem cells89 : Tryz.prog.cellsOf 89 = 3 := by kernel_rfl
theorem bytes89 : Tryz.prog.bytesOf 89 = 40 := by kernel_rfl
theorem zero89 : zeroOf Tryz.prog 89 = .agg [.nils, .int .i64 0, .int .u64 0] := by kernel_rfl
theorem cells100 : Tryz.prog.cellsOf 100 = 1 := by kernel_rfl
theorem bytes100 : Tryz.prog.bytesOf 100 = 24 := by kernel_rfl
theorem zero100 : zeroOf Tryz.prog 100 = .nils := by kernel_rfl
theorem cells103 : Tryz.prog.cellsOf 103 = 1 := by kernel_rfl
theorem bytes103 : Tryz.prog.bytesOf 103 = 8 := by kernel_rfl
theorem zero103 : zeroOf Tryz.prog 103 = .int .u64 0 := by kernel_rfl
theorem field88_0 : fieldOf Tryz.prog 88 0 = some ⟨ "code", 22, 0, false, "", "loop.example/g01393/spec", 0⟩ := by kernel_rfl
theorem field88_1 : fieldOf Tryz.prog 88 1 = some ⟨ "at", 3, 1, false, "", "loop.example/g01393/spec", 24⟩ := by kernel_rfl
theorem field88_2 : fieldOf Tryz.prog 88 2 = some ⟨ "seed", 87, 2, false, "", "loop.example/g01393/spec", 32⟩ := by kernel_rfl
theorem field89_0 : fieldOf Tryz.prog 89 0 = some ⟨ "code", 22, 0, false, "", "loop.example/g01393/spec", 0⟩ := by kernel_rfl
theorem field89_1 : fieldOf Tryz.prog 89 1 = some ⟨ "at", 3, 1, false, "", "loop.example/g01393/spec", 24⟩ := by kernel_rfl
theorem field89_2 : fieldOf Tryz.prog 89 2 = some ⟨ "seed", 87, 2, false, "", "loop.example/g01393/spec", 32⟩ := by kernel_rfl

theorem tys0 :
  Tryz.prog.cellsOf 2 = 1 ∧
  Tryz.prog.bytesOf 2 = 8 ∧
  zeroOf Tryz.prog 2 = .int .i64 0 ∧
  Tryz.prog.cellsOf 3 = 1 ∧
  Tryz.prog.bytesOf 3 = 8 ∧
  zeroOf Tryz.prog 3 = .int .i64 0 ∧
  Tryz.prog.cellsOf 4 = 1 ∧
  Tryz.prog.bytesOf 4 = 1 ∧
  zeroOf Tryz.prog 4 = .bool false ∧
  Tryz.prog.cellsOf 5 = 1 ∧
  Tryz.prog.bytesOf 5 = 1 ∧
  zeroOf Tryz.prog 5 = .int .u8 0 ∧
  Tryz.prog.cellsOf 9 = 1 ∧
  Tryz.prog.bytesOf 9 = 16 ∧
  zeroOf Tryz.prog 9 = .str [] ∧
  Tryz.prog.cellsOf 12 = 1 ∧
  Tryz.prog.bytesOf 12 = 8 ∧
  zeroOf Tryz.prog 12 = .int .u64 0 ∧
  Tryz.prog.cellsOf 22 = 1 ∧
  Tryz.prog.bytesOf 22 = 24 ∧
  zeroOf Tryz.prog 22 = .nils ∧
  Tryz.prog.cellsOf 24 = 1 ∧
  Tryz.prog.bytesOf 24 = 8 ∧
  zeroOf Tryz.prog 24 = .cpx .f32 0 0 ∧
  Tryz.prog.cellsOf 25 = 1 ∧
  Tryz.prog.bytesOf 25 = 24 ∧
  zeroOf Tryz.prog 25 = .nils ∧
  Tryz.prog.cellsOf 28 = 1 ∧
  Tryz.prog.bytesOf 28 = 4 ∧
  zeroOf Tryz.prog 28 = .flt .f32 0 ∧
  Tryz.prog.cellsOf 45 = 1 ∧
  Tryz.prog.bytesOf 45 = 16 ∧
  zeroOf Tryz.prog 45 = .cpx .f64 0 0 ∧
  Tryz.prog.cellsOf 46 = 1 ∧
  Tryz.prog.bytesOf 46 = 8 ∧
  zeroOf Tryz.prog 46 = .flt .f64 0 ∧
  Tryz.prog.cellsOf 52 = 1 ∧
  Tryz.prog.bytesOf 52 = 24 ∧
  zeroOf Tryz.prog 52 = .nils ∧
  Tryz.prog.cellsOf 60 = 1 :=
  ⟨cells2, bytes2, zero2, cells3, bytes3, zero3, cells4, bytes4, zero4, cells5, bytes5, zero5, cells9, bytes9, zero9, cells12, bytes12, zero12, cells22, bytes22, zero22, cells24, bytes24, zero24, cells25, bytes25, zero25, cells28, bytes28, zero28, cells45, bytes45, zero45, cells46, bytes46, zero46, cells52, bytes52, zero52, cells60⟩
theorem tys1 :
  Tryz.prog.bytesOf 60 = 8 ∧
  zeroOf Tryz.prog 60 = .nilp ∧
  Tryz.prog.cellsOf 69 = 1 ∧
  Tryz.prog.bytesOf 69 = 24 ∧
  zeroOf Tryz.prog 69 = .nils ∧
  Tryz.prog.cellsOf 80 = 1 ∧
  Tryz.prog.bytesOf 80 = 4 ∧
  zeroOf Tryz.prog 80 = .int .u32 0 ∧
  Tryz.prog.cellsOf 87 = 1 ∧
  Tryz.prog.bytesOf 87 = 8 ∧
  zeroOf Tryz.prog 87 = .int .u64 0 ∧
  Tryz.prog.cellsOf 88 = 3 ∧
  Tryz.prog.bytesOf 88 = 40 ∧
  zeroOf Tryz.prog 88 = .agg [.nils, .int .i64 0, .int .u64 0] ∧
  Tryz.prog.cellsOf 89 = 3 ∧
  Tryz.prog.bytesOf 89 = 40 ∧
  zeroOf Tryz.prog 89 = .agg [.nils, .int .i64 0, .int .u64 0] ∧
  Tryz.prog.cellsOf 100 = 1 ∧
  Tryz.prog.bytesOf 100 = 24 ∧
  zeroOf Tryz.prog 100 = .nils ∧
  Tryz.prog.cellsOf 103 = 1 ∧
  Tryz.prog.bytesOf 103 = 8 ∧
  zeroOf Tryz.prog 103 = .int .u64 0 ∧
  fieldOf Tryz.prog 88 0 = some ⟨ "code", 22, 0, false, "", "loop.example/g01393/spec", 0⟩ ∧
  fieldOf Tryz.prog 88 1 = some ⟨ "at", 3, 1, false, "", "loop.example/g01393/spec", 24⟩ ∧
  fieldOf Tryz.prog 88 2 = some ⟨ "seed", 87, 2, false, "", "loop.example/g01393/spec", 32⟩ ∧
  fieldOf Tryz.prog 89 0 = some ⟨ "code", 22, 0, false, "", "loop.example/g01393/spec", 0⟩ ∧
  fieldOf Tryz.prog 89 1 = some ⟨ "at", 3, 1, false, "", "loop.example/g01393/spec", 24⟩ ∧
  fieldOf Tryz.prog 89 2 = some ⟨ "seed", 87, 2, false, "", "loop.example/g01393/spec", 32⟩ :=
  ⟨bytes60, zero60, cells69, bytes69, zero69, cells80, bytes80, zero80, cells87, bytes87, zero87, cells88, bytes88, zero88, cells89, bytes89, zero89, cells100, bytes100, zero100, cells103, bytes103, zero103, field88_0, field88_1, field88_2, field89_0, field89_1, field89_2⟩
def und0 := And.intro @Tryz.underlying2 (And.intro @Tryz.underlying3 (And.intro @Tryz.underlying4 (And.intro @Tryz.underlying5 (And.intro @Tryz.underlying9 (And.intro @Tryz.underlying12 (And.intro @Tryz.underlying22 (And.intro @Tryz.underlying24 (And.intro @Tryz.underlying25 (And.intro @Tryz.underlying28 (And.intro @Tryz.underlying45 @Tryz.underlying46))))))))))
def und1 := And.intro @Tryz.underlying52 (And.intro @Tryz.underlying60 (And.intro @Tryz.underlying69 (And.intro @Tryz.underlying80 (And.intro @Tryz.underlying87 (And.intro @Tryz.underlying88 (And.intro @Tryz.underlying89 (And.intro @Tryz.underlying100 @Tryz.underlying103)))))))
theorem go4 : isGo Tryz.prog 4 := by unfold isGo; rw [Tryz.func4]; exact ⟨rfl, by kernel_rfl⟩
theorem go5 : isGo Tryz.prog 5 := by unfold isGo; rw [Tryz.func5]; exact ⟨rfl, by kernel_rfl⟩
theorem go10 : isGo Tryz.prog 10 := by unfold isGo; rw [Tryz.func10]; exact ⟨rfl, by kernel_rfl⟩
theorem go16 : isGo Tryz.prog 16 := by unfold isGo; rw [Tryz.func16]; exact ⟨rfl, by kernel_rfl⟩
theorem go19 : isGo Tryz.prog 19 := by unfold isGo; rw [Tryz.func19]; exact ⟨rfl, by kernel_rfl⟩
theorem go20 : isGo Tryz.prog 20 := by unfold isGo; rw [Tryz.func20]; exact ⟨rfl, by kernel_rfl⟩
theorem go21 : isGo Tryz.prog 21 := by unfold isGo; rw [Tryz.func21]; exact ⟨rfl, by kernel_rfl⟩
theorem go28 : isGo Tryz.prog 28 := by unfold isGo; rw [Tryz.func28]; exact ⟨rfl, by kernel_rfl⟩
theorem go29 : isGo Tryz.prog 29 := by unfold isGo; rw [Tryz.func29]; exact ⟨rfl, by kernel_rfl⟩
theorem go30 : isGo Tryz.prog 30 := by unfold isGo; rw [Tryz.func30]; exact ⟨rfl, by kernel_rfl⟩
theorem go31 : isGo Tryz.prog 31 := by unfold isGo; rw [Tryz.func31]; exact ⟨rfl, by kernel_rfl⟩
theorem go32 : isGo Tryz.prog 32 := by unfold isGo; rw [Tryz.func32]; exact ⟨rfl, by kernel_rfl⟩
theorem go33 : isGo Tryz.prog 33 := by unfold isGo; rw [Tryz.func33]; exact ⟨rfl, by kernel_rfl⟩
theorem go34 : isGo Tryz.prog 34 := by unfold isGo; rw [Tryz.func34]; exact ⟨rfl, by kernel_rfl⟩
theorem go35 : isGo Tryz.prog 35 := by unfold isGo; rw [Tryz.func35]; exact ⟨rfl, by kernel_rfl⟩
theorem go36 : isGo Tryz.prog 36 := by unfold isGo; rw [Tryz.func36]; exact ⟨rfl, by kernel_rfl⟩
theorem go37 : isGo Tryz.prog 37 := by unfold isGo; rw [Tryz.func37]; exact ⟨rfl, by kernel_rfl⟩
theorem go38 : isGo Tryz.prog 38 := by unfold isGo; rw [Tryz.func38]; exact ⟨rfl, by kernel_rfl⟩
theorem go39 : isGo Tryz.prog 39 := by unfold isGo; rw [Tryz.func39]; exact ⟨rfl, by kernel_rfl⟩
theorem go43 : isGo Tryz.prog 43 := by unfold isGo; rw [Tryz.func43]; exact ⟨rfl, by kernel_rfl⟩
theorem go44 : isGo Tryz.prog 44 := by unfold isGo; rw [Tryz.func44]; exact ⟨rfl, by kernel_rfl⟩
theorem go47 : isGo Tryz.prog 47 := by unfold isGo; rw [Tryz.func47]; exact ⟨rfl, by kernel_rfl⟩
theorem go48 : isGo Tryz.prog 48 := by unfold isGo; rw [Tryz.func48]; exact ⟨rfl, by kernel_rfl⟩
theorem go49 : isGo Tryz.prog 49 := by unfold isGo; rw [Tryz.func49]; exact ⟨rfl, by kernel_rfl⟩
theorem go50 : isGo Tryz.prog 50 := by unfold isGo; rw [Tryz.func50]; exact ⟨rfl, by kernel_rfl⟩
theorem go51 : isGo Tryz.prog 51 := by unfold isGo; rw [Tryz.func51]; exact ⟨rfl, by kernel_rfl⟩
theorem go52 : isGo Tryz.prog 52 := by unfold isGo; rw [Tryz.func52]; exact ⟨rfl, by kernel_rfl⟩
theorem go53 : isGo Tryz.prog 53 := by unfold isGo; rw [Tryz.func53]; exact ⟨rfl, by kernel_rfl⟩
theorem go54 : isGo Tryz.prog 54 := by unfold isGo; rw [Tryz.func54]; exact ⟨rfl, by kernel_rfl⟩
theorem go61 : isGo Tryz.prog 61 := by unfold isGo; rw [Tryz.func61]; exact ⟨rfl, by kernel_rfl⟩
theorem go63 : isGo Tryz.prog 63 := by unfold isGo; rw [Tryz.func63]; exact ⟨rfl, by kernel_rfl⟩
theorem go64 : isGo Tryz.prog 64 := by unfold isGo; rw [Tryz.func64]; exact ⟨rfl, by kernel_rfl⟩
theorem go65 : isGo Tryz.prog 65 := by unfold isGo; rw [Tryz.func65]; exact ⟨rfl, by kernel_rfl⟩
theorem go66 : isGo Tryz.prog 66 := by unfold isGo; rw [Tryz.func66]; exact ⟨rfl, by kernel_rfl⟩
theorem go67 : isGo Tryz.prog 67 := by unfold isGo; rw [Tryz.func67]; exact ⟨rfl, by kernel_rfl⟩
theorem go68 : isGo Tryz.prog 68 := by unfold isGo; rw [Tryz.func68]; exact ⟨rfl, by kernel_rfl⟩
theorem go69 : isGo Tryz.prog 69 := by unfold isGo; rw [Tryz.func69]; exact ⟨rfl, by kernel_rfl⟩
theorem go70 : isGo Tryz.prog 70 := by unfold isGo; rw [Tryz.func70]; exact ⟨rfl, by kernel_rfl⟩
theorem go73 : isGo Tryz.prog 73 := by unfold isGo; rw [Tryz.func73]; exact ⟨rfl, by kernel_rfl⟩
theorem go74 : isGo Tryz.prog 74 := by unfold isGo; rw [Tryz.func74]; exact ⟨rfl, by kernel_rfl⟩
theorem go75 : isGo Tryz.prog 75 := by unfold isGo; rw [Tryz.func75]; exact ⟨rfl, by kernel_rfl⟩
theorem go76 : isGo Tryz.prog 76 := by unfold isGo; rw [Tryz.func76]; exact ⟨rfl, by kernel_rfl⟩
theorem go77 : isGo Tryz.prog 77 := by unfold isGo; rw [Tryz.func77]; exact ⟨rfl, by kernel_rfl⟩
theorem go78 : isGo Tryz.prog 78 := by unfold isGo; rw [Tryz.func78]; exact ⟨rfl, by kernel_rfl⟩
theorem go79 : isGo Tryz.prog 79 := by unfold isGo; rw [Tryz.func79]; exact ⟨rfl, by kernel_rfl⟩
theorem go81 : isGo Tryz.prog 81 := by unfold isGo; rw [Tryz.func81]; exact ⟨rfl, by kernel_rfl⟩
theorem go84 : isGo Tryz.prog 84 := by unfold isGo; rw [Tryz.func84]; exact ⟨rfl, by kernel_rfl⟩
theorem go85 : isGo Tryz.prog 85 := by unfold isGo; rw [Tryz.func85]; exact ⟨rfl, by kernel_rfl⟩
theorem go93 : isGo Tryz.prog 93 := by unfold isGo; rw [Tryz.func93]; exact ⟨rfl, by kernel_rfl⟩
theorem go95 : isGo Tryz.prog 95 := by unfold isGo; rw [Tryz.func95]; exact ⟨rfl, by kernel_rfl⟩
theorem go96 : isGo Tryz.prog 96 := by unfold isGo; rw [Tryz.func96]; exact ⟨rfl, by kernel_rfl⟩
theorem go100 : isGo Tryz.prog 100 := by unfold isGo; rw [Tryz.func100]; exact ⟨rfl, by kernel_rfl⟩
theorem go109 : isGo Tryz.prog 109 := by unfold isGo; rw [Tryz.func109]; exact ⟨rfl, by kernel_rfl⟩
theorem go118 : isGo Tryz.prog 118 := by unfold isGo; rw [Tryz.func118]; exact ⟨rfl, by kernel_rfl⟩
theorem go119 : isGo Tryz.prog 119 := by unfold isGo; rw [Tryz.func119]; exact ⟨rfl, by kernel_rfl⟩
theorem go130 : isGo Tryz.prog 130 := by unfold isGo; rw [Tryz.func130]; exact ⟨rfl, by kernel_rfl⟩
def md4 : Nat → List Bool
  | 22 => [false, false, false, false, false, false, false, false, false, false]
  | _ => []
def md5 : Nat → List Bool := fun _ => []
def md10 : Nat → List Bool := fun _ => []
def md16 : Nat → List Bool := fun _ => []
def md19 : Nat → List Bool := fun _ => []
def md20 : Nat → List Bool := fun _ => []
def md21 : Nat → List Bool := fun _ => []
def md28 : Nat → List Bool := fun _ => []
def md29 : Nat → List Bool := fun _ => []
def md30 : Nat → List Bool := fun _ => []
def md31 : Nat → List Bool := fun _ => []
def md32 : Nat → List Bool := fun _ => []
def md33 : Nat → List Bool := fun _ => []
def md34 : Nat → List Bool := fun _ => []
def md35 : Nat → List Bool := fun _ => []
def md36 : Nat → List Bool := fun _ => []
def md37 : Nat → List Bool := fun _ => []
def md38 : Nat → List Bool := fun _ => []
def md39 : Nat → List Bool := fun _ => []
def md43 : Nat → List Bool := fun _ => []
def md44 : Nat → List Bool := fun _ => []
def md47 : Nat → List Bool := fun _ => []
def md48 : Nat → List Bool := fun _ => []
def md49 : Nat → List Bool := fun _ => []
def md50 : Nat → List Bool := fun _ => []
def md51 : Nat → List Bool := fun _ => []
def md52 : Nat → List Bool := fun _ => []
def md53 : Nat → List Bool := fun _ => []
def md54 : Nat → List Bool := fun _ => []
def md61 : Nat → List Bool := fun _ => []
def md63 : Nat → List Bool := fun _ => []
def md64 : Nat → List Bool := fun _ => []
def md65 : Nat → List Bool := fun _ => []
def md66 : Nat → List Bool := fun _ => []
def md67 : Nat → List Bool := fun _ => []
def md68 : Nat → List Bool := fun _ => []
def md69 : Nat → List Bool
  | 2 => [false, false, false, false, false, false, false, false, false, false]
  | 3 => [false, false, false, false, false, false, false, false, false, false, false, false]
  | 6 => [false, false, false, false, false, false, false, false, false, false]
  | _ => []
def md70 : Nat → List Bool := fun _ => []
def md73 : Nat → List Bool := fun _ => []
def md77 : Nat → List Bool := fun _ => []
def md78 : Nat → List Bool := fun _ => []
def md79 : Nat → List Bool := fun _ => []
def md81 : Nat → List Bool := fun _ => []
def md84 : Nat → List Bool := fun _ => []
def md85 : Nat → List Bool := fun _ => []
def md93 : Nat → List Bool := fun _ => []
def md95 : Nat → List Bool := fun _ => []
def md96 : Nat → List Bool := fun _ => []
def md100 : Nat → List Bool := fun _ => []
def md109 : Nat → List Bool := fun _ => []
def md118 : Nat → List Bool := fun _ => []
def md119 : Nat → List Bool := fun _ => []
end Go.Proofs.YtkjabkgmkkcpdaaGreatDoor
