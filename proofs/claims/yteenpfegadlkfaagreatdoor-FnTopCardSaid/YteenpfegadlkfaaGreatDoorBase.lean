/- Closed facts of the program, for the abstract layer: types and functions. Printed by gen_base.py. -/
import Derived.Test.YteenpfegadlkfaaGreatDoorProg
import Derived.Test.YteenpfegadlkfaaGreatDoorAbsM5
set_option linter.unusedVariables false
set_option linter.defProp false
namespace Go.Proofs.YteenpfegadlkfaaGreatDoor
open Go Go.Abs

def zq0 := (And.intro @List.getD_cons_succ.{0} (And.intro @List.getD_cons_zero.{0} (And.intro @List.length_cons.{0} (And.intro @List.length_nil.{0} (And.intro @List.replicate_succ.{0} (And.intro @List.replicate_zero.{0} (And.intro @List.cons_append.{0} (And.intro @List.nil_append.{0} (And.intro @List.append_nil.{0} (And.intro @List.set_cons_succ.{0} (And.intro @List.set_cons_zero.{0} @true_and)))))))))))
def zq1 := (And.intro @and_true (And.intro @List.map_cons.{0,0} (And.intro @List.map_nil.{0,0} (And.intro @Int.toNat_natCast (And.intro @Int.natCast_nonneg (And.intro @exists_prop (And.intro @List.getElem_cons_zero.{0} (And.intro @List.getElem_cons_succ.{0} (And.intro @List.getElem?_cons_zero.{0} (And.intro @List.getElem?_cons_succ.{0} (And.intro @Nat.zero_lt_one @Option.bind_some.{0,0})))))))))))
def zq2 := (And.intro @Option.map_some.{0,0} (And.intro @Option.map_none.{0,0} (And.intro @Bool.not_true (And.intro @Bool.not_false (And.intro @List.all_cons.{0} (And.intro @List.all_nil.{0} (And.intro @Bool.and_true (And.intro @Bool.true_and (And.intro @List.take_zero.{0} (And.intro @List.drop_zero.{0} (And.intro @List.drop_succ_cons.{0} @List.take_succ_cons.{0})))))))))))
def zq3 := (And.intro @Nat.zero_add (And.intro @Nat.add_zero (And.intro @List.getElem?_toArray.{0} (And.intro @ge_iff_le.{0} (And.intro @gt_iff_lt.{0} (And.intro @Nat.le_refl (And.intro @Bool.false_eq_true (And.intro @Bool.not_eq_true (And.intro @Nat.succ_ne_self (And.intro @Option.some.injEq.{0} (And.intro @List.forall_mem_cons.{0} @List.not_mem_nil.{0})))))))))))
def zq4 := @false_implies

def zr0 := (And.intro (And.intro (And.intro (And.intro (And.intro @guardSlot.eq_1 (And.intro @quietA.eq_1 @quietA.eq_2)) (And.intro @quietA.eq_3 (And.intro @quietA.eq_4 @quietA.eq_5))) (And.intro (And.intro @quietA.eq_6 (And.intro @quietA.eq_7 @quietA.eq_8)) (And.intro @quietA.eq_9 (And.intro @quietA.eq_10 @quietA.eq_11)))) (And.intro (And.intro (And.intro @quietA.eq_12 (And.intro @quietA.eq_13 @quietA.eq_14)) (And.intro @quietA.eq_15 (And.intro @quietA.eq_16 @quietA.eq_17))) (And.intro (And.intro @quietA.eq_18 (And.intro @quietA.eq_19 @nilC.eq_1)) (And.intro @nilC.eq_2 (And.intro @nilA.eq_1 @nilA.eq_2))))) (And.intro (And.intro (And.intro (And.intro @nilA.eq_3 (And.intro @quietB.eq_1 @quietB.eq_2)) (And.intro @quietB.eq_3 (And.intro @quietB.eq_4 @quietB.eq_5))) (And.intro (And.intro @quietB.eq_6 (And.intro @quietB.eq_7 @quietB.eq_8)) (And.intro @St.ev.eq_1 (And.intro @St.ev.eq_2 @St.ev.eq_3)))) (And.intro (And.intro (And.intro @St.ev.eq_4 (And.intro @St.put.eq_1 @St.put.eq_2)) (And.intro @St.after.eq_1 (And.intro @St.after.eq_2 @ofV.eq_1))) (And.intro (And.intro @ofV.eq_2 (And.intro @ofL.eq_1 @ofL.eq_2)) (And.intro @ofL.eq_3 (And.intro @ofL.eq_4 @ofL.eq_5))))))
def zr1 := (And.intro (And.intro (And.intro (And.intro (And.intro @ofL.eq_6 (And.intro @ofL.eq_7 @ofL.eq_8)) (And.intro @ofL.eq_9 (And.intro @binA.eq_1 @binA.eq_2))) (And.intro (And.intro @binA.eq_3 (And.intro @binA.eq_4 @binA.eq_5)) (And.intro @binA.eq_6 (And.intro @binA.eq_7 @binA.eq_8)))) (And.intro (And.intro (And.intro @binA.eq_9 (And.intro @intBin.eq_1 @intBin.eq_2)) (And.intro @intBin.eq_3 (And.intro @intBin.eq_4 @intBin.eq_5))) (And.intro (And.intro @intBin.eq_6 (And.intro @intBin.eq_7 @intBin.eq_8)) (And.intro @intBin.eq_9 (And.intro @intBin.eq_10 @intBin.eq_11))))) (And.intro (And.intro (And.intro (And.intro @intBin.eq_12 (And.intro @intBin.eq_13 @intBin.eq_14)) (And.intro @intBin.eq_15 (And.intro @intBin.eq_16 @fltBin.eq_1))) (And.intro (And.intro @fltBin.eq_2 (And.intro @fltBin.eq_3 @fltBin.eq_4)) (And.intro @fltBin.eq_5 (And.intro @fltBin.eq_6 @fltBin.eq_7)))) (And.intro (And.intro (And.intro @fltBin.eq_8 (And.intro @fltBin.eq_9 @fltBin.eq_10)) (And.intro @fltBin.eq_11 (And.intro @strBin.eq_1 @strBin.eq_2))) (And.intro (And.intro @strBin.eq_3 (And.intro @strBin.eq_4 @cpxBin.eq_1)) (And.intro @cpxBin.eq_2 (And.intro @cpxBin.eq_3 @cpxBin.eq_4))))))
def zr2 := (And.intro (And.intro (And.intro (And.intro (And.intro @cpxBin.eq_5 (And.intro @unA.eq_1 @unA.eq_2)) (And.intro @unA.eq_3 (And.intro @unA.eq_4 @unA.eq_5))) (And.intro (And.intro @convB.eq_1 (And.intro @convB.eq_2 @convB.eq_3)) (And.intro @convB.eq_4 (And.intro @convO.eq_1 @convO.eq_2)))) (And.intro (And.intro (And.intro @convO.eq_3 (And.intro @pickV.eq_1 @pickV.eq_2)) (And.intro @resL.eq_1 (And.intro @resL.eq_2 @resL.eq_3))) (And.intro (And.intro @oneA.eq_1 (And.intro @oneA.eq_2 @isQuiet.eq_1)) (And.intro @isQuiet.eq_2 (And.intro @isQuiet.eq_3 @isQuiet.eq_4))))) (And.intro (And.intro (And.intro (And.intro @isQuiet.eq_5 (And.intro @isQuiet.eq_6 @isQuiet.eq_7)) (And.intro @isQuiet.eq_8 (And.intro @isQuiet.eq_9 @isQuiet.eq_10))) (And.intro (And.intro @isQuiet.eq_11 (And.intro @loadA.eq_1 @loadA.eq_2)) (And.intro @loadA.eq_3 (And.intro @loadC.eq_1 @storeA.eq_1)))) (And.intro (And.intro (And.intro @storeA.eq_2 (And.intro @fieldA.eq_1 @partA.eq_1)) (And.intro @partA.eq_2 (And.intro @sliceA.eq_1 @sliceA.eq_2))) (And.intro (And.intro @sliceA.eq_3 (And.intro @sliceA.eq_4 @sliceA.eq_5)) (And.intro @boundA.eq_1 (And.intro @boundA.eq_2 @boundA.eq_3))))))
def zr3 := (And.intro (And.intro (And.intro (And.intro (And.intro @buildA.eq_1 @buildA.eq_2) (And.intro @placeA.eq_1 (And.intro @setAll.eq_1 @setAll.eq_2))) (And.intro (And.intro @appendA.eq_1 (And.intro @readSl.eq_1 @readSl.eq_2)) (And.intro @readSl.eq_3 (And.intro @readSl.eq_4 @readSl.eq_5)))) (And.intro (And.intro (And.intro @newEl.eq_1 (And.intro @AV.cells.eq_1 @AV.cells.eq_2)) (And.intro @AV.solid.eq_1 (And.intro @AV.solid.eq_2 @AV.one.eq_1))) (And.intro (And.intro @AV.one.eq_2 (And.intro @AV.one.eq_3 @AV.one.eq_4)) (And.intro @kill.eq_1 (And.intro @kill.eq_2 @killM.eq_1))))) (And.intro (And.intro (And.intro (And.intro @killM.eq_2 (And.intro @killM.eq_3 @killM.eq_4)) (And.intro @killL.eq_1 (And.intro @killL.eq_2 @killL.eq_3))) (And.intro (And.intro @killL.eq_4 (And.intro @killL.eq_5 @killL.eq_6)) (And.intro @killL.eq_7 (And.intro @killL.eq_8 @notInt.eq_1)))) (And.intro (And.intro (And.intro @putF.eq_1 (And.intro @putF.eq_2 @lookA.eq_1)) (And.intro @lookA.eq_2 (And.intro @lookA.eq_3 @putA.eq_1))) (And.intro (And.intro @putA.eq_2 (And.intro @entryA.eq_1 @entryA.eq_2)) (And.intro @entrySetA.eq_1 (And.intro @entrySetA.eq_2 @mapTy.eq_1))))))

theorem mixed : Tryz.prog.follows .mixedOrders = true := by kernel_rfl
theorem cells2 : Tryz.prog.cellsOf 2 = 1 := by kernel_rfl
theorem bytes2 : Tryz.prog.bytesOf 2 = 8 := by kernel_rfl
theorem zero2 : zeroOf Tryz.prog 2 = .int .i64 0 := by kernel_rfl
theorem cells3 : Tryz.prog.cellsOf 3 = 1 := by kernel_rfl
theorem bytes3 : Tryz.prog.bytesOf 3 = 8 := by kernel_rfl
theorem zero3 : zeroOf Tryz.prog 3 = .int .i64 0 := by kernel_rfl
theorem cells4 : Tryz.prog.cellsOf 4 = 1 := by kernel_rfl
theorem bytes4 : Tryz.prog.bytesOf 4 = 1 := by kernel_rfl
theorem zero4 : zeroOf Tryz.prog 4 = .bool false := by kernel_rfl
theorem cells5 : Tryz.prog.cellsOf 5 = 1 := by kernel_rfl
theorem bytes5 : Tryz.prog.bytesOf 5 = 1 := by kernel_rfl
theorem zero5 : zeroOf Tryz.prog 5 = .int .u8 0 := by kernel_rfl
theorem cells9 : Tryz.prog.cellsOf 9 = 1 := by kernel_rfl
theorem bytes9 : Tryz.prog.bytesOf 9 = 16 := by kernel_rfl
theorem zero9 : zeroOf Tryz.prog 9 = .str [] := by kernel_rfl
theorem cells12 : Tryz.prog.cellsOf 12 = 1 := by kernel_rfl
theorem bytes12 : Tryz.prog.bytesOf 12 = 8 := by kernel_rfl
theorem zero12 : zeroOf Tryz.prog 12 = .int .u64 0 := by kernel_rfl
theorem cells21 : Tryz.prog.cellsOf 21 = 1 := by kernel_rfl
theorem bytes21 : Tryz.prog.bytesOf 21 = 4 := by kernel_rfl
theorem zero21 : zeroOf Tryz.prog 21 = .int .i32 0 := by kernel_rfl
theorem cells22 : Tryz.prog.cellsOf 22 = 1 := by kernel_rfl
theorem bytes22 : Tryz.prog.bytesOf 22 = 24 := by kernel_rfl
theorem zero22 : zeroOf Tryz.prog 22 = .nils := by kernel_rfl
theorem cells24 : Tryz.prog.cellsOf 24 = 1 := by kernel_rfl
theorem bytes24 : Tryz.prog.bytesOf 24 = 24 := by kernel_rfl
theorem zero24 : zeroOf Tryz.prog 24 = .nils := by kernel_rfl
theorem cells25 : Tryz.prog.cellsOf 25 = 2 := by kernel_rfl
theorem bytes25 : Tryz.prog.bytesOf 25 = 48 := by kernel_rfl
theorem zero25 : zeroOf Tryz.prog 25 = .agg [.nils, .nils] := by kernel_rfl
theorem cells26 : Tryz.prog.cellsOf 26 = 2 := by kernel_rfl
theorem bytes26 : Tryz.prog.bytesOf 26 = 48 := by kernel_rfl
theorem zero26 : zeroOf Tryz.prog 26 = .agg [.nils, .nils] := by kernel_rfl
theorem cells27 : Tryz.prog.cellsOf 27 = 1 := by kernel_rfl
theorem bytes27 : Tryz.prog.bytesOf 27 = 24 := by kernel_rfl
theorem zero27 : zeroOf Tryz.prog 27 = .nils := by kernel_rfl
theorem cells28 : Tryz.prog.cellsOf 28 = 5 := by kernel_rfl
theorem bytes28 : Tryz.prog.bytesOf 28 = 120 := by kernel_rfl
theorem zero28 : zeroOf Tryz.prog 28 = .agg [.nils, .nils, .nils, .nils, .nils] := by kernel_rfl
theorem cells29 : Tryz.prog.cellsOf 29 = 5 := by kernel_rfl
theorem bytes29 : Tryz.prog.bytesOf 29 = 120 := by kernel_rfl
theorem zero29 : zeroOf Tryz.prog 29 = .agg [.nils, .nils, .nils, .nils, .nils] := by kernel_rfl
theorem cells61 : Tryz.prog.cellsOf 61 = 1 := by kernel_rfl
theorem bytes61 : Tryz.prog.bytesOf 61 = 24 := by kernel_rfl
theorem zero61 : zeroOf Tryz.prog 61 = .nils := by kernel_rfl
theorem cells62 : Tryz.prog.cellsOf 62 = 1 := by kernel_rfl
theorem bytes62 : Tryz.prog.bytesOf 62 = 4 := by kernel_rfl
theorem zero62 : zeroOf Tryz.prog 62 = .flt .f32 0 := by kernel_rfl
theorem cells69 : Tryz.prog.cellsOf 69 = 1 := by kernel_rfl
theorem bytes69 : Tryz.prog.bytesOf 69 = 8 := by kernel_rfl
theorem zero69 : zeroOf Tryz.prog 69 = .nilp := by kernel_rfl
theorem cells70 : Tryz.prog.cellsOf 70 = 2 := by kernel_rfl
theorem bytes70 : Tryz.prog.bytesOf 70 = 32 := by kernel_rfl
theorem zero70 : zeroOf Tryz.prog 70 = .agg [.nilp, .nils] := by kernel_rfl
theorem cells71 : Tryz.prog.cellsOf 71 = 2 := by kernel_rfl
theorem bytes71 : Tryz.prog.bytesOf 71 = 32 := by kernel_rfl
theorem zero71 : zeroOf Tryz.prog 71 = .agg [.nilp, .nils] := by kernel_rfl
theorem cells91 : Tryz.prog.cellsOf 91 = 1 := by kernel_rfl
theorem bytes91 : Tryz.prog.bytesOf 91 = 8 := by kernel_rfl
theorem zero91 : zeroOf Tryz.prog 91 = .int .u64 0 := by kernel_rfl
theorem cells92 : Tryz.prog.cellsOf 92 = 3 := by kernel_rfl
theorem bytes92 : Tryz.prog.bytesOf 92 = 40 := by kernel_rfl
theorem zero92 : zeroOf Tryz.prog 92 = .agg [.nils, .int .i64 0, .int .u64 0] := by kernel_rfl
theorem cells93 : Tryz.prog.cellsOf 93 = 3 := by kernel_rfl
theorem bytes93 : Tryz.prog.bytesOf 93 = 40 := by kernel_rfl
theorem zero93 : zeroOf Tryz.prog 93 = .agg [.nils, .int .i64 0, .int .u64 0] := by kernel_rfl
theorem cells104 : Tryz.prog.cellsOf 104 = 2 := by kernel_rfl
theorem bytes104 : Tryz.prog.bytesOf 104 = 32 := by kernel_rfl
theorem zero104 : zeroOf Tryz.prog 104 = .agg [.nils, .bool false] := by kernel_rfl
theorem cells105 : Tryz.prog.cellsOf 105 = 2 := by kernel_rfl
theorem bytes105 : Tryz.prog.bytesOf 105 = 32 := by kernel_rfl
theorem zero105 : zeroOf Tryz.prog 105 = .agg [.nils, .bool false] := by kernel_rfl
theorem cells112 : Tryz.prog.cellsOf 112 = 1 := by kernel_rfl
theorem bytes112 : Tryz.prog.bytesOf 112 = 24 := by kernel_rfl
theorem zero112 : zeroOf Tryz.prog 112 = .nils := by kernel_rfl
theorem cells113 : Tryz.prog.cellsOf 113 = 1 := by kernel_rfl
theorem bytes113 : Tryz.prog.bytesOf 113 = 24 := by kernel_rfl
theorem zero113 : zeroOf Tryz.prog 113 = .nils := by kernel_rfl
theorem cells125 : Tryz.prog.cellsOf 125 = 1 := by kernel_rfl
theorem bytes125 : Tryz.prog.bytesOf 125 = 4 := by kernel_rfl
theorem zero125 : zeroOf Tryz.prog 125 = .int .u32 0 := by kernel_rfl
theorem cells127 : Tryz.prog.cellsOf 127 = 1 := by kernel_rfl
theorem bytes127 : Tryz.prog.bytesOf 127 = 8 := by kernel_rfl
theorem zero127 : zeroOf Tryz.prog 127 = .int .u64 0 := by kernel_rfl
theorem cells133 : Tryz.prog.cellsOf 133 = 24 := by kernel_rfl
theorem bytes133 : Tryz.prog.bytesOf 133 = 24 := by kernel_rfl
theorem zero133 : zeroOf Tryz.prog 133 = .agg [.int .u8 0, .int .u8 0, .int .u8 0, .int .u8 0, .int .u8 0, .int .u8 0, .int .u8 0, .int .u8 0, .int .u8 0, .int .u8 0, .int .u8 0, .int .u8 0, .int .u8 0, .int .u8 0, .int .u8 0, .int .u8 0, .int .u8 0, .int .u8 0, .int .u8 0, .int .u8 0, .int .u8 0, .int .u8 0, .int .u8 0, .int .u8 0] := by kernel_rfl
theorem cells139 : Tryz.prog.cellsOf 139 = 1 := by kernel_rfl
theorem bytes139 : Tryz.prog.bytesOf 139 = 8 := by kernel_rfl
theorem zero139 : zeroOf Tryz.prog 139 = .nilp := by kernel_rfl
theorem cells169 : Tryz.prog.cellsOf 169 = 20 := by kernel_rfl
theorem bytes169 : Tryz.prog.bytesOf 169 = 160 := by kernel_rfl
theorem zero169 : zeroOf Tryz.prog 169 = .agg [.int .u64 0, .int .u64 0, .int .u64 0, .int .u64 0, .int .u64 0, .int .u64 0, .int .u64 0, .int .u64 0, .int .u64 0, .int .u64 0, .int .u64 0, .int .u64 0, .int .u64 0, .int .u64 0, .int .u64 0, .int .u64 0, .int .u64 0, .int .u64 0, .int .u64 0, .int .u64 0] := by kernel_rfl
theorem cells170 : Tryz.prog.cellsOf 170 = 65 := by kernel_rfl
theorem bytes170 : Tryz.prog.bytesOf 170 = 65 := by kernel_rfl
theorem zero170 : zeroOf Tryz.prog 170 = .agg [.int .u8 0, .int .u8 0, .int .u8 0, .int .u8 0, .int .u8 0, .int .u8 0, .int .u8 0, .int .u8 0, .int .u8 0, .int .u8 0, .int .u8 0, .int .u8 0, .int .u8 0, .int .u8 0, .int .u8 0, .int .u8 0, .int .u8 0, .int .u8 0, .int .u8 0, .int .u8 0, .int .u8 0, .int .u8 0, .int .u8 0, .int .u8 0, .int .u8 0, .int .u8 0, .int .u8 0, .int .u8 0, .int .u8 0, .int .u8 0, .int .u8 0, .int .u8 0, .int .u8 0, .int .u8 0, .int .u8 0, .int .u8 0, .int .u8 0, .int .u8 0, .int .u8 0, .int .u8 0, .int .u8 0, .int .u8 0, .int .u8 0, .int .u8 0, .int .u8 0, .int .u8 0, .int .u8 0, .int .u8 0, .int .u8 0, .int .u8 0, .int .u8 0, .int .u8 0, .int .u8 0, .int .u8 0, .int .u8 0, .int .u8 0, .int .u8 0, .int .u8 0, .int .u8 0, .int .u8 0, .int .u8 0, .int .u8 0, .int .u8 0, .int .u8 0, .int .u8 0] := by kernel_rfl
theorem cells208 : Tryz.prog.cellsOf 208 = 1 := by kernel_rfl
theorem bytes208 : Tryz.prog.bytesOf 208 = 8 := by kernel_rfl
theorem zero208 : zeroOf Tryz.prog 208 = .flt .f64 0 := by kernel_rfl
theorem cells210 : Tryz.prog.cellsOf 210 = 1 := by kernel_rfl
theorem bytes210 : Tryz.prog.bytesOf 210 = 8 := by kernel_rfl
theorem zero210 : zeroOf Tryz.prog 210 = .int .i64 0 := by kernel_rfl
theorem cells217 : Tryz.prog.cellsOf 217 = 256 := by kernel_rfl
theorem bytes217 : Tryz.prog.bytesOf 217 = 256 := by kernel_rfl
theorem zero217 : zeroOf Tryz.prog 217 = .agg [.int .u8 0, .int .u8 0, .int .u8 0, .int .u8 0, .int .u8 0, .int .u8 0, .int .u8 0, .int .u8 0, .int .u8 0, .int .u8 0, .int .u8 0, .int .u8 0, .int .u8 0, .int .u8 0, .int .u8 0, .int .u8 0, .int .u8 0, .int .u8 0, .int .u8 0, .int .u8 0, .int .u8 0, .int .u8 0, .int .u8 0, .int .u8 0, .int .u8 0, .int .u8 0, .int .u8 0, .int .u8 0, .int .u8 0, .int .u8 0, .int .u8 0, .int .u8 0, .int .u8 0, .int .u8 0, .int .u8 0, .int .u8 0, .int .u8 0, .int .u8 0, .int .u8 0, .int .u8 0, .int .u8 0, .int .u8 0, .int .u8 0, .int .u8 0, .int .u8 0, .int .u8 0, .int .u8 0, .int .u8 0, .int .u8 0, .int .u8 0, .int .u8 0, .int .u8 0, .int .u8 0, .int .u8 0, .int .u8 0, .int .u8 0, .int .u8 0, .int .u8 0, .int .u8 0, .int .u8 0, .int .u8 0, .int .u8 0, .int .u8 0, .int .u8 0, .int .u8 0, .int .u8 0, .int .u8 0, .int .u8 0, .int .u8 0, .int .u8 0, .int .u8 0, .int .u8 0, .int .u8 0, .int .u8 0, .int .u8 0, .int .u8 0, .int .u8 0, .int .u8 0, .int .u8 0, .int .u8 0, .int .u8 0, .int .u8 0, .int .u8 0, .int .u8 0, .int .u8 0, .int .u8 0, .int .u8 0, .int .u8 0, .int .u8 0, .int .u8 0, .int .u8 0, .int .u8 0, .int .u8 0, .int .u8 0, .int .u8 0, .int .u8 0, .int .u8 0, .int .u8 0, .int .u8 0, .int .u8 0, .int .u8 0, .int .u8 0, .int .u8 0, .int .u8 0, .int .u8 0, .int .u8 0, .int .u8 0, .int .u8 0, .int .u8 0, .int .u8 0, .int .u8 0, .int .u8 0, .int .u8 0, .int .u8 0, .int .u8 0, .int .u8 0, .int .u8 0, .int .u8 0, .int .u8 0, .int .u8 0, .int .u8 0, .int .u8 0, .int .u8 0, .int .u8 0, .int .u8 0, .int .u8 0, .int .u8 0, .int .u8 0, .int .u8 0, .int .u8 0, .int .u8 0, .int .u8 0, .int .u8 0, .int .u8 0, .int .u8 0, .int .u8 0, .int .u8 0, .int .u8 0, .int .u8 0, .int .u8 0, .int .u8 0, .int .u8 0, .int .u8 0, .int .u8 0, .int .u8 0, .int .u8 0, .int .u8 0, .int .u8 0, .int .u8 0, .int .u8 0, .int .u8 0, .int .u8 0, .int .u8 0, .int .u8 0, .int .u8 0, .int .u8 0, .int .u8 0, .int .u8 0, .int .u8 0, .int .u8 0, .int .u8 0, .int .u8 0, .int .u8 0, .int .u8 0, .int .u8 0, .int .u8 0, .int .u8 0, .int .u8 0, .int .u8 0, .int .u8 0, .int .u8 0, .int .u8 0, .int .u8 0, .int .u8 0, .int .u8 0, .int .u8 0, .int .u8 0, .int .u8 0, .int .u8 0, .int .u8 0, .int .u8 0, .int .u8 0, .int .u8 0, .int .u8 0, .int .u8 0, .int .u8 0, .int .u8 0, .int .u8 0, .int .u8 0, .int .u8 0, .int .u8 0, .int .u8 0, .int .u8 0, .int .u8 0, .int .u8 0, .int .u8 0, .int .u8 0, .int .u8 0, .int .u8 0, .int .u8 0, .int .u8 0, .int .u8 0, .int .u8 0, .int .u8 0, .int .u8 0, .int .u8 0, .int .u8 0, .int .u8 0, .int .u8 0, .int .u8 0, .int .u8 0, .int .u8 0, .int .u8 0, .int .u8 0, .int .u8 0, .int .u8 0, .int .u8 0, .int .u8 0, .int .u8 0, .int .u8 0, .int .u8 0, .int .u8 0, .int .u8 0, .int .u8 0, .int .u8 0, .int .u8 0, .int .u8 0, .int .u8 0, .int .u8 0, .int .u8 0, .int .u8 0, .int .u8 0, .int .u8 0, .int .u8 0, .int .u8 0, .int .u8 0, .int .u8 0, .int .u8 0, .int .u8 0, .int .u8 0, .int .u8 0, .int .u8 0, .int .u8 0, .int .u8 0, .int .u8 0, .int .u8 0, .int .u8 0, .int .u8 0, .int .u8 0, .int .u8 0, .int .u8 0, .int .u8 0, .int .u8 0, .int .u8 0, .int .u8 0, .int .u8 0] := by kernel_rfl
theorem cells218 : Tryz.prog.cellsOf 218 = 2 := by kernel_rfl
theorem bytes218 : Tryz.prog.bytesOf 218 = 2 := by kernel_rfl
theorem zero218 : zeroOf Tryz.prog 218 = .agg [.int .u8 0, .int .u8 0] := by kernel_rfl
theorem cells219 : Tryz.prog.cellsOf 219 = 2 := by kernel_rfl
theorem bytes219 : Tryz.prog.bytesOf 219 = 2 := by kernel_rfl
theorem zero219 : zeroOf Tryz.prog 219 = .agg [.int .u8 0, .int .u8 0] := by kernel_rfl
theorem cells229 : Tryz.prog.cellsOf 229 = 1 := by kernel_rfl
theorem bytes229 : Tryz.prog.bytesOf 229 = 8 := by kernel_rfl
theorem zero229 : zeroOf Tryz.prog 229 = .int .u64 0 := by kernel_rfl
theorem cells244 : Tryz.prog.cellsOf 244 = 1 := by kernel_rfl
theorem bytes244 : Tryz.prog.bytesOf 244 = 16 := by kernel_rfl
theorem zero244 : zeroOf Tryz.prog 244 = .agg [.str []] := by kernel_rfl
theorem cells245 : Tryz.prog.cellsOf 245 = 1 := by kernel_rfl
theorem bytes245 : Tryz.prog.bytesOf 245 = 16 := by kernel_rfl
theorem zero245 : zeroOf Tryz.prog 245 = .agg [.str []] := by kernel_rfl
theorem cells256 : Tryz.prog.cellsOf 256 = 1 := by kernel_rfl
theorem bytes256 : Tryz.prog.bytesOf 256 = 4 := by kernel_rfl
theorem zero256 : zeroOf Tryz.prog 256 = .int .i32 0 := by kernel_rfl
theorem field25_0 : fieldOf Tryz.prog 25 0 = some ⟨ "Breaks", 24, 0, false, "", "", 0⟩ := by kernel_rfl
theorem field25_1 : fieldOf Tryz.prog 25 1 = some ⟨ "Rates", 24, 1, false, "", "", 24⟩ := by kernel_rfl
theorem field26_0 : fieldOf Tryz.prog 26 0 = some ⟨ "Breaks", 24, 0, false, "", "", 0⟩ := by kernel_rfl
theorem field26_1 : fieldOf Tryz.prog 26 1 = some ⟨ "Rates", 24, 1, false, "", "", 24⟩ := by kernel_rfl
theorem field28_0 : fieldOf Tryz.prog 28 0 = some ⟨ "Scale", 26, 0, false, "", "", 0⟩ := by kernel_rfl
theorem field28_1 : fieldOf Tryz.prog 28 1 = some ⟨ "Pays", 24, 2, false, "", "", 48⟩ := by kernel_rfl
theorem field28_2 : fieldOf Tryz.prog 28 2 = some ⟨ "Rates", 24, 3, false, "", "", 72⟩ := by kernel_rfl
theorem field28_3 : fieldOf Tryz.prog 28 3 = some ⟨ "Table", 27, 4, false, "", "", 96⟩ := by kernel_rfl
theorem field29_0 : fieldOf Tryz.prog 29 0 = some ⟨ "Scale", 26, 0, false, "", "", 0⟩ := by kernel_rfl
theorem field29_1 : fieldOf Tryz.prog 29 1 = some ⟨ "Pays", 24, 2, false, "", "", 48⟩ := by kernel_rfl
theorem field29_2 : fieldOf Tryz.prog 29 2 = some ⟨ "Rates", 24, 3, false, "", "", 72⟩ := by kernel_rfl
theorem field29_3 : fieldOf Tryz.prog 29 3 = some ⟨ "Table", 27, 4, false, "", "", 96⟩ := by kernel_rfl
theorem field70_0 : fieldOf Tryz.prog 70 0 = some ⟨ "addr", 69, 0, false, "", "strings", 0⟩ := by kernel_rfl
theorem field70_1 : fieldOf Tryz.prog 70 1 = some ⟨ "buf", 22, 1, false, "", "strings", 8⟩ := by kernel_rfl
theorem field71_0 : fieldOf Tryz.prog 71 0 = some ⟨ "addr", 69, 0, false, "", "strings", 0⟩ := by kernel_rfl
theorem field71_1 : fieldOf Tryz.prog 71 1 = some ⟨ "buf", 22, 1, false, "", "strings", 8⟩ := by kernel_rfl
theorem field92_0 : fieldOf Tryz.prog 92 0 = some ⟨ "code", 22, 0, false, "", "loop.example/g01393/spec", 0⟩ := by kernel_rfl
theorem field92_1 : fieldOf Tryz.prog 92 1 = some ⟨ "at", 3, 1, false, "", "loop.example/g01393/spec", 24⟩ := by kernel_rfl
theorem field92_2 : fieldOf Tryz.prog 92 2 = some ⟨ "seed", 91, 2, false, "", "loop.example/g01393/spec", 32⟩ := by kernel_rfl
theorem field93_0 : fieldOf Tryz.prog 93 0 = some ⟨ "code", 22, 0, false, "", "loop.example/g01393/spec", 0⟩ := by kernel_rfl
theorem field93_1 : fieldOf Tryz.prog 93 1 = some ⟨ "at", 3, 1, false, "", "loop.example/g01393/spec", 24⟩ := by kernel_rfl
theorem field93_2 : fieldOf Tryz.prog 93 2 = some ⟨ "seed", 91, 2, false, "", "loop.example/g01393/spec", 32⟩ := by kernel_rfl
theorem field104_0 : fieldOf Tryz.prog 104 0 = some ⟨ "words", 61, 0, false, "", "loop.example/g01393/impl", 0⟩ := by kernel_rfl
theorem field104_1 : fieldOf Tryz.prog 104 1 = some ⟨ "bad", 4, 1, false, "", "loop.example/g01393/impl", 24⟩ := by kernel_rfl
theorem field105_0 : fieldOf Tryz.prog 105 0 = some ⟨ "words", 61, 0, false, "", "loop.example/g01393/impl", 0⟩ := by kernel_rfl
theorem field105_1 : fieldOf Tryz.prog 105 1 = some ⟨ "bad", 4, 1, false, "", "loop.example/g01393/impl", 24⟩ := by kernel_rfl
theorem field218_0 : fieldOf Tryz.prog 218 0 = some ⟨ "lo", 5, 0, false, "", "unicode/utf8", 0⟩ := by kernel_rfl
theorem field218_1 : fieldOf Tryz.prog 218 1 = some ⟨ "hi", 5, 1, false, "", "unicode/utf8", 1⟩ := by kernel_rfl
theorem field219_0 : fieldOf Tryz.prog 219 0 = some ⟨ "lo", 5, 0, false, "", "unicode/utf8", 0⟩ := by kernel_rfl
theorem field219_1 : fieldOf Tryz.prog 219 1 = some ⟨ "hi", 5, 1, false, "", "unicode/utf8", 1⟩ := by kernel_rfl
theorem field244_0 : fieldOf Tryz.prog 244 0 = some ⟨ "s", 9, 0, false, "", "errors", 0⟩ := by kernel_rfl
theorem field245_0 : fieldOf Tryz.prog 245 0 = some ⟨ "s", 9, 0, false, "", "errors", 0⟩ := by kernel_rfl

theorem tys0 :
  Tryz.prog.cellsOf 2 = 1 ∧
  Tryz.prog.bytesOf 2 = 8 ∧
  zeroOf Tryz.prog 2 = .int .i64 0 ∧
  Tryz.prog.cellsOf 3 = 1 ∧
  Tryz.prog.bytesOf 3 = 8 ∧
  zeroOf Tryz.prog 3 = .int .i64 0 ∧
  Tryz.prog.cellsOf 4 = 1 ∧
  Tryz.prog.bytesOf 4 = 1 ∧
  zeroOf Tryz.prog 4 = .bool false ∧
  Tryz.prog.cellsOf 5 = 1 ∧
  Tryz.prog.bytesOf 5 = 1 ∧
  zeroOf Tryz.prog 5 = .int .u8 0 ∧
  Tryz.prog.cellsOf 9 = 1 ∧
  Tryz.prog.bytesOf 9 = 16 ∧
  zeroOf Tryz.prog 9 = .str [] ∧
  Tryz.prog.cellsOf 12 = 1 ∧
  Tryz.prog.bytesOf 12 = 8 ∧
  zeroOf Tryz.prog 12 = .int .u64 0 ∧
  Tryz.prog.cellsOf 21 = 1 ∧
  Tryz.prog.bytesOf 21 = 4 ∧
  zeroOf Tryz.prog 21 = .int .i32 0 ∧
  Tryz.prog.cellsOf 22 = 1 ∧
  Tryz.prog.bytesOf 22 = 24 ∧
  zeroOf Tryz.prog 22 = .nils ∧
  Tryz.prog.cellsOf 24 = 1 ∧
  Tryz.prog.bytesOf 24 = 24 ∧
  zeroOf Tryz.prog 24 = .nils ∧
  Tryz.prog.cellsOf 25 = 2 ∧
  Tryz.prog.bytesOf 25 = 48 ∧
  zeroOf Tryz.prog 25 = .agg [.nils, .nils] ∧
  Tryz.prog.cellsOf 26 = 2 ∧
  Tryz.prog.bytesOf 26 = 48 ∧
  zeroOf Tryz.prog 26 = .agg [.nils, .nils] ∧
  Tryz.prog.cellsOf 27 = 1 ∧
  Tryz.prog.bytesOf 27 = 24 ∧
  zeroOf Tryz.prog 27 = .nils ∧
  Tryz.prog.cellsOf 28 = 5 ∧
  Tryz.prog.bytesOf 28 = 120 ∧
  zeroOf Tryz.prog 28 = .agg [.nils, .nils, .nils, .nils, .nils] ∧
  Tryz.prog.cellsOf 29 = 5 :=
  ⟨cells2, bytes2, zero2, cells3, bytes3, zero3, cells4, bytes4, zero4, cells5, bytes5, zero5, cells9, bytes9, zero9, cells12, bytes12, zero12, cells21, bytes21, zero21, cells22, bytes22, zero22, cells24, bytes24, zero24, cells25, bytes25, zero25, cells26, bytes26, zero26, cells27, bytes27, zero27, cells28, bytes28, zero28, cells29⟩
theorem tys1 :
  Tryz.prog.bytesOf 29 = 120 ∧
  zeroOf Tryz.prog 29 = .agg [.nils, .nils, .nils, .nils, .nils] ∧
  Tryz.prog.cellsOf 61 = 1 ∧
  Tryz.prog.bytesOf 61 = 24 ∧
  zeroOf Tryz.prog 61 = .nils ∧
  Tryz.prog.cellsOf 62 = 1 ∧
  Tryz.prog.bytesOf 62 = 4 ∧
  zeroOf Tryz.prog 62 = .flt .f32 0 ∧
  Tryz.prog.cellsOf 69 = 1 ∧
  Tryz.prog.bytesOf 69 = 8 ∧
  zeroOf Tryz.prog 69 = .nilp ∧
  Tryz.prog.cellsOf 70 = 2 ∧
  Tryz.prog.bytesOf 70 = 32 ∧
  zeroOf Tryz.prog 70 = .agg [.nilp, .nils] ∧
  Tryz.prog.cellsOf 71 = 2 ∧
  Tryz.prog.bytesOf 71 = 32 ∧
  zeroOf Tryz.prog 71 = .agg [.nilp, .nils] ∧
  Tryz.prog.cellsOf 91 = 1 ∧
  Tryz.prog.bytesOf 91 = 8 ∧
  zeroOf Tryz.prog 91 = .int .u64 0 ∧
  Tryz.prog.cellsOf 92 = 3 ∧
  Tryz.prog.bytesOf 92 = 40 ∧
  zeroOf Tryz.prog 92 = .agg [.nils, .int .i64 0, .int .u64 0] ∧
  Tryz.prog.cellsOf 93 = 3 ∧
  Tryz.prog.bytesOf 93 = 40 ∧
  zeroOf Tryz.prog 93 = .agg [.nils, .int .i64 0, .int .u64 0] ∧
  Tryz.prog.cellsOf 104 = 2 ∧
  Tryz.prog.bytesOf 104 = 32 ∧
  zeroOf Tryz.prog 104 = .agg [.nils, .bool false] ∧
  Tryz.prog.cellsOf 105 = 2 ∧
  Tryz.prog.bytesOf 105 = 32 ∧
  zeroOf Tryz.prog 105 = .agg [.nils, .bool false] ∧
  Tryz.prog.cellsOf 112 = 1 ∧
  Tryz.prog.bytesOf 112 = 24 ∧
  zeroOf Tryz.prog 112 = .nils ∧
  Tryz.prog.cellsOf 113 = 1 ∧
  Tryz.prog.bytesOf 113 = 24 ∧
  zeroOf Tryz.prog 113 = .nils ∧
  Tryz.prog.cellsOf 125 = 1 ∧
  Tryz.prog.bytesOf 125 = 4 :=
  ⟨bytes29, zero29, cells61, bytes61, zero61, cells62, bytes62, zero62, cells69, bytes69, zero69, cells70, bytes70, zero70, cells71, bytes71, zero71, cells91, bytes91, zero91, cells92, bytes92, zero92, cells93, bytes93, zero93, cells104, bytes104, zero104, cells105, bytes105, zero105, cells112, bytes112, zero112, cells113, bytes113, zero113, cells125, bytes125⟩
theorem tys2 :
  zeroOf Tryz.prog 125 = .int .u32 0 ∧
  Tryz.prog.cellsOf 127 = 1 ∧
  Tryz.prog.bytesOf 127 = 8 ∧
  zeroOf Tryz.prog 127 = .int .u64 0 ∧
  Tryz.prog.cellsOf 133 = 24 ∧
  Tryz.prog.bytesOf 133 = 24 ∧
  zeroOf Tryz.prog 133 = .agg [.int .u8 0, .int .u8 0, .int .u8 0, .int .u8 0, .int .u8 0, .int .u8 0, .int .u8 0, .int .u8 0, .int .u8 0, .int .u8 0, .int .u8 0, .int .u8 0, .int .u8 0, .int .u8 0, .int .u8 0, .int .u8 0, .int .u8 0, .int .u8 0, .int .u8 0, .int .u8 0, .int .u8 0, .int .u8 0, .int .u8 0, .int .u8 0] ∧
  Tryz.prog.cellsOf 139 = 1 ∧
  Tryz.prog.bytesOf 139 = 8 ∧
  zeroOf Tryz.prog 139 = .nilp ∧
  Tryz.prog.cellsOf 169 = 20 ∧
  Tryz.prog.bytesOf 169 = 160 ∧
  zeroOf Tryz.prog 169 = .agg [.int .u64 0, .int .u64 0, .int .u64 0, .int .u64 0, .int .u64 0, .int .u64 0, .int .u64 0, .int .u64 0, .int .u64 0, .int .u64 0, .int .u64 0, .int .u64 0, .int .u64 0, .int .u64 0, .int .u64 0, .int .u64 0, .int .u64 0, .int .u64 0, .int .u64 0, .int .u64 0] ∧
  Tryz.prog.cellsOf 170 = 65 ∧
  Tryz.prog.bytesOf 170 = 65 ∧
  zeroOf Tryz.prog 170 = .agg [.int .u8 0, .int .u8 0, .int .u8 0, .int .u8 0, .int .u8 0, .int .u8 0, .int .u8 0, .int .u8 0, .int .u8 0, .int .u8 0, .int .u8 0, .int .u8 0, .int .u8 0, .int .u8 0, .int .u8 0, .int .u8 0, .int .u8 0, .int .u8 0, .int .u8 0, .int .u8 0, .int .u8 0, .int .u8 0, .int .u8 0, .int .u8 0, .int .u8 0, .int .u8 0, .int .u8 0, .int .u8 0, .int .u8 0, .int .u8 0, .int .u8 0, .int .u8 0, .int .u8 0, .int .u8 0, .int .u8 0, .int .u8 0, .int .u8 0, .int .u8 0, .int .u8 0, .int .u8 0, .int .u8 0, .int .u8 0, .int .u8 0, .int .u8 0, .int .u8 0, .int .u8 0, .int .u8 0, .int .u8 0, .int .u8 0, .int .u8 0, .int .u8 0, .int .u8 0, .int .u8 0, .int .u8 0, .int .u8 0, .int .u8 0, .int .u8 0, .int .u8 0, .int .u8 0, .int .u8 0, .int .u8 0, .int .u8 0, .int .u8 0, .int .u8 0, .int .u8 0] ∧
  Tryz.prog.cellsOf 208 = 1 ∧
  Tryz.prog.bytesOf 208 = 8 ∧
  zeroOf Tryz.prog 208 = .flt .f64 0 ∧
  Tryz.prog.cellsOf 210 = 1 ∧
  Tryz.prog.bytesOf 210 = 8 ∧
  zeroOf Tryz.prog 210 = .int .i64 0 ∧
  Tryz.prog.cellsOf 217 = 256 ∧
  Tryz.prog.bytesOf 217 = 256 ∧
  zeroOf Tryz.prog 217 = .agg [.int .u8 0, .int .u8 0, .int .u8 0, .int .u8 0, .int .u8 0, .int .u8 0, .int .u8 0, .int .u8 0, .int .u8 0, .int .u8 0, .int .u8 0, .int .u8 0, .int .u8 0, .int .u8 0, .int .u8 0, .int .u8 0, .int .u8 0, .int .u8 0, .int .u8 0, .int .u8 0, .int .u8 0, .int .u8 0, .int .u8 0, .int .u8 0, .int .u8 0, .int .u8 0, .int .u8 0, .int .u8 0, .int .u8 0, .int .u8 0, .int .u8 0, .int .u8 0, .int .u8 0, .int .u8 0, .int .u8 0, .int .u8 0, .int .u8 0, .int .u8 0, .int .u8 0, .int .u8 0, .int .u8 0, .int .u8 0, .int .u8 0, .int .u8 0, .int .u8 0, .int .u8 0, .int .u8 0, .int .u8 0, .int .u8 0, .int .u8 0, .int .u8 0, .int .u8 0, .int .u8 0, .int .u8 0, .int .u8 0, .int .u8 0, .int .u8 0, .int .u8 0, .int .u8 0, .int .u8 0, .int .u8 0, .int .u8 0, .int .u8 0, .int .u8 0, .int .u8 0, .int .u8 0, .int .u8 0, .int .u8 0, .int .u8 0, .int .u8 0, .int .u8 0, .int .u8 0, .int .u8 0, .int .u8 0, .int .u8 0, .int .u8 0, .int .u8 0, .int .u8 0, .int .u8 0, .int .u8 0, .int .u8 0, .int .u8 0, .int .u8 0, .int .u8 0, .int .u8 0, .int .u8 0, .int .u8 0, .int .u8 0, .int .u8 0, .int .u8 0, .int .u8 0, .int .u8 0, .int .u8 0, .int .u8 0, .int .u8 0, .int .u8 0, .int .u8 0, .int .u8 0, .int .u8 0, .int .u8 0, .int .u8 0, .int .u8 0, .int .u8 0, .int .u8 0, .int .u8 0, .int .u8 0, .int .u8 0, .int .u8 0, .int .u8 0, .int .u8 0, .int .u8 0, .int .u8 0, .int .u8 0, .int .u8 0, .int .u8 0, .int .u8 0, .int .u8 0, .int .u8 0, .int .u8 0, .int .u8 0, .int .u8 0, .int .u8 0, .int .u8 0, .int .u8 0, .int .u8 0, .int .u8 0, .int .u8 0, .int .u8 0, .int .u8 0, .int .u8 0, .int .u8 0, .int .u8 0, .int .u8 0, .int .u8 0, .int .u8 0, .int .u8 0, .int .u8 0, .int .u8 0, .int .u8 0, .int .u8 0, .int .u8 0, .int .u8 0, .int .u8 0, .int .u8 0, .int .u8 0, .int .u8 0, .int .u8 0, .int .u8 0, .int .u8 0, .int .u8 0, .int .u8 0, .int .u8 0, .int .u8 0, .int .u8 0, .int .u8 0, .int .u8 0, .int .u8 0, .int .u8 0, .int .u8 0, .int .u8 0, .int .u8 0, .int .u8 0, .int .u8 0, .int .u8 0, .int .u8 0, .int .u8 0, .int .u8 0, .int .u8 0, .int .u8 0, .int .u8 0, .int .u8 0, .int .u8 0, .int .u8 0, .int .u8 0, .int .u8 0, .int .u8 0, .int .u8 0, .int .u8 0, .int .u8 0, .int .u8 0, .int .u8 0, .int .u8 0, .int .u8 0, .int .u8 0, .int .u8 0, .int .u8 0, .int .u8 0, .int .u8 0, .int .u8 0, .int .u8 0, .int .u8 0, .int .u8 0, .int .u8 0, .int .u8 0, .int .u8 0, .int .u8 0, .int .u8 0, .int .u8 0, .int .u8 0, .int .u8 0, .int .u8 0, .int .u8 0, .int .u8 0, .int .u8 0, .int .u8 0, .int .u8 0, .int .u8 0, .int .u8 0, .int .u8 0, .int .u8 0, .int .u8 0, .int .u8 0, .int .u8 0, .int .u8 0, .int .u8 0, .int .u8 0, .int .u8 0, .int .u8 0, .int .u8 0, .int .u8 0, .int .u8 0, .int .u8 0, .int .u8 0, .int .u8 0, .int .u8 0, .int .u8 0, .int .u8 0, .int .u8 0, .int .u8 0, .int .u8 0, .int .u8 0, .int .u8 0, .int .u8 0, .int .u8 0, .int .u8 0, .int .u8 0, .int .u8 0, .int .u8 0, .int .u8 0, .int .u8 0, .int .u8 0, .int .u8 0, .int .u8 0, .int .u8 0, .int .u8 0, .int .u8 0, .int .u8 0, .int .u8 0, .int .u8 0, .int .u8 0, .int .u8 0, .int .u8 0, .int .u8 0, .int .u8 0, .int .u8 0, .int .u8 0] ∧
  Tryz.prog.cellsOf 218 = 2 ∧
  Tryz.prog.bytesOf 218 = 2 ∧
  zeroOf Tryz.prog 218 = .agg [.int .u8 0, .int .u8 0] ∧
  Tryz.prog.cellsOf 219 = 2 ∧
  Tryz.prog.bytesOf 219 = 2 ∧
  zeroOf Tryz.prog 219 = .agg [.int .u8 0, .int .u8 0] ∧
  Tryz.prog.cellsOf 229 = 1 ∧
  Tryz.prog.bytesOf 229 = 8 ∧
  zeroOf Tryz.prog 229 = .int .u64 0 ∧
  Tryz.prog.cellsOf 244 = 1 ∧
  Tryz.prog.bytesOf 244 = 16 ∧
  zeroOf Tryz.prog 244 = .agg [.str []] ∧
  Tryz.prog.cellsOf 245 = 1 ∧
  Tryz.prog.bytesOf 245 = 16 ∧
  zeroOf Tryz.prog 245 = .agg [.str []] :=
  ⟨zero125, cells127, bytes127, zero127, cells133, bytes133, zero133, cells139, bytes139, zero139, cells169, bytes169, zero169, cells170, bytes170, zero170, cells208, bytes208, zero208, cells210, bytes210, zero210, cells217, bytes217, zero217, cells218, bytes218, zero218, cells219, bytes219, zero219, cells229, bytes229, zero229, cells244, bytes244, zero244, cells245, bytes245, zero245⟩
theorem tys3 :
  Tryz.prog.cellsOf 256 = 1 ∧
  Tryz.prog.bytesOf 256 = 4 ∧
  zeroOf Tryz.prog 256 = .int .i32 0 ∧
  fieldOf Tryz.prog 25 0 = some ⟨ "Breaks", 24, 0, false, "", "", 0⟩ ∧
  fieldOf Tryz.prog 25 1 = some ⟨ "Rates", 24, 1, false, "", "", 24⟩ ∧
  fieldOf Tryz.prog 26 0 = some ⟨ "Breaks", 24, 0, false, "", "", 0⟩ ∧
  fieldOf Tryz.prog 26 1 = some ⟨ "Rates", 24, 1, false, "", "", 24⟩ ∧
  fieldOf Tryz.prog 28 0 = some ⟨ "Scale", 26, 0, false, "", "", 0⟩ ∧
  fieldOf Tryz.prog 28 1 = some ⟨ "Pays", 24, 2, false, "", "", 48⟩ ∧
  fieldOf Tryz.prog 28 2 = some ⟨ "Rates", 24, 3, false, "", "", 72⟩ ∧
  fieldOf Tryz.prog 28 3 = some ⟨ "Table", 27, 4, false, "", "", 96⟩ ∧
  fieldOf Tryz.prog 29 0 = some ⟨ "Scale", 26, 0, false, "", "", 0⟩ ∧
  fieldOf Tryz.prog 29 1 = some ⟨ "Pays", 24, 2, false, "", "", 48⟩ ∧
  fieldOf Tryz.prog 29 2 = some ⟨ "Rates", 24, 3, false, "", "", 72⟩ ∧
  fieldOf Tryz.prog 29 3 = some ⟨ "Table", 27, 4, false, "", "", 96⟩ ∧
  fieldOf Tryz.prog 70 0 = some ⟨ "addr", 69, 0, false, "", "strings", 0⟩ ∧
  fieldOf Tryz.prog 70 1 = some ⟨ "buf", 22, 1, false, "", "strings", 8⟩ ∧
  fieldOf Tryz.prog 71 0 = some ⟨ "addr", 69, 0, false, "", "strings", 0⟩ ∧
  fieldOf Tryz.prog 71 1 = some ⟨ "buf", 22, 1, false, "", "strings", 8⟩ ∧
  fieldOf Tryz.prog 92 0 = some ⟨ "code", 22, 0, false, "", "loop.example/g01393/spec", 0⟩ ∧
  fieldOf Tryz.prog 92 1 = some ⟨ "at", 3, 1, false, "", "loop.example/g01393/spec", 24⟩ ∧
  fieldOf Tryz.prog 92 2 = some ⟨ "seed", 91, 2, false, "", "loop.example/g01393/spec", 32⟩ ∧
  fieldOf Tryz.prog 93 0 = some ⟨ "code", 22, 0, false, "", "loop.example/g01393/spec", 0⟩ ∧
  fieldOf Tryz.prog 93 1 = some ⟨ "at", 3, 1, false, "", "loop.example/g01393/spec", 24⟩ ∧
  fieldOf Tryz.prog 93 2 = some ⟨ "seed", 91, 2, false, "", "loop.example/g01393/spec", 32⟩ ∧
  fieldOf Tryz.prog 104 0 = some ⟨ "words", 61, 0, false, "", "loop.example/g01393/impl", 0⟩ ∧
  fieldOf Tryz.prog 104 1 = some ⟨ "bad", 4, 1, false, "", "loop.example/g01393/impl", 24⟩ ∧
  fieldOf Tryz.prog 105 0 = some ⟨ "words", 61, 0, false, "", "loop.example/g01393/impl", 0⟩ ∧
  fieldOf Tryz.prog 105 1 = some ⟨ "bad", 4, 1, false, "", "loop.example/g01393/impl", 24⟩ ∧
  fieldOf Tryz.prog 218 0 = some ⟨ "lo", 5, 0, false, "", "unicode/utf8", 0⟩ ∧
  fieldOf Tryz.prog 218 1 = some ⟨ "hi", 5, 1, false, "", "unicode/utf8", 1⟩ ∧
  fieldOf Tryz.prog 219 0 = some ⟨ "lo", 5, 0, false, "", "unicode/utf8", 0⟩ ∧
  fieldOf Tryz.prog 219 1 = some ⟨ "hi", 5, 1, false, "", "unicode/utf8", 1⟩ ∧
  fieldOf Tryz.prog 244 0 = some ⟨ "s", 9, 0, false, "", "errors", 0⟩ ∧
  fieldOf Tryz.prog 245 0 = some ⟨ "s", 9, 0, false, "", "errors", 0⟩ :=
  ⟨cells256, bytes256, zero256, field25_0, field25_1, field26_0, field26_1, field28_0, field28_1, field28_2, field28_3, field29_0, field29_1, field29_2, field29_3, field70_0, field70_1, field71_0, field71_1, field92_0, field92_1, field92_2, field93_0, field93_1, field93_2, field104_0, field104_1, field105_0, field105_1, field218_0, field218_1, field219_0, field219_1, field244_0, field245_0⟩
def und0 := And.intro @Tryz.underlying2 (And.intro @Tryz.underlying3 (And.intro @Tryz.underlying4 (And.intro @Tryz.underlying5 (And.intro @Tryz.underlying9 (And.intro @Tryz.underlying12 (And.intro @Tryz.underlying21 (And.intro @Tryz.underlying22 (And.intro @Tryz.underlying24 (And.intro @Tryz.underlying25 (And.intro @Tryz.underlying26 @Tryz.underlying27))))))))))
def und1 := And.intro @Tryz.underlying28 (And.intro @Tryz.underlying29 (And.intro @Tryz.underlying61 (And.intro @Tryz.underlying62 (And.intro @Tryz.underlying69 (And.intro @Tryz.underlying70 (And.intro @Tryz.underlying71 (And.intro @Tryz.underlying91 (And.intro @Tryz.underlying92 (And.intro @Tryz.underlying93 (And.intro @Tryz.underlying104 @Tryz.underlying105))))))))))
def und2 := And.intro @Tryz.underlying112 (And.intro @Tryz.underlying113 (And.intro @Tryz.underlying125 (And.intro @Tryz.underlying127 (And.intro @Tryz.underlying133 (And.intro @Tryz.underlying139 (And.intro @Tryz.underlying169 (And.intro @Tryz.underlying170 (And.intro @Tryz.underlying208 (And.intro @Tryz.underlying210 (And.intro @Tryz.underlying217 @Tryz.underlying218))))))))))
def und3 := And.intro @Tryz.underlying219 (And.intro @Tryz.underlying229 (And.intro @Tryz.underlying244 (And.intro @Tryz.underlying245 @Tryz.underlying256)))
theorem go3 : isGo Tryz.prog 3 := by unfold isGo; rw [Tryz.func3]; exact ⟨rfl, by kernel_rfl⟩
theorem go4 : isGo Tryz.prog 4 := by unfold isGo; rw [Tryz.func4]; exact ⟨rfl, by kernel_rfl⟩
theorem go5 : isGo Tryz.prog 5 := by unfold isGo; rw [Tryz.func5]; exact ⟨rfl, by kernel_rfl⟩
theorem go6 : isGo Tryz.prog 6 := by unfold isGo; rw [Tryz.func6]; exact ⟨rfl, by kernel_rfl⟩
theorem go7 : isGo Tryz.prog 7 := by unfold isGo; rw [Tryz.func7]; exact ⟨rfl, by kernel_rfl⟩
theorem go8 : isGo Tryz.prog 8 := by unfold isGo; rw [Tryz.func8]; exact ⟨rfl, by kernel_rfl⟩
theorem go9 : isGo Tryz.prog 9 := by unfold isGo; rw [Tryz.func9]; exact ⟨rfl, by kernel_rfl⟩
theorem go10 : isGo Tryz.prog 10 := by unfold isGo; rw [Tryz.func10]; exact ⟨rfl, by kernel_rfl⟩
theorem go11 : isGo Tryz.prog 11 := by unfold isGo; rw [Tryz.func11]; exact ⟨rfl, by kernel_rfl⟩
theorem go12 : isGo Tryz.prog 12 := by unfold isGo; rw [Tryz.func12]; exact ⟨rfl, by kernel_rfl⟩
theorem go13 : isGo Tryz.prog 13 := by unfold isGo; rw [Tryz.func13]; exact ⟨rfl, by kernel_rfl⟩
theorem go14 : isGo Tryz.prog 14 := by unfold isGo; rw [Tryz.func14]; exact ⟨rfl, by kernel_rfl⟩
theorem go15 : isGo Tryz.prog 15 := by unfold isGo; rw [Tryz.func15]; exact ⟨rfl, by kernel_rfl⟩
theorem go16 : isGo Tryz.prog 16 := by unfold isGo; rw [Tryz.func16]; exact ⟨rfl, by kernel_rfl⟩
theorem go17 : isGo Tryz.prog 17 := by unfold isGo; rw [Tryz.func17]; exact ⟨rfl, by kernel_rfl⟩
theorem go18 : isGo Tryz.prog 18 := by unfold isGo; rw [Tryz.func18]; exact ⟨rfl, by kernel_rfl⟩
theorem go19 : isGo Tryz.prog 19 := by unfold isGo; rw [Tryz.func19]; exact ⟨rfl, by kernel_rfl⟩
theorem go20 : isGo Tryz.prog 20 := by unfold isGo; rw [Tryz.func20]; exact ⟨rfl, by kernel_rfl⟩
theorem go21 : isGo Tryz.prog 21 := by unfold isGo; rw [Tryz.func21]; exact ⟨rfl, by kernel_rfl⟩
theorem go22 : isGo Tryz.prog 22 := by unfold isGo; rw [Tryz.func22]; exact ⟨rfl, by kernel_rfl⟩
theorem go23 : isGo Tryz.prog 23 := by unfold isGo; rw [Tryz.func23]; exact ⟨rfl, by kernel_rfl⟩
theorem go24 : isGo Tryz.prog 24 := by unfold isGo; rw [Tryz.func24]; exact ⟨rfl, by kernel_rfl⟩
theorem go25 : isGo Tryz.prog 25 := by unfold isGo; rw [Tryz.func25]; exact ⟨rfl, by kernel_rfl⟩
theorem go26 : isGo Tryz.prog 26 := by unfold isGo; rw [Tryz.func26]; exact ⟨rfl, by kernel_rfl⟩
theorem go27 : isGo Tryz.prog 27 := by unfold isGo; rw [Tryz.func27]; exact ⟨rfl, by kernel_rfl⟩
theorem go28 : isGo Tryz.prog 28 := by unfold isGo; rw [Tryz.func28]; exact ⟨rfl, by kernel_rfl⟩
theorem go29 : isGo Tryz.prog 29 := by unfold isGo; rw [Tryz.func29]; exact ⟨rfl, by kernel_rfl⟩
theorem go30 : isGo Tryz.prog 30 := by unfold isGo; rw [Tryz.func30]; exact ⟨rfl, by kernel_rfl⟩
theorem go31 : isGo Tryz.prog 31 := by unfold isGo; rw [Tryz.func31]; exact ⟨rfl, by kernel_rfl⟩
theorem go32 : isGo Tryz.prog 32 := by unfold isGo; rw [Tryz.func32]; exact ⟨rfl, by kernel_rfl⟩
theorem go33 : isGo Tryz.prog 33 := by unfold isGo; rw [Tryz.func33]; exact ⟨rfl, by kernel_rfl⟩
theorem go34 : isGo Tryz.prog 34 := by unfold isGo; rw [Tryz.func34]; exact ⟨rfl, by kernel_rfl⟩
theorem go35 : isGo Tryz.prog 35 := by unfold isGo; rw [Tryz.func35]; exact ⟨rfl, by kernel_rfl⟩
theorem go36 : isGo Tryz.prog 36 := by unfold isGo; rw [Tryz.func36]; exact ⟨rfl, by kernel_rfl⟩
theorem go37 : isGo Tryz.prog 37 := by unfold isGo; rw [Tryz.func37]; exact ⟨rfl, by kernel_rfl⟩
theorem go38 : isGo Tryz.prog 38 := by unfold isGo; rw [Tryz.func38]; exact ⟨rfl, by kernel_rfl⟩
theorem go39 : isGo Tryz.prog 39 := by unfold isGo; rw [Tryz.func39]; exact ⟨rfl, by kernel_rfl⟩
theorem go40 : isGo Tryz.prog 40 := by unfold isGo; rw [Tryz.func40]; exact ⟨rfl, by kernel_rfl⟩
theorem go41 : isGo Tryz.prog 41 := by unfold isGo; rw [Tryz.func41]; exact ⟨rfl, by kernel_rfl⟩
theorem go42 : isGo Tryz.prog 42 := by unfold isGo; rw [Tryz.func42]; exact ⟨rfl, by kernel_rfl⟩
theorem go43 : isGo Tryz.prog 43 := by unfold isGo; rw [Tryz.func43]; exact ⟨rfl, by kernel_rfl⟩
theorem go44 : isGo Tryz.prog 44 := by unfold isGo; rw [Tryz.func44]; exact ⟨rfl, by kernel_rfl⟩
theorem go45 : isGo Tryz.prog 45 := by unfold isGo; rw [Tryz.func45]; exact ⟨rfl, by kernel_rfl⟩
theorem go46 : isGo Tryz.prog 46 := by unfold isGo; rw [Tryz.func46]; exact ⟨rfl, by kernel_rfl⟩
theorem go47 : isGo Tryz.prog 47 := by unfold isGo; rw [Tryz.func47]; exact ⟨rfl, by kernel_rfl⟩
theorem go48 : isGo Tryz.prog 48 := by unfold isGo; rw [Tryz.func48]; exact ⟨rfl, by kernel_rfl⟩
theorem go49 : isGo Tryz.prog 49 := by unfold isGo; rw [Tryz.func49]; exact ⟨rfl, by kernel_rfl⟩
theorem go50 : isGo Tryz.prog 50 := by unfold isGo; rw [Tryz.func50]; exact ⟨rfl, by kernel_rfl⟩
theorem go51 : isGo Tryz.prog 51 := by unfold isGo; rw [Tryz.func51]; exact ⟨rfl, by kernel_rfl⟩
theorem go52 : isGo Tryz.prog 52 := by unfold isGo; rw [Tryz.func52]; exact ⟨rfl, by kernel_rfl⟩
theorem go53 : isGo Tryz.prog 53 := by unfold isGo; rw [Tryz.func53]; exact ⟨rfl, by kernel_rfl⟩
theorem go54 : isGo Tryz.prog 54 := by unfold isGo; rw [Tryz.func54]; exact ⟨rfl, by kernel_rfl⟩
theorem go55 : isGo Tryz.prog 55 := by unfold isGo; rw [Tryz.func55]; exact ⟨rfl, by kernel_rfl⟩
theorem go56 : isGo Tryz.prog 56 := by unfold isGo; rw [Tryz.func56]; exact ⟨rfl, by kernel_rfl⟩
theorem go57 : isGo Tryz.prog 57 := by unfold isGo; rw [Tryz.func57]; exact ⟨rfl, by kernel_rfl⟩
theorem go58 : isGo Tryz.prog 58 := by unfold isGo; rw [Tryz.func58]; exact ⟨rfl, by kernel_rfl⟩
theorem go59 : isGo Tryz.prog 59 := by unfold isGo; rw [Tryz.func59]; exact ⟨rfl, by kernel_rfl⟩
theorem go60 : isGo Tryz.prog 60 := by unfold isGo; rw [Tryz.func60]; exact ⟨rfl, by kernel_rfl⟩
theorem go61 : isGo Tryz.prog 61 := by unfold isGo; rw [Tryz.func61]; exact ⟨rfl, by kernel_rfl⟩
theorem go62 : isGo Tryz.prog 62 := by unfold isGo; rw [Tryz.func62]; exact ⟨rfl, by kernel_rfl⟩
theorem go63 : isGo Tryz.prog 63 := by unfold isGo; rw [Tryz.func63]; exact ⟨rfl, by kernel_rfl⟩
theorem go64 : isGo Tryz.prog 64 := by unfold isGo; rw [Tryz.func64]; exact ⟨rfl, by kernel_rfl⟩
theorem go65 : isGo Tryz.prog 65 := by unfold isGo; rw [Tryz.func65]; exact ⟨rfl, by kernel_rfl⟩
theorem go66 : isGo Tryz.prog 66 := by unfold isGo; rw [Tryz.func66]; exact ⟨rfl, by kernel_rfl⟩
theorem go67 : isGo Tryz.prog 67 := by unfold isGo; rw [Tryz.func67]; exact ⟨rfl, by kernel_rfl⟩
theorem go68 : isGo Tryz.prog 68 := by unfold isGo; rw [Tryz.func68]; exact ⟨rfl, by kernel_rfl⟩
theorem go69 : isGo Tryz.prog 69 := by unfold isGo; rw [Tryz.func69]; exact ⟨rfl, by kernel_rfl⟩
theorem go70 : isGo Tryz.prog 70 := by unfold isGo; rw [Tryz.func70]; exact ⟨rfl, by kernel_rfl⟩
theorem go71 : isGo Tryz.prog 71 := by unfold isGo; rw [Tryz.func71]; exact ⟨rfl, by kernel_rfl⟩
theorem go72 : isGo Tryz.prog 72 := by unfold isGo; rw [Tryz.func72]; exact ⟨rfl, by kernel_rfl⟩
theorem go73 : isGo Tryz.prog 73 := by unfold isGo; rw [Tryz.func73]; exact ⟨rfl, by kernel_rfl⟩
theorem go74 : isGo Tryz.prog 74 := by unfold isGo; rw [Tryz.func74]; exact ⟨rfl, by kernel_rfl⟩
theorem go75 : isGo Tryz.prog 75 := by unfold isGo; rw [Tryz.func75]; exact ⟨rfl, by kernel_rfl⟩
theorem go76 : isGo Tryz.prog 76 := by unfold isGo; rw [Tryz.func76]; exact ⟨rfl, by kernel_rfl⟩
theorem go77 : isGo Tryz.prog 77 := by unfold isGo; rw [Tryz.func77]; exact ⟨rfl, by kernel_rfl⟩
theorem go78 : isGo Tryz.prog 78 := by unfold isGo; rw [Tryz.func78]; exact ⟨rfl, by kernel_rfl⟩
theorem go79 : isGo Tryz.prog 79 := by unfold isGo; rw [Tryz.func79]; exact ⟨rfl, by kernel_rfl⟩
theorem go80 : isGo Tryz.prog 80 := by unfold isGo; rw [Tryz.func80]; exact ⟨rfl, by kernel_rfl⟩
theorem go81 : isGo Tryz.prog 81 := by unfold isGo; rw [Tryz.func81]; exact ⟨rfl, by kernel_rfl⟩
theorem go82 : isGo Tryz.prog 82 := by unfold isGo; rw [Tryz.func82]; exact ⟨rfl, by kernel_rfl⟩
theorem go83 : isGo Tryz.prog 83 := by unfold isGo; rw [Tryz.func83]; exact ⟨rfl, by kernel_rfl⟩
theorem go84 : isGo Tryz.prog 84 := by unfold isGo; rw [Tryz.func84]; exact ⟨rfl, by kernel_rfl⟩
theorem go85 : isGo Tryz.prog 85 := by unfold isGo; rw [Tryz.func85]; exact ⟨rfl, by kernel_rfl⟩
theorem go94 : isGo Tryz.prog 94 := by unfold isGo; rw [Tryz.func94]; exact ⟨rfl, by kernel_rfl⟩
theorem go95 : isGo Tryz.prog 95 := by unfold isGo; rw [Tryz.func95]; exact ⟨rfl, by kernel_rfl⟩
theorem go96 : isGo Tryz.prog 96 := by unfold isGo; rw [Tryz.func96]; exact ⟨rfl, by kernel_rfl⟩
theorem go97 : isGo Tryz.prog 97 := by unfold isGo; rw [Tryz.func97]; exact ⟨rfl, by kernel_rfl⟩
theorem go98 : isGo Tryz.prog 98 := by unfold isGo; rw [Tryz.func98]; exact ⟨rfl, by kernel_rfl⟩
theorem go99 : isGo Tryz.prog 99 := by unfold isGo; rw [Tryz.func99]; exact ⟨rfl, by kernel_rfl⟩
theorem go104 : isGo Tryz.prog 104 := by unfold isGo; rw [Tryz.func104]; exact ⟨rfl, by kernel_rfl⟩
theorem go105 : isGo Tryz.prog 105 := by unfold isGo; rw [Tryz.func105]; exact ⟨rfl, by kernel_rfl⟩
theorem go107 : isGo Tryz.prog 107 := by unfold isGo; rw [Tryz.func107]; exact ⟨rfl, by kernel_rfl⟩
theorem go117 : isGo Tryz.prog 117 := by unfold isGo; rw [Tryz.func117]; exact ⟨rfl, by kernel_rfl⟩
theorem go118 : isGo Tryz.prog 118 := by unfold isGo; rw [Tryz.func118]; exact ⟨rfl, by kernel_rfl⟩
theorem go119 : isGo Tryz.prog 119 := by unfold isGo; rw [Tryz.func119]; exact ⟨rfl, by kernel_rfl⟩
theorem go126 : isGo Tryz.prog 126 := by unfold isGo; rw [Tryz.func126]; exact ⟨rfl, by kernel_rfl⟩
theorem go127 : isGo Tryz.prog 127 := by unfold isGo; rw [Tryz.func127]; exact ⟨rfl, by kernel_rfl⟩
theorem go129 : isGo Tryz.prog 129 := by unfold isGo; rw [Tryz.func129]; exact ⟨rfl, by kernel_rfl⟩
theorem go130 : isGo Tryz.prog 130 := by unfold isGo; rw [Tryz.func130]; exact ⟨rfl, by kernel_rfl⟩
theorem go131 : isGo Tryz.prog 131 := by unfold isGo; rw [Tryz.func131]; exact ⟨rfl, by kernel_rfl⟩
theorem go132 : isGo Tryz.prog 132 := by unfold isGo; rw [Tryz.func132]; exact ⟨rfl, by kernel_rfl⟩
theorem go133 : isGo Tryz.prog 133 := by unfold isGo; rw [Tryz.func133]; exact ⟨rfl, by kernel_rfl⟩
theorem go134 : isGo Tryz.prog 134 := by unfold isGo; rw [Tryz.func134]; exact ⟨rfl, by kernel_rfl⟩
theorem go149 : isGo Tryz.prog 149 := by unfold isGo; rw [Tryz.func149]; exact ⟨rfl, by kernel_rfl⟩
theorem go153 : isGo Tryz.prog 153 := by unfold isGo; rw [Tryz.func153]; exact ⟨rfl, by kernel_rfl⟩
theorem go157 : isGo Tryz.prog 157 := by unfold isGo; rw [Tryz.func157]; exact ⟨rfl, by kernel_rfl⟩
theorem go158 : isGo Tryz.prog 158 := by unfold isGo; rw [Tryz.func158]; exact ⟨rfl, by kernel_rfl⟩
theorem go160 : isGo Tryz.prog 160 := by unfold isGo; rw [Tryz.func160]; exact ⟨rfl, by kernel_rfl⟩
theorem go169 : isGo Tryz.prog 169 := by unfold isGo; rw [Tryz.func169]; exact ⟨rfl, by kernel_rfl⟩
theorem go175 : isGo Tryz.prog 175 := by unfold isGo; rw [Tryz.func175]; exact ⟨rfl, by kernel_rfl⟩
theorem go194 : isGo Tryz.prog 194 := by unfold isGo; rw [Tryz.func194]; exact ⟨rfl, by kernel_rfl⟩
def md3 : Nat → List Bool := fun _ => []
def md4 : Nat → List Bool := fun _ => []
def md5 : Nat → List Bool := fun _ => []
def md6 : Nat → List Bool := fun _ => []
def md7 : Nat → List Bool
  | 3 => [false, false, false, false, false, false, false, false, false, false]
  | _ => []
def md8 : Nat → List Bool := fun _ => []
def md9 : Nat → List Bool := fun _ => []
def md10 : Nat → List Bool := fun _ => []
def md11 : Nat → List Bool
  | 13 => [false, false, false, true, false, false]
  | _ => []
def md12 : Nat → List Bool := fun _ => []
def md13 : Nat → List Bool := fun _ => []
def md14 : Nat → List Bool := fun _ => []
def md15 : Nat → List Bool := fun _ => []
def md16 : Nat → List Bool := fun _ => []
def md17 : Nat → List Bool := fun _ => []
def md18 : Nat → List Bool := fun _ => []
def md19 : Nat → List Bool := fun _ => []
def md20 : Nat → List Bool := fun _ => []
def md21 : Nat → List Bool
  | 7 => [false, false, false, false, false, false, false, false, false, false, false, false, false, false, false, false]
  | _ => []
def md22 : Nat → List Bool := fun _ => []
def md23 : Nat → List Bool := fun _ => []
def md24 : Nat → List Bool := fun _ => []
def md25 : Nat → List Bool := fun _ => []
def md26 : Nat → List Bool := fun _ => []
def md27 : Nat → List Bool := fun _ => []
def md28 : Nat → List Bool := fun _ => []
def md29 : Nat → List Bool := fun _ => []
def md30 : Nat → List Bool := fun _ => []
def md31 : Nat → List Bool := fun _ => []
def md32 : Nat → List Bool
  | 3 => [false, false, false, false, false, false, false, false, false, false, false, false, false, false, false]
  | _ => []
def md33 : Nat → List Bool
  | 1 => [false, false, false, false, false, false, false, false, false, false, false, false, false, false, false, false, false, false, false, true]
  | _ => []
def md34 : Nat → List Bool := fun _ => []
def md35 : Nat → List Bool := fun _ => []
def md37 : Nat → List Bool := fun _ => []
def md38 : Nat → List Bool := fun _ => []
def md39 : Nat → List Bool := fun _ => []
def md40 : Nat → List Bool := fun _ => []
def md41 : Nat → List Bool := fun _ => []
def md42 : Nat → List Bool := fun _ => []
def md43 : Nat → List Bool := fun _ => []
def md44 : Nat → List Bool := fun _ => []
def md45 : Nat → List Bool := fun _ => []
def md46 : Nat → List Bool := fun _ => []
def md47 : Nat → List Bool := fun _ => []
def md48 : Nat → List Bool := fun _ => []
def md49 : Nat → List Bool := fun _ => []
def md50 : Nat → List Bool := fun _ => []
def md51 : Nat → List Bool
  | 6 => [false, false, false, false, false, false, false, false, false]
  | _ => []
def md52 : Nat → List Bool := fun _ => []
def md53 : Nat → List Bool := fun _ => []
def md54 : Nat → List Bool := fun _ => []
def md55 : Nat → List Bool := fun _ => []
def md56 : Nat → List Bool := fun _ => []
def md57 : Nat → List Bool
  | 4 => [false, false, false, false, false, false, false, false, false, false]
  | _ => []
def md58 : Nat → List Bool := fun _ => []
def md60 : Nat → List Bool := fun _ => []
def md62 : Nat → List Bool := fun _ => []
def md63 : Nat → List Bool := fun _ => []
def md64 : Nat → List Bool := fun _ => []
def md65 : Nat → List Bool := fun _ => []
def md66 : Nat → List Bool := fun _ => []
def md67 : Nat → List Bool
  | 15 => [false, false, false, false, false, false, false, false, false, false, false, false, false, false, false, false]
  | 17 => [false, false, false, false, false, false, false, false, false, false, false, false, false, false, false]
  | 21 => [false, false, false, false, false, false, false, false, false, false, false, false, false, false, false, false, false, false, false]
  | 23 => [false, false, false, false, false, false, false, false, false, false, false, false, false, false, false]
  | 25 => [false, false, false, false, false, false, false, false, false, false, false, false, false, false, false]
  | 27 => [false, false, false, false, false, false, false, false, false, false, false, false, false, false, false, false]
  | 29 => [false, false, false, false, false, false, false, false, false, false, false, false, false, false, false, false, false, false, false]
  | 31 => [false, false, false, false, false, false, false, false, false, false, false, false, false, false, false]
  | 36 => [false, false, false, false, false, false, false, false, false, false, false, false, false, false, false, false]
  | _ => []
def md68 : Nat → List Bool := fun _ => []
def md70 : Nat → List Bool := fun _ => []
def md71 : Nat → List Bool := fun _ => []
def md72 : Nat → List Bool
  | 1 => [false, false, false, false, false, false, false, false]
  | _ => []
def md73 : Nat → List Bool := fun _ => []
def md74 : Nat → List Bool := fun _ => []
def md75 : Nat → List Bool := fun _ => []
def md76 : Nat → List Bool
  | 6 => [false, false, false, false, false, false, false, false]
  | _ => []
def md77 : Nat → List Bool := fun _ => []
def md78 : Nat → List Bool
  | 1 => [false, false, false, false, false, false, false, false, false, false]
  | 3 => [false, false, false, false, false, false, false, false, false, false]
  | _ => []
def md79 : Nat → List Bool := fun _ => []
def md80 : Nat → List Bool := fun _ => []
def md81 : Nat → List Bool := fun _ => []
def md82 : Nat → List Bool := fun _ => []
def md83 : Nat → List Bool := fun _ => []
def md84 : Nat → List Bool := fun _ => []
def md85 : Nat → List Bool := fun _ => []
def md94 : Nat → List Bool := fun _ => []
def md95 : Nat → List Bool := fun _ => []
def md96 : Nat → List Bool := fun _ => []
def md97 : Nat → List Bool := fun _ => []
def md98 : Nat → List Bool := fun _ => []
def md99 : Nat → List Bool := fun _ => []
def md104 : Nat → List Bool := fun _ => []
def md105 : Nat → List Bool := fun _ => []
def md107 : Nat → List Bool := fun _ => []
def md117 : Nat → List Bool := fun _ => []
def md118 : Nat → List Bool
  | 2 => [false, false, false, false, false, false, false, false, false, false]
  | 3 => [false, false, false, false, false, false, false, false, false, false, false, false]
  | 6 => [false, false, false, false, false, false, false, false, false, false]
  | _ => []
def md119 : Nat → List Bool := fun _ => []
def md126 : Nat → List Bool := fun _ => []
def md127 : Nat → List Bool := fun _ => []
def md129 : Nat → List Bool := fun _ => []
def md130 : Nat → List Bool := fun _ => []
def md131 : Nat → List Bool := fun _ => []
def md132 : Nat → List Bool := fun _ => []
def md134 : Nat → List Bool := fun _ => []
def md149 : Nat → List Bool
  | 4 => [false, false, false, false, false, false, false, false, false, false, false, false, false, false, false, false, false]
  | _ => []
def md157 : Nat → List Bool := fun _ => []
def md158 : Nat → List Bool
  | 3 => [false, false, false, false, false, false, false, false, false, false, false, false]
  | _ => []
def md160 : Nat → List Bool := fun _ => []
def md169 : Nat → List Bool := fun _ => []
def md175 : Nat → List Bool := fun _ => []
def md194 : Nat → List Bool := fun _ => []
end Go.Proofs.YteenpfegadlkfaaGreatDoor
