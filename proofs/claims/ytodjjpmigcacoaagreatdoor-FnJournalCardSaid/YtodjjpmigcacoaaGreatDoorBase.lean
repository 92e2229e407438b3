/- Closed facts of the program, for the abstract layer: types and functions. Printed by gen_base.py. -/
import Derived.Test.YtodjjpmigcacoaaGreatDoorProg
import Derived.Test.YtodjjpmigcacoaaGreatDoorAbsM5
set_option linter.unusedVariables false
set_option linter.defProp false
set_option maxRecDepth 100000
namespace Go.Proofs.YtodjjpmigcacoaaGreatDoor
open Go Go.Abs
open And renaming intro → I
theorem gq {P : Program} {f : FuncId} {fn : Func} (h : P.funcs[f]? = some fn) (h1 : fn.body.isNone = false) (h2 : (fn.name == "runtime.NumGoroutine") = false) : isGo P f := by unfold isGo; rw [h]; exact ⟨h1, h2⟩
def zq0 := (I @List.getD_cons_succ.{0} (I @List.getD_cons_zero.{0} (I @List.length_cons.{0} (I @List.length_nil.{0} (I @List.replicate_succ.{0} (I @List.replicate_zero.{0} (I @List.cons_append.{0} (I @List.nil_append.{0} (I @List.append_nil.{0} (I @List.set_cons_succ.{0} (I @List.set_cons_zero.{0} @true_and)))))))))))
def zq1 := (I @and_true (I @List.map_cons.{0,0} (I @List.map_nil.{0,0} (I @Int.toNat_natCast (I @Int.natCast_nonneg (I @exists_prop (I @List.getElem_cons_zero.{0} (I @List.getElem_cons_succ.{0} (I @List.getElem?_cons_zero.{0} (I @List.getElem?_cons_succ.{0} (I @Nat.zero_lt_one @Option.bind_some.{0,0})))))))))))
def zq2 := (I @Option.map_some.{0,0} (I @Option.map_none.{0,0} (I @Bool.not_true (I @Bool.not_false (I @List.all_cons.{0} (I @List.all_nil.{0} (I @Bool.and_true (I @Bool.true_and (I @List.take_zero.{0} (I @List.drop_zero.{0} (I @List.drop_succ_cons.{0} @List.take_succ_cons.{0})))))))))))
def zq3 := (I @Nat.zero_add (I @Nat.add_zero (I @List.getElem?_toArray.{0} (I @ge_iff_le.{0} (I @gt_iff_lt.{0} (I @Nat.le_refl (I @Bool.false_eq_true (I @Bool.not_eq_true (I @Nat.succ_ne_self (I @Option.some.injEq.{0} (I @List.forall_mem_cons.{0} @List.not_mem_nil.{0})))))))))))
def zq4 := @false_implies
def zr0 := (I (I (I (I (I @guardSlot.eq_1 (I @quietA.eq_1 @quietA.eq_2)) (I @quietA.eq_3 (I @quietA.eq_4 @quietA.eq_5))) (I (I @quietA.eq_6 (I @quietA.eq_7 @quietA.eq_8)) (I @quietA.eq_9 (I @quietA.eq_10 @quietA.eq_11)))) (I (I (I @quietA.eq_12 (I @quietA.eq_13 @quietA.eq_14)) (I @quietA.eq_15 (I @quietA.eq_16 @quietA.eq_17))) (I (I @quietA.eq_18 (I @quietA.eq_19 @nilC.eq_1)) (I @nilC.eq_2 (I @nilA.eq_1 @nilA.eq_2))))) (I (I (I (I @nilA.eq_3 (I @quietB.eq_1 @quietB.eq_2)) (I @quietB.eq_3 (I @quietB.eq_4 @quietB.eq_5))) (I (I @quietB.eq_6 (I @quietB.eq_7 @quietB.eq_8)) (I @St.ev.eq_1 (I @St.ev.eq_2 @St.ev.eq_3)))) (I (I (I @St.ev.eq_4 (I @St.put.eq_1 @St.put.eq_2)) (I @St.after.eq_1 (I @St.after.eq_2 @ofV.eq_1))) (I (I @ofV.eq_2 (I @ofL.eq_1 @ofL.eq_2)) (I @ofL.eq_3 (I @ofL.eq_4 @ofL.eq_5))))))
def zr1 := (I (I (I (I (I @ofL.eq_6 (I @ofL.eq_7 @ofL.eq_8)) (I @ofL.eq_9 (I @binA.eq_1 @binA.eq_2))) (I (I @binA.eq_3 (I @binA.eq_4 @binA.eq_5)) (I @binA.eq_6 (I @binA.eq_7 @binA.eq_8)))) (I (I (I @binA.eq_9 (I @intBin.eq_1 @intBin.eq_2)) (I @intBin.eq_3 (I @intBin.eq_4 @intBin.eq_5))) (I (I @intBin.eq_6 (I @intBin.eq_7 @intBin.eq_8)) (I @intBin.eq_9 (I @intBin.eq_10 @intBin.eq_11))))) (I (I (I (I @intBin.eq_12 (I @intBin.eq_13 @intBin.eq_14)) (I @intBin.eq_15 (I @intBin.eq_16 @fltBin.eq_1))) (I (I @fltBin.eq_2 (I @fltBin.eq_3 @fltBin.eq_4)) (I @fltBin.eq_5 (I @fltBin.eq_6 @fltBin.eq_7)))) (I (I (I @fltBin.eq_8 (I @fltBin.eq_9 @fltBin.eq_10)) (I @fltBin.eq_11 (I @strBin.eq_1 @strBin.eq_2))) (I (I @strBin.eq_3 (I @strBin.eq_4 @cpxBin.eq_1)) (I @cpxBin.eq_2 (I @cpxBin.eq_3 @cpxBin.eq_4))))))
def zr2 := (I (I (I (I (I @cpxBin.eq_5 (I @unA.eq_1 @unA.eq_2)) (I @unA.eq_3 (I @unA.eq_4 @unA.eq_5))) (I (I @convB.eq_1 (I @convB.eq_2 @convB.eq_3)) (I @convB.eq_4 (I @convO.eq_1 @convO.eq_2)))) (I (I (I @convO.eq_3 (I @pickV.eq_1 @pickV.eq_2)) (I @resL.eq_1 (I @resL.eq_2 @resL.eq_3))) (I (I @oneA.eq_1 (I @oneA.eq_2 @isQuiet.eq_1)) (I @isQuiet.eq_2 (I @isQuiet.eq_3 @isQuiet.eq_4))))) (I (I (I (I @isQuiet.eq_5 (I @isQuiet.eq_6 @isQuiet.eq_7)) (I @isQuiet.eq_8 (I @isQuiet.eq_9 @isQuiet.eq_10))) (I (I @isQuiet.eq_11 (I @loadA.eq_1 @loadA.eq_2)) (I @loadA.eq_3 (I @loadC.eq_1 @storeA.eq_1)))) (I (I (I @storeA.eq_2 (I @fieldA.eq_1 @partA.eq_1)) (I @partA.eq_2 (I @sliceA.eq_1 @sliceA.eq_2))) (I (I @sliceA.eq_3 (I @sliceA.eq_4 @sliceA.eq_5)) (I @boundA.eq_1 (I @boundA.eq_2 @boundA.eq_3))))))
def zr3 := (I (I (I (I (I @buildA.eq_1 @buildA.eq_2) (I @placeA.eq_1 (I @setAll.eq_1 @setAll.eq_2))) (I (I @appendA.eq_1 (I @readSl.eq_1 @readSl.eq_2)) (I @readSl.eq_3 (I @readSl.eq_4 @readSl.eq_5)))) (I (I (I @newEl.eq_1 (I @AV.cells.eq_1 @AV.cells.eq_2)) (I @AV.solid.eq_1 (I @AV.solid.eq_2 @AV.one.eq_1))) (I (I @AV.one.eq_2 (I @AV.one.eq_3 @AV.one.eq_4)) (I @kill.eq_1 (I @kill.eq_2 @killM.eq_1))))) (I (I (I (I @killM.eq_2 (I @killM.eq_3 @killM.eq_4)) (I @killL.eq_1 (I @killL.eq_2 @killL.eq_3))) (I (I @killL.eq_4 (I @killL.eq_5 @killL.eq_6)) (I @killL.eq_7 (I @killL.eq_8 @notInt.eq_1)))) (I (I (I @putF.eq_1 (I @putF.eq_2 @lookA.eq_1)) (I @lookA.eq_2 (I @lookA.eq_3 @putA.eq_1))) (I (I @putA.eq_2 (I @entryA.eq_1 @entryA.eq_2)) (I @entrySetA.eq_1 (I @entrySetA.eq_2 @mapTy.eq_1))))))
theorem mixed : Tryz.prog.follows .mixedOrders = true := by kernel_rfl
theorem cells2 : Tryz.prog.cellsOf 2 = 1 := by kernel_rfl
theorem bytes2 : Tryz.prog.bytesOf 2 = 8 := by kernel_rfl
theorem zero2 : zeroOf Tryz.prog 2 = .int .i64 0 := by kernel_rfl
theorem cells3 : Tryz.prog.cellsOf 3 = 1 := by kernel_rfl
theorem bytes3 : Tryz.prog.bytesOf 3 = 8 := by kernel_rfl
theorem zero3 : zeroOf Tryz.prog 3 = .int .i64 0 := by kernel_rfl
theorem cells4 : Tryz.prog.cellsOf 4 = 1 := by kernel_rfl
theorem bytes4 : Tryz.prog.bytesOf 4 = 1 := by kernel_rfl
theorem zero4 : zeroOf Tryz.prog 4 = .bool false := by kernel_rfl
theorem cells5 : Tryz.prog.cellsOf 5 = 1 := by kernel_rfl
theorem bytes5 : Tryz.prog.bytesOf 5 = 1 := by kernel_rfl
theorem zero5 : zeroOf Tryz.prog 5 = .int .u8 0 := by kernel_rfl
theorem cells9 : Tryz.prog.cellsOf 9 = 1 := by kernel_rfl
theorem bytes9 : Tryz.prog.bytesOf 9 = 16 := by kernel_rfl
theorem zero9 : zeroOf Tryz.prog 9 = .str [] := by kernel_rfl
theorem cells12 : Tryz.prog.cellsOf 12 = 1 := by kernel_rfl
theorem bytes12 : Tryz.prog.bytesOf 12 = 8 := by kernel_rfl
theorem zero12 : zeroOf Tryz.prog 12 = .int .u64 0 := by kernel_rfl
theorem cells21 : Tryz.prog.cellsOf 21 = 1 := by kernel_rfl
theorem bytes21 : Tryz.prog.bytesOf 21 = 4 := by kernel_rfl
theorem zero21 : zeroOf Tryz.prog 21 = .int .i32 0 := by kernel_rfl
theorem cells22 : Tryz.prog.cellsOf 22 = 1 := by kernel_rfl
theorem bytes22 : Tryz.prog.bytesOf 22 = 24 := by kernel_rfl
theorem zero22 : zeroOf Tryz.prog 22 = .nils := by kernel_rfl
theorem cells24 : Tryz.prog.cellsOf 24 = 1 := by kernel_rfl
theorem bytes24 : Tryz.prog.bytesOf 24 = 24 := by kernel_rfl
theorem zero24 : zeroOf Tryz.prog 24 = .nils := by kernel_rfl
theorem cells25 : Tryz.prog.cellsOf 25 = 2 := by kernel_rfl
theorem bytes25 : Tryz.prog.bytesOf 25 = 48 := by kernel_rfl
theorem zero25 : zeroOf Tryz.prog 25 = .agg [.nils, .nils] := by kernel_rfl
theorem cells26 : Tryz.prog.cellsOf 26 = 2 := by kernel_rfl
theorem bytes26 : Tryz.prog.bytesOf 26 = 48 := by kernel_rfl
theorem zero26 : zeroOf Tryz.prog 26 = .agg [.nils, .nils] := by kernel_rfl
theorem cells27 : Tryz.prog.cellsOf 27 = 1 := by kernel_rfl
theorem bytes27 : Tryz.prog.bytesOf 27 = 24 := by kernel_rfl
theorem zero27 : zeroOf Tryz.prog 27 = .nils := by kernel_rfl
theorem cells28 : Tryz.prog.cellsOf 28 = 5 := by kernel_rfl
theorem bytes28 : Tryz.prog.bytesOf 28 = 120 := by kernel_rfl
theorem zero28 : zeroOf Tryz.prog 28 = .agg [.nils, .nils, .nils, .nils, .nils] := by kernel_rfl
theorem cells29 : Tryz.prog.cellsOf 29 = 5 := by kernel_rfl
theorem bytes29 : Tryz.prog.bytesOf 29 = 120 := by kernel_rfl
theorem zero29 : zeroOf Tryz.prog 29 = .agg [.nils, .nils, .nils, .nils, .nils] := by kernel_rfl
theorem cells31 : Tryz.prog.cellsOf 31 = 1 := by kernel_rfl
theorem bytes31 : Tryz.prog.bytesOf 31 = 24 := by kernel_rfl
theorem zero31 : zeroOf Tryz.prog 31 = .nils := by kernel_rfl
theorem cells69 : Tryz.prog.cellsOf 69 = 1 := by kernel_rfl
theorem bytes69 : Tryz.prog.bytesOf 69 = 8 := by kernel_rfl
theorem zero69 : zeroOf Tryz.prog 69 = .nilp := by kernel_rfl
theorem cells70 : Tryz.prog.cellsOf 70 = 2 := by kernel_rfl
theorem bytes70 : Tryz.prog.bytesOf 70 = 32 := by kernel_rfl
theorem zero70 : zeroOf Tryz.prog 70 = .agg [.nilp, .nils] := by kernel_rfl
theorem cells71 : Tryz.prog.cellsOf 71 = 2 := by kernel_rfl
theorem bytes71 : Tryz.prog.bytesOf 71 = 32 := by kernel_rfl
theorem zero71 : zeroOf Tryz.prog 71 = .agg [.nilp, .nils] := by kernel_rfl
theorem cells82 : Tryz.prog.cellsOf 82 = 1 := by kernel_rfl
theorem bytes82 : Tryz.prog.bytesOf 82 = 4 := by kernel_rfl
theorem zero82 : zeroOf Tryz.prog 82 = .flt .f32 0 := by kernel_rfl
theorem cells95 : Tryz.prog.cellsOf 95 = 1 := by kernel_rfl
theorem bytes95 : Tryz.prog.bytesOf 95 = 8 := by kernel_rfl
theorem zero95 : zeroOf Tryz.prog 95 = .int .u64 0 := by kernel_rfl
theorem cells96 : Tryz.prog.cellsOf 96 = 3 := by kernel_rfl
theorem bytes96 : Tryz.prog.bytesOf 96 = 40 := by kernel_rfl
theorem zero96 : zeroOf Tryz.prog 96 = .agg [.nils, .int .i64 0, .int .u64 0] := by kernel_rfl
theorem cells97 : Tryz.prog.cellsOf 97 = 3 := by kernel_rfl
theorem bytes97 : Tryz.prog.bytesOf 97 = 40 := by kernel_rfl
theorem zero97 : zeroOf Tryz.prog 97 = .agg [.nils, .int .i64 0, .int .u64 0] := by kernel_rfl
theorem cells103 : Tryz.prog.cellsOf 103 = 1 := by kernel_rfl
theorem bytes103 : Tryz.prog.bytesOf 103 = 8 := by kernel_rfl
theorem zero103 : zeroOf Tryz.prog 103 = .nilp := by kernel_rfl
theorem cells107 : Tryz.prog.cellsOf 107 = 1 := by kernel_rfl
theorem bytes107 : Tryz.prog.bytesOf 107 = 8 := by kernel_rfl
theorem zero107 : zeroOf Tryz.prog 107 = .nilp := by kernel_rfl
theorem cells109 : Tryz.prog.cellsOf 109 = 2 := by kernel_rfl
theorem bytes109 : Tryz.prog.bytesOf 109 = 32 := by kernel_rfl
theorem zero109 : zeroOf Tryz.prog 109 = .agg [.nils, .bool false] := by kernel_rfl
theorem cells110 : Tryz.prog.cellsOf 110 = 2 := by kernel_rfl
theorem bytes110 : Tryz.prog.bytesOf 110 = 32 := by kernel_rfl
theorem zero110 : zeroOf Tryz.prog 110 = .agg [.nils, .bool false] := by kernel_rfl
theorem cells119 : Tryz.prog.cellsOf 119 = 1 := by kernel_rfl
theorem bytes119 : Tryz.prog.bytesOf 119 = 8 := by kernel_rfl
theorem zero119 : zeroOf Tryz.prog 119 = .nilp := by kernel_rfl
theorem cells128 : Tryz.prog.cellsOf 128 = 1 := by kernel_rfl
theorem bytes128 : Tryz.prog.bytesOf 128 = 4 := by kernel_rfl
theorem zero128 : zeroOf Tryz.prog 128 = .int .u32 0 := by kernel_rfl
theorem cells131 : Tryz.prog.cellsOf 131 = 1 := by kernel_rfl
theorem bytes131 : Tryz.prog.bytesOf 131 = 8 := by kernel_rfl
theorem zero131 : zeroOf Tryz.prog 131 = .int .u64 0 := by kernel_rfl
theorem cells133 : Tryz.prog.cellsOf 133 = 1 := by kernel_rfl
theorem bytes133 : Tryz.prog.bytesOf 133 = 8 := by kernel_rfl
theorem zero133 : zeroOf Tryz.prog 133 = .nilp := by kernel_rfl
theorem cells189 : Tryz.prog.cellsOf 189 = 24 := by kernel_rfl
theorem bytes189 : Tryz.prog.bytesOf 189 = 24 := by kernel_rfl
theorem zero189 : zeroOf Tryz.prog 189 = .agg [.int .u8 0, .int .u8 0, .int .u8 0, .int .u8 0, .int .u8 0, .int .u8 0, .int .u8 0, .int .u8 0, .int .u8 0, .int .u8 0, .int .u8 0, .int .u8 0, .int .u8 0, .int .u8 0, .int .u8 0, .int .u8 0, .int .u8 0, .int .u8 0, .int .u8 0, .int .u8 0, .int .u8 0, .int .u8 0, .int .u8 0, .int .u8 0] := by kernel_rfl
theorem cells208 : Tryz.prog.cellsOf 208 = 1 := by kernel_rfl
theorem bytes208 : Tryz.prog.bytesOf 208 = 24 := by kernel_rfl
theorem zero208 : zeroOf Tryz.prog 208 = .nils := by kernel_rfl
theorem cells209 : Tryz.prog.cellsOf 209 = 1 := by kernel_rfl
theorem bytes209 : Tryz.prog.bytesOf 209 = 24 := by kernel_rfl
theorem zero209 : zeroOf Tryz.prog 209 = .nils := by kernel_rfl
theorem cells219 : Tryz.prog.cellsOf 219 = 20 := by kernel_rfl
theorem bytes219 : Tryz.prog.bytesOf 219 = 160 := by kernel_rfl
theorem zero219 : zeroOf Tryz.prog 219 = .agg [.int .u64 0, .int .u64 0, .int .u64 0, .int .u64 0, .int .u64 0, .int .u64 0, .int .u64 0, .int .u64 0, .int .u64 0, .int .u64 0, .int .u64 0, .int .u64 0, .int .u64 0, .int .u64 0, .int .u64 0, .int .u64 0, .int .u64 0, .int .u64 0, .int .u64 0, .int .u64 0] := by kernel_rfl
theorem cells220 : Tryz.prog.cellsOf 220 = 65 := by kernel_rfl
theorem bytes220 : Tryz.prog.bytesOf 220 = 65 := by kernel_rfl
theorem zero220 : zeroOf Tryz.prog 220 = .agg [.int .u8 0, .int .u8 0, .int .u8 0, .int .u8 0, .int .u8 0, .int .u8 0, .int .u8 0, .int .u8 0, .int .u8 0, .int .u8 0, .int .u8 0, .int .u8 0, .int .u8 0, .int .u8 0, .int .u8 0, .int .u8 0, .int .u8 0, .int .u8 0, .int .u8 0, .int .u8 0, .int .u8 0, .int .u8 0, .int .u8 0, .int .u8 0, .int .u8 0, .int .u8 0, .int .u8 0, .int .u8 0, .int .u8 0, .int .u8 0, .int .u8 0, .int .u8 0, .int .u8 0, .int .u8 0, .int .u8 0, .int .u8 0, .int .u8 0, .int .u8 0, .int .u8 0, .int .u8 0, .int .u8 0, .int .u8 0, .int .u8 0, .int .u8 0, .int .u8 0, .int .u8 0, .int .u8 0, .int .u8 0, .int .u8 0, .int .u8 0, .int .u8 0, .int .u8 0, .int .u8 0, .int .u8 0, .int .u8 0, .int .u8 0, .int .u8 0, .int .u8 0, .int .u8 0, .int .u8 0, .int .u8 0, .int .u8 0, .int .u8 0, .int .u8 0, .int .u8 0] := by kernel_rfl
theorem cells227 : Tryz.prog.cellsOf 227 = 1 := by kernel_rfl
theorem bytes227 : Tryz.prog.bytesOf 227 = 8 := by kernel_rfl
theorem zero227 : zeroOf Tryz.prog 227 = .flt .f64 0 := by kernel_rfl
theorem cells230 : Tryz.prog.cellsOf 230 = 1 := by kernel_rfl
theorem bytes230 : Tryz.prog.bytesOf 230 = 8 := by kernel_rfl
theorem zero230 : zeroOf Tryz.prog 230 = .int .i64 0 := by kernel_rfl
theorem cells241 : Tryz.prog.cellsOf 241 = 256 := by kernel_rfl
theorem bytes241 : Tryz.prog.bytesOf 241 = 256 := by kernel_rfl
theorem zero241 : zeroOf Tryz.prog 241 = .agg [.int .u8 0, .int .u8 0, .int .u8 0, .int .u8 0, .int .u8 0, .int .u8 0, .int .u8 0, .int .u8 0, .int .u8 0, .int .u8 0, .int .u8 0, .int .u8 0, .int .u8 0, .int .u8 0, .int .u8 0, .int .u8 0, .int .u8 0, .int .u8 0, .int .u8 0, .int .u8 0, .int .u8 0, .int .u8 0, .int .u8 0, .int .u8 0, .int .u8 0, .int .u8 0, .int .u8 0, .int .u8 0, .int .u8 0, .int .u8 0, .int .u8 0, .int .u8 0, .int .u8 0, .int .u8 0, .int .u8 0, .int .u8 0, .int .u8 0, .int .u8 0, .int .u8 0, .int .u8 0, .int .u8 0, .int .u8 0, .int .u8 0, .int .u8 0, .int .u8 0, .int .u8 0, .int .u8 0, .int .u8 0, .int .u8 0, .int .u8 0, .int .u8 0, .int .u8 0, .int .u8 0, .int .u8 0, .int .u8 0, .int .u8 0, .int .u8 0, .int .u8 0, .int .u8 0, .int .u8 0, .int .u8 0, .int .u8 0, .int .u8 0, .int .u8 0, .int .u8 0, .int .u8 0, .int .u8 0, .int .u8 0, .int .u8 0, .int .u8 0, .int .u8 0, .int .u8 0, .int .u8 0, .int .u8 0, .int .u8 0, .int .u8 0, .int .u8 0, .int .u8 0, .int .u8 0, .int .u8 0, .int .u8 0, .int .u8 0, .int .u8 0, .int .u8 0, .int .u8 0, .int .u8 0, .int .u8 0, .int .u8 0, .int .u8 0, .int .u8 0, .int .u8 0, .int .u8 0, .int .u8 0, .int .u8 0, .int .u8 0, .int .u8 0, .int .u8 0, .int .u8 0, .int .u8 0, .int .u8 0, .int .u8 0, .int .u8 0, .int .u8 0, .int .u8 0, .int .u8 0, .int .u8 0, .int .u8 0, .int .u8 0, .int .u8 0, .int .u8 0, .int .u8 0, .int .u8 0, .int .u8 0, .int .u8 0, .int .u8 0, .int .u8 0, .int .u8 0, .int .u8 0, .int .u8 0, .int .u8 0, .int .u8 0, .int .u8 0, .int .u8 0, .int .u8 0, .int .u8 0, .int .u8 0, .int .u8 0, .int .u8 0, .int .u8 0, .int .u8 0, .int .u8 0, .int .u8 0, .int .u8 0, .int .u8 0, .int .u8 0, .int .u8 0, .int .u8 0, .int .u8 0, .int .u8 0, .int .u8 0, .int .u8 0, .int .u8 0, .int .u8 0, .int .u8 0, .int .u8 0, .int .u8 0, .int .u8 0, .int .u8 0, .int .u8 0, .int .u8 0, .int .u8 0, .int .u8 0, .int .u8 0, .int .u8 0, .int .u8 0, .int .u8 0, .int .u8 0, .int .u8 0, .int .u8 0, .int .u8 0, .int .u8 0, .int .u8 0, .int .u8 0, .int .u8 0, .int .u8 0, .int .u8 0, .int .u8 0, .int .u8 0, .int .u8 0, .int .u8 0, .int .u8 0, .int .u8 0, .int .u8 0, .int .u8 0, .int .u8 0, .int .u8 0, .int .u8 0, .int .u8 0, .int .u8 0, .int .u8 0, .int .u8 0, .int .u8 0, .int .u8 0, .int .u8 0, .int .u8 0, .int .u8 0, .int .u8 0, .int .u8 0, .int .u8 0, .int .u8 0, .int .u8 0, .int .u8 0, .int .u8 0, .int .u8 0, .int .u8 0, .int .u8 0, .int .u8 0, .int .u8 0, .int .u8 0, .int .u8 0, .int .u8 0, .int .u8 0, .int .u8 0, .int .u8 0, .int .u8 0, .int .u8 0, .int .u8 0, .int .u8 0, .int .u8 0, .int .u8 0, .int .u8 0, .int .u8 0, .int .u8 0, .int .u8 0, .int .u8 0, .int .u8 0, .int .u8 0, .int .u8 0, .int .u8 0, .int .u8 0, .int .u8 0, .int .u8 0, .int .u8 0, .int .u8 0, .int .u8 0, .int .u8 0, .int .u8 0, .int .u8 0, .int .u8 0, .int .u8 0, .int .u8 0, .int .u8 0, .int .u8 0, .int .u8 0, .int .u8 0, .int .u8 0, .int .u8 0, .int .u8 0, .int .u8 0, .int .u8 0, .int .u8 0, .int .u8 0, .int .u8 0, .int .u8 0, .int .u8 0, .int .u8 0, .int .u8 0, .int .u8 0, .int .u8 0, .int .u8 0, .int .u8 0, .int .u8 0, .int .u8 0, .int .u8 0, .int .u8 0, .int .u8 0] := by kernel_rfl
theorem cells242 : Tryz.prog.cellsOf 242 = 2 := by kernel_rfl
theorem bytes242 : Tryz.prog.bytesOf 242 = 2 := by kernel_rfl
theorem zero242 : zeroOf Tryz.prog 242 = .agg [.int .u8 0, .int .u8 0] := by kernel_rfl
theorem cells243 : Tryz.prog.cellsOf 243 = 2 := by kernel_rfl
theorem bytes243 : Tryz.prog.bytesOf 243 = 2 := by kernel_rfl
theorem zero243 : zeroOf Tryz.prog 243 = .agg [.int .u8 0, .int .u8 0] := by kernel_rfl
theorem field25_0 : fieldOf Tryz.prog 25 0 = some ⟨ "Breaks", 24, 0, false, "", "", 0⟩ := by kernel_rfl
theorem field25_1 : fieldOf Tryz.prog 25 1 = some ⟨ "Rates", 24, 1, false, "", "", 24⟩ := by kernel_rfl
theorem field26_0 : fieldOf Tryz.prog 26 0 = some ⟨ "Breaks", 24, 0, false, "", "", 0⟩ := by kernel_rfl
theorem field26_1 : fieldOf Tryz.prog 26 1 = some ⟨ "Rates", 24, 1, false, "", "", 24⟩ := by kernel_rfl
theorem field28_0 : fieldOf Tryz.prog 28 0 = some ⟨ "Scale", 26, 0, false, "", "", 0⟩ := by kernel_rfl
theorem field28_1 : fieldOf Tryz.prog 28 1 = some ⟨ "Pays", 24, 2, false, "", "", 48⟩ := by kernel_rfl
theorem field28_2 : fieldOf Tryz.prog 28 2 = some ⟨ "Rates", 24, 3, false, "", "", 72⟩ := by kernel_rfl
theorem field28_3 : fieldOf Tryz.prog 28 3 = some ⟨ "Table", 27, 4, false, "", "", 96⟩ := by kernel_rfl
theorem field29_0 : fieldOf Tryz.prog 29 0 = some ⟨ "Scale", 26, 0, false, "", "", 0⟩ := by kernel_rfl
theorem field29_1 : fieldOf Tryz.prog 29 1 = some ⟨ "Pays", 24, 2, false, "", "", 48⟩ := by kernel_rfl
theorem field29_2 : fieldOf Tryz.prog 29 2 = some ⟨ "Rates", 24, 3, false, "", "", 72⟩ := by kernel_rfl
theorem field29_3 : fieldOf Tryz.prog 29 3 = some ⟨ "Table", 27, 4, false, "", "", 96⟩ := by kernel_rfl
theorem field70_0 : fieldOf Tryz.prog 70 0 = some ⟨ "addr", 69, 0, false, "", "strings", 0⟩ := by kernel_rfl
theorem field70_1 : fieldOf Tryz.prog 70 1 = some ⟨ "buf", 22, 1, false, "", "strings", 8⟩ := by kernel_rfl
theorem field71_0 : fieldOf Tryz.prog 71 0 = some ⟨ "addr", 69, 0, false, "", "strings", 0⟩ := by kernel_rfl
theorem field71_1 : fieldOf Tryz.prog 71 1 = some ⟨ "buf", 22, 1, false, "", "strings", 8⟩ := by kernel_rfl
theorem field96_0 : fieldOf Tryz.prog 96 0 = some ⟨ "code", 22, 0, false, "", "loop.example/g01393/spec", 0⟩ := by kernel_rfl
theorem field96_1 : fieldOf Tryz.prog 96 1 = some ⟨ "at", 3, 1, false, "", "loop.example/g01393/spec", 24⟩ := by kernel_rfl
theorem field96_2 : fieldOf Tryz.prog 96 2 = some ⟨ "seed", 95, 2, false, "", "loop.example/g01393/spec", 32⟩ := by kernel_rfl
theorem field97_0 : fieldOf Tryz.prog 97 0 = some ⟨ "code", 22, 0, false, "", "loop.example/g01393/spec", 0⟩ := by kernel_rfl
theorem field97_1 : fieldOf Tryz.prog 97 1 = some ⟨ "at", 3, 1, false, "", "loop.example/g01393/spec", 24⟩ := by kernel_rfl
theorem field97_2 : fieldOf Tryz.prog 97 2 = some ⟨ "seed", 95, 2, false, "", "loop.example/g01393/spec", 32⟩ := by kernel_rfl
theorem field109_0 : fieldOf Tryz.prog 109 0 = some ⟨ "words", 31, 0, false, "", "loop.example/g01393/impl", 0⟩ := by kernel_rfl
theorem field109_1 : fieldOf Tryz.prog 109 1 = some ⟨ "bad", 4, 1, false, "", "loop.example/g01393/impl", 24⟩ := by kernel_rfl
theorem field110_0 : fieldOf Tryz.prog 110 0 = some ⟨ "words", 31, 0, false, "", "loop.example/g01393/impl", 0⟩ := by kernel_rfl
theorem field110_1 : fieldOf Tryz.prog 110 1 = some ⟨ "bad", 4, 1, false, "", "loop.example/g01393/impl", 24⟩ := by kernel_rfl
theorem field242_0 : fieldOf Tryz.prog 242 0 = some ⟨ "lo", 5, 0, false, "", "unicode/utf8", 0⟩ := by kernel_rfl
theorem field242_1 : fieldOf Tryz.prog 242 1 = some ⟨ "hi", 5, 1, false, "", "unicode/utf8", 1⟩ := by kernel_rfl
theorem field243_0 : fieldOf Tryz.prog 243 0 = some ⟨ "lo", 5, 0, false, "", "unicode/utf8", 0⟩ := by kernel_rfl
theorem field243_1 : fieldOf Tryz.prog 243 1 = some ⟨ "hi", 5, 1, false, "", "unicode/utf8", 1⟩ := by kernel_rfl
theorem tys0 :
  Tryz.prog.cellsOf 2 = 1 ∧
  Tryz.prog.bytesOf 2 = 8 ∧
  zeroOf Tryz.prog 2 = .int .i64 0 ∧
  Tryz.prog.cellsOf 3 = 1 ∧
  Tryz.prog.bytesOf 3 = 8 ∧
  zeroOf Tryz.prog 3 = .int .i64 0 ∧
  Tryz.prog.cellsOf 4 = 1 ∧
  Tryz.prog.bytesOf 4 = 1 ∧
  zeroOf Tryz.prog 4 = .bool false ∧
  Tryz.prog.cellsOf 5 = 1 ∧
  Tryz.prog.bytesOf 5 = 1 ∧
  zeroOf Tryz.prog 5 = .int .u8 0 ∧
  Tryz.prog.cellsOf 9 = 1 ∧
  Tryz.prog.bytesOf 9 = 16 ∧
  zeroOf Tryz.prog 9 = .str [] ∧
  Tryz.prog.cellsOf 12 = 1 ∧
  Tryz.prog.bytesOf 12 = 8 ∧
  zeroOf Tryz.prog 12 = .int .u64 0 ∧
  Tryz.prog.cellsOf 21 = 1 ∧
  Tryz.prog.bytesOf 21 = 4 ∧
  zeroOf Tryz.prog 21 = .int .i32 0 ∧
  Tryz.prog.cellsOf 22 = 1 ∧
  Tryz.prog.bytesOf 22 = 24 ∧
  zeroOf Tryz.prog 22 = .nils ∧
  Tryz.prog.cellsOf 24 = 1 ∧
  Tryz.prog.bytesOf 24 = 24 ∧
  zeroOf Tryz.prog 24 = .nils ∧
  Tryz.prog.cellsOf 25 = 2 ∧
  Tryz.prog.bytesOf 25 = 48 ∧
  zeroOf Tryz.prog 25 = .agg [.nils, .nils] ∧
  Tryz.prog.cellsOf 26 = 2 ∧
  Tryz.prog.bytesOf 26 = 48 ∧
  zeroOf Tryz.prog 26 = .agg [.nils, .nils] ∧
  Tryz.prog.cellsOf 27 = 1 ∧
  Tryz.prog.bytesOf 27 = 24 ∧
  zeroOf Tryz.prog 27 = .nils ∧
  Tryz.prog.cellsOf 28 = 5 ∧
  Tryz.prog.bytesOf 28 = 120 ∧
  zeroOf Tryz.prog 28 = .agg [.nils, .nils, .nils, .nils, .nils] ∧
  Tryz.prog.cellsOf 29 = 5 :=
  ⟨cells2, bytes2, zero2, cells3, bytes3, zero3, cells4, bytes4, zero4, cells5, bytes5, zero5, cells9, bytes9, zero9, cells12, bytes12, zero12, cells21, bytes21, zero21, cells22, bytes22, zero22, cells24, bytes24, zero24, cells25, bytes25, zero25, cells26, bytes26, zero26, cells27, bytes27, zero27, cells28, bytes28, zero28, cells29⟩
theorem tys1 :
  Tryz.prog.bytesOf 29 = 120 ∧
  zeroOf Tryz.prog 29 = .agg [.nils, .nils, .nils, .nils, .nils] ∧
  Tryz.prog.cellsOf 31 = 1 ∧
  Tryz.prog.bytesOf 31 = 24 ∧
  zeroOf Tryz.prog 31 = .nils ∧
  Tryz.prog.cellsOf 69 = 1 ∧
  Tryz.prog.bytesOf 69 = 8 ∧
  zeroOf Tryz.prog 69 = .nilp ∧
  Tryz.prog.cellsOf 70 = 2 ∧
  Tryz.prog.bytesOf 70 = 32 ∧
  zeroOf Tryz.prog 70 = .agg [.nilp, .nils] ∧
  Tryz.prog.cellsOf 71 = 2 ∧
  Tryz.prog.bytesOf 71 = 32 ∧
  zeroOf Tryz.prog 71 = .agg [.nilp, .nils] ∧
  Tryz.prog.cellsOf 82 = 1 ∧
  Tryz.prog.bytesOf 82 = 4 ∧
  zeroOf Tryz.prog 82 = .flt .f32 0 ∧
  Tryz.prog.cellsOf 95 = 1 ∧
  Tryz.prog.bytesOf 95 = 8 ∧
  zeroOf Tryz.prog 95 = .int .u64 0 ∧
  Tryz.prog.cellsOf 96 = 3 ∧
  Tryz.prog.bytesOf 96 = 40 ∧
  zeroOf Tryz.prog 96 = .agg [.nils, .int .i64 0, .int .u64 0] ∧
  Tryz.prog.cellsOf 97 = 3 ∧
  Tryz.prog.bytesOf 97 = 40 ∧
  zeroOf Tryz.prog 97 = .agg [.nils, .int .i64 0, .int .u64 0] ∧
  Tryz.prog.cellsOf 103 = 1 ∧
  Tryz.prog.bytesOf 103 = 8 ∧
  zeroOf Tryz.prog 103 = .nilp ∧
  Tryz.prog.cellsOf 107 = 1 ∧
  Tryz.prog.bytesOf 107 = 8 ∧
  zeroOf Tryz.prog 107 = .nilp ∧
  Tryz.prog.cellsOf 109 = 2 ∧
  Tryz.prog.bytesOf 109 = 32 ∧
  zeroOf Tryz.prog 109 = .agg [.nils, .bool false] ∧
  Tryz.prog.cellsOf 110 = 2 ∧
  Tryz.prog.bytesOf 110 = 32 ∧
  zeroOf Tryz.prog 110 = .agg [.nils, .bool false] ∧
  Tryz.prog.cellsOf 119 = 1 ∧
  Tryz.prog.bytesOf 119 = 8 :=
  ⟨bytes29, zero29, cells31, bytes31, zero31, cells69, bytes69, zero69, cells70, bytes70, zero70, cells71, bytes71, zero71, cells82, bytes82, zero82, cells95, bytes95, zero95, cells96, bytes96, zero96, cells97, bytes97, zero97, cells103, bytes103, zero103, cells107, bytes107, zero107, cells109, bytes109, zero109, cells110, bytes110, zero110, cells119, bytes119⟩
theorem tys2 :
  zeroOf Tryz.prog 119 = .nilp ∧
  Tryz.prog.cellsOf 128 = 1 ∧
  Tryz.prog.bytesOf 128 = 4 ∧
  zeroOf Tryz.prog 128 = .int .u32 0 ∧
  Tryz.prog.cellsOf 131 = 1 ∧
  Tryz.prog.bytesOf 131 = 8 ∧
  zeroOf Tryz.prog 131 = .int .u64 0 ∧
  Tryz.prog.cellsOf 133 = 1 ∧
  Tryz.prog.bytesOf 133 = 8 ∧
  zeroOf Tryz.prog 133 = .nilp ∧
  Tryz.prog.cellsOf 189 = 24 ∧
  Tryz.prog.bytesOf 189 = 24 ∧
  zeroOf Tryz.prog 189 = .agg [.int .u8 0, .int .u8 0, .int .u8 0, .int .u8 0, .int .u8 0, .int .u8 0, .int .u8 0, .int .u8 0, .int .u8 0, .int .u8 0, .int .u8 0, .int .u8 0, .int .u8 0, .int .u8 0, .int .u8 0, .int .u8 0, .int .u8 0, .int .u8 0, .int .u8 0, .int .u8 0, .int .u8 0, .int .u8 0, .int .u8 0, .int .u8 0] ∧
  Tryz.prog.cellsOf 208 = 1 ∧
  Tryz.prog.bytesOf 208 = 24 ∧
  zeroOf Tryz.prog 208 = .nils ∧
  Tryz.prog.cellsOf 209 = 1 ∧
  Tryz.prog.bytesOf 209 = 24 ∧
  zeroOf Tryz.prog 209 = .nils ∧
  Tryz.prog.cellsOf 219 = 20 ∧
  Tryz.prog.bytesOf 219 = 160 ∧
  zeroOf Tryz.prog 219 = .agg [.int .u64 0, .int .u64 0, .int .u64 0, .int .u64 0, .int .u64 0, .int .u64 0, .int .u64 0, .int .u64 0, .int .u64 0, .int .u64 0, .int .u64 0, .int .u64 0, .int .u64 0, .int .u64 0, .int .u64 0, .int .u64 0, .int .u64 0, .int .u64 0, .int .u64 0, .int .u64 0] ∧
  Tryz.prog.cellsOf 220 = 65 ∧
  Tryz.prog.bytesOf 220 = 65 ∧
  zeroOf Tryz.prog 220 = .agg [.int .u8 0, .int .u8 0, .int .u8 0, .int .u8 0, .int .u8 0, .int .u8 0, .int .u8 0, .int .u8 0, .int .u8 0, .int .u8 0, .int .u8 0, .int .u8 0, .int .u8 0, .int .u8 0, .int .u8 0, .int .u8 0, .int .u8 0, .int .u8 0, .int .u8 0, .int .u8 0, .int .u8 0, .int .u8 0, .int .u8 0, .int .u8 0, .int .u8 0, .int .u8 0, .int .u8 0, .int .u8 0, .int .u8 0, .int .u8 0, .int .u8 0, .int .u8 0, .int .u8 0, .int .u8 0, .int .u8 0, .int .u8 0, .int .u8 0, .int .u8 0, .int .u8 0, .int .u8 0, .int .u8 0, .int .u8 0, .int .u8 0, .int .u8 0, .int .u8 0, .int .u8 0, .int .u8 0, .int .u8 0, .int .u8 0, .int .u8 0, .int .u8 0, .int .u8 0, .int .u8 0, .int .u8 0, .int .u8 0, .int .u8 0, .int .u8 0, .int .u8 0, .int .u8 0, .int .u8 0, .int .u8 0, .int .u8 0, .int .u8 0, .int .u8 0, .int .u8 0] ∧
  Tryz.prog.cellsOf 227 = 1 ∧
  Tryz.prog.bytesOf 227 = 8 ∧
  zeroOf Tryz.prog 227 = .flt .f64 0 ∧
  Tryz.prog.cellsOf 230 = 1 ∧
  Tryz.prog.bytesOf 230 = 8 ∧
  zeroOf Tryz.prog 230 = .int .i64 0 ∧
  Tryz.prog.cellsOf 241 = 256 ∧
  Tryz.prog.bytesOf 241 = 256 ∧
  zeroOf Tryz.prog 241 = .agg [.int .u8 0, .int .u8 0, .int .u8 0, .int .u8 0, .int .u8 0, .int .u8 0, .int .u8 0, .int .u8 0, .int .u8 0, .int .u8 0, .int .u8 0, .int .u8 0, .int .u8 0, .int .u8 0, .int .u8 0, .int .u8 0, .int .u8 0, .int .u8 0, .int .u8 0, .int .u8 0, .int .u8 0, .int .u8 0, .int .u8 0, .int .u8 0, .int .u8 0, .int .u8 0, .int .u8 0, .int .u8 0, .int .u8 0, .int .u8 0, .int .u8 0, .int .u8 0, .int .u8 0, .int .u8 0, .int .u8 0, .int .u8 0, .int .u8 0, .int .u8 0, .int .u8 0, .int .u8 0, .int .u8 0, .int .u8 0, .int .u8 0, .int .u8 0, .int .u8 0, .int .u8 0, .int .u8 0, .int .u8 0, .int .u8 0, .int .u8 0, .int .u8 0, .int .u8 0, .int .u8 0, .int .u8 0, .int .u8 0, .int .u8 0, .int .u8 0, .int .u8 0, .int .u8 0, .int .u8 0, .int .u8 0, .int .u8 0, .int .u8 0, .int .u8 0, .int .u8 0, .int .u8 0, .int .u8 0, .int .u8 0, .int .u8 0, .int .u8 0, .int .u8 0, .int .u8 0, .int .u8 0, .int .u8 0, .int .u8 0, .int .u8 0, .int .u8 0, .int .u8 0, .int .u8 0, .int .u8 0, .int .u8 0, .int .u8 0, .int .u8 0, .int .u8 0, .int .u8 0, .int .u8 0, .int .u8 0, .int .u8 0, .int .u8 0, .int .u8 0, .int .u8 0, .int .u8 0, .int .u8 0, .int .u8 0, .int .u8 0, .int .u8 0, .int .u8 0, .int .u8 0, .int .u8 0, .int .u8 0, .int .u8 0, .int .u8 0, .int .u8 0, .int .u8 0, .int .u8 0, .int .u8 0, .int .u8 0, .int .u8 0, .int .u8 0, .int .u8 0, .int .u8 0, .int .u8 0, .int .u8 0, .int .u8 0, .int .u8 0, .int .u8 0, .int .u8 0, .int .u8 0, .int .u8 0, .int .u8 0, .int .u8 0, .int .u8 0, .int .u8 0, .int .u8 0, .int .u8 0, .int .u8 0, .int .u8 0, .int .u8 0, .int .u8 0, .int .u8 0, .int .u8 0, .int .u8 0, .int .u8 0, .int .u8 0, .int .u8 0, .int .u8 0, .int .u8 0, .int .u8 0, .int .u8 0, .int .u8 0, .int .u8 0, .int .u8 0, .int .u8 0, .int .u8 0, .int .u8 0, .int .u8 0, .int .u8 0, .int .u8 0, .int .u8 0, .int .u8 0, .int .u8 0, .int .u8 0, .int .u8 0, .int .u8 0, .int .u8 0, .int .u8 0, .int .u8 0, .int .u8 0, .int .u8 0, .int .u8 0, .int .u8 0, .int .u8 0, .int .u8 0, .int .u8 0, .int .u8 0, .int .u8 0, .int .u8 0, .int .u8 0, .int .u8 0, .int .u8 0, .int .u8 0, .int .u8 0, .int .u8 0, .int .u8 0, .int .u8 0, .int .u8 0, .int .u8 0, .int .u8 0, .int .u8 0, .int .u8 0, .int .u8 0, .int .u8 0, .int .u8 0, .int .u8 0, .int .u8 0, .int .u8 0, .int .u8 0, .int .u8 0, .int .u8 0, .int .u8 0, .int .u8 0, .int .u8 0, .int .u8 0, .int .u8 0, .int .u8 0, .int .u8 0, .int .u8 0, .int .u8 0, .int .u8 0, .int .u8 0, .int .u8 0, .int .u8 0, .int .u8 0, .int .u8 0, .int .u8 0, .int .u8 0, .int .u8 0, .int .u8 0, .int .u8 0, .int .u8 0, .int .u8 0, .int .u8 0, .int .u8 0, .int .u8 0, .int .u8 0, .int .u8 0, .int .u8 0, .int .u8 0, .int .u8 0, .int .u8 0, .int .u8 0, .int .u8 0, .int .u8 0, .int .u8 0, .int .u8 0, .int .u8 0, .int .u8 0, .int .u8 0, .int .u8 0, .int .u8 0, .int .u8 0, .int .u8 0, .int .u8 0, .int .u8 0, .int .u8 0, .int .u8 0, .int .u8 0, .int .u8 0, .int .u8 0, .int .u8 0, .int .u8 0, .int .u8 0, .int .u8 0, .int .u8 0, .int .u8 0, .int .u8 0, .int .u8 0, .int .u8 0, .int .u8 0, .int .u8 0, .int .u8 0, .int .u8 0, .int .u8 0, .int .u8 0, .int .u8 0, .int .u8 0] ∧
  Tryz.prog.cellsOf 242 = 2 ∧
  Tryz.prog.bytesOf 242 = 2 ∧
  zeroOf Tryz.prog 242 = .agg [.int .u8 0, .int .u8 0] ∧
  Tryz.prog.cellsOf 243 = 2 ∧
  Tryz.prog.bytesOf 243 = 2 ∧
  zeroOf Tryz.prog 243 = .agg [.int .u8 0, .int .u8 0] :=
  ⟨zero119, cells128, bytes128, zero128, cells131, bytes131, zero131, cells133, bytes133, zero133, cells189, bytes189, zero189, cells208, bytes208, zero208, cells209, bytes209, zero209, cells219, bytes219, zero219, cells220, bytes220, zero220, cells227, bytes227, zero227, cells230, bytes230, zero230, cells241, bytes241, zero241, cells242, bytes242, zero242, cells243, bytes243, zero243⟩
theorem tys3 :
  fieldOf Tryz.prog 25 0 = some ⟨ "Breaks", 24, 0, false, "", "", 0⟩ ∧
  fieldOf Tryz.prog 25 1 = some ⟨ "Rates", 24, 1, false, "", "", 24⟩ ∧
  fieldOf Tryz.prog 26 0 = some ⟨ "Breaks", 24, 0, false, "", "", 0⟩ ∧
  fieldOf Tryz.prog 26 1 = some ⟨ "Rates", 24, 1, false, "", "", 24⟩ ∧
  fieldOf Tryz.prog 28 0 = some ⟨ "Scale", 26, 0, false, "", "", 0⟩ ∧
  fieldOf Tryz.prog 28 1 = some ⟨ "Pays", 24, 2, false, "", "", 48⟩ ∧
  fieldOf Tryz.prog 28 2 = some ⟨ "Rates", 24, 3, false, "", "", 72⟩ ∧
  fieldOf Tryz.prog 28 3 = some ⟨ "Table", 27, 4, false, "", "", 96⟩ ∧
  fieldOf Tryz.prog 29 0 = some ⟨ "Scale", 26, 0, false, "", "", 0⟩ ∧
  fieldOf Tryz.prog 29 1 = some ⟨ "Pays", 24, 2, false, "", "", 48⟩ ∧
  fieldOf Tryz.prog 29 2 = some ⟨ "Rates", 24, 3, false, "", "", 72⟩ ∧
  fieldOf Tryz.prog 29 3 = some ⟨ "Table", 27, 4, false, "", "", 96⟩ ∧
  fieldOf Tryz.prog 70 0 = some ⟨ "addr", 69, 0, false, "", "strings", 0⟩ ∧
  fieldOf Tryz.prog 70 1 = some ⟨ "buf", 22, 1, false, "", "strings", 8⟩ ∧
  fieldOf Tryz.prog 71 0 = some ⟨ "addr", 69, 0, false, "", "strings", 0⟩ ∧
  fieldOf Tryz.prog 71 1 = some ⟨ "buf", 22, 1, false, "", "strings", 8⟩ ∧
  fieldOf Tryz.prog 96 0 = some ⟨ "code", 22, 0, false, "", "loop.example/g01393/spec", 0⟩ ∧
  fieldOf Tryz.prog 96 1 = some ⟨ "at", 3, 1, false, "", "loop.example/g01393/spec", 24⟩ ∧
  fieldOf Tryz.prog 96 2 = some ⟨ "seed", 95, 2, false, "", "loop.example/g01393/spec", 32⟩ ∧
  fieldOf Tryz.prog 97 0 = some ⟨ "code", 22, 0, false, "", "loop.example/g01393/spec", 0⟩ ∧
  fieldOf Tryz.prog 97 1 = some ⟨ "at", 3, 1, false, "", "loop.example/g01393/spec", 24⟩ ∧
  fieldOf Tryz.prog 97 2 = some ⟨ "seed", 95, 2, false, "", "loop.example/g01393/spec", 32⟩ ∧
  fieldOf Tryz.prog 109 0 = some ⟨ "words", 31, 0, false, "", "loop.example/g01393/impl", 0⟩ ∧
  fieldOf Tryz.prog 109 1 = some ⟨ "bad", 4, 1, false, "", "loop.example/g01393/impl", 24⟩ ∧
  fieldOf Tryz.prog 110 0 = some ⟨ "words", 31, 0, false, "", "loop.example/g01393/impl", 0⟩ ∧
  fieldOf Tryz.prog 110 1 = some ⟨ "bad", 4, 1, false, "", "loop.example/g01393/impl", 24⟩ ∧
  fieldOf Tryz.prog 242 0 = some ⟨ "lo", 5, 0, false, "", "unicode/utf8", 0⟩ ∧
  fieldOf Tryz.prog 242 1 = some ⟨ "hi", 5, 1, false, "", "unicode/utf8", 1⟩ ∧
  fieldOf Tryz.prog 243 0 = some ⟨ "lo", 5, 0, false, "", "unicode/utf8", 0⟩ ∧
  fieldOf Tryz.prog 243 1 = some ⟨ "hi", 5, 1, false, "", "unicode/utf8", 1⟩ :=
  ⟨field25_0, field25_1, field26_0, field26_1, field28_0, field28_1, field28_2, field28_3, field29_0, field29_1, field29_2, field29_3, field70_0, field70_1, field71_0, field71_1, field96_0, field96_1, field96_2, field97_0, field97_1, field97_2, field109_0, field109_1, field110_0, field110_1, field242_0, field242_1, field243_0, field243_1⟩
def und0 := I @Tryz.underlying2 (I @Tryz.underlying3 (I @Tryz.underlying4 (I @Tryz.underlying5 (I @Tryz.underlying9 (I @Tryz.underlying12 (I @Tryz.underlying21 (I @Tryz.underlying22 (I @Tryz.underlying24 (I @Tryz.underlying25 (I @Tryz.underlying26 @Tryz.underlying27))))))))))
def und1 := I @Tryz.underlying28 (I @Tryz.underlying29 (I @Tryz.underlying31 (I @Tryz.underlying69 (I @Tryz.underlying70 (I @Tryz.underlying71 (I @Tryz.underlying82 (I @Tryz.underlying95 (I @Tryz.underlying96 (I @Tryz.underlying97 (I @Tryz.underlying103 @Tryz.underlying107))))))))))
def und2 := I @Tryz.underlying109 (I @Tryz.underlying110 (I @Tryz.underlying119 (I @Tryz.underlying128 (I @Tryz.underlying131 (I @Tryz.underlying133 (I @Tryz.underlying189 (I @Tryz.underlying208 (I @Tryz.underlying209 (I @Tryz.underlying219 (I @Tryz.underlying220 @Tryz.underlying227))))))))))
def und3 := I @Tryz.underlying230 (I @Tryz.underlying241 (I @Tryz.underlying242 @Tryz.underlying243))
theorem go4 : isGo Tryz.prog 4 := gq Tryz.func4 rfl (by kernel_rfl)
theorem go5 : isGo Tryz.prog 5 := gq Tryz.func5 rfl (by kernel_rfl)
theorem go7 : isGo Tryz.prog 7 := gq Tryz.func7 rfl (by kernel_rfl)
theorem go9 : isGo Tryz.prog 9 := gq Tryz.func9 rfl (by kernel_rfl)
theorem go10 : isGo Tryz.prog 10 := gq Tryz.func10 rfl (by kernel_rfl)
theorem go11 : isGo Tryz.prog 11 := gq Tryz.func11 rfl (by kernel_rfl)
theorem go13 : isGo Tryz.prog 13 := gq Tryz.func13 rfl (by kernel_rfl)
theorem go14 : isGo Tryz.prog 14 := gq Tryz.func14 rfl (by kernel_rfl)
theorem go15 : isGo Tryz.prog 15 := gq Tryz.func15 rfl (by kernel_rfl)
theorem go16 : isGo Tryz.prog 16 := gq Tryz.func16 rfl (by kernel_rfl)
theorem go17 : isGo Tryz.prog 17 := gq Tryz.func17 rfl (by kernel_rfl)
theorem go18 : isGo Tryz.prog 18 := gq Tryz.func18 rfl (by kernel_rfl)
theorem go19 : isGo Tryz.prog 19 := gq Tryz.func19 rfl (by kernel_rfl)
theorem go20 : isGo Tryz.prog 20 := gq Tryz.func20 rfl (by kernel_rfl)
theorem go21 : isGo Tryz.prog 21 := gq Tryz.func21 rfl (by kernel_rfl)
theorem go22 : isGo Tryz.prog 22 := gq Tryz.func22 rfl (by kernel_rfl)
theorem go23 : isGo Tryz.prog 23 := gq Tryz.func23 rfl (by kernel_rfl)
theorem go24 : isGo Tryz.prog 24 := gq Tryz.func24 rfl (by kernel_rfl)
theorem go25 : isGo Tryz.prog 25 := gq Tryz.func25 rfl (by kernel_rfl)
theorem go26 : isGo Tryz.prog 26 := gq Tryz.func26 rfl (by kernel_rfl)
theorem go27 : isGo Tryz.prog 27 := gq Tryz.func27 rfl (by kernel_rfl)
theorem go28 : isGo Tryz.prog 28 := gq Tryz.func28 rfl (by kernel_rfl)
theorem go29 : isGo Tryz.prog 29 := gq Tryz.func29 rfl (by kernel_rfl)
theorem go30 : isGo Tryz.prog 30 := gq Tryz.func30 rfl (by kernel_rfl)
theorem go31 : isGo Tryz.prog 31 := gq Tryz.func31 rfl (by kernel_rfl)
theorem go32 : isGo Tryz.prog 32 := gq Tryz.func32 rfl (by kernel_rfl)
theorem go33 : isGo Tryz.prog 33 := gq Tryz.func33 rfl (by kernel_rfl)
theorem go34 : isGo Tryz.prog 34 := gq Tryz.func34 rfl (by kernel_rfl)
theorem go35 : isGo Tryz.prog 35 := gq Tryz.func35 rfl (by kernel_rfl)
theorem go36 : isGo Tryz.prog 36 := gq Tryz.func36 rfl (by kernel_rfl)
theorem go37 : isGo Tryz.prog 37 := gq Tryz.func37 rfl (by kernel_rfl)
theorem go38 : isGo Tryz.prog 38 := gq Tryz.func38 rfl (by kernel_rfl)
theorem go39 : isGo Tryz.prog 39 := gq Tryz.func39 rfl (by kernel_rfl)
theorem go40 : isGo Tryz.prog 40 := gq Tryz.func40 rfl (by kernel_rfl)
theorem go41 : isGo Tryz.prog 41 := gq Tryz.func41 rfl (by kernel_rfl)
theorem go42 : isGo Tryz.prog 42 := gq Tryz.func42 rfl (by kernel_rfl)
theorem go43 : isGo Tryz.prog 43 := gq Tryz.func43 rfl (by kernel_rfl)
theorem go44 : isGo Tryz.prog 44 := gq Tryz.func44 rfl (by kernel_rfl)
theorem go45 : isGo Tryz.prog 45 := gq Tryz.func45 rfl (by kernel_rfl)
theorem go46 : isGo Tryz.prog 46 := gq Tryz.func46 rfl (by kernel_rfl)
theorem go47 : isGo Tryz.prog 47 := gq Tryz.func47 rfl (by kernel_rfl)
theorem go48 : isGo Tryz.prog 48 := gq Tryz.func48 rfl (by kernel_rfl)
theorem go49 : isGo Tryz.prog 49 := gq Tryz.func49 rfl (by kernel_rfl)
theorem go50 : isGo Tryz.prog 50 := gq Tryz.func50 rfl (by kernel_rfl)
theorem go51 : isGo Tryz.prog 51 := gq Tryz.func51 rfl (by kernel_rfl)
theorem go52 : isGo Tryz.prog 52 := gq Tryz.func52 rfl (by kernel_rfl)
theorem go53 : isGo Tryz.prog 53 := gq Tryz.func53 rfl (by kernel_rfl)
theorem go54 : isGo Tryz.prog 54 := gq Tryz.func54 rfl (by kernel_rfl)
theorem go55 : isGo Tryz.prog 55 := gq Tryz.func55 rfl (by kernel_rfl)
theorem go56 : isGo Tryz.prog 56 := gq Tryz.func56 rfl (by kernel_rfl)
theorem go57 : isGo Tryz.prog 57 := gq Tryz.func57 rfl (by kernel_rfl)
theorem go58 : isGo Tryz.prog 58 := gq Tryz.func58 rfl (by kernel_rfl)
theorem go59 : isGo Tryz.prog 59 := gq Tryz.func59 rfl (by kernel_rfl)
theorem go60 : isGo Tryz.prog 60 := gq Tryz.func60 rfl (by kernel_rfl)
theorem go61 : isGo Tryz.prog 61 := gq Tryz.func61 rfl (by kernel_rfl)
theorem go62 : isGo Tryz.prog 62 := gq Tryz.func62 rfl (by kernel_rfl)
theorem go63 : isGo Tryz.prog 63 := gq Tryz.func63 rfl (by kernel_rfl)
theorem go64 : isGo Tryz.prog 64 := gq Tryz.func64 rfl (by kernel_rfl)
theorem go65 : isGo Tryz.prog 65 := gq Tryz.func65 rfl (by kernel_rfl)
theorem go66 : isGo Tryz.prog 66 := gq Tryz.func66 rfl (by kernel_rfl)
theorem go67 : isGo Tryz.prog 67 := gq Tryz.func67 rfl (by kernel_rfl)
theorem go68 : isGo Tryz.prog 68 := gq Tryz.func68 rfl (by kernel_rfl)
theorem go69 : isGo Tryz.prog 69 := gq Tryz.func69 rfl (by kernel_rfl)
theorem go70 : isGo Tryz.prog 70 := gq Tryz.func70 rfl (by kernel_rfl)
theorem go71 : isGo Tryz.prog 71 := gq Tryz.func71 rfl (by kernel_rfl)
theorem go72 : isGo Tryz.prog 72 := gq Tryz.func72 rfl (by kernel_rfl)
theorem go73 : isGo Tryz.prog 73 := gq Tryz.func73 rfl (by kernel_rfl)
theorem go74 : isGo Tryz.prog 74 := gq Tryz.func74 rfl (by kernel_rfl)
theorem go75 : isGo Tryz.prog 75 := gq Tryz.func75 rfl (by kernel_rfl)
theorem go76 : isGo Tryz.prog 76 := gq Tryz.func76 rfl (by kernel_rfl)
theorem go77 : isGo Tryz.prog 77 := gq Tryz.func77 rfl (by kernel_rfl)
theorem go78 : isGo Tryz.prog 78 := gq Tryz.func78 rfl (by kernel_rfl)
theorem go79 : isGo Tryz.prog 79 := gq Tryz.func79 rfl (by kernel_rfl)
theorem go81 : isGo Tryz.prog 81 := gq Tryz.func81 rfl (by kernel_rfl)
theorem go82 : isGo Tryz.prog 82 := gq Tryz.func82 rfl (by kernel_rfl)
theorem go83 : isGo Tryz.prog 83 := gq Tryz.func83 rfl (by kernel_rfl)
theorem go84 : isGo Tryz.prog 84 := gq Tryz.func84 rfl (by kernel_rfl)
theorem go85 : isGo Tryz.prog 85 := gq Tryz.func85 rfl (by kernel_rfl)
theorem go86 : isGo Tryz.prog 86 := gq Tryz.func86 rfl (by kernel_rfl)
theorem go87 : isGo Tryz.prog 87 := gq Tryz.func87 rfl (by kernel_rfl)
theorem go88 : isGo Tryz.prog 88 := gq Tryz.func88 rfl (by kernel_rfl)
theorem go89 : isGo Tryz.prog 89 := gq Tryz.func89 rfl (by kernel_rfl)
theorem go90 : isGo Tryz.prog 90 := gq Tryz.func90 rfl (by kernel_rfl)
theorem go91 : isGo Tryz.prog 91 := gq Tryz.func91 rfl (by kernel_rfl)
theorem go92 : isGo Tryz.prog 92 := gq Tryz.func92 rfl (by kernel_rfl)
theorem go93 : isGo Tryz.prog 93 := gq Tryz.func93 rfl (by kernel_rfl)
theorem go94 : isGo Tryz.prog 94 := gq Tryz.func94 rfl (by kernel_rfl)
theorem go95 : isGo Tryz.prog 95 := gq Tryz.func95 rfl (by kernel_rfl)
theorem go96 : isGo Tryz.prog 96 := gq Tryz.func96 rfl (by kernel_rfl)
theorem go97 : isGo Tryz.prog 97 := gq Tryz.func97 rfl (by kernel_rfl)
theorem go98 : isGo Tryz.prog 98 := gq Tryz.func98 rfl (by kernel_rfl)
theorem go99 : isGo Tryz.prog 99 := gq Tryz.func99 rfl (by kernel_rfl)
theorem go100 : isGo Tryz.prog 100 := gq Tryz.func100 rfl (by kernel_rfl)
theorem go101 : isGo Tryz.prog 101 := gq Tryz.func101 rfl (by kernel_rfl)
theorem go102 : isGo Tryz.prog 102 := gq Tryz.func102 rfl (by kernel_rfl)
theorem go103 : isGo Tryz.prog 103 := gq Tryz.func103 rfl (by kernel_rfl)
theorem go104 : isGo Tryz.prog 104 := gq Tryz.func104 rfl (by kernel_rfl)
theorem go105 : isGo Tryz.prog 105 := gq Tryz.func105 rfl (by kernel_rfl)
theorem go106 : isGo Tryz.prog 106 := gq Tryz.func106 rfl (by kernel_rfl)
theorem go107 : isGo Tryz.prog 107 := gq Tryz.func107 rfl (by kernel_rfl)
theorem go108 : isGo Tryz.prog 108 := gq Tryz.func108 rfl (by kernel_rfl)
theorem go109 : isGo Tryz.prog 109 := gq Tryz.func109 rfl (by kernel_rfl)
theorem go110 : isGo Tryz.prog 110 := gq Tryz.func110 rfl (by kernel_rfl)
theorem go111 : isGo Tryz.prog 111 := gq Tryz.func111 rfl (by kernel_rfl)
theorem go114 : isGo Tryz.prog 114 := gq Tryz.func114 rfl (by kernel_rfl)
theorem go116 : isGo Tryz.prog 116 := gq Tryz.func116 rfl (by kernel_rfl)
theorem go120 : isGo Tryz.prog 120 := gq Tryz.func120 rfl (by kernel_rfl)
theorem go122 : isGo Tryz.prog 122 := gq Tryz.func122 rfl (by kernel_rfl)
theorem go124 : isGo Tryz.prog 124 := gq Tryz.func124 rfl (by kernel_rfl)
theorem go125 : isGo Tryz.prog 125 := gq Tryz.func125 rfl (by kernel_rfl)
theorem go126 : isGo Tryz.prog 126 := gq Tryz.func126 rfl (by kernel_rfl)
theorem go127 : isGo Tryz.prog 127 := gq Tryz.func127 rfl (by kernel_rfl)
theorem go128 : isGo Tryz.prog 128 := gq Tryz.func128 rfl (by kernel_rfl)
theorem go129 : isGo Tryz.prog 129 := gq Tryz.func129 rfl (by kernel_rfl)
theorem go130 : isGo Tryz.prog 130 := gq Tryz.func130 rfl (by kernel_rfl)
theorem go131 : isGo Tryz.prog 131 := gq Tryz.func131 rfl (by kernel_rfl)
theorem go132 : isGo Tryz.prog 132 := gq Tryz.func132 rfl (by kernel_rfl)
theorem go133 : isGo Tryz.prog 133 := gq Tryz.func133 rfl (by kernel_rfl)
theorem go134 : isGo Tryz.prog 134 := gq Tryz.func134 rfl (by kernel_rfl)
theorem go135 : isGo Tryz.prog 135 := gq Tryz.func135 rfl (by kernel_rfl)
theorem go136 : isGo Tryz.prog 136 := gq Tryz.func136 rfl (by kernel_rfl)
theorem go137 : isGo Tryz.prog 137 := gq Tryz.func137 rfl (by kernel_rfl)
theorem go138 : isGo Tryz.prog 138 := gq Tryz.func138 rfl (by kernel_rfl)
theorem go139 : isGo Tryz.prog 139 := gq Tryz.func139 rfl (by kernel_rfl)
theorem go140 : isGo Tryz.prog 140 := gq Tryz.func140 rfl (by kernel_rfl)
theorem go141 : isGo Tryz.prog 141 := gq Tryz.func141 rfl (by kernel_rfl)
theorem go142 : isGo Tryz.prog 142 := gq Tryz.func142 rfl (by kernel_rfl)
theorem go143 : isGo Tryz.prog 143 := gq Tryz.func143 rfl (by kernel_rfl)
theorem go144 : isGo Tryz.prog 144 := gq Tryz.func144 rfl (by kernel_rfl)
theorem go145 : isGo Tryz.prog 145 := gq Tryz.func145 rfl (by kernel_rfl)
theorem go146 : isGo Tryz.prog 146 := gq Tryz.func146 rfl (by kernel_rfl)
theorem go147 : isGo Tryz.prog 147 := gq Tryz.func147 rfl (by kernel_rfl)
theorem go148 : isGo Tryz.prog 148 := gq Tryz.func148 rfl (by kernel_rfl)
theorem go149 : isGo Tryz.prog 149 := gq Tryz.func149 rfl (by kernel_rfl)
theorem go150 : isGo Tryz.prog 150 := gq Tryz.func150 rfl (by kernel_rfl)
theorem go151 : isGo Tryz.prog 151 := gq Tryz.func151 rfl (by kernel_rfl)
theorem go152 : isGo Tryz.prog 152 := gq Tryz.func152 rfl (by kernel_rfl)
theorem go153 : isGo Tryz.prog 153 := gq Tryz.func153 rfl (by kernel_rfl)
theorem go155 : isGo Tryz.prog 155 := gq Tryz.func155 rfl (by kernel_rfl)
theorem go163 : isGo Tryz.prog 163 := gq Tryz.func163 rfl (by kernel_rfl)
theorem go165 : isGo Tryz.prog 165 := gq Tryz.func165 rfl (by kernel_rfl)
theorem go167 : isGo Tryz.prog 167 := gq Tryz.func167 rfl (by kernel_rfl)
theorem go176 : isGo Tryz.prog 176 := gq Tryz.func176 rfl (by kernel_rfl)
theorem go177 : isGo Tryz.prog 177 := gq Tryz.func177 rfl (by kernel_rfl)
theorem go178 : isGo Tryz.prog 178 := gq Tryz.func178 rfl (by kernel_rfl)
theorem go179 : isGo Tryz.prog 179 := gq Tryz.func179 rfl (by kernel_rfl)
theorem go180 : isGo Tryz.prog 180 := gq Tryz.func180 rfl (by kernel_rfl)
theorem go183 : isGo Tryz.prog 183 := gq Tryz.func183 rfl (by kernel_rfl)
theorem go184 : isGo Tryz.prog 184 := gq Tryz.func184 rfl (by kernel_rfl)
theorem go191 : isGo Tryz.prog 191 := gq Tryz.func191 rfl (by kernel_rfl)
theorem go192 : isGo Tryz.prog 192 := gq Tryz.func192 rfl (by kernel_rfl)
theorem go197 : isGo Tryz.prog 197 := gq Tryz.func197 rfl (by kernel_rfl)
theorem go199 : isGo Tryz.prog 199 := gq Tryz.func199 rfl (by kernel_rfl)
theorem go211 : isGo Tryz.prog 211 := gq Tryz.func211 rfl (by kernel_rfl)
theorem go213 : isGo Tryz.prog 213 := gq Tryz.func213 rfl (by kernel_rfl)
theorem go214 : isGo Tryz.prog 214 := gq Tryz.func214 rfl (by kernel_rfl)
theorem go215 : isGo Tryz.prog 215 := gq Tryz.func215 rfl (by kernel_rfl)
theorem go223 : isGo Tryz.prog 223 := gq Tryz.func223 rfl (by kernel_rfl)
def md2 : Nat → List Bool := fun _ => []
def md3 : Nat → List Bool := fun _ => []
def md4 : Nat → List Bool := fun _ => []
def md5 : Nat → List Bool := fun _ => []
def md6 : Nat → List Bool := fun _ => []
def md7 : Nat → List Bool := fun _ => []
def md8 : Nat → List Bool := fun _ => []
def md9 : Nat → List Bool := fun _ => []
def md10 : Nat → List Bool := fun _ => []
def md11 : Nat → List Bool
  | 13 => [false, false, false, true, false, false]
  | _ => []
def md13 : Nat → List Bool
  | 3 => [false, false, false, false, false, false, false, false, false, false]
  | _ => []
def md14 : Nat → List Bool := fun _ => []
def md15 : Nat → List Bool := fun _ => []
def md16 : Nat → List Bool := fun _ => []
def md17 : Nat → List Bool := fun _ => []
def md18 : Nat → List Bool := fun _ => []
def md19 : Nat → List Bool := fun _ => []
def md20 : Nat → List Bool := fun _ => []
def md21 : Nat → List Bool := fun _ => []
def md22 : Nat → List Bool := fun _ => []
def md23 : Nat → List Bool := fun _ => []
def md24 : Nat → List Bool := fun _ => []
def md25 : Nat → List Bool := fun _ => []
def md26 : Nat → List Bool := fun _ => []
def md27 : Nat → List Bool := fun _ => []
def md28 : Nat → List Bool := fun _ => []
def md29 : Nat → List Bool := fun _ => []
def md30 : Nat → List Bool := fun _ => []
def md31 : Nat → List Bool := fun _ => []
def md32 : Nat → List Bool
  | 6 => [false, false, false, false, false, false, false, false, false]
  | _ => []
def md33 : Nat → List Bool := fun _ => []
def md34 : Nat → List Bool
  | 3 => [false, false, false, false, false, false, false, false, false, false, false, false, false, false, false]
  | _ => []
def md35 : Nat → List Bool
  | 1 => [false, false, false, false, false, false, false, false, false, false, false, false, false, false, false, false, false, false, false, true]
  | _ => []
def md36 : Nat → List Bool := fun _ => []
def md38 : Nat → List Bool := fun _ => []
def md39 : Nat → List Bool := fun _ => []
def md40 : Nat → List Bool := fun _ => []
def md41 : Nat → List Bool := fun _ => []
def md42 : Nat → List Bool := fun _ => []
def md43 : Nat → List Bool := fun _ => []
def md44 : Nat → List Bool := fun _ => []
def md45 : Nat → List Bool := fun _ => []
def md46 : Nat → List Bool := fun _ => []
def md47 : Nat → List Bool := fun _ => []
def md48 : Nat → List Bool := fun _ => []
def md49 : Nat → List Bool := fun _ => []
def md50 : Nat → List Bool := fun _ => []
def md51 : Nat → List Bool := fun _ => []
def md52 : Nat → List Bool := fun _ => []
def md53 : Nat → List Bool := fun _ => []
def md54 : Nat → List Bool
  | 2 => [false, false, false, false, false, false, false, false, false, false]
  | 3 => [false, false, false, false, false, false, false, false, false, false, false, false]
  | 6 => [false, false, false, false, false, false, false, false, false, false]
  | _ => []
def md55 : Nat → List Bool := fun _ => []
def md56 : Nat → List Bool := fun _ => []
def md57 : Nat → List Bool
  | 1 => [false, false, false, false, false, false, false, false, false, false, false, false, false]
  | _ => []
def md58 : Nat → List Bool := fun _ => []
def md59 : Nat → List Bool := fun _ => []
def md60 : Nat → List Bool := fun _ => []
def md61 : Nat → List Bool := fun _ => []
def md62 : Nat → List Bool := fun _ => []
def md63 : Nat → List Bool
  | 15 => [false, false, false, false, false, false, false, false, false, false, false, false, false, false, false, false]
  | 17 => [false, false, false, false, false, false, false, false, false, false, false, false, false, false, false]
  | 21 => [false, false, false, false, false, false, false, false, false, false, false, false, false, false, false, false, false, false, false]
  | 23 => [false, false, false, false, false, false, false, false, false, false, false, false, false, false, false]
  | 25 => [false, false, false, false, false, false, false, false, false, false, false, false, false, false, false]
  | 27 => [false, false, false, false, false, false, false, false, false, false, false, false, false, false, false, false]
  | 29 => [false, false, false, false, false, false, false, false, false, false, false, false, false, false, false, false, false, false, false]
  | 31 => [false, false, false, false, false, false, false, false, false, false, false, false, false, false, false]
  | 36 => [false, false, false, false, false, false, false, false, false, false, false, false, false, false, false, false]
  | _ => []
def md64 : Nat → List Bool := fun _ => []
def md65 : Nat → List Bool := fun _ => []
def md66 : Nat → List Bool
  | 4 => [false, false, false, false, false, false, false, false, false, false]
  | _ => []
def md67 : Nat → List Bool := fun _ => []
def md68 : Nat → List Bool := fun _ => []
def md69 : Nat → List Bool := fun _ => []
def md70 : Nat → List Bool := fun _ => []
def md71 : Nat → List Bool := fun _ => []
def md74 : Nat → List Bool
  | 3 => [false, false, false, false, false, false, false, false, false, false, false, false]
  | _ => []
def md76 : Nat → List Bool := fun _ => []
def md77 : Nat → List Bool := fun _ => []
def md79 : Nat → List Bool := fun _ => []
def md81 : Nat → List Bool := fun _ => []
def md82 : Nat → List Bool := fun _ => []
def md83 : Nat → List Bool := fun _ => []
def md84 : Nat → List Bool := fun _ => []
def md85 : Nat → List Bool := fun _ => []
def md86 : Nat → List Bool
  | 7 => [false, false, false, false, false, false, false, false, false, false, false, false, false, false, false, false]
  | _ => []
def md87 : Nat → List Bool := fun _ => []
def md88 : Nat → List Bool := fun _ => []
def md89 : Nat → List Bool := fun _ => []
def md90 : Nat → List Bool := fun _ => []
def md91 : Nat → List Bool := fun _ => []
def md92 : Nat → List Bool
  | 5 => [false, false, false, false, false, false, false, false, false]
  | _ => []
def md93 : Nat → List Bool := fun _ => []
def md94 : Nat → List Bool := fun _ => []
def md95 : Nat → List Bool := fun _ => []
def md96 : Nat → List Bool
  | 3 => [false, false, false, false, false, false, false, false, false, false, false, true, false]
  | _ => []
def md97 : Nat → List Bool := fun _ => []
def md98 : Nat → List Bool := fun _ => []
def md99 : Nat → List Bool := fun _ => []
def md100 : Nat → List Bool := fun _ => []
def md101 : Nat → List Bool := fun _ => []
def md102 : Nat → List Bool := fun _ => []
def md103 : Nat → List Bool := fun _ => []
def md104 : Nat → List Bool := fun _ => []
def md105 : Nat → List Bool := fun _ => []
def md106 : Nat → List Bool := fun _ => []
def md107 : Nat → List Bool
  | 4 => [false, false, false, false, false, false, false, false, false, false]
  | _ => []
def md108 : Nat → List Bool := fun _ => []
def md109 : Nat → List Bool := fun _ => []
def md110 : Nat → List Bool := fun _ => []
def md111 : Nat → List Bool := fun _ => []
def md114 : Nat → List Bool := fun _ => []
def md116 : Nat → List Bool := fun _ => []
def md120 : Nat → List Bool := fun _ => []
def md122 : Nat → List Bool := fun _ => []
def md124 : Nat → List Bool := fun _ => []
def md125 : Nat → List Bool := fun _ => []
def md126 : Nat → List Bool := fun _ => []
def md127 : Nat → List Bool := fun _ => []
def md128 : Nat → List Bool := fun _ => []
def md129 : Nat → List Bool := fun _ => []
def md130 : Nat → List Bool := fun _ => []
def md131 : Nat → List Bool := fun _ => []
def md132 : Nat → List Bool := fun _ => []
def md133 : Nat → List Bool := fun _ => []
def md134 : Nat → List Bool := fun _ => []
def md135 : Nat → List Bool := fun _ => []
def md136 : Nat → List Bool := fun _ => []
def md137 : Nat → List Bool := fun _ => []
def md138 : Nat → List Bool := fun _ => []
def md140 : Nat → List Bool := fun _ => []
def md141 : Nat → List Bool := fun _ => []
def md142 : Nat → List Bool := fun _ => []
def md143 : Nat → List Bool
  | 1 => [false, false, false, false, false, false, false, false]
  | _ => []
def md144 : Nat → List Bool := fun _ => []
def md145 : Nat → List Bool := fun _ => []
def md146 : Nat → List Bool := fun _ => []
def md147 : Nat → List Bool := fun _ => []
def md148 : Nat → List Bool := fun _ => []
def md149 : Nat → List Bool := fun _ => []
def md150 : Nat → List Bool
  | 1 => [false, false, false, false, false, false, false]
  | _ => []
def md151 : Nat → List Bool := fun _ => []
def md152 : Nat → List Bool := fun _ => []
def md153 : Nat → List Bool := fun _ => []
def md155 : Nat → List Bool := fun _ => []
def md163 : Nat → List Bool := fun _ => []
def md165 : Nat → List Bool := fun _ => []
def md167 : Nat → List Bool := fun _ => []
def md176 : Nat → List Bool := fun _ => []
def md177 : Nat → List Bool := fun _ => []
def md178 : Nat → List Bool
  | 6 => [false, false, false, false, false, false, false, false]
  | _ => []
def md179 : Nat → List Bool := fun _ => []
def md180 : Nat → List Bool
  | 1 => [false, false, false, false, false, false, false, false, false, false]
  | 3 => [false, false, false, false, false, false, false, false, false, false]
  | _ => []
def md183 : Nat → List Bool := fun _ => []
def md184 : Nat → List Bool := fun _ => []
def md191 : Nat → List Bool := fun _ => []
def md192 : Nat → List Bool := fun _ => []
def md197 : Nat → List Bool := fun _ => []
def md199 : Nat → List Bool := fun _ => []
def md213 : Nat → List Bool := fun _ => []
def md214 : Nat → List Bool := fun _ => []
def md215 : Nat → List Bool
  | 4 => [false, false, false, false, false, false, false, false, false, false, false, false, false, false, false, false, false]
  | _ => []
def md223 : Nat → List Bool := fun _ => []
def Zz := (I (I (I (I (I @q0 @q1) (I @q2 @q3)) (I (I @q4 @q5) (I @q6 @q7))) (I (I (I @q8 @q9) (I @zq0 @zq1)) (I (I @zq2 @zq3) (I @zq4 @zr0)))) (I (I (I (I @zr1 @zr2) (I @zr3 @exists_true_left)) (I (I @implies_true.{0} @implies_true.{1}) (I @exists_eq'.{1} @cond_true.{0}))) (I (I (I @cond_true.{1} @cond_false.{0}) (I @cond_false.{1} @flatP.eq_1)) (I (I @nilI.eq_1 @nilI.eq_2) (I @nilI.eq_3 (I @ifaA.eq_1 @ifaA.eq_2))))))
def Zt := (I (I (I @tys0 @tys1) (I @tys2 @tys3)) (I (I @und0 @und1) (I @und2 @und3)))
def Zu := I @Zz @Zt
def Z2 := (I @Tryz.ntmps2 (I @Tryz.results2 @md2.eq_1))
def Z3 := (I @Tryz.ntmps3 (I @Tryz.results3 @md3.eq_1))
def Z4 := (I @Tryz.ntmps4 (I @Tryz.results4 @md4.eq_1))
def Z5 := (I @Tryz.ntmps5 (I @Tryz.results5 @md5.eq_1))
def Z6 := (I @Tryz.ntmps6 (I @Tryz.results6 @md6.eq_1))
def Z7 := (I @Tryz.ntmps7 (I @Tryz.results7 @md7.eq_1))
def Z8 := (I @Tryz.ntmps8 (I @Tryz.results8 @md8.eq_1))
def Z9 := (I @Tryz.ntmps9 (I @Tryz.results9 @md9.eq_1))
def Z10 := (I @Tryz.ntmps10 (I @Tryz.results10 @md10.eq_1))
def Z11 := (I (I @Tryz.ntmps11 @Tryz.results11) (I @md11.eq_1 @md11.eq_2))
def Z13 := (I (I @Tryz.ntmps13 @Tryz.results13) (I @md13.eq_1 @md13.eq_2))
def Z14 := (I @Tryz.ntmps14 (I @Tryz.results14 @md14.eq_1))
def Z15 := (I @Tryz.ntmps15 (I @Tryz.results15 @md15.eq_1))
def Z16 := (I @Tryz.ntmps16 (I @Tryz.results16 @md16.eq_1))
def Z17 := (I @Tryz.ntmps17 (I @Tryz.results17 @md17.eq_1))
def Z18 := (I @Tryz.ntmps18 (I @Tryz.results18 @md18.eq_1))
def Z19 := (I @Tryz.ntmps19 (I @Tryz.results19 @md19.eq_1))
def Z20 := (I @Tryz.ntmps20 (I @Tryz.results20 @md20.eq_1))
def Z21 := (I @Tryz.ntmps21 (I @Tryz.results21 @md21.eq_1))
def Z22 := (I @Tryz.ntmps22 (I @Tryz.results22 @md22.eq_1))
def Z23 := (I @Tryz.ntmps23 (I @Tryz.results23 @md23.eq_1))
def Z24 := (I @Tryz.ntmps24 (I @Tryz.results24 @md24.eq_1))
def Z25 := (I @Tryz.ntmps25 (I @Tryz.results25 @md25.eq_1))
def Z26 := (I @Tryz.ntmps26 (I @Tryz.results26 @md26.eq_1))
def Z27 := (I @Tryz.ntmps27 (I @Tryz.results27 @md27.eq_1))
def Z28 := (I @Tryz.ntmps28 (I @Tryz.results28 @md28.eq_1))
def Z29 := (I @Tryz.ntmps29 (I @Tryz.results29 @md29.eq_1))
def Z30 := (I @Tryz.ntmps30 (I @Tryz.results30 @md30.eq_1))
def Z31 := (I @Tryz.ntmps31 (I @Tryz.results31 @md31.eq_1))
def Z33 := (I @Tryz.ntmps33 (I @Tryz.results33 @md33.eq_1))
def Z34 := (I (I @Tryz.ntmps34 @Tryz.results34) (I @md34.eq_1 @md34.eq_2))
def Z35 := (I (I @Tryz.ntmps35 @Tryz.results35) (I @md35.eq_1 @md35.eq_2))
def Z36 := (I @Tryz.ntmps36 (I @Tryz.results36 @md36.eq_1))
def Z38 := (I @Tryz.ntmps38 (I @Tryz.results38 @md38.eq_1))
def Z39 := (I @Tryz.ntmps39 (I @Tryz.results39 @md39.eq_1))
def Z40 := (I @Tryz.ntmps40 (I @Tryz.results40 @md40.eq_1))
def Z41 := (I @Tryz.ntmps41 (I @Tryz.results41 @md41.eq_1))
def Z42 := (I @Tryz.ntmps42 (I @Tryz.results42 @md42.eq_1))
def Z43 := (I @Tryz.ntmps43 (I @Tryz.results43 @md43.eq_1))
def Z44 := (I @Tryz.ntmps44 (I @Tryz.results44 @md44.eq_1))
def Z45 := (I @Tryz.ntmps45 (I @Tryz.results45 @md45.eq_1))
def Z46 := (I @Tryz.ntmps46 (I @Tryz.results46 @md46.eq_1))
def Z47 := (I @Tryz.ntmps47 (I @Tryz.results47 @md47.eq_1))
def Z48 := (I @Tryz.ntmps48 (I @Tryz.results48 @md48.eq_1))
def Z49 := (I @Tryz.ntmps49 (I @Tryz.results49 @md49.eq_1))
def Z50 := (I @Tryz.ntmps50 (I @Tryz.results50 @md50.eq_1))
def Z51 := (I @Tryz.ntmps51 (I @Tryz.results51 @md51.eq_1))
def Z52 := (I @Tryz.ntmps52 (I @Tryz.results52 @md52.eq_1))
def Z53 := (I @Tryz.ntmps53 (I @Tryz.results53 @md53.eq_1))
def Z54 := (I (I @Tryz.ntmps54 (I @Tryz.results54 @md54.eq_1)) (I @md54.eq_2 (I @md54.eq_3 @md54.eq_4)))
def Z55 := (I @Tryz.ntmps55 (I @Tryz.results55 @md55.eq_1))
def Z56 := (I @Tryz.ntmps56 (I @Tryz.results56 @md56.eq_1))
def Z57 := (I (I @Tryz.ntmps57 @Tryz.results57) (I @md57.eq_1 @md57.eq_2))
def Z58 := (I @Tryz.ntmps58 (I @Tryz.results58 @md58.eq_1))
def Z59 := (I @Tryz.ntmps59 (I @Tryz.results59 @md59.eq_1))
def Z60 := (I @Tryz.ntmps60 (I @Tryz.results60 @md60.eq_1))
def Z61 := (I @Tryz.ntmps61 (I @Tryz.results61 @md61.eq_1))
def Z62 := (I @Tryz.ntmps62 (I @Tryz.results62 @md62.eq_1))
def Z63 := (I (I (I @Tryz.ntmps63 (I @Tryz.results63 @md63.eq_1)) (I @md63.eq_2 (I @md63.eq_3 @md63.eq_4))) (I (I @md63.eq_5 (I @md63.eq_6 @md63.eq_7)) (I @md63.eq_8 (I @md63.eq_9 @md63.eq_10))))
def Z64 := (I @Tryz.ntmps64 (I @Tryz.results64 @md64.eq_1))
def Z65 := (I @Tryz.ntmps65 (I @Tryz.results65 @md65.eq_1))
def Z66 := (I (I @Tryz.ntmps66 @Tryz.results66) (I @md66.eq_1 @md66.eq_2))
def Z67 := (I @Tryz.ntmps67 (I @Tryz.results67 @md67.eq_1))
def Z68 := (I @Tryz.ntmps68 (I @Tryz.results68 @md68.eq_1))
def Z69 := (I @Tryz.ntmps69 (I @Tryz.results69 @md69.eq_1))
def Z74 := (I (I @Tryz.ntmps74 @Tryz.results74) (I @md74.eq_1 @md74.eq_2))
def Z76 := (I @Tryz.ntmps76 (I @Tryz.results76 @md76.eq_1))
def Z77 := (I @Tryz.ntmps77 (I @Tryz.results77 @md77.eq_1))
def Z79 := (I @Tryz.ntmps79 (I @Tryz.results79 @md79.eq_1))
def Z81 := (I @Tryz.ntmps81 (I @Tryz.results81 @md81.eq_1))
def Z82 := (I @Tryz.ntmps82 (I @Tryz.results82 @md82.eq_1))
def Z83 := (I @Tryz.ntmps83 (I @Tryz.results83 @md83.eq_1))
def Z84 := (I @Tryz.ntmps84 (I @Tryz.results84 @md84.eq_1))
def Z85 := (I @Tryz.ntmps85 (I @Tryz.results85 @md85.eq_1))
def Z86 := (I (I @Tryz.ntmps86 @Tryz.results86) (I @md86.eq_1 @md86.eq_2))
def Z87 := (I @Tryz.ntmps87 (I @Tryz.results87 @md87.eq_1))
def Z88 := (I @Tryz.ntmps88 (I @Tryz.results88 @md88.eq_1))
def Z89 := (I @Tryz.ntmps89 (I @Tryz.results89 @md89.eq_1))
def Z90 := (I @Tryz.ntmps90 (I @Tryz.results90 @md90.eq_1))
def Z91 := (I @Tryz.ntmps91 (I @Tryz.results91 @md91.eq_1))
def Z92 := (I (I @Tryz.ntmps92 @Tryz.results92) (I @md92.eq_1 @md92.eq_2))
def Z93 := (I @Tryz.ntmps93 (I @Tryz.results93 @md93.eq_1))
def Z94 := (I @Tryz.ntmps94 (I @Tryz.results94 @md94.eq_1))
def Z95 := (I @Tryz.ntmps95 (I @Tryz.results95 @md95.eq_1))
def Z96 := (I (I @Tryz.ntmps96 @Tryz.results96) (I @md96.eq_1 @md96.eq_2))
def Z97 := (I @Tryz.ntmps97 (I @Tryz.results97 @md97.eq_1))
def Z98 := (I @Tryz.ntmps98 (I @Tryz.results98 @md98.eq_1))
def Z99 := (I @Tryz.ntmps99 (I @Tryz.results99 @md99.eq_1))
def Z100 := (I @Tryz.ntmps100 (I @Tryz.results100 @md100.eq_1))
def Z101 := (I @Tryz.ntmps101 (I @Tryz.results101 @md101.eq_1))
def Z102 := (I @Tryz.ntmps102 (I @Tryz.results102 @md102.eq_1))
def Z103 := (I @Tryz.ntmps103 (I @Tryz.results103 @md103.eq_1))
def Z104 := (I @Tryz.ntmps104 (I @Tryz.results104 @md104.eq_1))
def Z105 := (I @Tryz.ntmps105 (I @Tryz.results105 @md105.eq_1))
def Z106 := (I @Tryz.ntmps106 (I @Tryz.results106 @md106.eq_1))
def Z107 := (I (I @Tryz.ntmps107 @Tryz.results107) (I @md107.eq_1 @md107.eq_2))
def Z108 := (I @Tryz.ntmps108 (I @Tryz.results108 @md108.eq_1))
def Z109 := (I @Tryz.ntmps109 (I @Tryz.results109 @md109.eq_1))
def Z110 := (I @Tryz.ntmps110 (I @Tryz.results110 @md110.eq_1))
def Z111 := (I @Tryz.ntmps111 (I @Tryz.results111 @md111.eq_1))
def Z114 := (I @Tryz.ntmps114 (I @Tryz.results114 @md114.eq_1))
def Z116 := (I @Tryz.ntmps116 (I @Tryz.results116 @md116.eq_1))
def Z120 := (I @Tryz.ntmps120 (I @Tryz.results120 @md120.eq_1))
def Z122 := (I @Tryz.ntmps122 (I @Tryz.results122 @md122.eq_1))
def Z124 := (I @Tryz.ntmps124 (I @Tryz.results124 @md124.eq_1))
def Z125 := (I @Tryz.ntmps125 (I @Tryz.results125 @md125.eq_1))
def Z126 := (I @Tryz.ntmps126 (I @Tryz.results126 @md126.eq_1))
def Z127 := (I @Tryz.ntmps127 (I @Tryz.results127 @md127.eq_1))
def Z128 := (I @Tryz.ntmps128 (I @Tryz.results128 @md128.eq_1))
def Z129 := (I @Tryz.ntmps129 (I @Tryz.results129 @md129.eq_1))
def Z130 := (I @Tryz.ntmps130 (I @Tryz.results130 @md130.eq_1))
def Z131 := (I @Tryz.ntmps131 (I @Tryz.results131 @md131.eq_1))
def Z132 := (I @Tryz.ntmps132 (I @Tryz.results132 @md132.eq_1))
def Z133 := (I @Tryz.ntmps133 (I @Tryz.results133 @md133.eq_1))
def Z134 := (I @Tryz.ntmps134 (I @Tryz.results134 @md134.eq_1))
def Z135 := (I @Tryz.ntmps135 (I @Tryz.results135 @md135.eq_1))
def Z136 := (I @Tryz.ntmps136 (I @Tryz.results136 @md136.eq_1))
def Z137 := (I @Tryz.ntmps137 (I @Tryz.results137 @md137.eq_1))
def Z138 := (I @Tryz.ntmps138 (I @Tryz.results138 @md138.eq_1))
def Z140 := (I @Tryz.ntmps140 (I @Tryz.results140 @md140.eq_1))
def Z141 := (I @Tryz.ntmps141 (I @Tryz.results141 @md141.eq_1))
def Z142 := (I @Tryz.ntmps142 (I @Tryz.results142 @md142.eq_1))
def Z143 := (I (I @Tryz.ntmps143 @Tryz.results143) (I @md143.eq_1 @md143.eq_2))
def Z144 := (I @Tryz.ntmps144 (I @Tryz.results144 @md144.eq_1))
def Z145 := (I @Tryz.ntmps145 (I @Tryz.results145 @md145.eq_1))
def Z146 := (I @Tryz.ntmps146 (I @Tryz.results146 @md146.eq_1))
def Z147 := (I @Tryz.ntmps147 (I @Tryz.results147 @md147.eq_1))
def Z148 := (I @Tryz.ntmps148 (I @Tryz.results148 @md148.eq_1))
def Z149 := (I @Tryz.ntmps149 (I @Tryz.results149 @md149.eq_1))
def Z150 := (I (I @Tryz.ntmps150 @Tryz.results150) (I @md150.eq_1 @md150.eq_2))
def Z151 := (I @Tryz.ntmps151 (I @Tryz.results151 @md151.eq_1))
def Z152 := (I @Tryz.ntmps152 (I @Tryz.results152 @md152.eq_1))
def Z153 := (I @Tryz.ntmps153 (I @Tryz.results153 @md153.eq_1))
def Z155 := (I @Tryz.ntmps155 (I @Tryz.results155 @md155.eq_1))
def Z163 := (I @Tryz.ntmps163 (I @Tryz.results163 @md163.eq_1))
def Z165 := (I @Tryz.ntmps165 (I @Tryz.results165 @md165.eq_1))
def Z167 := (I @Tryz.ntmps167 (I @Tryz.results167 @md167.eq_1))
def Z176 := (I @Tryz.ntmps176 (I @Tryz.results176 @md176.eq_1))
def Z177 := (I @Tryz.ntmps177 (I @Tryz.results177 @md177.eq_1))
def Z178 := (I (I @Tryz.ntmps178 @Tryz.results178) (I @md178.eq_1 @md178.eq_2))
def Z179 := (I @Tryz.ntmps179 (I @Tryz.results179 @md179.eq_1))
def Z180 := (I (I @Tryz.ntmps180 @Tryz.results180) (I @md180.eq_1 (I @md180.eq_2 @md180.eq_3)))
def Z183 := (I @Tryz.ntmps183 (I @Tryz.results183 @md183.eq_1))
def Z184 := (I @Tryz.ntmps184 (I @Tryz.results184 @md184.eq_1))
def Z191 := (I @Tryz.ntmps191 (I @Tryz.results191 @md191.eq_1))
def Z192 := (I @Tryz.ntmps192 (I @Tryz.results192 @md192.eq_1))
def Z197 := (I @Tryz.ntmps197 (I @Tryz.results197 @md197.eq_1))
def Z199 := (I @Tryz.ntmps199 (I @Tryz.results199 @md199.eq_1))
def Z213 := (I @Tryz.ntmps213 (I @Tryz.results213 @md213.eq_1))
def Z214 := (I @Tryz.ntmps214 (I @Tryz.results214 @md214.eq_1))
def Z215 := (I (I @Tryz.ntmps215 @Tryz.results215) (I @md215.eq_1 @md215.eq_2))
def Z223 := (I @Tryz.ntmps223 (I @Tryz.results223 @md223.eq_1))
end Go.Proofs.YtodjjpmigcacoaaGreatDoor
