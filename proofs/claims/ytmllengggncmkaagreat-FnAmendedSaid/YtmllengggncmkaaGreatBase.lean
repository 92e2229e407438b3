/- Closed facts of the program, for the abstract layer: types and functions. Printed by gen_base.py. -/
import Derived.Test.YtmllengggncmkaaGreatProg
import Derived.Test.YtmllengggncmkaaGreatAbsM4
set_option linter.unusedVariables false
set_option linter.defProp false
namespace Go.Proofs.YtmllengggncmkaaGreat
open Go Go.Abs

def zq0 := (And.intro @List.getD_cons_succ.{0} (And.intro @List.getD_cons_zero.{0} (And.intro @List.length_cons.{0} (And.intro @List.length_nil.{0} (And.intro @List.replicate_succ.{0} (And.intro @List.replicate_zero.{0} (And.intro @List.cons_append.{0} (And.intro @List.nil_append.{0} (And.intro @List.append_nil.{0} (And.intro @List.set_cons_succ.{0} (And.intro @List.set_cons_zero.{0} @true_and)))))))))))
def zq1 := (And.intro @and_true (And.intro @List.map_cons.{0,0} (And.intro @List.map_nil.{0,0} (And.intro @Int.toNat_natCast (And.intro @Int.natCast_nonneg (And.intro @exists_prop (And.intro @List.getElem_cons_zero.{0} (And.intro @List.getElem_cons_succ.{0} (And.intro @List.getElem?_cons_zero.{0} (And.intro @List.getElem?_cons_succ.{0} (And.intro @Nat.zero_lt_one @Option.bind_some.{0,0})))))))))))
def zq2 := (And.intro @Option.map_some.{0,0} (And.intro @Option.map_none.{0,0} (And.intro @Bool.not_true (And.intro @Bool.not_false (And.intro @List.all_cons.{0} (And.intro @List.all_nil.{0} (And.intro @Bool.and_true (And.intro @Bool.true_and (And.intro @List.take_zero.{0} (And.intro @List.drop_zero.{0} (And.intro @List.drop_succ_cons.{0} @List.take_succ_cons.{0})))))))))))
def zq3 := (And.intro @Nat.zero_add (And.intro @Nat.add_zero (And.intro @List.getElem?_toArray.{0} (And.intro @ge_iff_le.{0} (And.intro @gt_iff_lt.{0} (And.intro @Nat.le_refl (And.intro @Bool.false_eq_true (And.intro @Bool.not_eq_true (And.intro @Nat.succ_ne_self (And.intro @Option.some.injEq.{0} (And.intro @List.forall_mem_cons.{0} @List.not_mem_nil.{0})))))))))))
def zq4 := @false_implies

def zr0 := (And.intro (And.intro (And.intro (And.intro (And.intro @guardSlot.eq_1 (And.intro @quietA.eq_1 @quietA.eq_2)) (And.intro @quietA.eq_3 (And.intro @quietA.eq_4 @quietA.eq_5))) (And.intro (And.intro @quietA.eq_6 (And.intro @quietA.eq_7 @quietA.eq_8)) (And.intro @quietA.eq_9 (And.intro @quietA.eq_10 @quietA.eq_11)))) (And.intro (And.intro (And.intro @quietA.eq_12 (And.intro @quietA.eq_13 @quietA.eq_14)) (And.intro @quietA.eq_15 (And.intro @quietA.eq_16 @quietA.eq_17))) (And.intro (And.intro @quietA.eq_18 (And.intro @quietA.eq_19 @nilC.eq_1)) (And.intro @nilC.eq_2 (And.intro @nilA.eq_1 @nilA.eq_2))))) (And.intro (And.intro (And.intro (And.intro @nilA.eq_3 (And.intro @quietB.eq_1 @quietB.eq_2)) (And.intro @quietB.eq_3 (And.intro @quietB.eq_4 @quietB.eq_5))) (And.intro (And.intro @quietB.eq_6 (And.intro @quietB.eq_7 @quietB.eq_8)) (And.intro @St.ev.eq_1 (And.intro @St.ev.eq_2 @St.ev.eq_3)))) (And.intro (And.intro (And.intro @St.ev.eq_4 (And.intro @St.put.eq_1 @St.put.eq_2)) (And.intro @St.after.eq_1 (And.intro @St.after.eq_2 @ofV.eq_1))) (And.intro (And.intro @ofV.eq_2 (And.intro @ofL.eq_1 @ofL.eq_2)) (And.intro @ofL.eq_3 (And.intro @ofL.eq_4 @ofL.eq_5))))))
def zr1 := (And.intro (And.intro (And.intro (And.intro (And.intro @ofL.eq_6 (And.intro @ofL.eq_7 @ofL.eq_8)) (And.intro @ofL.eq_9 (And.intro @binA.eq_1 @binA.eq_2))) (And.intro (And.intro @binA.eq_3 (And.intro @binA.eq_4 @binA.eq_5)) (And.intro @binA.eq_6 (And.intro @binA.eq_7 @binA.eq_8)))) (And.intro (And.intro (And.intro @binA.eq_9 (And.intro @intBin.eq_1 @intBin.eq_2)) (And.intro @intBin.eq_3 (And.intro @intBin.eq_4 @intBin.eq_5))) (And.intro (And.intro @intBin.eq_6 (And.intro @intBin.eq_7 @intBin.eq_8)) (And.intro @intBin.eq_9 (And.intro @intBin.eq_10 @intBin.eq_11))))) (And.intro (And.intro (And.intro (And.intro @intBin.eq_12 (And.intro @intBin.eq_13 @intBin.eq_14)) (And.intro @intBin.eq_15 (And.intro @intBin.eq_16 @fltBin.eq_1))) (And.intro (And.intro @fltBin.eq_2 (And.intro @fltBin.eq_3 @fltBin.eq_4)) (And.intro @fltBin.eq_5 (And.intro @fltBin.eq_6 @fltBin.eq_7)))) (And.intro (And.intro (And.intro @fltBin.eq_8 (And.intro @fltBin.eq_9 @fltBin.eq_10)) (And.intro @fltBin.eq_11 (And.intro @strBin.eq_1 @strBin.eq_2))) (And.intro (And.intro @strBin.eq_3 (And.intro @strBin.eq_4 @cpxBin.eq_1)) (And.intro @cpxBin.eq_2 (And.intro @cpxBin.eq_3 @cpxBin.eq_4))))))
def zr2 := (And.intro (And.intro (And.intro (And.intro (And.intro @cpxBin.eq_5 (And.intro @unA.eq_1 @unA.eq_2)) (And.intro @unA.eq_3 (And.intro @unA.eq_4 @unA.eq_5))) (And.intro (And.intro @convB.eq_1 (And.intro @convB.eq_2 @convB.eq_3)) (And.intro @convB.eq_4 (And.intro @convO.eq_1 @convO.eq_2)))) (And.intro (And.intro (And.intro @convO.eq_3 (And.intro @pickV.eq_1 @pickV.eq_2)) (And.intro @resL.eq_1 (And.intro @resL.eq_2 @resL.eq_3))) (And.intro (And.intro @oneA.eq_1 (And.intro @oneA.eq_2 @isQuiet.eq_1)) (And.intro @isQuiet.eq_2 (And.intro @isQuiet.eq_3 @isQuiet.eq_4))))) (And.intro (And.intro (And.intro (And.intro @isQuiet.eq_5 (And.intro @isQuiet.eq_6 @isQuiet.eq_7)) (And.intro @isQuiet.eq_8 (And.intro @isQuiet.eq_9 @isQuiet.eq_10))) (And.intro (And.intro @isQuiet.eq_11 (And.intro @loadA.eq_1 @loadA.eq_2)) (And.intro @loadA.eq_3 (And.intro @loadC.eq_1 @storeA.eq_1)))) (And.intro (And.intro (And.intro @storeA.eq_2 (And.intro @fieldA.eq_1 @partA.eq_1)) (And.intro @partA.eq_2 (And.intro @sliceA.eq_1 @sliceA.eq_2))) (And.intro (And.intro @sliceA.eq_3 (And.intro @sliceA.eq_4 @sliceA.eq_5)) (And.intro @boundA.eq_1 (And.intro @boundA.eq_2 @boundA.eq_3))))))
def zr3 := (And.intro (And.intro (And.intro (And.intro (And.intro @buildA.eq_1 @buildA.eq_2) (And.intro @placeA.eq_1 (And.intro @setAll.eq_1 @setAll.eq_2))) (And.intro (And.intro @appendA.eq_1 (And.intro @readSl.eq_1 @readSl.eq_2)) (And.intro @readSl.eq_3 (And.intro @readSl.eq_4 @readSl.eq_5)))) (And.intro (And.intro (And.intro @newEl.eq_1 (And.intro @AV.cells.eq_1 @AV.cells.eq_2)) (And.intro @AV.solid.eq_1 (And.intro @AV.solid.eq_2 @AV.one.eq_1))) (And.intro (And.intro @AV.one.eq_2 (And.intro @AV.one.eq_3 @AV.one.eq_4)) (And.intro @kill.eq_1 (And.intro @kill.eq_2 @killM.eq_1))))) (And.intro (And.intro (And.intro (And.intro @killM.eq_2 (And.intro @killM.eq_3 @killM.eq_4)) (And.intro @killL.eq_1 (And.intro @killL.eq_2 @killL.eq_3))) (And.intro (And.intro @killL.eq_4 (And.intro @killL.eq_5 @killL.eq_6)) (And.intro @killL.eq_7 (And.intro @killL.eq_8 @notInt.eq_1)))) (And.intro (And.intro (And.intro @putF.eq_1 (And.intro @putF.eq_2 @lookA.eq_1)) (And.intro @lookA.eq_2 (And.intro @lookA.eq_3 @putA.eq_1))) (And.intro (And.intro @putA.eq_2 (And.intro @entryA.eq_1 @entryA.eq_2)) (And.intro @entrySetA.eq_1 (And.intro @entrySetA.eq_2 @mapTy.eq_1))))))

theorem mixed : Tryz.prog.follows .mixedOrders = true := by kernel_rfl
theorem cells2 : Tryz.prog.cellsOf 2 = 1 := by kernel_rfl
theorem bytes2 : Tryz.prog.bytesOf 2 = 8 := by kernel_rfl
theorem zero2 : zeroOf Tryz.prog 2 = .int .i64 0 := by kernel_rfl
theorem cells3 : Tryz.prog.cellsOf 3 = 1 := by kernel_rfl
theorem bytes3 : Tryz.prog.bytesOf 3 = 8 := by kernel_rfl
theorem zero3 : zeroOf Tryz.prog 3 = .int .i64 0 := by kernel_rfl
theorem cells4 : Tryz.prog.cellsOf 4 = 1 := by kernel_rfl
theorem bytes4 : Tryz.prog.bytesOf 4 = 1 := by kernel_rfl
theorem zero4 : zeroOf Tryz.prog 4 = .bool false := by kernel_rfl
theorem cells5 : Tryz.prog.cellsOf 5 = 1 := by kernel_rfl
theorem bytes5 : Tryz.prog.bytesOf 5 = 1 := by kernel_rfl
theorem zero5 : zeroOf Tryz.prog 5 = .int .u8 0 := by kernel_rfl
theorem cells6 : Tryz.prog.cellsOf 6 = 1 := by kernel_rfl
theorem bytes6 : Tryz.prog.bytesOf 6 = 1 := by kernel_rfl
theorem zero6 : zeroOf Tryz.prog 6 = .int .u8 0 := by kernel_rfl
theorem cells9 : Tryz.prog.cellsOf 9 = 1 := by kernel_rfl
theorem bytes9 : Tryz.prog.bytesOf 9 = 16 := by kernel_rfl
theorem zero9 : zeroOf Tryz.prog 9 = .str [] := by kernel_rfl
theorem cells12 : Tryz.prog.cellsOf 12 = 1 := by kernel_rfl
theorem bytes12 : Tryz.prog.bytesOf 12 = 8 := by kernel_rfl
theorem zero12 : zeroOf Tryz.prog 12 = .int .u64 0 := by kernel_rfl
theorem cells21 : Tryz.prog.cellsOf 21 = 1 := by kernel_rfl
theorem bytes21 : Tryz.prog.bytesOf 21 = 4 := by kernel_rfl
theorem zero21 : zeroOf Tryz.prog 21 = .int .i32 0 := by kernel_rfl
theorem cells22 : Tryz.prog.cellsOf 22 = 1 := by kernel_rfl
theorem bytes22 : Tryz.prog.bytesOf 22 = 24 := by kernel_rfl
theorem zero22 : zeroOf Tryz.prog 22 = .nils := by kernel_rfl
theorem cells24 : Tryz.prog.cellsOf 24 = 1 := by kernel_rfl
theorem bytes24 : Tryz.prog.bytesOf 24 = 24 := by kernel_rfl
theorem zero24 : zeroOf Tryz.prog 24 = .nils := by kernel_rfl
theorem cells26 : Tryz.prog.cellsOf 26 = 1 := by kernel_rfl
theorem bytes26 : Tryz.prog.bytesOf 26 = 24 := by kernel_rfl
theorem zero26 : zeroOf Tryz.prog 26 = .nils := by kernel_rfl
theorem cells40 : Tryz.prog.cellsOf 40 = 5 := by kernel_rfl
theorem bytes40 : Tryz.prog.bytesOf 40 = 56 := by kernel_rfl
theorem zero40 : zeroOf Tryz.prog 40 = .agg [.int .i64 0, .nils, .int .i64 0, .int .i64 0, .int .i64 0] := by kernel_rfl
theorem cells41 : Tryz.prog.cellsOf 41 = 5 := by kernel_rfl
theorem bytes41 : Tryz.prog.bytesOf 41 = 56 := by kernel_rfl
theorem zero41 : zeroOf Tryz.prog 41 = .agg [.int .i64 0, .nils, .int .i64 0, .int .i64 0, .int .i64 0] := by kernel_rfl
theorem cells44 : Tryz.prog.cellsOf 44 = 1 := by kernel_rfl
theorem bytes44 : Tryz.prog.bytesOf 44 = 8 := by kernel_rfl
theorem zero44 : zeroOf Tryz.prog 44 = .nilp := by kernel_rfl
theorem cells52 : Tryz.prog.cellsOf 52 = 1 := by kernel_rfl
theorem bytes52 : Tryz.prog.bytesOf 52 = 8 := by kernel_rfl
theorem zero52 : zeroOf Tryz.prog 52 = .rom [] := by kernel_rfl
theorem cells53 : Tryz.prog.cellsOf 53 = 5 := by kernel_rfl
theorem bytes53 : Tryz.prog.bytesOf 53 = 88 := by kernel_rfl
theorem zero53 : zeroOf Tryz.prog 53 = .agg [.nils, .nils, .nils, .rom [], .rom []] := by kernel_rfl
theorem cells54 : Tryz.prog.cellsOf 54 = 5 := by kernel_rfl
theorem bytes54 : Tryz.prog.bytesOf 54 = 88 := by kernel_rfl
theorem zero54 : zeroOf Tryz.prog 54 = .agg [.nils, .nils, .nils, .rom [], .rom []] := by kernel_rfl
theorem cells55 : Tryz.prog.cellsOf 55 = 1 := by kernel_rfl
theorem bytes55 : Tryz.prog.bytesOf 55 = 8 := by kernel_rfl
theorem zero55 : zeroOf Tryz.prog 55 = .nilp := by kernel_rfl
theorem cells58 : Tryz.prog.cellsOf 58 = 1 := by kernel_rfl
theorem bytes58 : Tryz.prog.bytesOf 58 = 8 := by kernel_rfl
theorem zero58 : zeroOf Tryz.prog 58 = .nilp := by kernel_rfl
theorem cells59 : Tryz.prog.cellsOf 59 = 1 := by kernel_rfl
theorem bytes59 : Tryz.prog.bytesOf 59 = 8 := by kernel_rfl
theorem zero59 : zeroOf Tryz.prog 59 = .nilp := by kernel_rfl
theorem cells63 : Tryz.prog.cellsOf 63 = 1 := by kernel_rfl
theorem bytes63 : Tryz.prog.bytesOf 63 = 8 := by kernel_rfl
theorem zero63 : zeroOf Tryz.prog 63 = .nilp := by kernel_rfl
theorem cells64 : Tryz.prog.cellsOf 64 = 32 := by kernel_rfl
theorem bytes64 : Tryz.prog.bytesOf 64 = 32 := by kernel_rfl
theorem zero64 : zeroOf Tryz.prog 64 = .agg [.bool false, .bool false, .bool false, .bool false, .bool false, .bool false, .bool false, .bool false, .bool false, .bool false, .bool false, .bool false, .bool false, .bool false, .bool false, .bool false, .bool false, .bool false, .bool false, .bool false, .bool false, .bool false, .bool false, .bool false, .bool false, .bool false, .bool false, .bool false, .bool false, .bool false, .bool false, .bool false] := by kernel_rfl
theorem cells65 : Tryz.prog.cellsOf 65 = 96 := by kernel_rfl
theorem bytes65 : Tryz.prog.bytesOf 65 = 96 := by kernel_rfl
theorem zero65 : zeroOf Tryz.prog 65 = .agg [.bool false, .bool false, .bool false, .bool false, .bool false, .bool false, .bool false, .bool false, .bool false, .bool false, .bool false, .bool false, .bool false, .bool false, .bool false, .bool false, .bool false, .bool false, .bool false, .bool false, .bool false, .bool false, .bool false, .bool false, .bool false, .bool false, .bool false, .bool false, .bool false, .bool false, .bool false, .bool false, .bool false, .bool false, .bool false, .bool false, .bool false, .bool false, .bool false, .bool false, .bool false, .bool false, .bool false, .bool false, .bool false, .bool false, .bool false, .bool false, .bool false, .bool false, .bool false, .bool false, .bool false, .bool false, .bool false, .bool false, .bool false, .bool false, .bool false, .bool false, .bool false, .bool false, .bool false, .bool false, .bool false, .bool false, .bool false, .bool false, .bool false, .bool false, .bool false, .bool false, .bool false, .bool false, .bool false, .bool false, .bool false, .bool false, .bool false, .bool false, .bool false, .bool false, .bool false, .bool false, .bool false, .bool false, .bool false, .bool false, .bool false, .bool false, .bool false, .bool false, .bool false, .bool false, .bool false, .bool false] := by kernel_rfl
theorem cells66 : Tryz.prog.cellsOf 66 = 96 := by kernel_rfl
theorem bytes66 : Tryz.prog.bytesOf 66 = 96 := by kernel_rfl
theorem zero66 : zeroOf Tryz.prog 66 = .agg [.bool false, .bool false, .bool false, .bool false, .bool false, .bool false, .bool false, .bool false, .bool false, .bool false, .bool false, .bool false, .bool false, .bool false, .bool false, .bool false, .bool false, .bool false, .bool false, .bool false, .bool false, .bool false, .bool false, .bool false, .bool false, .bool false, .bool false, .bool false, .bool false, .bool false, .bool false, .bool false, .bool false, .bool false, .bool false, .bool false, .bool false, .bool false, .bool false, .bool false, .bool false, .bool false, .bool false, .bool false, .bool false, .bool false, .bool false, .bool false, .bool false, .bool false, .bool false, .bool false, .bool false, .bool false, .bool false, .bool false, .bool false, .bool false, .bool false, .bool false, .bool false, .bool false, .bool false, .bool false, .bool false, .bool false, .bool false, .bool false, .bool false, .bool false, .bool false, .bool false, .bool false, .bool false, .bool false, .bool false, .bool false, .bool false, .bool false, .bool false, .bool false, .bool false, .bool false, .bool false, .bool false, .bool false, .bool false, .bool false, .bool false, .bool false, .bool false, .bool false, .bool false, .bool false, .bool false, .bool false] := by kernel_rfl
theorem cells71 : Tryz.prog.cellsOf 71 = 1 := by kernel_rfl
theorem bytes71 : Tryz.prog.bytesOf 71 = 8 := by kernel_rfl
theorem zero71 : zeroOf Tryz.prog 71 = .int .u64 0 := by kernel_rfl
theorem cells72 : Tryz.prog.cellsOf 72 = 3 := by kernel_rfl
theorem bytes72 : Tryz.prog.bytesOf 72 = 40 := by kernel_rfl
theorem zero72 : zeroOf Tryz.prog 72 = .agg [.nils, .int .i64 0, .int .u64 0] := by kernel_rfl
theorem cells73 : Tryz.prog.cellsOf 73 = 3 := by kernel_rfl
theorem bytes73 : Tryz.prog.bytesOf 73 = 40 := by kernel_rfl
theorem zero73 : zeroOf Tryz.prog 73 = .agg [.nils, .int .i64 0, .int .u64 0] := by kernel_rfl
theorem cells91 : Tryz.prog.cellsOf 91 = 1 := by kernel_rfl
theorem bytes91 : Tryz.prog.bytesOf 91 = 8 := by kernel_rfl
theorem zero91 : zeroOf Tryz.prog 91 = .int .u64 0 := by kernel_rfl
theorem cells95 : Tryz.prog.cellsOf 95 = 1 := by kernel_rfl
theorem bytes95 : Tryz.prog.bytesOf 95 = 8 := by kernel_rfl
theorem zero95 : zeroOf Tryz.prog 95 = .int .i64 0 := by kernel_rfl
theorem cells104 : Tryz.prog.cellsOf 104 = 1 := by kernel_rfl
theorem bytes104 : Tryz.prog.bytesOf 104 = 4 := by kernel_rfl
theorem zero104 : zeroOf Tryz.prog 104 = .int .u32 0 := by kernel_rfl
theorem cells107 : Tryz.prog.cellsOf 107 = 1 := by kernel_rfl
theorem bytes107 : Tryz.prog.bytesOf 107 = 8 := by kernel_rfl
theorem zero107 : zeroOf Tryz.prog 107 = .int .u64 0 := by kernel_rfl
theorem cells111 : Tryz.prog.cellsOf 111 = 1 := by kernel_rfl
theorem bytes111 : Tryz.prog.bytesOf 111 = 8 := by kernel_rfl
theorem zero111 : zeroOf Tryz.prog 111 = .nilp := by kernel_rfl
theorem cells115 : Tryz.prog.cellsOf 115 = 1 := by kernel_rfl
theorem bytes115 : Tryz.prog.bytesOf 115 = 8 := by kernel_rfl
theorem zero115 : zeroOf Tryz.prog 115 = .nilp := by kernel_rfl
theorem cells119 : Tryz.prog.cellsOf 119 = 4 := by kernel_rfl
theorem bytes119 : Tryz.prog.bytesOf 119 = 40 := by kernel_rfl
theorem zero119 : zeroOf Tryz.prog 119 = .agg [.nilp, .nilp, .nilp, .str []] := by kernel_rfl
theorem cells120 : Tryz.prog.cellsOf 120 = 4 := by kernel_rfl
theorem bytes120 : Tryz.prog.bytesOf 120 = 40 := by kernel_rfl
theorem zero120 : zeroOf Tryz.prog 120 = .agg [.nilp, .nilp, .nilp, .str []] := by kernel_rfl
theorem cells125 : Tryz.prog.cellsOf 125 = 1 := by kernel_rfl
theorem bytes125 : Tryz.prog.bytesOf 125 = 1 := by kernel_rfl
theorem zero125 : zeroOf Tryz.prog 125 = .int .u8 0 := by kernel_rfl
theorem cells126 : Tryz.prog.cellsOf 126 = 1 := by kernel_rfl
theorem bytes126 : Tryz.prog.bytesOf 126 = 1 := by kernel_rfl
theorem zero126 : zeroOf Tryz.prog 126 = .int .u8 0 := by kernel_rfl
theorem cells128 : Tryz.prog.cellsOf 128 = 1 := by kernel_rfl
theorem bytes128 : Tryz.prog.bytesOf 128 = 8 := by kernel_rfl
theorem zero128 : zeroOf Tryz.prog 128 = .nilp := by kernel_rfl
theorem cells129 : Tryz.prog.cellsOf 129 = 1 := by kernel_rfl
theorem bytes129 : Tryz.prog.bytesOf 129 = 4 := by kernel_rfl
theorem zero129 : zeroOf Tryz.prog 129 = .int .i32 0 := by kernel_rfl
theorem cells130 : Tryz.prog.cellsOf 130 = 1 := by kernel_rfl
theorem bytes130 : Tryz.prog.bytesOf 130 = 4 := by kernel_rfl
theorem zero130 : zeroOf Tryz.prog 130 = .int .i32 0 := by kernel_rfl
theorem cells131 : Tryz.prog.cellsOf 131 = 11 := by kernel_rfl
theorem bytes131 : Tryz.prog.bytesOf 131 = 48 := by kernel_rfl
theorem zero131 : zeroOf Tryz.prog 131 = .agg [.int .u64 0, .int .u64 0, .int .u32 0, .int .u8 0, .int .u8 0, .int .u8 0, .int .u8 0, .nilf, .nilp, .int .i32 0, .int .i32 0] := by kernel_rfl
theorem cells132 : Tryz.prog.cellsOf 132 = 11 := by kernel_rfl
theorem bytes132 : Tryz.prog.bytesOf 132 = 48 := by kernel_rfl
theorem zero132 : zeroOf Tryz.prog 132 = .agg [.int .u64 0, .int .u64 0, .int .u32 0, .int .u8 0, .int .u8 0, .int .u8 0, .int .u8 0, .nilf, .nilp, .int .i32 0, .int .i32 0] := by kernel_rfl
theorem field40_0 : fieldOf Tryz.prog 40 0 = some ⟨ "Head", 2, 0, false, "", "", 0⟩ := by kernel_rfl
theorem field40_1 : fieldOf Tryz.prog 40 1 = some ⟨ "Ifs", 26, 1, false, "", "", 8⟩ := by kernel_rfl
theorem field40_2 : fieldOf Tryz.prog 40 2 = some ⟨ "From", 2, 2, false, "", "", 32⟩ := by kernel_rfl
theorem field40_3 : fieldOf Tryz.prog 40 3 = some ⟨ "To", 2, 3, false, "", "", 40⟩ := by kernel_rfl
theorem field40_4 : fieldOf Tryz.prog 40 4 = some ⟨ "Rank", 2, 4, false, "", "", 48⟩ := by kernel_rfl
theorem field41_0 : fieldOf Tryz.prog 41 0 = some ⟨ "Head", 2, 0, false, "", "", 0⟩ := by kernel_rfl
theorem field41_1 : fieldOf Tryz.prog 41 1 = some ⟨ "Ifs", 26, 1, false, "", "", 8⟩ := by kernel_rfl
theorem field41_2 : fieldOf Tryz.prog 41 2 = some ⟨ "From", 2, 2, false, "", "", 32⟩ := by kernel_rfl
theorem field41_3 : fieldOf Tryz.prog 41 3 = some ⟨ "To", 2, 3, false, "", "", 40⟩ := by kernel_rfl
theorem field41_4 : fieldOf Tryz.prog 41 4 = some ⟨ "Rank", 2, 4, false, "", "", 48⟩ := by kernel_rfl
theorem field53_0 : fieldOf Tryz.prog 53 0 = some ⟨ "rules", 24, 0, false, "", "loop.example/g01393/impl", 0⟩ := by kernel_rfl
theorem field53_1 : fieldOf Tryz.prog 53 1 = some ⟨ "indices", 26, 1, false, "", "loop.example/g01393/impl", 24⟩ := by kernel_rfl
theorem field53_2 : fieldOf Tryz.prog 53 2 = some ⟨ "facts", 26, 2, false, "", "loop.example/g01393/impl", 48⟩ := by kernel_rfl
theorem field53_3 : fieldOf Tryz.prog 53 3 = some ⟨ "proved", 52, 3, false, "", "loop.example/g01393/impl", 72⟩ := by kernel_rfl
theorem field53_4 : fieldOf Tryz.prog 53 4 = some ⟨ "disproved", 52, 4, false, "", "loop.example/g01393/impl", 80⟩ := by kernel_rfl
theorem field54_0 : fieldOf Tryz.prog 54 0 = some ⟨ "rules", 24, 0, false, "", "loop.example/g01393/impl", 0⟩ := by kernel_rfl
theorem field54_1 : fieldOf Tryz.prog 54 1 = some ⟨ "indices", 26, 1, false, "", "loop.example/g01393/impl", 24⟩ := by kernel_rfl
theorem field54_2 : fieldOf Tryz.prog 54 2 = some ⟨ "facts", 26, 2, false, "", "loop.example/g01393/impl", 48⟩ := by kernel_rfl
theorem field54_3 : fieldOf Tryz.prog 54 3 = some ⟨ "proved", 52, 3, false, "", "loop.example/g01393/impl", 72⟩ := by kernel_rfl
theorem field54_4 : fieldOf Tryz.prog 54 4 = some ⟨ "disproved", 52, 4, false, "", "loop.example/g01393/impl", 80⟩ := by kernel_rfl
theorem field65_0 : fieldOf Tryz.prog 65 0 = some ⟨ "yes", 64, 0, false, "", "loop.example/g01393/spec", 0⟩ := by kernel_rfl
theorem field65_1 : fieldOf Tryz.prog 65 1 = some ⟨ "no", 64, 32, false, "", "loop.example/g01393/spec", 32⟩ := by kernel_rfl
theorem field65_2 : fieldOf Tryz.prog 65 2 = some ⟨ "fact", 64, 64, false, "", "loop.example/g01393/spec", 64⟩ := by kernel_rfl
theorem field66_0 : fieldOf Tryz.prog 66 0 = some ⟨ "yes", 64, 0, false, "", "loop.example/g01393/spec", 0⟩ := by kernel_rfl
theorem field66_1 : fieldOf Tryz.prog 66 1 = some ⟨ "no", 64, 32, false, "", "loop.example/g01393/spec", 32⟩ := by kernel_rfl
theorem field66_2 : fieldOf Tryz.prog 66 2 = some ⟨ "fact", 64, 64, false, "", "loop.example/g01393/spec", 64⟩ := by kernel_rfl
theorem field72_0 : fieldOf Tryz.prog 72 0 = some ⟨ "code", 22, 0, false, "", "loop.example/g01393/spec", 0⟩ := by kernel_rfl
theorem field72_1 : fieldOf Tryz.prog 72 1 = some ⟨ "at", 3, 1, false, "", "loop.example/g01393/spec", 24⟩ := by kernel_rfl
theorem field72_2 : fieldOf Tryz.prog 72 2 = some ⟨ "seed", 71, 2, false, "", "loop.example/g01393/spec", 32⟩ := by kernel_rfl
theorem field73_0 : fieldOf Tryz.prog 73 0 = some ⟨ "code", 22, 0, false, "", "loop.example/g01393/spec", 0⟩ := by kernel_rfl
theorem field73_1 : fieldOf Tryz.prog 73 1 = some ⟨ "at", 3, 1, false, "", "loop.example/g01393/spec", 24⟩ := by kernel_rfl
theorem field73_2 : fieldOf Tryz.prog 73 2 = some ⟨ "seed", 71, 2, false, "", "loop.example/g01393/spec", 32⟩ := by kernel_rfl
theorem field119_0 : fieldOf Tryz.prog 119 0 = some ⟨ "_interface", 17, 0, false, "", "runtime", 0⟩ := by kernel_rfl
theorem field119_1 : fieldOf Tryz.prog 119 1 = some ⟨ "concrete", 17, 1, false, "", "runtime", 8⟩ := by kernel_rfl
theorem field119_2 : fieldOf Tryz.prog 119 2 = some ⟨ "asserted", 17, 2, false, "", "runtime", 16⟩ := by kernel_rfl
theorem field119_3 : fieldOf Tryz.prog 119 3 = some ⟨ "missingMethod", 9, 3, false, "", "runtime", 24⟩ := by kernel_rfl
theorem field120_0 : fieldOf Tryz.prog 120 0 = some ⟨ "_interface", 17, 0, false, "", "runtime", 0⟩ := by kernel_rfl
theorem field120_1 : fieldOf Tryz.prog 120 1 = some ⟨ "concrete", 17, 1, false, "", "runtime", 8⟩ := by kernel_rfl
theorem field120_2 : fieldOf Tryz.prog 120 2 = some ⟨ "asserted", 17, 2, false, "", "runtime", 16⟩ := by kernel_rfl
theorem field120_3 : fieldOf Tryz.prog 120 3 = some ⟨ "missingMethod", 9, 3, false, "", "runtime", 24⟩ := by kernel_rfl
theorem field131_0 : fieldOf Tryz.prog 131 0 = some ⟨ "Size_", 12, 0, false, "", "", 0⟩ := by kernel_rfl
theorem field131_1 : fieldOf Tryz.prog 131 1 = some ⟨ "PtrBytes", 12, 1, false, "", "", 8⟩ := by kernel_rfl
theorem field131_2 : fieldOf Tryz.prog 131 2 = some ⟨ "Hash", 104, 2, false, "", "", 16⟩ := by kernel_rfl
theorem field131_3 : fieldOf Tryz.prog 131 3 = some ⟨ "TFlag", 125, 3, false, "", "", 20⟩ := by kernel_rfl
theorem field131_4 : fieldOf Tryz.prog 131 4 = some ⟨ "Align_", 5, 4, false, "", "", 21⟩ := by kernel_rfl
theorem field131_5 : fieldOf Tryz.prog 131 5 = some ⟨ "FieldAlign_", 5, 5, false, "", "", 22⟩ := by kernel_rfl
theorem field131_6 : fieldOf Tryz.prog 131 6 = some ⟨ "Kind_", 126, 6, false, "", "", 23⟩ := by kernel_rfl
theorem field131_7 : fieldOf Tryz.prog 131 7 = some ⟨ "Equal", 127, 7, false, "", "", 24⟩ := by kernel_rfl
theorem field131_8 : fieldOf Tryz.prog 131 8 = some ⟨ "GCData", 128, 8, false, "", "", 32⟩ := by kernel_rfl
theorem field131_9 : fieldOf Tryz.prog 131 9 = some ⟨ "Str", 129, 9, false, "", "", 40⟩ := by kernel_rfl
theorem field131_10 : fieldOf Tryz.prog 131 10 = some ⟨ "PtrToThis", 130, 10, false, "", "", 44⟩ := by kernel_rfl
theorem field132_0 : fieldOf Tryz.prog 132 0 = some ⟨ "Size_", 12, 0, false, "", "", 0⟩ := by kernel_rfl
theorem field132_1 : fieldOf Tryz.prog 132 1 = some ⟨ "PtrBytes", 12, 1, false, "", "", 8⟩ := by kernel_rfl
theorem field132_2 : fieldOf Tryz.prog 132 2 = some ⟨ "Hash", 104, 2, false, "", "", 16⟩ := by kernel_rfl
theorem field132_3 : fieldOf Tryz.prog 132 3 = some ⟨ "TFlag", 125, 3, false, "", "", 20⟩ := by kernel_rfl
theorem field132_4 : fieldOf Tryz.prog 132 4 = some ⟨ "Align_", 5, 4, false, "", "", 21⟩ := by kernel_rfl
theorem field132_5 : fieldOf Tryz.prog 132 5 = some ⟨ "FieldAlign_", 5, 5, false, "", "", 22⟩ := by kernel_rfl
theorem field132_6 : fieldOf Tryz.prog 132 6 = some ⟨ "Kind_", 126, 6, false, "", "", 23⟩ := by kernel_rfl
theorem field132_7 : fieldOf Tryz.prog 132 7 = some ⟨ "Equal", 127, 7, false, "", "", 24⟩ := by kernel_rfl
theorem field132_8 : fieldOf Tryz.prog 132 8 = some ⟨ "GCData", 128, 8, false, "", "", 32⟩ := by kernel_rfl
theorem field132_9 : fieldOf Tryz.prog 132 9 = some ⟨ "Str", 129, 9, false, "", "", 40⟩ := by kernel_rfl
theorem field132_10 : fieldOf Tryz.prog 132 10 = some ⟨ "PtrToThis", 130, 10, false, "", "", 44⟩ := by kernel_rfl

theorem tys0 :
  Tryz.prog.cellsOf 2 = 1 ∧
  Tryz.prog.bytesOf 2 = 8 ∧
  zeroOf Tryz.prog 2 = .int .i64 0 ∧
  Tryz.prog.cellsOf 3 = 1 ∧
  Tryz.prog.bytesOf 3 = 8 ∧
  zeroOf Tryz.prog 3 = .int .i64 0 ∧
  Tryz.prog.cellsOf 4 = 1 ∧
  Tryz.prog.bytesOf 4 = 1 ∧
  zeroOf Tryz.prog 4 = .bool false ∧
  Tryz.prog.cellsOf 5 = 1 ∧
  Tryz.prog.bytesOf 5 = 1 ∧
  zeroOf Tryz.prog 5 = .int .u8 0 ∧
  Tryz.prog.cellsOf 6 = 1 ∧
  Tryz.prog.bytesOf 6 = 1 ∧
  zeroOf Tryz.prog 6 = .int .u8 0 ∧
  Tryz.prog.cellsOf 9 = 1 ∧
  Tryz.prog.bytesOf 9 = 16 ∧
  zeroOf Tryz.prog 9 = .str [] ∧
  Tryz.prog.cellsOf 12 = 1 ∧
  Tryz.prog.bytesOf 12 = 8 ∧
  zeroOf Tryz.prog 12 = .int .u64 0 ∧
  Tryz.prog.cellsOf 21 = 1 ∧
  Tryz.prog.bytesOf 21 = 4 ∧
  zeroOf Tryz.prog 21 = .int .i32 0 ∧
  Tryz.prog.cellsOf 22 = 1 ∧
  Tryz.prog.bytesOf 22 = 24 ∧
  zeroOf Tryz.prog 22 = .nils ∧
  Tryz.prog.cellsOf 24 = 1 ∧
  Tryz.prog.bytesOf 24 = 24 ∧
  zeroOf Tryz.prog 24 = .nils ∧
  Tryz.prog.cellsOf 26 = 1 ∧
  Tryz.prog.bytesOf 26 = 24 ∧
  zeroOf Tryz.prog 26 = .nils ∧
  Tryz.prog.cellsOf 40 = 5 ∧
  Tryz.prog.bytesOf 40 = 56 ∧
  zeroOf Tryz.prog 40 = .agg [.int .i64 0, .nils, .int .i64 0, .int .i64 0, .int .i64 0] ∧
  Tryz.prog.cellsOf 41 = 5 ∧
  Tryz.prog.bytesOf 41 = 56 ∧
  zeroOf Tryz.prog 41 = .agg [.int .i64 0, .nils, .int .i64 0, .int .i64 0, .int .i64 0] ∧
  Tryz.prog.cellsOf 44 = 1 :=
  ⟨cells2, bytes2, zero2, cells3, bytes3, zero3, cells4, bytes4, zero4, cells5, bytes5, zero5, cells6, bytes6, zero6, cells9, bytes9, zero9, cells12, bytes12, zero12, cells21, bytes21, zero21, cells22, bytes22, zero22, cells24, bytes24, zero24, cells26, bytes26, zero26, cells40, bytes40, zero40, cells41, bytes41, zero41, cells44⟩
theorem tys1 :
  Tryz.prog.bytesOf 44 = 8 ∧
  zeroOf Tryz.prog 44 = .nilp ∧
  Tryz.prog.cellsOf 52 = 1 ∧
  Tryz.prog.bytesOf 52 = 8 ∧
  zeroOf Tryz.prog 52 = .rom [] ∧
  Tryz.prog.cellsOf 53 = 5 ∧
  Tryz.prog.bytesOf 53 = 88 ∧
  zeroOf Tryz.prog 53 = .agg [.nils, .nils, .nils, .rom [], .rom []] ∧
  Tryz.prog.cellsOf 54 = 5 ∧
  Tryz.prog.bytesOf 54 = 88 ∧
  zeroOf Tryz.prog 54 = .agg [.nils, .nils, .nils, .rom [], .rom []] ∧
  Tryz.prog.cellsOf 55 = 1 ∧
  Tryz.prog.bytesOf 55 = 8 ∧
  zeroOf Tryz.prog 55 = .nilp ∧
  Tryz.prog.cellsOf 58 = 1 ∧
  Tryz.prog.bytesOf 58 = 8 ∧
  zeroOf Tryz.prog 58 = .nilp ∧
  Tryz.prog.cellsOf 59 = 1 ∧
  Tryz.prog.bytesOf 59 = 8 ∧
  zeroOf Tryz.prog 59 = .nilp ∧
  Tryz.prog.cellsOf 63 = 1 ∧
  Tryz.prog.bytesOf 63 = 8 ∧
  zeroOf Tryz.prog 63 = .nilp ∧
  Tryz.prog.cellsOf 64 = 32 ∧
  Tryz.prog.bytesOf 64 = 32 ∧
  zeroOf Tryz.prog 64 = .agg [.bool false, .bool false, .bool false, .bool false, .bool false, .bool false, .bool false, .bool false, .bool false, .bool false, .bool false, .bool false, .bool false, .bool false, .bool false, .bool false, .bool false, .bool false, .bool false, .bool false, .bool false, .bool false, .bool false, .bool false, .bool false, .bool false, .bool false, .bool false, .bool false, .bool false, .bool false, .bool false] ∧
  Tryz.prog.cellsOf 65 = 96 ∧
  Tryz.prog.bytesOf 65 = 96 ∧
  zeroOf Tryz.prog 65 = .agg [.bool false, .bool false, .bool false, .bool false, .bool false, .bool false, .bool false, .bool false, .bool false, .bool false, .bool false, .bool false, .bool false, .bool false, .bool false, .bool false, .bool false, .bool false, .bool false, .bool false, .bool false, .bool false, .bool false, .bool false, .bool false, .bool false, .bool false, .bool false, .bool false, .bool false, .bool false, .bool false, .bool false, .bool false, .bool false, .bool false, .bool false, .bool false, .bool false, .bool false, .bool false, .bool false, .bool false, .bool false, .bool false, .bool false, .bool false, .bool false, .bool false, .bool false, .bool false, .bool false, .bool false, .bool false, .bool false, .bool false, .bool false, .bool false, .bool false, .bool false, .bool false, .bool false, .bool false, .bool false, .bool false, .bool false, .bool false, .bool false, .bool false, .bool false, .bool false, .bool false, .bool false, .bool false, .bool false, .bool false, .bool false, .bool false, .bool false, .bool false, .bool false, .bool false, .bool false, .bool false, .bool false, .bool false, .bool false, .bool false, .bool false, .bool false, .bool false, .bool false, .bool false, .bool false, .bool false, .bool false] ∧
  Tryz.prog.cellsOf 66 = 96 ∧
  Tryz.prog.bytesOf 66 = 96 ∧
  zeroOf Tryz.prog 66 = .agg [.bool false, .bool false, .bool false, .bool false, .bool false, .bool false, .bool false, .bool false, .bool false, .bool false, .bool false, .bool false, .bool false, .bool false, .bool false, .bool false, .bool false, .bool false, .bool false, .bool false, .bool false, .bool false, .bool false, .bool false, .bool false, .bool false, .bool false, .bool false, .bool false, .bool false, .bool false, .bool false, .bool false, .bool false, .bool false, .bool false, .bool false, .bool false, .bool false, .bool false, .bool false, .bool false, .bool false, .bool false, .bool false, .bool false, .bool false, .bool false, .bool false, .bool false, .bool false, .bool false, .bool false, .bool false, .bool false, .bool false, .bool false, .bool false, .bool false, .bool false, .bool false, .bool false, .bool false, .bool false, .bool false, .bool false, .bool false, .bool false, .bool false, .bool false, .bool false, .bool false, .bool false, .bool false, .bool false, .bool false, .bool false, .bool false, .bool false, .bool false, .bool false, .bool false, .bool false, .bool false, .bool false, .bool false, .bool false, .bool false, .bool false, .bool false, .bool false, .bool false, .bool false, .bool false, .bool false, .bool false] ∧
  Tryz.prog.cellsOf 71 = 1 ∧
  Tryz.prog.bytesOf 71 = 8 ∧
  zeroOf Tryz.prog 71 = .int .u64 0 ∧
  Tryz.prog.cellsOf 72 = 3 ∧
  Tryz.prog.bytesOf 72 = 40 ∧
  zeroOf Tryz.prog 72 = .agg [.nils, .int .i64 0, .int .u64 0] ∧
  Tryz.prog.cellsOf 73 = 3 ∧
  Tryz.prog.bytesOf 73 = 40 :=
  ⟨bytes44, zero44, cells52, bytes52, zero52, cells53, bytes53, zero53, cells54, bytes54, zero54, cells55, bytes55, zero55, cells58, bytes58, zero58, cells59, bytes59, zero59, cells63, bytes63, zero63, cells64, bytes64, zero64, cells65, bytes65, zero65, cells66, bytes66, zero66, cells71, bytes71, zero71, cells72, bytes72, zero72, cells73, bytes73⟩
theorem tys2 :
  zeroOf Tryz.prog 73 = .agg [.nils, .int .i64 0, .int .u64 0] ∧
  Tryz.prog.cellsOf 91 = 1 ∧
  Tryz.prog.bytesOf 91 = 8 ∧
  zeroOf Tryz.prog 91 = .int .u64 0 ∧
  Tryz.prog.cellsOf 95 = 1 ∧
  Tryz.prog.bytesOf 95 = 8 ∧
  zeroOf Tryz.prog 95 = .int .i64 0 ∧
  Tryz.prog.cellsOf 104 = 1 ∧
  Tryz.prog.bytesOf 104 = 4 ∧
  zeroOf Tryz.prog 104 = .int .u32 0 ∧
  Tryz.prog.cellsOf 107 = 1 ∧
  Tryz.prog.bytesOf 107 = 8 ∧
  zeroOf Tryz.prog 107 = .int .u64 0 ∧
  Tryz.prog.cellsOf 111 = 1 ∧
  Tryz.prog.bytesOf 111 = 8 ∧
  zeroOf Tryz.prog 111 = .nilp ∧
  Tryz.prog.cellsOf 115 = 1 ∧
  Tryz.prog.bytesOf 115 = 8 ∧
  zeroOf Tryz.prog 115 = .nilp ∧
  Tryz.prog.cellsOf 119 = 4 ∧
  Tryz.prog.bytesOf 119 = 40 ∧
  zeroOf Tryz.prog 119 = .agg [.nilp, .nilp, .nilp, .str []] ∧
  Tryz.prog.cellsOf 120 = 4 ∧
  Tryz.prog.bytesOf 120 = 40 ∧
  zeroOf Tryz.prog 120 = .agg [.nilp, .nilp, .nilp, .str []] ∧
  Tryz.prog.cellsOf 125 = 1 ∧
  Tryz.prog.bytesOf 125 = 1 ∧
  zeroOf Tryz.prog 125 = .int .u8 0 ∧
  Tryz.prog.cellsOf 126 = 1 ∧
  Tryz.prog.bytesOf 126 = 1 ∧
  zeroOf Tryz.prog 126 = .int .u8 0 ∧
  Tryz.prog.cellsOf 128 = 1 ∧
  Tryz.prog.bytesOf 128 = 8 ∧
  zeroOf Tryz.prog 128 = .nilp ∧
  Tryz.prog.cellsOf 129 = 1 ∧
  Tryz.prog.bytesOf 129 = 4 ∧
  zeroOf Tryz.prog 129 = .int .i32 0 ∧
  Tryz.prog.cellsOf 130 = 1 ∧
  Tryz.prog.bytesOf 130 = 4 ∧
  zeroOf Tryz.prog 130 = .int .i32 0 :=
  ⟨zero73, cells91, bytes91, zero91, cells95, bytes95, zero95, cells104, bytes104, zero104, cells107, bytes107, zero107, cells111, bytes111, zero111, cells115, bytes115, zero115, cells119, bytes119, zero119, cells120, bytes120, zero120, cells125, bytes125, zero125, cells126, bytes126, zero126, cells128, bytes128, zero128, cells129, bytes129, zero129, cells130, bytes130, zero130⟩
theorem tys3 :
  Tryz.prog.cellsOf 131 = 11 ∧
  Tryz.prog.bytesOf 131 = 48 ∧
  zeroOf Tryz.prog 131 = .agg [.int .u64 0, .int .u64 0, .int .u32 0, .int .u8 0, .int .u8 0, .int .u8 0, .int .u8 0, .nilf, .nilp, .int .i32 0, .int .i32 0] ∧
  Tryz.prog.cellsOf 132 = 11 ∧
  Tryz.prog.bytesOf 132 = 48 ∧
  zeroOf Tryz.prog 132 = .agg [.int .u64 0, .int .u64 0, .int .u32 0, .int .u8 0, .int .u8 0, .int .u8 0, .int .u8 0, .nilf, .nilp, .int .i32 0, .int .i32 0] ∧
  fieldOf Tryz.prog 40 0 = some ⟨ "Head", 2, 0, false, "", "", 0⟩ ∧
  fieldOf Tryz.prog 40 1 = some ⟨ "Ifs", 26, 1, false, "", "", 8⟩ ∧
  fieldOf Tryz.prog 40 2 = some ⟨ "From", 2, 2, false, "", "", 32⟩ ∧
  fieldOf Tryz.prog 40 3 = some ⟨ "To", 2, 3, false, "", "", 40⟩ ∧
  fieldOf Tryz.prog 40 4 = some ⟨ "Rank", 2, 4, false, "", "", 48⟩ ∧
  fieldOf Tryz.prog 41 0 = some ⟨ "Head", 2, 0, false, "", "", 0⟩ ∧
  fieldOf Tryz.prog 41 1 = some ⟨ "Ifs", 26, 1, false, "", "", 8⟩ ∧
  fieldOf Tryz.prog 41 2 = some ⟨ "From", 2, 2, false, "", "", 32⟩ ∧
  fieldOf Tryz.prog 41 3 = some ⟨ "To", 2, 3, false, "", "", 40⟩ ∧
  fieldOf Tryz.prog 41 4 = some ⟨ "Rank", 2, 4, false, "", "", 48⟩ ∧
  fieldOf Tryz.prog 53 0 = some ⟨ "rules", 24, 0, false, "", "loop.example/g01393/impl", 0⟩ ∧
  fieldOf Tryz.prog 53 1 = some ⟨ "indices", 26, 1, false, "", "loop.example/g01393/impl", 24⟩ ∧
  fieldOf Tryz.prog 53 2 = some ⟨ "facts", 26, 2, false, "", "loop.example/g01393/impl", 48⟩ ∧
  fieldOf Tryz.prog 53 3 = some ⟨ "proved", 52, 3, false, "", "loop.example/g01393/impl", 72⟩ ∧
  fieldOf Tryz.prog 53 4 = some ⟨ "disproved", 52, 4, false, "", "loop.example/g01393/impl", 80⟩ ∧
  fieldOf Tryz.prog 54 0 = some ⟨ "rules", 24, 0, false, "", "loop.example/g01393/impl", 0⟩ ∧
  fieldOf Tryz.prog 54 1 = some ⟨ "indices", 26, 1, false, "", "loop.example/g01393/impl", 24⟩ ∧
  fieldOf Tryz.prog 54 2 = some ⟨ "facts", 26, 2, false, "", "loop.example/g01393/impl", 48⟩ ∧
  fieldOf Tryz.prog 54 3 = some ⟨ "proved", 52, 3, false, "", "loop.example/g01393/impl", 72⟩ ∧
  fieldOf Tryz.prog 54 4 = some ⟨ "disproved", 52, 4, false, "", "loop.example/g01393/impl", 80⟩ ∧
  fieldOf Tryz.prog 65 0 = some ⟨ "yes", 64, 0, false, "", "loop.example/g01393/spec", 0⟩ ∧
  fieldOf Tryz.prog 65 1 = some ⟨ "no", 64, 32, false, "", "loop.example/g01393/spec", 32⟩ ∧
  fieldOf Tryz.prog 65 2 = some ⟨ "fact", 64, 64, false, "", "loop.example/g01393/spec", 64⟩ ∧
  fieldOf Tryz.prog 66 0 = some ⟨ "yes", 64, 0, false, "", "loop.example/g01393/spec", 0⟩ ∧
  fieldOf Tryz.prog 66 1 = some ⟨ "no", 64, 32, false, "", "loop.example/g01393/spec", 32⟩ ∧
  fieldOf Tryz.prog 66 2 = some ⟨ "fact", 64, 64, false, "", "loop.example/g01393/spec", 64⟩ ∧
  fieldOf Tryz.prog 72 0 = some ⟨ "code", 22, 0, false, "", "loop.example/g01393/spec", 0⟩ ∧
  fieldOf Tryz.prog 72 1 = some ⟨ "at", 3, 1, false, "", "loop.example/g01393/spec", 24⟩ ∧
  fieldOf Tryz.prog 72 2 = some ⟨ "seed", 71, 2, false, "", "loop.example/g01393/spec", 32⟩ ∧
  fieldOf Tryz.prog 73 0 = some ⟨ "code", 22, 0, false, "", "loop.example/g01393/spec", 0⟩ ∧
  fieldOf Tryz.prog 73 1 = some ⟨ "at", 3, 1, false, "", "loop.example/g01393/spec", 24⟩ ∧
  fieldOf Tryz.prog 73 2 = some ⟨ "seed", 71, 2, false, "", "loop.example/g01393/spec", 32⟩ ∧
  fieldOf Tryz.prog 119 0 = some ⟨ "_interface", 17, 0, false, "", "runtime", 0⟩ ∧
  fieldOf Tryz.prog 119 1 = some ⟨ "concrete", 17, 1, false, "", "runtime", 8⟩ :=
  ⟨cells131, bytes131, zero131, cells132, bytes132, zero132, field40_0, field40_1, field40_2, field40_3, field40_4, field41_0, field41_1, field41_2, field41_3, field41_4, field53_0, field53_1, field53_2, field53_3, field53_4, field54_0, field54_1, field54_2, field54_3, field54_4, field65_0, field65_1, field65_2, field66_0, field66_1, field66_2, field72_0, field72_1, field72_2, field73_0, field73_1, field73_2, field119_0, field119_1⟩
theorem tys4 :
  fieldOf Tryz.prog 119 2 = some ⟨ "asserted", 17, 2, false, "", "runtime", 16⟩ ∧
  fieldOf Tryz.prog 119 3 = some ⟨ "missingMethod", 9, 3, false, "", "runtime", 24⟩ ∧
  fieldOf Tryz.prog 120 0 = some ⟨ "_interface", 17, 0, false, "", "runtime", 0⟩ ∧
  fieldOf Tryz.prog 120 1 = some ⟨ "concrete", 17, 1, false, "", "runtime", 8⟩ ∧
  fieldOf Tryz.prog 120 2 = some ⟨ "asserted", 17, 2, false, "", "runtime", 16⟩ ∧
  fieldOf Tryz.prog 120 3 = some ⟨ "missingMethod", 9, 3, false, "", "runtime", 24⟩ ∧
  fieldOf Tryz.prog 131 0 = some ⟨ "Size_", 12, 0, false, "", "", 0⟩ ∧
  fieldOf Tryz.prog 131 1 = some ⟨ "PtrBytes", 12, 1, false, "", "", 8⟩ ∧
  fieldOf Tryz.prog 131 2 = some ⟨ "Hash", 104, 2, false, "", "", 16⟩ ∧
  fieldOf Tryz.prog 131 3 = some ⟨ "TFlag", 125, 3, false, "", "", 20⟩ ∧
  fieldOf Tryz.prog 131 4 = some ⟨ "Align_", 5, 4, false, "", "", 21⟩ ∧
  fieldOf Tryz.prog 131 5 = some ⟨ "FieldAlign_", 5, 5, false, "", "", 22⟩ ∧
  fieldOf Tryz.prog 131 6 = some ⟨ "Kind_", 126, 6, false, "", "", 23⟩ ∧
  fieldOf Tryz.prog 131 7 = some ⟨ "Equal", 127, 7, false, "", "", 24⟩ ∧
  fieldOf Tryz.prog 131 8 = some ⟨ "GCData", 128, 8, false, "", "", 32⟩ ∧
  fieldOf Tryz.prog 131 9 = some ⟨ "Str", 129, 9, false, "", "", 40⟩ ∧
  fieldOf Tryz.prog 131 10 = some ⟨ "PtrToThis", 130, 10, false, "", "", 44⟩ ∧
  fieldOf Tryz.prog 132 0 = some ⟨ "Size_", 12, 0, false, "", "", 0⟩ ∧
  fieldOf Tryz.prog 132 1 = some ⟨ "PtrBytes", 12, 1, false, "", "", 8⟩ ∧
  fieldOf Tryz.prog 132 2 = some ⟨ "Hash", 104, 2, false, "", "", 16⟩ ∧
  fieldOf Tryz.prog 132 3 = some ⟨ "TFlag", 125, 3, false, "", "", 20⟩ ∧
  fieldOf Tryz.prog 132 4 = some ⟨ "Align_", 5, 4, false, "", "", 21⟩ ∧
  fieldOf Tryz.prog 132 5 = some ⟨ "FieldAlign_", 5, 5, false, "", "", 22⟩ ∧
  fieldOf Tryz.prog 132 6 = some ⟨ "Kind_", 126, 6, false, "", "", 23⟩ ∧
  fieldOf Tryz.prog 132 7 = some ⟨ "Equal", 127, 7, false, "", "", 24⟩ ∧
  fieldOf Tryz.prog 132 8 = some ⟨ "GCData", 128, 8, false, "", "", 32⟩ ∧
  fieldOf Tryz.prog 132 9 = some ⟨ "Str", 129, 9, false, "", "", 40⟩ ∧
  fieldOf Tryz.prog 132 10 = some ⟨ "PtrToThis", 130, 10, false, "", "", 44⟩ :=
  ⟨field119_2, field119_3, field120_0, field120_1, field120_2, field120_3, field131_0, field131_1, field131_2, field131_3, field131_4, field131_5, field131_6, field131_7, field131_8, field131_9, field131_10, field132_0, field132_1, field132_2, field132_3, field132_4, field132_5, field132_6, field132_7, field132_8, field132_9, field132_10⟩
def und0 := And.intro @Tryz.underlying2 (And.intro @Tryz.underlying3 (And.intro @Tryz.underlying4 (And.intro @Tryz.underlying5 (And.intro @Tryz.underlying6 (And.intro @Tryz.underlying9 (And.intro @Tryz.underlying12 (And.intro @Tryz.underlying21 (And.intro @Tryz.underlying22 (And.intro @Tryz.underlying24 (And.intro @Tryz.underlying26 @Tryz.underlying40))))))))))
def und1 := And.intro @Tryz.underlying41 (And.intro @Tryz.underlying44 (And.intro @Tryz.underlying52 (And.intro @Tryz.underlying53 (And.intro @Tryz.underlying54 (And.intro @Tryz.underlying55 (And.intro @Tryz.underlying58 (And.intro @Tryz.underlying59 (And.intro @Tryz.underlying63 (And.intro @Tryz.underlying64 (And.intro @Tryz.underlying65 @Tryz.underlying66))))))))))
def und2 := And.intro @Tryz.underlying71 (And.intro @Tryz.underlying72 (And.intro @Tryz.underlying73 (And.intro @Tryz.underlying91 (And.intro @Tryz.underlying95 (And.intro @Tryz.underlying104 (And.intro @Tryz.underlying107 (And.intro @Tryz.underlying111 (And.intro @Tryz.underlying115 (And.intro @Tryz.underlying119 (And.intro @Tryz.underlying120 @Tryz.underlying125))))))))))
def und3 := And.intro @Tryz.underlying126 (And.intro @Tryz.underlying128 (And.intro @Tryz.underlying129 (And.intro @Tryz.underlying130 (And.intro @Tryz.underlying131 @Tryz.underlying132))))
theorem go3 : isGo Tryz.prog 3 := by unfold isGo; rw [Tryz.func3]; exact ⟨rfl, by kernel_rfl⟩
theorem go4 : isGo Tryz.prog 4 := by unfold isGo; rw [Tryz.func4]; exact ⟨rfl, by kernel_rfl⟩
theorem go5 : isGo Tryz.prog 5 := by unfold isGo; rw [Tryz.func5]; exact ⟨rfl, by kernel_rfl⟩
theorem go6 : isGo Tryz.prog 6 := by unfold isGo; rw [Tryz.func6]; exact ⟨rfl, by kernel_rfl⟩
theorem go7 : isGo Tryz.prog 7 := by unfold isGo; rw [Tryz.func7]; exact ⟨rfl, by kernel_rfl⟩
theorem go8 : isGo Tryz.prog 8 := by unfold isGo; rw [Tryz.func8]; exact ⟨rfl, by kernel_rfl⟩
theorem go9 : isGo Tryz.prog 9 := by unfold isGo; rw [Tryz.func9]; exact ⟨rfl, by kernel_rfl⟩
theorem go10 : isGo Tryz.prog 10 := by unfold isGo; rw [Tryz.func10]; exact ⟨rfl, by kernel_rfl⟩
theorem go11 : isGo Tryz.prog 11 := by unfold isGo; rw [Tryz.func11]; exact ⟨rfl, by kernel_rfl⟩
theorem go12 : isGo Tryz.prog 12 := by unfold isGo; rw [Tryz.func12]; exact ⟨rfl, by kernel_rfl⟩
theorem go13 : isGo Tryz.prog 13 := by unfold isGo; rw [Tryz.func13]; exact ⟨rfl, by kernel_rfl⟩
theorem go14 : isGo Tryz.prog 14 := by unfold isGo; rw [Tryz.func14]; exact ⟨rfl, by kernel_rfl⟩
theorem go15 : isGo Tryz.prog 15 := by unfold isGo; rw [Tryz.func15]; exact ⟨rfl, by kernel_rfl⟩
theorem go16 : isGo Tryz.prog 16 := by unfold isGo; rw [Tryz.func16]; exact ⟨rfl, by kernel_rfl⟩
theorem go17 : isGo Tryz.prog 17 := by unfold isGo; rw [Tryz.func17]; exact ⟨rfl, by kernel_rfl⟩
theorem go18 : isGo Tryz.prog 18 := by unfold isGo; rw [Tryz.func18]; exact ⟨rfl, by kernel_rfl⟩
theorem go19 : isGo Tryz.prog 19 := by unfold isGo; rw [Tryz.func19]; exact ⟨rfl, by kernel_rfl⟩
theorem go20 : isGo Tryz.prog 20 := by unfold isGo; rw [Tryz.func20]; exact ⟨rfl, by kernel_rfl⟩
theorem go21 : isGo Tryz.prog 21 := by unfold isGo; rw [Tryz.func21]; exact ⟨rfl, by kernel_rfl⟩
theorem go22 : isGo Tryz.prog 22 := by unfold isGo; rw [Tryz.func22]; exact ⟨rfl, by kernel_rfl⟩
theorem go23 : isGo Tryz.prog 23 := by unfold isGo; rw [Tryz.func23]; exact ⟨rfl, by kernel_rfl⟩
theorem go24 : isGo Tryz.prog 24 := by unfold isGo; rw [Tryz.func24]; exact ⟨rfl, by kernel_rfl⟩
theorem go25 : isGo Tryz.prog 25 := by unfold isGo; rw [Tryz.func25]; exact ⟨rfl, by kernel_rfl⟩
theorem go26 : isGo Tryz.prog 26 := by unfold isGo; rw [Tryz.func26]; exact ⟨rfl, by kernel_rfl⟩
theorem go27 : isGo Tryz.prog 27 := by unfold isGo; rw [Tryz.func27]; exact ⟨rfl, by kernel_rfl⟩
theorem go28 : isGo Tryz.prog 28 := by unfold isGo; rw [Tryz.func28]; exact ⟨rfl, by kernel_rfl⟩
theorem go29 : isGo Tryz.prog 29 := by unfold isGo; rw [Tryz.func29]; exact ⟨rfl, by kernel_rfl⟩
theorem go30 : isGo Tryz.prog 30 := by unfold isGo; rw [Tryz.func30]; exact ⟨rfl, by kernel_rfl⟩
theorem go31 : isGo Tryz.prog 31 := by unfold isGo; rw [Tryz.func31]; exact ⟨rfl, by kernel_rfl⟩
theorem go32 : isGo Tryz.prog 32 := by unfold isGo; rw [Tryz.func32]; exact ⟨rfl, by kernel_rfl⟩
theorem go33 : isGo Tryz.prog 33 := by unfold isGo; rw [Tryz.func33]; exact ⟨rfl, by kernel_rfl⟩
theorem go34 : isGo Tryz.prog 34 := by unfold isGo; rw [Tryz.func34]; exact ⟨rfl, by kernel_rfl⟩
theorem go35 : isGo Tryz.prog 35 := by unfold isGo; rw [Tryz.func35]; exact ⟨rfl, by kernel_rfl⟩
theorem go36 : isGo Tryz.prog 36 := by unfold isGo; rw [Tryz.func36]; exact ⟨rfl, by kernel_rfl⟩
theorem go37 : isGo Tryz.prog 37 := by unfold isGo; rw [Tryz.func37]; exact ⟨rfl, by kernel_rfl⟩
theorem go38 : isGo Tryz.prog 38 := by unfold isGo; rw [Tryz.func38]; exact ⟨rfl, by kernel_rfl⟩
theorem go39 : isGo Tryz.prog 39 := by unfold isGo; rw [Tryz.func39]; exact ⟨rfl, by kernel_rfl⟩
theorem go40 : isGo Tryz.prog 40 := by unfold isGo; rw [Tryz.func40]; exact ⟨rfl, by kernel_rfl⟩
theorem go41 : isGo Tryz.prog 41 := by unfold isGo; rw [Tryz.func41]; exact ⟨rfl, by kernel_rfl⟩
theorem go42 : isGo Tryz.prog 42 := by unfold isGo; rw [Tryz.func42]; exact ⟨rfl, by kernel_rfl⟩
theorem go43 : isGo Tryz.prog 43 := by unfold isGo; rw [Tryz.func43]; exact ⟨rfl, by kernel_rfl⟩
theorem go44 : isGo Tryz.prog 44 := by unfold isGo; rw [Tryz.func44]; exact ⟨rfl, by kernel_rfl⟩
theorem go45 : isGo Tryz.prog 45 := by unfold isGo; rw [Tryz.func45]; exact ⟨rfl, by kernel_rfl⟩
theorem go46 : isGo Tryz.prog 46 := by unfold isGo; rw [Tryz.func46]; exact ⟨rfl, by kernel_rfl⟩
theorem go47 : isGo Tryz.prog 47 := by unfold isGo; rw [Tryz.func47]; exact ⟨rfl, by kernel_rfl⟩
theorem go48 : isGo Tryz.prog 48 := by unfold isGo; rw [Tryz.func48]; exact ⟨rfl, by kernel_rfl⟩
theorem go49 : isGo Tryz.prog 49 := by unfold isGo; rw [Tryz.func49]; exact ⟨rfl, by kernel_rfl⟩
theorem go50 : isGo Tryz.prog 50 := by unfold isGo; rw [Tryz.func50]; exact ⟨rfl, by kernel_rfl⟩
theorem go51 : isGo Tryz.prog 51 := by unfold isGo; rw [Tryz.func51]; exact ⟨rfl, by kernel_rfl⟩
theorem go52 : isGo Tryz.prog 52 := by unfold isGo; rw [Tryz.func52]; exact ⟨rfl, by kernel_rfl⟩
theorem go53 : isGo Tryz.prog 53 := by unfold isGo; rw [Tryz.func53]; exact ⟨rfl, by kernel_rfl⟩
theorem go54 : isGo Tryz.prog 54 := by unfold isGo; rw [Tryz.func54]; exact ⟨rfl, by kernel_rfl⟩
theorem go55 : isGo Tryz.prog 55 := by unfold isGo; rw [Tryz.func55]; exact ⟨rfl, by kernel_rfl⟩
theorem go56 : isGo Tryz.prog 56 := by unfold isGo; rw [Tryz.func56]; exact ⟨rfl, by kernel_rfl⟩
theorem go57 : isGo Tryz.prog 57 := by unfold isGo; rw [Tryz.func57]; exact ⟨rfl, by kernel_rfl⟩
theorem go58 : isGo Tryz.prog 58 := by unfold isGo; rw [Tryz.func58]; exact ⟨rfl, by kernel_rfl⟩
theorem go59 : isGo Tryz.prog 59 := by unfold isGo; rw [Tryz.func59]; exact ⟨rfl, by kernel_rfl⟩
theorem go60 : isGo Tryz.prog 60 := by unfold isGo; rw [Tryz.func60]; exact ⟨rfl, by kernel_rfl⟩
theorem go61 : isGo Tryz.prog 61 := by unfold isGo; rw [Tryz.func61]; exact ⟨rfl, by kernel_rfl⟩
theorem go62 : isGo Tryz.prog 62 := by unfold isGo; rw [Tryz.func62]; exact ⟨rfl, by kernel_rfl⟩
theorem go63 : isGo Tryz.prog 63 := by unfold isGo; rw [Tryz.func63]; exact ⟨rfl, by kernel_rfl⟩
theorem go64 : isGo Tryz.prog 64 := by unfold isGo; rw [Tryz.func64]; exact ⟨rfl, by kernel_rfl⟩
theorem go67 : isGo Tryz.prog 67 := by unfold isGo; rw [Tryz.func67]; exact ⟨rfl, by kernel_rfl⟩
theorem go68 : isGo Tryz.prog 68 := by unfold isGo; rw [Tryz.func68]; exact ⟨rfl, by kernel_rfl⟩
theorem go69 : isGo Tryz.prog 69 := by unfold isGo; rw [Tryz.func69]; exact ⟨rfl, by kernel_rfl⟩
theorem go70 : isGo Tryz.prog 70 := by unfold isGo; rw [Tryz.func70]; exact ⟨rfl, by kernel_rfl⟩
theorem go71 : isGo Tryz.prog 71 := by unfold isGo; rw [Tryz.func71]; exact ⟨rfl, by kernel_rfl⟩
theorem go72 : isGo Tryz.prog 72 := by unfold isGo; rw [Tryz.func72]; exact ⟨rfl, by kernel_rfl⟩
theorem go73 : isGo Tryz.prog 73 := by unfold isGo; rw [Tryz.func73]; exact ⟨rfl, by kernel_rfl⟩
theorem go74 : isGo Tryz.prog 74 := by unfold isGo; rw [Tryz.func74]; exact ⟨rfl, by kernel_rfl⟩
theorem go75 : isGo Tryz.prog 75 := by unfold isGo; rw [Tryz.func75]; exact ⟨rfl, by kernel_rfl⟩
theorem go76 : isGo Tryz.prog 76 := by unfold isGo; rw [Tryz.func76]; exact ⟨rfl, by kernel_rfl⟩
theorem go77 : isGo Tryz.prog 77 := by unfold isGo; rw [Tryz.func77]; exact ⟨rfl, by kernel_rfl⟩
theorem go78 : isGo Tryz.prog 78 := by unfold isGo; rw [Tryz.func78]; exact ⟨rfl, by kernel_rfl⟩
theorem go79 : isGo Tryz.prog 79 := by unfold isGo; rw [Tryz.func79]; exact ⟨rfl, by kernel_rfl⟩
theorem go80 : isGo Tryz.prog 80 := by unfold isGo; rw [Tryz.func80]; exact ⟨rfl, by kernel_rfl⟩
theorem go81 : isGo Tryz.prog 81 := by unfold isGo; rw [Tryz.func81]; exact ⟨rfl, by kernel_rfl⟩
theorem go93 : isGo Tryz.prog 93 := by unfold isGo; rw [Tryz.func93]; exact ⟨rfl, by kernel_rfl⟩
theorem go94 : isGo Tryz.prog 94 := by unfold isGo; rw [Tryz.func94]; exact ⟨rfl, by kernel_rfl⟩
theorem go95 : isGo Tryz.prog 95 := by unfold isGo; rw [Tryz.func95]; exact ⟨rfl, by kernel_rfl⟩
theorem go96 : isGo Tryz.prog 96 := by unfold isGo; rw [Tryz.func96]; exact ⟨rfl, by kernel_rfl⟩
theorem go97 : isGo Tryz.prog 97 := by unfold isGo; rw [Tryz.func97]; exact ⟨rfl, by kernel_rfl⟩
theorem go98 : isGo Tryz.prog 98 := by unfold isGo; rw [Tryz.func98]; exact ⟨rfl, by kernel_rfl⟩
theorem go105 : isGo Tryz.prog 105 := by unfold isGo; rw [Tryz.func105]; exact ⟨rfl, by kernel_rfl⟩
theorem go106 : isGo Tryz.prog 106 := by unfold isGo; rw [Tryz.func106]; exact ⟨rfl, by kernel_rfl⟩
def md3 : Nat → List Bool
  | 33 => [false, false, false, false, false, false, false, false, false, false, false, false, false, false, false, false, false, false, false, false, false, false, false, false, false, false, false, false, false, false, false, false]
  | _ => []
def md4 : Nat → List Bool := fun _ => []
def md5 : Nat → List Bool := fun _ => []
def md6 : Nat → List Bool := fun _ => []
def md7 : Nat → List Bool := fun _ => []
def md8 : Nat → List Bool
  | 6 => [false, false, false, false, false, false, false, false, false]
  | _ => []
def md9 : Nat → List Bool := fun _ => []
def md10 : Nat → List Bool := fun _ => []
def md11 : Nat → List Bool := fun _ => []
def md12 : Nat → List Bool := fun _ => []
def md13 : Nat → List Bool
  | 4 => [false, false, false, false, false, false, false, false, false, false, false]
  | _ => []
def md14 : Nat → List Bool := fun _ => []
def md15 : Nat → List Bool := fun _ => []
def md16 : Nat → List Bool := fun _ => []
def md17 : Nat → List Bool := fun _ => []
def md18 : Nat → List Bool := fun _ => []
def md19 : Nat → List Bool := fun _ => []
def md20 : Nat → List Bool := fun _ => []
def md21 : Nat → List Bool := fun _ => []
def md22 : Nat → List Bool := fun _ => []
def md23 : Nat → List Bool := fun _ => []
def md24 : Nat → List Bool := fun _ => []
def md25 : Nat → List Bool := fun _ => []
def md26 : Nat → List Bool := fun _ => []
def md27 : Nat → List Bool := fun _ => []
def md28 : Nat → List Bool := fun _ => []
def md29 : Nat → List Bool := fun _ => []
def md30 : Nat → List Bool := fun _ => []
def md31 : Nat → List Bool := fun _ => []
def md32 : Nat → List Bool := fun _ => []
def md33 : Nat → List Bool
  | 5 => [false, false, false, false, false, false, false, false, false, true]
  | 6 => [false, false, false, false, false, false, false, false, false, true]
  | 7 => [false, false, false, false, false, false, false, false, false, false, true]
  | 20 => [false, false, false, false, false, false, false, false, false, false, false, false, false, false, false, false]
  | _ => []
def md34 : Nat → List Bool := fun _ => []
def md35 : Nat → List Bool
  | 5 => [false, false, false, false, false, false]
  | 7 => [false, false, false, false, false, false, false]
  | _ => []
def md36 : Nat → List Bool := fun _ => []
def md37 : Nat → List Bool := fun _ => []
def md38 : Nat → List Bool := fun _ => []
def md39 : Nat → List Bool := fun _ => []
def md40 : Nat → List Bool := fun _ => []
def md41 : Nat → List Bool := fun _ => []
def md42 : Nat → List Bool := fun _ => []
def md43 : Nat → List Bool
  | 4 => [false, false, false, false, false, false, true]
  | _ => []
def md44 : Nat → List Bool := fun _ => []
def md45 : Nat → List Bool := fun _ => []
def md46 : Nat → List Bool := fun _ => []
def md48 : Nat → List Bool
  | 6 => [false, false, false, false, false, false, false, false, false, false]
  | 11 => [false, false, false, false, false, false, false, false, false, false]
  | _ => []
def md49 : Nat → List Bool
  | 1 => [false, false, false, false, false, false, false, false, false, false, false, false, false, false, false, false, false, false, false, false, false, false, false, false, false, false, false, false, false, false, false, false, false, false, false, false, false, false, false, false, false, false, false, false, false, false, false, false, false, false, false, false, false]
  | _ => []
def md50 : Nat → List Bool := fun _ => []
def md51 : Nat → List Bool := fun _ => []
def md52 : Nat → List Bool := fun _ => []
def md53 : Nat → List Bool := fun _ => []
def md54 : Nat → List Bool := fun _ => []
def md55 : Nat → List Bool := fun _ => []
def md56 : Nat → List Bool := fun _ => []
def md57 : Nat → List Bool
  | 4 => [false, false, false, false, false, false, false, false, false, false, false, false, false, false, false, false, false, false, false, false, false, false, false, false]
  | _ => []
def md58 : Nat → List Bool := fun _ => []
def md59 : Nat → List Bool
  | 17 => [false, false, false, false, false, false, false, false, false, false, false, false, false, false, false, false, false, false, false, false, false, false, false, false, false, false, false, false, false, false, false]
  | _ => []
def md60 : Nat → List Bool
  | 10 => [false, false, false, false, false, false, false, false, false, false, false, false, false, false, false, false, false, false, false, false, false, false, false, false, false, false, false, false]
  | _ => []
def md61 : Nat → List Bool := fun _ => []
def md62 : Nat → List Bool
  | 2 => [false, false, false, false, false, false, false, false, false, false]
  | 3 => [false, false, false, false, false, false, false, false, false, false, false, false]
  | 6 => [false, false, false, false, false, false, false, false, false, false]
  | _ => []
def md63 : Nat → List Bool := fun _ => []
def md64 : Nat → List Bool := fun _ => []
def md67 : Nat → List Bool := fun _ => []
def md68 : Nat → List Bool := fun _ => []
def md69 : Nat → List Bool := fun _ => []
def md70 : Nat → List Bool := fun _ => []
def md71 : Nat → List Bool := fun _ => []
def md72 : Nat → List Bool := fun _ => []
def md73 : Nat → List Bool := fun _ => []
def md74 : Nat → List Bool := fun _ => []
def md75 : Nat → List Bool := fun _ => []
def md76 : Nat → List Bool := fun _ => []
def md77 : Nat → List Bool := fun _ => []
def md78 : Nat → List Bool := fun _ => []
def md79 : Nat → List Bool
  | 4 => [false, false, false, false, false, false, false, false, false, false, false, false, false, false]
  | _ => []
def md80 : Nat → List Bool
  | 4 => [false, false, false, false, false, false, false, false, false, false, false, false, false]
  | _ => []
def md81 : Nat → List Bool := fun _ => []
def md93 : Nat → List Bool := fun _ => []
def md94 : Nat → List Bool := fun _ => []
def md95 : Nat → List Bool := fun _ => []
def md96 : Nat → List Bool := fun _ => []
def md97 : Nat → List Bool := fun _ => []
def md98 : Nat → List Bool := fun _ => []
def md105 : Nat → List Bool := fun _ => []
def md106 : Nat → List Bool := fun _ => []
end Go.Proofs.YtmllengggncmkaaGreat
