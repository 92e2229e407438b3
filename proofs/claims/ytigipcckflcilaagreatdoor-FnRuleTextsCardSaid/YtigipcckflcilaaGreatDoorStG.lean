/- Numbers and texts of rules by the reference. -/
import Derived.Test.YtigipcckflcilaaGreatDoorStF
set_option maxRecDepth 10000
set_option maxHeartbeats 4000000
set_option linter.unusedSimpArgs false
set_option linter.unusedVariables false
namespace Go.Proofs.YtigipcckflcilaaGreatDoor
open Go Go.Abs

def okJ (x : Int) : Prop := -9223372036854775807 ≤ x ∧ x ≤ 9223372036854775807
theorem okJ.i {x : Int} (h : okJ x) : okI x := ⟨by unfold okJ at h; omega, h.2⟩
theorem digits_step {n : Nat} (h : ¬ n < 10) : Lib.decDigits n = Lib.decDigits (n / 10) ++ [UInt8.ofNat (48 + n % 10)] := by
  conv => lhs; unfold Lib.decDigits
  rw [dif_neg h]
theorem digits_one {n : Nat} (h : n < 10) : Lib.decDigits n = [UInt8.ofNat (48 + n)] := by
  conv => lhs; unfold Lib.decDigits
  rw [dif_pos h]
def bytB (l : List UInt8) : Blk := { ty := 5, w := 1, els := byts l }
theorem l05NumberN : ∀ (k n : Nat), n < k → n ≤ 9223372036854775807 → CallA Tryz.prog 82 [.int .i64 n] [] (Ret (.str (Lib.decDigits n)) [])
  | 0, n, h, _ => absurd h (Nat.not_lt_zero _)
  | k + 1, n, h, hm => by
    have n0 : decide ((n : Int) < 0) = false := decide_eq_false (by omega)
    refine CallP.out (t := .mk) (go_in (md := md82) mixed Tryz.func82 rfl go82 (by kernel_rfl) ?_)
    simp only [q0, q1, q2, q3, q4, q5, q6, q7, q8, q9, zq0, zq1, zq2, zq3, zq4, guardSlot, quietA, nilC, nilA, quietB, St.ev, St.put, St.after, Nat.reduceAdd, Nat.reduceSub, ofV, ofL, lenA, binA, intBin, fltBin, strBin, cpxBin, unA, convA, convB, convO, pickV, resL, oneA, indexA, indexS, isQuiet, loadA, loadC, storeA, fieldA, partA, sliceA, boundA, buildA, placeA, setAll, appendA, readSl, newEl, AV.cells, AV.solid, AV.one, kill, killM, killL, notInt, Int.reduceToNat, cond_true, cond_false, ↓reduceIte, reduceCtorEq, Nat.reduceLT, Nat.reduceLeDiff, Nat.reduceMul, Nat.reduceEqDiff, exists_eq', putF, implies_true, exists_true_left, tys0, tys1, tys2, und0, und1, md82, Tryz.ntmps82, Tryz.results82, n0]
    refine br_intro (fun g => ?_) (fun g => ?_) <;> simp only [q0, q1, q2, q3, q4, q5, q6, q7, q8, q9, zq0, zq1, zq2, zq3, zq4, guardSlot, quietA, nilC, nilA, quietB, St.ev, St.put, St.after, Nat.reduceAdd, Nat.reduceSub, ofV, ofL, lenA, binA, intBin, fltBin, strBin, cpxBin, unA, convA, convB, convO, pickV, resL, oneA, indexA, indexS, isQuiet, loadA, loadC, storeA, fieldA, partA, sliceA, boundA, buildA, placeA, setAll, appendA, readSl, newEl, AV.cells, AV.solid, AV.one, kill, killM, killL, notInt, Int.reduceToNat, cond_true, cond_false, ↓reduceIte, reduceCtorEq, Nat.reduceLT, Nat.reduceLeDiff, Nat.reduceMul, Nat.reduceEqDiff, exists_eq', putF, implies_true, exists_true_left, tys0, tys1, tys2, und0, und1, md82, Tryz.ntmps82, Tryz.results82]
    · have g' : n < 10 := by have := of_decide_eq_true g; omega
      have e1 : IntKind.i64.wrap (48 + (n : Int)) = 48 + (n : Int) := w64 (by omega) (by omega)
      have e2 : IntKind.u8.wrap (48 + (n : Int)) = 48 + (n : Int) := w8 (by omega) (by omega)
      have e3 := digit_byte n g'
      simp only [q0, q1, q2, q3, q4, q5, q6, q7, q8, q9, zq0, zq1, zq2, zq3, zq4, guardSlot, quietA, nilC, nilA, quietB, St.ev, St.put, St.after, Nat.reduceAdd, Nat.reduceSub, ofV, ofL, lenA, binA, intBin, fltBin, strBin, cpxBin, unA, convA, convB, convO, pickV, resL, oneA, indexA, indexS, isQuiet, loadA, loadC, storeA, fieldA, partA, sliceA, boundA, buildA, placeA, setAll, appendA, readSl, newEl, AV.cells, AV.solid, AV.one, kill, killM, killL, notInt, Int.reduceToNat, cond_true, cond_false, ↓reduceIte, reduceCtorEq, Nat.reduceLT, Nat.reduceLeDiff, Nat.reduceMul, Nat.reduceEqDiff, exists_eq', putF, implies_true, exists_true_left, tys0, tys1, tys2, und0, und1, md82, Tryz.ntmps82, Tryz.results82, e1, e2]
      refine ⟨⟨5, rfl, Tryz.underlying5⟩, [UInt8.ofNat (48 + n)], by rw [byts, List.map_cons, e3]; rfl, rfl, ?_⟩
      rw [digits_one g']
      exact PostR.pure ⟨rfl, rfl⟩ rfl
    · have g' : ¬ n < 10 := by have := of_decide_eq_false g; omega
      refine go_plan mixed [] [(16, .int .i64 n, none), (17, .int .i64 ((n / 10 : Nat) : Int), none), (18, .str (Lib.decDigits (n / 10)), none), (19, .int .i64 n, none), (20, .int .i64 ((n % 10 : Nat) : Int), none), (21, .int .i64 (48 + ((n % 10 : Nat) : Int)), none), (22, .int .u8 (48 + ((n % 10 : Nat) : Int)), none),
        (23, .sl 7 0 1, some (bytB [UInt8.ofNat (48 + n % 10)])), (24, .str [UInt8.ofNat (48 + n % 10)], none), (25, .str (Lib.decDigits n), none)]
        [7] [bytB [UInt8.ofNat (48 + n % 10)]] ([.any, .any, .any, .any, .any, .any, .any, .any, .any, .any, .any, .any, .any, .any, .any, .any, .any, .any, .any, .any, .any, .any, .any, .any, .any, .str (Lib.decDigits n)]) _ (by kernel_rfl) (by rfl) (by rfl) (by simp) (by simp) (by simp [bytB, byts_below]) (by decide) (by rfl) (by rfl) ?_ ?_ ?_
      · refine ⟨by rfl, ?_⟩; repeat (first | exact finOk_nil | refine finOk_any ?_ | refine finOk_val (by simp [finAt, endName, ren, renM, renL, below, belowM, belowL]) ?_)
      · have e0 : IntKind.i64.wrap ((n : Int).tdiv 10) = ((n / 10 : Nat) : Int) := by rw [Int.tdiv_eq_ediv_of_nonneg (by omega), w64 (by omega) (by omega)]; omega
        have e1 : (n : Int).tmod 10 = ((n % 10 : Nat) : Int) := by rw [Int.tmod_eq_emod_of_nonneg (by omega)]; omega
        have e2 : IntKind.i64.wrap (48 + ((n % 10 : Nat) : Int)) = 48 + ((n % 10 : Nat) : Int) := w64 (by omega) (by omega)
        have e3 : IntKind.u8.wrap (48 + ((n % 10 : Nat) : Int)) = 48 + ((n % 10 : Nat) : Int) := w8 (by omega) (by omega)
        have e4 := digit_byte (n % 10) (by omega)
        refine hops_op (by rfl) (by rfl) (by rfl) (fun nm hp hold hnew hlen => ?_) ?_
        · simp only [oldOk, Nat.reduceAdd, Nat.zero_add, and_true] at hold; simp only [q0, q1, q2, q3, q4, q5, q6, q7, q8, q9, zq0, zq1, zq2, zq3, zq4, guardSlot, quietA, nilC, nilA, quietB, St.ev, St.put, St.after, Nat.reduceAdd, Nat.reduceSub, ofV, ofL, lenA, binA, intBin, fltBin, strBin, cpxBin, unA, convA, convB, convO, pickV, resL, oneA, indexA, indexS, isQuiet, loadA, loadC, storeA, fieldA, partA, sliceA, boundA, buildA, placeA, setAll, appendA, readSl, newEl, AV.cells, AV.solid, AV.one, kill, killM, killL, notInt, Int.reduceToNat, cond_true, cond_false, ↓reduceIte, reduceCtorEq, Nat.reduceLT, Nat.reduceLeDiff, Nat.reduceMul, Nat.reduceEqDiff, exists_eq', putF, implies_true, exists_true_left, tys0, tys1, tys2, und0, und1, md82, Tryz.ntmps82, Tryz.results82, hold, evP, slotP, ren, renM, renL, plName, upd]
        refine hops_op (by rfl) (by rfl) (by rfl) (fun nm hp hold hnew hlen => ?_) ?_
        · simp only [oldOk, Nat.reduceAdd, Nat.zero_add, and_true] at hold; simp only [q0, q1, q2, q3, q4, q5, q6, q7, q8, q9, zq0, zq1, zq2, zq3, zq4, guardSlot, quietA, nilC, nilA, quietB, St.ev, St.put, St.after, Nat.reduceAdd, Nat.reduceSub, ofV, ofL, lenA, binA, intBin, fltBin, strBin, cpxBin, unA, convA, convB, convO, pickV, resL, oneA, indexA, indexS, isQuiet, loadA, loadC, storeA, fieldA, partA, sliceA, boundA, buildA, placeA, setAll, appendA, readSl, newEl, AV.cells, AV.solid, AV.one, kill, killM, killL, notInt, Int.reduceToNat, cond_true, cond_false, ↓reduceIte, reduceCtorEq, Nat.reduceLT, Nat.reduceLeDiff, Nat.reduceMul, Nat.reduceEqDiff, exists_eq', putF, implies_true, exists_true_left, tys0, tys1, tys2, und0, und1, md82, Tryz.ntmps82, Tryz.results82, hold, evP, slotP, ren, renM, renL, plName, upd, e0]
          decide
        refine hops_op (by rfl) (by rfl) (by rfl) (fun nm hp hold hnew hlen => ?_) ?_
        · simp only [oldOk, Nat.reduceAdd, Nat.zero_add, and_true] at hold; simp only [q0, q1, q2, q3, q4, q5, q6, q7, q8, q9, zq0, zq1, zq2, zq3, zq4, guardSlot, quietA, nilC, nilA, quietB, St.ev, St.put, St.after, Nat.reduceAdd, Nat.reduceSub, ofV, ofL, lenA, binA, intBin, fltBin, strBin, cpxBin, unA, convA, convB, convO, pickV, resL, oneA, indexA, indexS, isQuiet, loadA, loadC, storeA, fieldA, partA, sliceA, boundA, buildA, placeA, setAll, appendA, readSl, newEl, AV.cells, AV.solid, AV.one, kill, killM, killL, notInt, Int.reduceToNat, cond_true, cond_false, ↓reduceIte, reduceCtorEq, Nat.reduceLT, Nat.reduceLeDiff, Nat.reduceMul, Nat.reduceEqDiff, exists_eq', putF, implies_true, exists_true_left, tys0, tys1, tys2, und0, und1, md82, Tryz.ntmps82, Tryz.results82, hold, evP, slotP, ren, renM, renL, plName, upd]
          exact call_ret (l05NumberN k (n / 10) (by omega) (by omega)) rfl rfl ⟨rfl, rfl, rfl⟩
        refine hops_op (by rfl) (by rfl) (by rfl) (fun nm hp hold hnew hlen => ?_) ?_
        · simp only [oldOk, Nat.reduceAdd, Nat.zero_add, and_true] at hold; simp only [q0, q1, q2, q3, q4, q5, q6, q7, q8, q9, zq0, zq1, zq2, zq3, zq4, guardSlot, quietA, nilC, nilA, quietB, St.ev, St.put, St.after, Nat.reduceAdd, Nat.reduceSub, ofV, ofL, lenA, binA, intBin, fltBin, strBin, cpxBin, unA, convA, convB, convO, pickV, resL, oneA, indexA, indexS, isQuiet, loadA, loadC, storeA, fieldA, partA, sliceA, boundA, buildA, placeA, setAll, appendA, readSl, newEl, AV.cells, AV.solid, AV.one, kill, killM, killL, notInt, Int.reduceToNat, cond_true, cond_false, ↓reduceIte, reduceCtorEq, Nat.reduceLT, Nat.reduceLeDiff, Nat.reduceMul, Nat.reduceEqDiff, exists_eq', putF, implies_true, exists_true_left, tys0, tys1, tys2, und0, und1, md82, Tryz.ntmps82, Tryz.results82, hold, evP, slotP, ren, renM, renL, plName, upd]
        refine hops_op (by rfl) (by rfl) (by rfl) (fun nm hp hold hnew hlen => ?_) ?_
        · simp only [oldOk, Nat.reduceAdd, Nat.zero_add, and_true] at hold; simp only [q0, q1, q2, q3, q4, q5, q6, q7, q8, q9, zq0, zq1, zq2, zq3, zq4, guardSlot, quietA, nilC, nilA, quietB, St.ev, St.put, St.after, Nat.reduceAdd, Nat.reduceSub, ofV, ofL, lenA, binA, intBin, fltBin, strBin, cpxBin, unA, convA, convB, convO, pickV, resL, oneA, indexA, indexS, isQuiet, loadA, loadC, storeA, fieldA, partA, sliceA, boundA, buildA, placeA, setAll, appendA, readSl, newEl, AV.cells, AV.solid, AV.one, kill, killM, killL, notInt, Int.reduceToNat, cond_true, cond_false, ↓reduceIte, reduceCtorEq, Nat.reduceLT, Nat.reduceLeDiff, Nat.reduceMul, Nat.reduceEqDiff, exists_eq', putF, implies_true, exists_true_left, tys0, tys1, tys2, und0, und1, md82, Tryz.ntmps82, Tryz.results82, hold, evP, slotP, ren, renM, renL, plName, upd, e1]
          decide
        refine hops_op (by rfl) (by rfl) (by rfl) (fun nm hp hold hnew hlen => ?_) ?_
        · simp only [oldOk, Nat.reduceAdd, Nat.zero_add, and_true] at hold; simp only [q0, q1, q2, q3, q4, q5, q6, q7, q8, q9, zq0, zq1, zq2, zq3, zq4, guardSlot, quietA, nilC, nilA, quietB, St.ev, St.put, St.after, Nat.reduceAdd, Nat.reduceSub, ofV, ofL, lenA, binA, intBin, fltBin, strBin, cpxBin, unA, convA, convB, convO, pickV, resL, oneA, indexA, indexS, isQuiet, loadA, loadC, storeA, fieldA, partA, sliceA, boundA, buildA, placeA, setAll, appendA, readSl, newEl, AV.cells, AV.solid, AV.one, kill, killM, killL, notInt, Int.reduceToNat, cond_true, cond_false, ↓reduceIte, reduceCtorEq, Nat.reduceLT, Nat.reduceLeDiff, Nat.reduceMul, Nat.reduceEqDiff, exists_eq', putF, implies_true, exists_true_left, tys0, tys1, tys2, und0, und1, md82, Tryz.ntmps82, Tryz.results82, hold, evP, slotP, ren, renM, renL, plName, upd, e2]
        refine hops_op (by rfl) (by rfl) (by rfl) (fun nm hp hold hnew hlen => ?_) ?_
        · simp only [oldOk, Nat.reduceAdd, Nat.zero_add, and_true] at hold; simp only [q0, q1, q2, q3, q4, q5, q6, q7, q8, q9, zq0, zq1, zq2, zq3, zq4, guardSlot, quietA, nilC, nilA, quietB, St.ev, St.put, St.after, Nat.reduceAdd, Nat.reduceSub, ofV, ofL, lenA, binA, intBin, fltBin, strBin, cpxBin, unA, convA, convB, convO, pickV, resL, oneA, indexA, indexS, isQuiet, loadA, loadC, storeA, fieldA, partA, sliceA, boundA, buildA, placeA, setAll, appendA, readSl, newEl, AV.cells, AV.solid, AV.one, kill, killM, killL, notInt, Int.reduceToNat, cond_true, cond_false, ↓reduceIte, reduceCtorEq, Nat.reduceLT, Nat.reduceLeDiff, Nat.reduceMul, Nat.reduceEqDiff, exists_eq', putF, implies_true, exists_true_left, tys0, tys1, tys2, und0, und1, md82, Tryz.ntmps82, Tryz.results82, hold, evP, slotP, ren, renM, renL, plName, upd, e3]
        refine hops_new (by rfl) (by rfl) (by rfl) (fun nm hp hold hnew hlen => ?_) ?_
        · simp only [oldOk, Nat.reduceAdd, Nat.zero_add, and_true] at hold; simp only [q0, q1, q2, q3, q4, q5, q6, q7, q8, q9, zq0, zq1, zq2, zq3, zq4, guardSlot, quietA, nilC, nilA, quietB, St.ev, St.put, St.after, Nat.reduceAdd, Nat.reduceSub, ofV, ofL, lenA, binA, intBin, fltBin, strBin, cpxBin, unA, convA, convB, convO, pickV, resL, oneA, indexA, indexS, isQuiet, loadA, loadC, storeA, fieldA, partA, sliceA, boundA, buildA, placeA, setAll, appendA, readSl, newEl, AV.cells, AV.solid, AV.one, kill, killM, killL, notInt, Int.reduceToNat, cond_true, cond_false, ↓reduceIte, reduceCtorEq, Nat.reduceLT, Nat.reduceLeDiff, Nat.reduceMul, Nat.reduceEqDiff, exists_eq', putF, implies_true, exists_true_left, tys0, tys1, tys2, und0, und1, md82, Tryz.ntmps82, Tryz.results82, hold, evP, slotP, ren, renM, renL, plName, upd]
          rw [bytB, byts, List.map_cons, e4]; rfl
        refine hops_op (by rfl) (by rfl) (by rfl) (fun nm hp hold hnew hlen => ?_) ?_
        · simp only [oldOk, Nat.reduceAdd, Nat.zero_add, and_true] at hold; simp only [q0, q1, q2, q3, q4, q5, q6, q7, q8, q9, zq0, zq1, zq2, zq3, zq4, guardSlot, quietA, nilC, nilA, quietB, St.ev, St.put, St.after, Nat.reduceAdd, Nat.reduceSub, ofV, ofL, lenA, binA, intBin, fltBin, strBin, cpxBin, unA, convA, convB, convO, pickV, resL, oneA, indexA, indexS, isQuiet, loadA, loadC, storeA, fieldA, partA, sliceA, boundA, buildA, placeA, setAll, appendA, readSl, newEl, AV.cells, AV.solid, AV.one, kill, killM, killL, notInt, Int.reduceToNat, cond_true, cond_false, ↓reduceIte, reduceCtorEq, Nat.reduceLT, Nat.reduceLeDiff, Nat.reduceMul, Nat.reduceEqDiff, exists_eq', putF, implies_true, exists_true_left, tys0, tys1, tys2, und0, und1, md82, Tryz.ntmps82, Tryz.results82, hold, evP, slotP, ren, renM, renL, plName, upd, bytB]
          have hb : hp[nm 7]? = some (bytB [UInt8.ofNat (48 + n % 10)]) := (show _ ∧ _ from hnew).1 (by kernel_rfl)
          rw [hb]
          exact ⟨⟨5, rfl, Tryz.underlying5⟩, rfl, rfl, [UInt8.ofNat (48 + n % 10)], rfl, rfl, rfl⟩
        refine hops_op (by rfl) (by rfl) (by rfl) (fun nm hp hold hnew hlen => ?_) ?_
        · simp only [oldOk, Nat.reduceAdd, Nat.zero_add, and_true] at hold; simp only [q0, q1, q2, q3, q4, q5, q6, q7, q8, q9, zq0, zq1, zq2, zq3, zq4, guardSlot, quietA, nilC, nilA, quietB, St.ev, St.put, St.after, Nat.reduceAdd, Nat.reduceSub, ofV, ofL, lenA, binA, intBin, fltBin, strBin, cpxBin, unA, convA, convB, convO, pickV, resL, oneA, indexA, indexS, isQuiet, loadA, loadC, storeA, fieldA, partA, sliceA, boundA, buildA, placeA, setAll, appendA, readSl, newEl, AV.cells, AV.solid, AV.one, kill, killM, killL, notInt, Int.reduceToNat, cond_true, cond_false, ↓reduceIte, reduceCtorEq, Nat.reduceLT, Nat.reduceLeDiff, Nat.reduceMul, Nat.reduceEqDiff, exists_eq', putF, implies_true, exists_true_left, tys0, tys1, tys2, und0, und1, md82, Tryz.ntmps82, Tryz.results82, hold, evP, slotP, ren, renM, renL, plName, upd]
          have dl := dec_len 18 (n / 10) (by have : (10 : Nat) ^ (18 + 1) = 10000000000000000000 := by decide
                                             omega)
          exact ⟨by omega, by rw [digits_step g']⟩
        exact hops_nil
      · simp only [q0, q1, q2, q3, q4, q5, q6, q7, q8, q9, zq0, zq1, zq2, zq3, zq4, guardSlot, quietA, nilC, nilA, quietB, St.ev, St.put, St.after, Nat.reduceAdd, Nat.reduceSub, ofV, ofL, lenA, binA, intBin, fltBin, strBin, cpxBin, unA, convA, convB, convO, pickV, resL, oneA, indexA, indexS, isQuiet, loadA, loadC, storeA, fieldA, partA, sliceA, boundA, buildA, placeA, setAll, appendA, readSl, newEl, AV.cells, AV.solid, AV.one, kill, killM, killL, notInt, Int.reduceToNat, cond_true, cond_false, ↓reduceIte, reduceCtorEq, Nat.reduceLT, Nat.reduceLeDiff, Nat.reduceMul, Nat.reduceEqDiff, exists_eq', putF, implies_true, exists_true_left, tys0, tys1, tys2, und0, und1, md82, Tryz.ntmps82, Tryz.results82]
        exact PostR.pure ⟨rfl, rfl⟩ rfl
theorem l05Number_call (x : Int) (h0 : -9223372036854775807 ≤ x) (h1 : x ≤ 9223372036854775807) : CallA Tryz.prog 82 [.int .i64 x] [] (Ret (.str (Lib.itoa x)) []) := by
  rw [itoa_abs]
  by_cases hx : x < 0
  · have e1 : IntKind.i64.wrap (0 - x) = (x.natAbs : Int) := by rw [w64 (by omega) (by omega)]; omega
    rw [if_pos hx]
    refine CallP.out (t := .mk) (go_in (md := md82) mixed Tryz.func82 rfl go82 (by kernel_rfl) ?_)
    simp only [q0, q1, q2, q3, q4, q5, q6, q7, q8, q9, zq0, zq1, zq2, zq3, zq4, guardSlot, quietA, nilC, nilA, quietB, St.ev, St.put, St.after, Nat.reduceAdd, Nat.reduceSub, ofV, ofL, lenA, binA, intBin, fltBin, strBin, cpxBin, unA, convA, convB, convO, pickV, resL, oneA, indexA, indexS, isQuiet, loadA, loadC, storeA, fieldA, partA, sliceA, boundA, buildA, placeA, setAll, appendA, readSl, newEl, AV.cells, AV.solid, AV.one, kill, killM, killL, notInt, Int.reduceToNat, cond_true, cond_false, ↓reduceIte, reduceCtorEq, Nat.reduceLT, Nat.reduceLeDiff, Nat.reduceMul, Nat.reduceEqDiff, exists_eq', putF, implies_true, exists_true_left, tys0, tys1, tys2, und0, und1, md82, Tryz.ntmps82, Tryz.results82, decide_eq_true hx, e1]
    refine call_ret (l05NumberN (x.natAbs + 1) x.natAbs (by omega) (by omega)) rfl rfl ?_
    have dl := dec_len 18 x.natAbs (by have : (10 : Nat) ^ (18 + 1) = 10000000000000000000 := by decide
                                       omega)
    simp only [q0, q1, q2, q3, q4, q5, q6, q7, q8, q9, zq0, zq1, zq2, zq3, zq4, guardSlot, quietA, nilC, nilA, quietB, St.ev, St.put, St.after, Nat.reduceAdd, Nat.reduceSub, ofV, ofL, lenA, binA, intBin, fltBin, strBin, cpxBin, unA, convA, convB, convO, pickV, resL, oneA, indexA, indexS, isQuiet, loadA, loadC, storeA, fieldA, partA, sliceA, boundA, buildA, placeA, setAll, appendA, readSl, newEl, AV.cells, AV.solid, AV.one, kill, killM, killL, notInt, Int.reduceToNat, cond_true, cond_false, ↓reduceIte, reduceCtorEq, Nat.reduceLT, Nat.reduceLeDiff, Nat.reduceMul, Nat.reduceEqDiff, exists_eq', putF, implies_true, exists_true_left, tys0, tys1, tys2, und0, und1, md82, Tryz.ntmps82, Tryz.results82]
    exact ⟨by omega, PostR.pure ⟨rfl, rfl⟩ rfl⟩
  · obtain ⟨n, rfl⟩ := Int.eq_ofNat_of_zero_le (show 0 ≤ x by omega)
    rw [if_neg hx]
    exact l05NumberN (n + 1) n (by omega) (by omega)

def ifsT (xs : List Int) : List UInt8 := if xs = [] then [] else txt [32, 38, 32] xs ++ [32]
def ruleT (r : Rul) : List UInt8 := Lib.itoa r.2.2.1 ++ [45] ++ Lib.itoa r.2.2.2.1 ++ [32, 114] ++ Lib.itoa r.2.2.2.2 ++ [58, 32] ++ ifsT r.2.1 ++ [61, 62, 32] ++ Lib.itoa r.1
structure OkR (r : Rul) : Prop where
  h : okJ r.1
  n : r.2.1.length ≤ 6
  i : ∀ x ∈ r.2.1, okJ x
  a : okJ r.2.2.1
  b : okJ r.2.2.2.1
  c : okJ r.2.2.2.2
end Go.Proofs.YtigipcckflcilaaGreatDoor
