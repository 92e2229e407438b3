/- Sums that match: the reference. -/
import Derived.Test.YtimnfechlomkpaaPdM
set_option maxRecDepth 10000
set_option maxHeartbeats 8000000
set_option linter.unusedSimpArgs false
set_option linter.unusedVariables false
namespace Go.Proofs.Ytimnfechlomkpaa
open Go Go.Abs

theorem l03Sums_call {A : List Int} (S : Sms A) : CallA Try.prog 37 [.ro (ints A)] [] (Ret (.bool true) []) := by
  have la := S.len
  refine CallP.out (t := .mk) (go_in (md := md37) mixed Try.func37 rfl go37 (by kernel_rfl) ?_)
  simp only [q0, q1, q2, q3, q4, q5, q6, q7, q8, q9, zq0, zq1, zq2, zq3, zq4, guardSlot, quietA, nilC, nilA, quietB, St.ev, St.put, St.after, Nat.reduceAdd, Nat.reduceSub, ofV, ofL, lenA, binA, intBin, fltBin, strBin, cpxBin, unA, convA, convB, convO, pickV, resL, oneA, indexA, indexS, isQuiet, loadA, loadC, storeA, fieldA, partA, sliceA, boundA, buildA, placeA, setAll, appendA, readSl, newEl, AV.cells, AV.solid, AV.one, kill, killM, killL, notInt, Int.reduceToNat, cond_true, cond_false, ↓reduceIte, reduceCtorEq, Nat.reduceLT, Nat.reduceLeDiff, Nat.reduceMul, Nat.reduceEqDiff, exists_eq', putF, implies_true, exists_true_left, tys0, tys1, tys2, tys3, und0, und1, und2, md37, Try.ntmps37, Try.results37]
  refine go_round (md := md37) mixed (by kernel_rfl) (fun i : {i : Nat // i ≤ A.length} => ⟨[.ro (ints A), .any, .any, .any, .any, .int .i64 (A.length : Int), .int .i64 (i.1 : Int), .any, .any, .any, .any, .any, .any, .any, .any, .any, .any, .any, .any], []⟩) (fun i => A.length - i.1) ⟨0, by omega⟩ ?_ ?_
  · exact weak_drop (by simp) (by simp [DropHp, ints_below, flts_below]) (by simp [DropTm, DropV, below, belowM, belowL])
  rintro ⟨i, hi⟩
  simp only [q0, q1, q2, q3, q4, q5, q6, q7, q8, q9, zq0, zq1, zq2, zq3, zq4, guardSlot, quietA, nilC, nilA, quietB, St.ev, St.put, St.after, Nat.reduceAdd, Nat.reduceSub, ofV, ofL, lenA, binA, intBin, fltBin, strBin, cpxBin, unA, convA, convB, convO, pickV, resL, oneA, indexA, indexS, isQuiet, loadA, loadC, storeA, fieldA, partA, sliceA, boundA, buildA, placeA, setAll, appendA, readSl, newEl, AV.cells, AV.solid, AV.one, kill, killM, killL, notInt, Int.reduceToNat, cond_true, cond_false, ↓reduceIte, reduceCtorEq, Nat.reduceLT, Nat.reduceLeDiff, Nat.reduceMul, Nat.reduceEqDiff, exists_eq', putF, implies_true, exists_true_left, tys0, tys1, tys2, tys3, und0, und1, und2, md37, Try.ntmps37, Try.results37]
  refine br_intro (fun g => ?_) (fun g => ?_) <;> simp only [q0, q1, q2, q3, q4, q5, q6, q7, q8, q9, zq0, zq1, zq2, zq3, zq4, guardSlot, quietA, nilC, nilA, quietB, St.ev, St.put, St.after, Nat.reduceAdd, Nat.reduceSub, ofV, ofL, lenA, binA, intBin, fltBin, strBin, cpxBin, unA, convA, convB, convO, pickV, resL, oneA, indexA, indexS, isQuiet, loadA, loadC, storeA, fieldA, partA, sliceA, boundA, buildA, placeA, setAll, appendA, readSl, newEl, AV.cells, AV.solid, AV.one, kill, killM, killL, notInt, Int.reduceToNat, cond_true, cond_false, ↓reduceIte, reduceCtorEq, Nat.reduceLT, Nat.reduceLeDiff, Nat.reduceMul, Nat.reduceEqDiff, exists_eq', putF, implies_true, exists_true_left, tys0, tys1, tys2, tys3, und0, und1, und2, md37, Try.ntmps37, Try.results37]
  · have hi' : i < A.length := by have := of_decide_eq_true g; omega
    have xb := S.low A[i] (List.getElem_mem hi')
    refine ⟨hi', ?_⟩
    refine call_ret (l00In_call _ _ _) rfl rfl ?_
    rw [inR_yes (show (-1000000000 : Int) ≤ A[i] by omega) (show A[i] ≤ 1000000000 by omega)]
    simp only [q0, q1, q2, q3, q4, q5, q6, q7, q8, q9, zq0, zq1, zq2, zq3, zq4, guardSlot, quietA, nilC, nilA, quietB, St.ev, St.put, St.after, Nat.reduceAdd, Nat.reduceSub, ofV, ofL, lenA, binA, intBin, fltBin, strBin, cpxBin, unA, convA, convB, convO, pickV, resL, oneA, indexA, indexS, isQuiet, loadA, loadC, storeA, fieldA, partA, sliceA, boundA, buildA, placeA, setAll, appendA, readSl, newEl, AV.cells, AV.solid, AV.one, kill, killM, killL, notInt, Int.reduceToNat, cond_true, cond_false, ↓reduceIte, reduceCtorEq, Nat.reduceLT, Nat.reduceLeDiff, Nat.reduceMul, Nat.reduceEqDiff, exists_eq', putF, implies_true, exists_true_left, tys0, tys1, tys2, tys3, und0, und1, und2, md37, Try.ntmps37, Try.results37]
    refine ⟨⟨i + 1, by omega⟩, by show A.length - (i + 1) < A.length - i; omega, ?_⟩
    exact weak_drop (by simp) (by simp [DropHp, ints_below, flts_below, w64_succ i (by omega)]) (by simp [DropTm, DropV, below, belowM, belowL, w64_succ i (by omega)])
  · exact PostR.pure ⟨by rw [decide_eq_true (by omega)], rfl⟩ rfl
def atI (o : Option Nat) : Int := match o with
  | some k => k
  | none => -1
theorem specMatch_call {A B : List Int} (SA : Sms A) (SB : Sms B) (hB : 1 ≤ B.length) :
    CallA Try.prog 15 [.ro (ints A), .ro (ints B)] [] (Ret (.tup [.sl 0 0 (resM A B).1.length, .sl 1 0 (resM A B).2.length, .bool true]) [intB (resM A B).1, intB (resM A B).2]) := by
  have la := SA.len
  have lb := SB.len
  refine CallP.out (t := .mk) (go_in (md := md15) mixed Try.func15 rfl go15 (by kernel_rfl) ?_)
  simp only [q0, q1, q2, q3, q4, q5, q6, q7, q8, q9, zq0, zq1, zq2, zq3, zq4, guardSlot, quietA, nilC, nilA, quietB, St.ev, St.put, St.after, Nat.reduceAdd, Nat.reduceSub, ofV, ofL, lenA, binA, intBin, fltBin, strBin, cpxBin, unA, convA, convB, convO, pickV, resL, oneA, indexA, indexS, isQuiet, loadA, loadC, storeA, fieldA, partA, sliceA, boundA, buildA, placeA, setAll, appendA, readSl, newEl, AV.cells, AV.solid, AV.one, kill, killM, killL, notInt, Int.reduceToNat, cond_true, cond_false, ↓reduceIte, reduceCtorEq, Nat.reduceLT, Nat.reduceLeDiff, Nat.reduceMul, Nat.reduceEqDiff, exists_eq', putF, implies_true, exists_true_left, tys0, tys1, tys2, tys3, und0, und1, und2, md15, Try.ntmps15, Try.results15]
  refine call_ret (l03Sums_call SA) rfl rfl ?_
  simp only [q0, q1, q2, q3, q4, q5, q6, q7, q8, q9, zq0, zq1, zq2, zq3, zq4, guardSlot, quietA, nilC, nilA, quietB, St.ev, St.put, St.after, Nat.reduceAdd, Nat.reduceSub, ofV, ofL, lenA, binA, intBin, fltBin, strBin, cpxBin, unA, convA, convB, convO, pickV, resL, oneA, indexA, indexS, isQuiet, loadA, loadC, storeA, fieldA, partA, sliceA, boundA, buildA, placeA, setAll, appendA, readSl, newEl, AV.cells, AV.solid, AV.one, kill, killM, killL, notInt, Int.reduceToNat, cond_true, cond_false, ↓reduceIte, reduceCtorEq, Nat.reduceLT, Nat.reduceLeDiff, Nat.reduceMul, Nat.reduceEqDiff, exists_eq', putF, implies_true, exists_true_left, tys0, tys1, tys2, tys3, und0, und1, und2, md15, Try.ntmps15, Try.results15]
  refine call_ret (l03Sums_call SB) rfl rfl ?_
  simp only [q0, q1, q2, q3, q4, q5, q6, q7, q8, q9, zq0, zq1, zq2, zq3, zq4, guardSlot, quietA, nilC, nilA, quietB, St.ev, St.put, St.after, Nat.reduceAdd, Nat.reduceSub, ofV, ofL, lenA, binA, intBin, fltBin, strBin, cpxBin, unA, convA, convB, convO, pickV, resL, oneA, indexA, indexS, isQuiet, loadA, loadC, storeA, fieldA, partA, sliceA, boundA, buildA, placeA, setAll, appendA, readSl, newEl, AV.cells, AV.solid, AV.one, kill, killM, killL, notInt, Int.reduceToNat, cond_true, cond_false, ↓reduceIte, reduceCtorEq, Nat.reduceLT, Nat.reduceLeDiff, Nat.reduceMul, Nat.reduceEqDiff, exists_eq', putF, implies_true, exists_true_left, tys0, tys1, tys2, tys3, und0, und1, und2, md15, Try.ntmps15, Try.results15]
  refine ⟨by omega, by omega, ?_⟩
  refine go_round (md := md15) mixed (by kernel_rfl) (fun i : {i : Nat // i ≤ A.length} => ⟨[.ro (ints A), .ro (ints B), .any, .any, .any, .any, .any, .sl 0 0 B.length, .sl 1 0 (mst A B i.1).2.length, .any, .any, .any, .any, .any, .any, .any, .any, .any, .any, .any, .any, .any, .any, .any, .any, .any, .any, .int .i64 (A.length : Int), .int .i64 (i.1 : Int), .any, .any, .any, .any, .any, .any, .any, .any, .any, .any, .any, .any, .any, .any, .any, .any, .any, .any, .any, .any, .any, .any, .any, .any, .any, .any, .any, .any, .any, .any, .any, .any, .any, .any, .any, .any, .any, .any, .any, .any, .any, .any, .any, .any, .any, .any, .any, .any, .any, .any, .any, .any, .any, .any, .any, .any, .any], [bolB (mst A B i.1).1, intB (mst A B i.1).2]⟩) (fun i => A.length - i.1) ⟨0, by omega⟩ ?_ ?_
  · have z : ints [] = [] := rfl
    have z2 : bls (List.replicate B.length false) = List.replicate B.length (.bool false) := by simp [bls]
    have z3 : mst A B 0 = (List.replicate B.length false, []) := rfl
    have zb2 : allBelow 2 (List.replicate B.length (AV.bool false)) = true := by rw [← z2]; exact bls_below _ _
    rw [z3]
    exact weak_drop (by simp) (by simp [DropHp, ints_below, flts_below, intB, bolB, z, z2, zb2, allBelow_cons, allBelow_nil, below, belowM, belowL]) (by simp [DropTm, DropV, below, belowM, belowL, intB, bolB, z, z2, zb2, allBelow_cons, allBelow_nil, below, belowM, belowL])
  rintro ⟨i, hi⟩
  obtain ⟨ml, ol⟩ := mst_len A B i
  generalize hS : mst A B i = S at *
  simp only [q0, q1, q2, q3, q4, q5, q6, q7, q8, q9, zq0, zq1, zq2, zq3, zq4, guardSlot, quietA, nilC, nilA, quietB, St.ev, St.put, St.after, Nat.reduceAdd, Nat.reduceSub, ofV, ofL, lenA, binA, intBin, fltBin, strBin, cpxBin, unA, convA, convB, convO, pickV, resL, oneA, indexA, indexS, isQuiet, loadA, loadC, storeA, fieldA, partA, sliceA, boundA, buildA, placeA, setAll, appendA, readSl, newEl, AV.cells, AV.solid, AV.one, kill, killM, killL, notInt, Int.reduceToNat, cond_true, cond_false, ↓reduceIte, reduceCtorEq, Nat.reduceLT, Nat.reduceLeDiff, Nat.reduceMul, Nat.reduceEqDiff, exists_eq', putF, implies_true, exists_true_left, tys0, tys1, tys2, tys3, und0, und1, und2, md15, Try.ntmps15, Try.results15, intB, bolB, ints_len, bls_len, ml]
  refine br_intro (fun g => ?_) (fun g => ?_) <;> simp only [q0, q1, q2, q3, q4, q5, q6, q7, q8, q9, zq0, zq1, zq2, zq3, zq4, guardSlot, quietA, nilC, nilA, quietB, St.ev, St.put, St.after, Nat.reduceAdd, Nat.reduceSub, ofV, ofL, lenA, binA, intBin, fltBin, strBin, cpxBin, unA, convA, convB, convO, pickV, resL, oneA, indexA, indexS, isQuiet, loadA, loadC, storeA, fieldA, partA, sliceA, boundA, buildA, placeA, setAll, appendA, readSl, newEl, AV.cells, AV.solid, AV.one, kill, killM, killL, notInt, Int.reduceToNat, cond_true, cond_false, ↓reduceIte, reduceCtorEq, Nat.reduceLT, Nat.reduceLeDiff, Nat.reduceMul, Nat.reduceEqDiff, exists_eq', putF, implies_true, exists_true_left, tys0, tys1, tys2, tys3, und0, und1, und2, md15, Try.ntmps15, Try.results15, intB, bolB, ints_len, bls_len, ml]
  · have hi' : i < A.length := by have := of_decide_eq_true g; omega
    have ga := getD_at A 0 i hi'
    refine go_round (md := md15) mixed (by kernel_rfl) (fun k : {k : Nat // k ≤ B.length} => ⟨[.ro (ints A), .ro (ints B), .any, .any, .any, .any, .any, .sl 0 0 B.length, .sl 1 0 S.2.length, .int .i64 (i : Int), .int .i64 (atI (fstM B S.1 A[i] k.1)), .any, .any, .any, .any, .any, .any, .any, .any, .any, .any, .any, .any, .any, .any, .any, .any, .int .i64 (A.length : Int), .int .i64 (i : Int), .any, .any, .any, .int .i64 (B.length : Int), .int .i64 (k.1 : Int), .any, .any, .any, .any, .any, .any, .any, .any, .any, .any, .any, .any, .any, .any, .any, .any, .any, .any, .any, .any, .any, .any, .any, .any, .any, .any, .any, .any, .any, .any, .any, .any, .any, .any, .any, .any, .any, .any, .any, .any, .any, .any, .any, .any, .any, .any, .any, .any, .any, .any, .any, .any], [bolB S.1, intB S.2]⟩) (fun k => B.length - k.1) ⟨0, by omega⟩ ?_ ?_
    · have z : atI (fstM B S.1 A[i] 0) = -1 := rfl
      rw [z]
      exact weak_drop (by simp) (by simp [DropHp, ints_below, flts_below, intB, bolB, bls_below, allBelow_cons, allBelow_nil, below, belowM, belowL]) (by simp [DropTm, DropV, below, belowM, belowL, intB, bolB, bls_below, allBelow_cons, allBelow_nil, below, belowM, belowL])
    rintro ⟨k, hk⟩
    have alow : -1 ≤ atI (fstM B S.1 A[i] k) ∧ atI (fstM B S.1 A[i] k) < B.length := by
      unfold atI
      split
      · rename_i q hq; have := fstM_low k hq; omega
      · omega
    simp only [q0, q1, q2, q3, q4, q5, q6, q7, q8, q9, zq0, zq1, zq2, zq3, zq4, guardSlot, quietA, nilC, nilA, quietB, St.ev, St.put, St.after, Nat.reduceAdd, Nat.reduceSub, ofV, ofL, lenA, binA, intBin, fltBin, strBin, cpxBin, unA, convA, convB, convO, pickV, resL, oneA, indexA, indexS, isQuiet, loadA, loadC, storeA, fieldA, partA, sliceA, boundA, buildA, placeA, setAll, appendA, readSl, newEl, AV.cells, AV.solid, AV.one, kill, killM, killL, notInt, Int.reduceToNat, cond_true, cond_false, ↓reduceIte, reduceCtorEq, Nat.reduceLT, Nat.reduceLeDiff, Nat.reduceMul, Nat.reduceEqDiff, exists_eq', putF, implies_true, exists_true_left, tys0, tys1, tys2, tys3, und0, und1, und2, md15, Try.ntmps15, Try.results15, intB, bolB, ints_len, bls_len, bls_get, ml]
    refine br_intro (fun f => ?_) (fun f => ?_) <;> simp only [q0, q1, q2, q3, q4, q5, q6, q7, q8, q9, zq0, zq1, zq2, zq3, zq4, guardSlot, quietA, nilC, nilA, quietB, St.ev, St.put, St.after, Nat.reduceAdd, Nat.reduceSub, ofV, ofL, lenA, binA, intBin, fltBin, strBin, cpxBin, unA, convA, convB, convO, pickV, resL, oneA, indexA, indexS, isQuiet, loadA, loadC, storeA, fieldA, partA, sliceA, boundA, buildA, placeA, setAll, appendA, readSl, newEl, AV.cells, AV.solid, AV.one, kill, killM, killL, notInt, Int.reduceToNat, cond_true, cond_false, ↓reduceIte, reduceCtorEq, Nat.reduceLT, Nat.reduceLeDiff, Nat.reduceMul, Nat.reduceEqDiff, exists_eq', putF, implies_true, exists_true_left, tys0, tys1, tys2, tys3, und0, und1, und2, md15, Try.ntmps15, Try.results15, intB, bolB, ints_len, bls_len, bls_get, ml]
    · have hk' : k < B.length := by have := of_decide_eq_true f; omega
      have gb := getD_at B 0 k hk'
      have hu : k < S.1.length := by omega
      have gu := getDb S.1 k hu
      rcases hf : fstM B S.1 A[i] k with _ | r
      · refine br_yes rfl ?_
        simp only [q0, q1, q2, q3, q4, q5, q6, q7, q8, q9, zq0, zq1, zq2, zq3, zq4, guardSlot, quietA, nilC, nilA, quietB, St.ev, St.put, St.after, Nat.reduceAdd, Nat.reduceSub, ofV, ofL, lenA, binA, intBin, fltBin, strBin, cpxBin, unA, convA, convB, convO, pickV, resL, oneA, indexA, indexS, isQuiet, loadA, loadC, storeA, fieldA, partA, sliceA, boundA, buildA, placeA, setAll, appendA, readSl, newEl, AV.cells, AV.solid, AV.one, kill, killM, killL, notInt, Int.reduceToNat, cond_true, cond_false, ↓reduceIte, reduceCtorEq, Nat.reduceLT, Nat.reduceLeDiff, Nat.reduceMul, Nat.reduceEqDiff, exists_eq', putF, implies_true, exists_true_left, tys0, tys1, tys2, tys3, und0, und1, und2, md15, Try.ntmps15, Try.results15, intB, bolB, ints_len, bls_len, bls_get, ml, allW_int, fits, List.isEmpty_cons, brk_false, Nat.reduceMul]
        refine ⟨by omega, hk', ?_⟩
        refine br_intro (fun v => ?_) (fun v => ?_) <;> simp only [q0, q1, q2, q3, q4, q5, q6, q7, q8, q9, zq0, zq1, zq2, zq3, zq4, guardSlot, quietA, nilC, nilA, quietB, St.ev, St.put, St.after, Nat.reduceAdd, Nat.reduceSub, ofV, ofL, lenA, binA, intBin, fltBin, strBin, cpxBin, unA, convA, convB, convO, pickV, resL, oneA, indexA, indexS, isQuiet, loadA, loadC, storeA, fieldA, partA, sliceA, boundA, buildA, placeA, setAll, appendA, readSl, newEl, AV.cells, AV.solid, AV.one, kill, killM, killL, notInt, Int.reduceToNat, cond_true, cond_false, ↓reduceIte, reduceCtorEq, Nat.reduceLT, Nat.reduceLeDiff, Nat.reduceMul, Nat.reduceEqDiff, exists_eq', putF, implies_true, exists_true_left, tys0, tys1, tys2, tys3, und0, und1, und2, md15, Try.ntmps15, Try.results15, intB, bolB, ints_len, bls_len, bls_get, ml, allW_int, fits, List.isEmpty_cons, brk_false, Nat.reduceMul]
        · have e : fstM B S.1 A[i] (k + 1) = none := by
            unfold fstM
            rw [hf]
            simp only
            rw [if_neg (fun x => by rw [gu, v] at x; cases x.2)]
          refine ⟨⟨k + 1, by omega⟩, by show B.length - (k + 1) < B.length - k; omega, ?_⟩
          exact weak_drop (by simp) (by simp [DropHp, ints_below, flts_below, w64_succ k (by omega), e, intB, bolB, bls_below, allBelow_cons, allBelow_nil, below, belowM, belowL]) (by simp [DropTm, DropV, below, belowM, belowL, w64_succ k (by omega), e, intB, bolB, bls_below, allBelow_cons, allBelow_nil, below, belowM, belowL])
        · refine ⟨hk', hi', ?_⟩
          refine br_intro (fun u => ?_) (fun u => ?_) <;> simp only [q0, q1, q2, q3, q4, q5, q6, q7, q8, q9, zq0, zq1, zq2, zq3, zq4, guardSlot, quietA, nilC, nilA, quietB, St.ev, St.put, St.after, Nat.reduceAdd, Nat.reduceSub, ofV, ofL, lenA, binA, intBin, fltBin, strBin, cpxBin, unA, convA, convB, convO, pickV, resL, oneA, indexA, indexS, isQuiet, loadA, loadC, storeA, fieldA, partA, sliceA, boundA, buildA, placeA, setAll, appendA, readSl, newEl, AV.cells, AV.solid, AV.one, kill, killM, killL, notInt, Int.reduceToNat, cond_true, cond_false, ↓reduceIte, reduceCtorEq, Nat.reduceLT, Nat.reduceLeDiff, Nat.reduceMul, Nat.reduceEqDiff, exists_eq', putF, implies_true, exists_true_left, tys0, tys1, tys2, tys3, und0, und1, und2, md15, Try.ntmps15, Try.results15, intB, bolB, ints_len, bls_len, bls_get, ml, allW_int, fits, List.isEmpty_cons, brk_false, Nat.reduceMul]
          · have u' : B[k] = A[i] := by simpa using u
            have e : fstM B S.1 A[i] (k + 1) = some k := by
              unfold fstM
              rw [hf]
              simp only
              rw [if_pos ⟨by rw [gb, u'], by rw [gu, v]⟩]
            have ea : atI (some k) = (k : Int) := rfl
            refine ⟨⟨k + 1, by omega⟩, by show B.length - (k + 1) < B.length - k; omega, ?_⟩
            show Weak 0 _ ⟨_, _⟩
            rw [e, ea]
            exact weak_drop (by simp) (by simp [DropHp, ints_below, flts_below, w64_succ k (by omega), intB, bolB, bls_below, allBelow_cons, allBelow_nil, below, belowM, belowL]) (by simp [DropTm, DropV, below, belowM, belowL, w64_succ k (by omega), intB, bolB, bls_below, allBelow_cons, allBelow_nil, below, belowM, belowL])
          · have u' : ¬ B[k] = A[i] := by simpa using u
            have e : fstM B S.1 A[i] (k + 1) = none := by
              unfold fstM
              rw [hf]
              simp only
              rw [if_neg (fun x => u' (by rw [← gb]; exact x.1))]
            refine ⟨⟨k + 1, by omega⟩, by show B.length - (k + 1) < B.length - k; omega, ?_⟩
            exact weak_drop (by simp) (by simp [DropHp, ints_below, flts_below, w64_succ k (by omega), e, intB, bolB, bls_below, allBelow_cons, allBelow_nil, below, belowM, belowL]) (by simp [DropTm, DropV, below, belowM, belowL, w64_succ k (by omega), e, intB, bolB, bls_below, allBelow_cons, allBelow_nil, below, belowM, belowL])
      · refine br_no (decide_eq_false (by show ¬ ((r : Int) < 0); omega)) ?_
        simp only [q0, q1, q2, q3, q4, q5, q6, q7, q8, q9, zq0, zq1, zq2, zq3, zq4, guardSlot, quietA, nilC, nilA, quietB, St.ev, St.put, St.after, Nat.reduceAdd, Nat.reduceSub, ofV, ofL, lenA, binA, intBin, fltBin, strBin, cpxBin, unA, convA, convB, convO, pickV, resL, oneA, indexA, indexS, isQuiet, loadA, loadC, storeA, fieldA, partA, sliceA, boundA, buildA, placeA, setAll, appendA, readSl, newEl, AV.cells, AV.solid, AV.one, kill, killM, killL, notInt, Int.reduceToNat, cond_true, cond_false, ↓reduceIte, reduceCtorEq, Nat.reduceLT, Nat.reduceLeDiff, Nat.reduceMul, Nat.reduceEqDiff, exists_eq', putF, implies_true, exists_true_left, tys0, tys1, tys2, tys3, und0, und1, und2, md15, Try.ntmps15, Try.results15, intB, bolB, ints_len, bls_len, bls_get, ml, allW_int, fits, List.isEmpty_cons, brk_false, Nat.reduceMul]
        have e : fstM B S.1 A[i] (k + 1) = some r := by
          unfold fstM
          rw [hf]
        refine ⟨⟨k + 1, by omega⟩, by show B.length - (k + 1) < B.length - k; omega, ?_⟩
        exact weak_drop (by simp) (by simp [DropHp, ints_below, flts_below, w64_succ k (by omega), e, intB, bolB, bls_below, allBelow_cons, allBelow_nil, below, belowM, belowL]) (by simp [DropTm, DropV, below, belowM, belowL, w64_succ k (by omega), e, intB, bolB, bls_below, allBelow_cons, allBelow_nil, below, belowM, belowL])
    · have hk' : k = B.length := by have := of_decide_eq_false f; omega
      subst hk'
      rcases hf : fstM B S.1 A[i] B.length with _ | r
      · have es : mst A B (i + 1) = (S.1, S.2 ++ [(i : Int)]) := by
          rw [mst, hS, stepM1, ga, hf]
        have el : (S.2 ++ [(i : Int)]).length = S.2.length + 1 := by simp
        refine br_yes rfl ?_
        simp only [q0, q1, q2, q3, q4, q5, q6, q7, q8, q9, zq0, zq1, zq2, zq3, zq4, guardSlot, quietA, nilC, nilA, quietB, St.ev, St.put, St.after, Nat.reduceAdd, Nat.reduceSub, ofV, ofL, lenA, binA, intBin, fltBin, strBin, cpxBin, unA, convA, convB, convO, pickV, resL, oneA, indexA, indexS, isQuiet, loadA, loadC, storeA, fieldA, partA, sliceA, boundA, buildA, placeA, setAll, appendA, readSl, newEl, AV.cells, AV.solid, AV.one, kill, killM, killL, notInt, Int.reduceToNat, cond_true, cond_false, ↓reduceIte, reduceCtorEq, Nat.reduceLT, Nat.reduceLeDiff, Nat.reduceMul, Nat.reduceEqDiff, exists_eq', putF, implies_true, exists_true_left, tys0, tys1, tys2, tys3, und0, und1, und2, md15, Try.ntmps15, Try.results15, intB, bolB, ints_len, bls_len, bls_get, ml, allW_int, fits, List.isEmpty_cons, brk_false, Nat.reduceMul]
        refine ⟨by omega, ⟨i + 1, by omega⟩, by show A.length - (i + 1) < A.length - i; omega, ?_⟩
        show Weak 0 _ ⟨_, _⟩
        rw [bls_kill, es]
        exact weak_drop (by simp) (by simp [DropHp, ints_below, flts_below, w64_succ i (by omega), el, intB, bolB, bls_below, allBelow_cons, allBelow_nil, below, belowM, belowL]) (by simp [DropTm, DropV, below, belowM, belowL, w64_succ i (by omega), el, intB, bolB, bls_below, allBelow_cons, allBelow_nil, below, belowM, belowL])
      · have es : mst A B (i + 1) = (S.1.set r true, S.2) := by
          rw [mst, hS, stepM1, ga, hf]
        have rl := fstM_low B.length hf
        have ea : atI (some r) = (r : Int) := rfl
        refine br_no (decide_eq_false (by show ¬ ((r : Int) < 0); omega)) ?_
        rw [ea]
        simp only [q0, q1, q2, q3, q4, q5, q6, q7, q8, q9, zq0, zq1, zq2, zq3, zq4, guardSlot, quietA, nilC, nilA, quietB, St.ev, St.put, St.after, Nat.reduceAdd, Nat.reduceSub, ofV, ofL, lenA, binA, intBin, fltBin, strBin, cpxBin, unA, convA, convB, convO, pickV, resL, oneA, indexA, indexS, isQuiet, loadA, loadC, storeA, fieldA, partA, sliceA, boundA, buildA, placeA, setAll, appendA, readSl, newEl, AV.cells, AV.solid, AV.one, kill, killM, killL, notInt, Int.reduceToNat, cond_true, cond_false, ↓reduceIte, reduceCtorEq, Nat.reduceLT, Nat.reduceLeDiff, Nat.reduceMul, Nat.reduceEqDiff, exists_eq', putF, implies_true, exists_true_left, tys0, tys1, tys2, tys3, und0, und1, und2, md15, Try.ntmps15, Try.results15, intB, bolB, ints_len, bls_len, bls_get, ml, allW_int, fits, List.isEmpty_cons, brk_false, Nat.reduceMul]
        refine ⟨by omega, by omega, ⟨i + 1, by omega⟩, by show A.length - (i + 1) < A.length - i; omega, ?_⟩
        show Weak 0 _ ⟨_, _⟩
        rw [bls_set, es]
        exact weak_drop (by simp) (by simp [DropHp, ints_below, flts_below, w64_succ i (by omega), intB, bolB, bls_below, allBelow_cons, allBelow_nil, below, belowM, belowL]) (by simp [DropTm, DropV, below, belowM, belowL, w64_succ i (by omega), intB, bolB, bls_below, allBelow_cons, allBelow_nil, below, belowM, belowL])
  · have hi' : i = A.length := by have := of_decide_eq_false g; omega
    subst hi'
    rw [show resM A B = (S.2, twoM S.1 B.length) from by unfold resM; rw [hS]]
    refine go_round (md := md15) mixed (by kernel_rfl) (fun k : {k : Nat // k ≤ B.length} => ⟨[.any, .any, .any, .any, .any, .any, .any, .sl 0 0 B.length, .sl 1 0 S.2.length, .any, .any, .any, .sl 2 0 (twoM S.1 k.1).length, .any, .any, .any, .any, .any, .any, .any, .any, .any, .any, .any, .any, .any, .any, .any, .any, .any, .any, .any, .any, .any, .any, .any, .any, .any, .any, .any, .any, .any, .any, .any, .any, .any, .any, .any, .any, .any, .any, .any, .any, .any, .any, .any, .any, .any, .any, .any, .any, .any, .any, .any, .any, .any, .any, .any, .any, .any, .int .i64 (B.length : Int), .int .i64 (k.1 : Int), .any, .any, .any, .any, .any, .any, .any, .any, .any, .any, .any, .any, .any, .any], [bolB S.1, intB S.2, intB (twoM S.1 k.1)]⟩) (fun k => B.length - k.1) ⟨0, by omega⟩ ?_ ?_
    · have z : twoM S.1 0 = [] := rfl
      have z3 : ints [] = [] := rfl
      rw [z]
      exact weak_drop (by simp) (by simp [DropHp, ints_below, flts_below, intB, bolB, bls_below, z3, allBelow_cons, allBelow_nil, below, belowM, belowL]) (by simp [DropTm, DropV, below, belowM, belowL, intB, bolB, bls_below, z3, allBelow_cons, allBelow_nil, below, belowM, belowL])
    rintro ⟨k, hk⟩
    have tl := twoM_len S.1 k
    simp only [q0, q1, q2, q3, q4, q5, q6, q7, q8, q9, zq0, zq1, zq2, zq3, zq4, guardSlot, quietA, nilC, nilA, quietB, St.ev, St.put, St.after, Nat.reduceAdd, Nat.reduceSub, ofV, ofL, lenA, binA, intBin, fltBin, strBin, cpxBin, unA, convA, convB, convO, pickV, resL, oneA, indexA, indexS, isQuiet, loadA, loadC, storeA, fieldA, partA, sliceA, boundA, buildA, placeA, setAll, appendA, readSl, newEl, AV.cells, AV.solid, AV.one, kill, killM, killL, notInt, Int.reduceToNat, cond_true, cond_false, ↓reduceIte, reduceCtorEq, Nat.reduceLT, Nat.reduceLeDiff, Nat.reduceMul, Nat.reduceEqDiff, exists_eq', putF, implies_true, exists_true_left, tys0, tys1, tys2, tys3, und0, und1, und2, md15, Try.ntmps15, Try.results15, intB, bolB, ints_len, bls_len, bls_get, ml]
    refine br_intro (fun f => ?_) (fun f => ?_) <;> simp only [q0, q1, q2, q3, q4, q5, q6, q7, q8, q9, zq0, zq1, zq2, zq3, zq4, guardSlot, quietA, nilC, nilA, quietB, St.ev, St.put, St.after, Nat.reduceAdd, Nat.reduceSub, ofV, ofL, lenA, binA, intBin, fltBin, strBin, cpxBin, unA, convA, convB, convO, pickV, resL, oneA, indexA, indexS, isQuiet, loadA, loadC, storeA, fieldA, partA, sliceA, boundA, buildA, placeA, setAll, appendA, readSl, newEl, AV.cells, AV.solid, AV.one, kill, killM, killL, notInt, Int.reduceToNat, cond_true, cond_false, ↓reduceIte, reduceCtorEq, Nat.reduceLT, Nat.reduceLeDiff, Nat.reduceMul, Nat.reduceEqDiff, exists_eq', putF, implies_true, exists_true_left, tys0, tys1, tys2, tys3, und0, und1, und2, md15, Try.ntmps15, Try.results15, intB, bolB, ints_len, bls_len, bls_get, ml]
    · have hk' : k < B.length := by have := of_decide_eq_true f; omega
      have hu : k < S.1.length := by omega
      have gu := getDb S.1 k hu
      refine ⟨by omega, hk', ?_⟩
      refine br_intro (fun v => ?_) (fun v => ?_) <;> simp only [q0, q1, q2, q3, q4, q5, q6, q7, q8, q9, zq0, zq1, zq2, zq3, zq4, guardSlot, quietA, nilC, nilA, quietB, St.ev, St.put, St.after, Nat.reduceAdd, Nat.reduceSub, ofV, ofL, lenA, binA, intBin, fltBin, strBin, cpxBin, unA, convA, convB, convO, pickV, resL, oneA, indexA, indexS, isQuiet, loadA, loadC, storeA, fieldA, partA, sliceA, boundA, buildA, placeA, setAll, appendA, readSl, newEl, AV.cells, AV.solid, AV.one, kill, killM, killL, notInt, Int.reduceToNat, cond_true, cond_false, ↓reduceIte, reduceCtorEq, Nat.reduceLT, Nat.reduceLeDiff, Nat.reduceMul, Nat.reduceEqDiff, exists_eq', putF, implies_true, exists_true_left, tys0, tys1, tys2, tys3, und0, und1, und2, md15, Try.ntmps15, Try.results15, intB, bolB, ints_len, bls_len, bls_get, ml, allW_int, fits, List.isEmpty_cons, brk_false, Nat.reduceMul]
      · have e : twoM S.1 (k + 1) = twoM S.1 k := by rw [twoM, if_pos (by rw [gu, v])]
        refine ⟨⟨k + 1, by omega⟩, by show B.length - (k + 1) < B.length - k; omega, ?_⟩
        exact weak_drop (by simp) (by simp [DropHp, ints_below, flts_below, w64_succ k (by omega), e, intB, bolB, bls_below, allBelow_cons, allBelow_nil, below, belowM, belowL]) (by simp [DropTm, DropV, below, belowM, belowL, w64_succ k (by omega), e, intB, bolB, bls_below, allBelow_cons, allBelow_nil, below, belowM, belowL])
      · have e : twoM S.1 (k + 1) = twoM S.1 k ++ [(k : Int)] := by rw [twoM, if_neg (by rw [gu, v]; simp)]
        have el : (twoM S.1 k ++ [(k : Int)]).length = (twoM S.1 k).length + 1 := by simp
        refine ⟨by omega, ⟨k + 1, by omega⟩, by show B.length - (k + 1) < B.length - k; omega, ?_⟩
        show Weak 0 _ ⟨_, _⟩
        rw [bls_kill, e]
        exact weak_drop (by simp) (by simp [DropHp, ints_below, flts_below, w64_succ k (by omega), el, intB, bolB, bls_below, allBelow_cons, allBelow_nil, below, belowM, belowL]) (by simp [DropTm, DropV, below, belowM, belowL, w64_succ k (by omega), el, intB, bolB, bls_below, allBelow_cons, allBelow_nil, below, belowM, belowL])
    · have hk' : k = B.length := by have := of_decide_eq_false f; omega
      subst hk'
      exact PostR.pick (hp2 := [intB S.2, intB (twoM S.1 B.length)]) (r2 := .tup [.sl 0 0 S.2.length, .sl 1 0 (twoM S.1 B.length).length, .bool true]) [1, 2] (by decide) (by decide) (by decide) ⟨⟨rfl, ints_below _ _⟩, ⟨rfl, ints_below _ _⟩, trivial⟩ rfl rfl ⟨rfl, rfl⟩
end Go.Proofs.Ytimnfechlomkpaa
