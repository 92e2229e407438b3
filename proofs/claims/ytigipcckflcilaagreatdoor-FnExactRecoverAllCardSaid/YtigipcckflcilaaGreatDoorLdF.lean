/- Marks in rules that lie in memory. -/
import Derived.Test.YtigipcckflcilaaGreatDoorLdE
set_option maxRecDepth 10000
set_option maxHeartbeats 4000000
set_option linter.unusedSimpArgs false
set_option linter.unusedVariables false
namespace Go.Proofs.YtigipcckflcilaaGreatDoor
open Go Go.Abs

theorem markInt64S_call (xs : List Int) (k : Int) (h1 : 0 ≤ k) (h2 : k + xs.length ≤ 9223372036854775807) : CallA Tryz.prog 65 [.sl 0 0 xs.length, .int .i64 k] [{ ty := 2, w := 1, els := ints xs }] (Ret (.int .i64 (k + xs.length)) [{ ty := 2, w := 1, els := ints (marks k xs.length) }]) := by
  refine CallP.out (t := .mk) (go_in (md := md65) mixed Tryz.func65 rfl go65 (by kernel_rfl) ?_)
  simp only [q0, q1, q2, q3, q4, q5, q6, q7, q8, q9, zq0, zq1, zq2, zq3, zq4, guardSlot, quietA, nilC, nilA, quietB, St.ev, St.put, St.after, Nat.reduceAdd, Nat.reduceSub, ofV, ofL, lenA, binA, intBin, fltBin, strBin, cpxBin, unA, convA, convB, convO, pickV, resL, oneA, indexA, indexS, isQuiet, loadA, loadC, storeA, fieldA, partA, sliceA, boundA, buildA, placeA, setAll, appendA, readSl, newEl, AV.cells, AV.solid, AV.one, kill, killM, killL, notInt, Int.reduceToNat, cond_true, cond_false, ↓reduceIte, reduceCtorEq, Nat.reduceLT, Nat.reduceLeDiff, Nat.reduceMul, Nat.reduceEqDiff, exists_eq', putF, implies_true, exists_true_left, tys0, tys1, tys2, und0, und1, md65, Tryz.ntmps65, Tryz.results65]
  refine go_round (md := md65) mixed (by kernel_rfl) (fun i : {i : Nat // i ≤ xs.length} => ⟨[.sl 0 0 xs.length, .int .i64 (k + i.1), .any, .any, .int .i64 0, .int .i64 i.1, .any, .any, .any, .any, .any, .any, .any, .any, .any, .any, .any, .any, .any], [{ ty := 2, w := 1, els := ints (marks k i.1 ++ xs.drop i.1) }]⟩) (fun i => xs.length - i.1) ⟨0, by simp⟩ ?_ ?_
  · exact weak_drop (by simp) (by simp [DropHp, ints_below, flts_below, marks]) (by simp [DropTm, DropV, below, belowM, belowL, marks])
  · intro ⟨i, hi⟩
    simp only [q0, q1, q2, q3, q4, q5, q6, q7, q8, q9, zq0, zq1, zq2, zq3, zq4, guardSlot, quietA, nilC, nilA, quietB, St.ev, St.put, St.after, Nat.reduceAdd, Nat.reduceSub, ofV, ofL, lenA, binA, intBin, fltBin, strBin, cpxBin, unA, convA, convB, convO, pickV, resL, oneA, indexA, indexS, isQuiet, loadA, loadC, storeA, fieldA, partA, sliceA, boundA, buildA, placeA, setAll, appendA, readSl, newEl, AV.cells, AV.solid, AV.one, kill, killM, killL, notInt, Int.reduceToNat, cond_true, cond_false, ↓reduceIte, reduceCtorEq, Nat.reduceLT, Nat.reduceLeDiff, Nat.reduceMul, Nat.reduceEqDiff, exists_eq', putF, implies_true, exists_true_left, tys0, tys1, tys2, und0, und1, md65, Tryz.ntmps65, Tryz.results65]
    refine br_intro (fun h => ?_) (fun h => ?_)
    · have hi' : i < xs.length := by simpa using h
      simp only [q0, q1, q2, q3, q4, q5, q6, q7, q8, q9, zq0, zq1, zq2, zq3, zq4, guardSlot, quietA, nilC, nilA, quietB, St.ev, St.put, St.after, Nat.reduceAdd, Nat.reduceSub, ofV, ofL, lenA, binA, intBin, fltBin, strBin, cpxBin, unA, convA, convB, convO, pickV, resL, oneA, indexA, indexS, isQuiet, loadA, loadC, storeA, fieldA, partA, sliceA, boundA, buildA, placeA, setAll, appendA, readSl, newEl, AV.cells, AV.solid, AV.one, kill, killM, killL, notInt, Int.reduceToNat, cond_true, cond_false, ↓reduceIte, reduceCtorEq, Nat.reduceLT, Nat.reduceLeDiff, Nat.reduceMul, Nat.reduceEqDiff, exists_eq', putF, implies_true, exists_true_left, tys0, tys1, tys2, und0, und1, md65, Tryz.ntmps65, Tryz.results65]
      refine ⟨by omega, by simp [marks_len]; omega, ⟨i + 1, by omega⟩, by show xs.length - (i + 1) < _; omega, ?_⟩
      have e1 : IntKind.i64.wrap (k + (i : Int) + 1) = k + ((i + 1 : Nat) : Int) := by rw [w64 (by omega) (by omega)]; omega
      exact weak_drop (by simp) (by simp [DropHp, ints_below, flts_below, w64_succ i (by omega), e1, ints_set, over_set _ xs i _ (marks_len k i) hi', marks_succ]) (by simp [DropTm, DropV, below, belowM, belowL, w64_succ i (by omega), e1, ints_set, over_set _ xs i _ (marks_len k i) hi', marks_succ])
    · have hi' : i = xs.length := by simp at h; omega
      subst hi'
      simp only [q0, q1, q2, q3, q4, q5, q6, q7, q8, q9, zq0, zq1, zq2, zq3, zq4, guardSlot, quietA, nilC, nilA, quietB, St.ev, St.put, St.after, Nat.reduceAdd, Nat.reduceSub, ofV, ofL, lenA, binA, intBin, fltBin, strBin, cpxBin, unA, convA, convB, convO, pickV, resL, oneA, indexA, indexS, isQuiet, loadA, loadC, storeA, fieldA, partA, sliceA, boundA, buildA, placeA, setAll, appendA, readSl, newEl, AV.cells, AV.solid, AV.one, kill, killM, killL, notInt, Int.reduceToNat, cond_true, cond_false, ↓reduceIte, reduceCtorEq, Nat.reduceLT, Nat.reduceLeDiff, Nat.reduceMul, Nat.reduceEqDiff, exists_eq', putF, implies_true, exists_true_left, tys0, tys1, tys2, und0, und1, md65, Tryz.ntmps65, Tryz.results65, List.drop_length]
      exact PostR.ret

theorem heldInt64S_call (n : Nat) (k : Int) (h1 : 0 ≤ k) (h2 : k + n ≤ 9223372036854775807) : CallA Tryz.prog 67 [.ro (ints (marks k n)), .int .i64 k] [] (Ret (.int .i64 (k + n)) []) := by
  refine CallP.out (t := .mk) (go_in (md := md67) mixed Tryz.func67 rfl go67 (by kernel_rfl) ?_)
  simp only [q0, q1, q2, q3, q4, q5, q6, q7, q8, q9, zq0, zq1, zq2, zq3, zq4, guardSlot, quietA, nilC, nilA, quietB, St.ev, St.put, St.after, Nat.reduceAdd, Nat.reduceSub, ofV, ofL, lenA, binA, intBin, fltBin, strBin, cpxBin, unA, convA, convB, convO, pickV, resL, oneA, indexA, indexS, isQuiet, loadA, loadC, storeA, fieldA, partA, sliceA, boundA, buildA, placeA, setAll, appendA, readSl, newEl, AV.cells, AV.solid, AV.one, kill, killM, killL, notInt, Int.reduceToNat, cond_true, cond_false, ↓reduceIte, reduceCtorEq, Nat.reduceLT, Nat.reduceLeDiff, Nat.reduceMul, Nat.reduceEqDiff, exists_eq', putF, implies_true, exists_true_left, tys0, tys1, tys2, und0, und1, md67, Tryz.ntmps67, Tryz.results67, marks_len]
  refine go_round (md := md67) mixed (by kernel_rfl) (fun i : {i : Nat // i ≤ n} => ⟨[.ro (ints (marks k n)), .int .i64 (k + i.1), .any, .any, .int .i64 0, .int .i64 i.1, .any, .any, .any, .any, .any, .any, .any, .any, .any, .any, .any, .any, .any, .any, .any], []⟩) (fun i => n - i.1) ⟨0, by simp⟩ ?_ ?_
  · exact weak_drop (by simp) (by simp [DropHp, ints_below, flts_below]) (by simp [DropTm, DropV, below, belowM, belowL])
  · intro ⟨i, hi⟩
    simp only [q0, q1, q2, q3, q4, q5, q6, q7, q8, q9, zq0, zq1, zq2, zq3, zq4, guardSlot, quietA, nilC, nilA, quietB, St.ev, St.put, St.after, Nat.reduceAdd, Nat.reduceSub, ofV, ofL, lenA, binA, intBin, fltBin, strBin, cpxBin, unA, convA, convB, convO, pickV, resL, oneA, indexA, indexS, isQuiet, loadA, loadC, storeA, fieldA, partA, sliceA, boundA, buildA, placeA, setAll, appendA, readSl, newEl, AV.cells, AV.solid, AV.one, kill, killM, killL, notInt, Int.reduceToNat, cond_true, cond_false, ↓reduceIte, reduceCtorEq, Nat.reduceLT, Nat.reduceLeDiff, Nat.reduceMul, Nat.reduceEqDiff, exists_eq', putF, implies_true, exists_true_left, tys0, tys1, tys2, und0, und1, md67, Tryz.ntmps67, Tryz.results67, marks_len]
    refine br_intro (fun h => ?_) (fun h => ?_)
    · have hi' : i < n := by simpa using h
      simp only [q0, q1, q2, q3, q4, q5, q6, q7, q8, q9, zq0, zq1, zq2, zq3, zq4, guardSlot, quietA, nilC, nilA, quietB, St.ev, St.put, St.after, Nat.reduceAdd, Nat.reduceSub, ofV, ofL, lenA, binA, intBin, fltBin, strBin, cpxBin, unA, convA, convB, convO, pickV, resL, oneA, indexA, indexS, isQuiet, loadA, loadC, storeA, fieldA, partA, sliceA, boundA, buildA, placeA, setAll, appendA, readSl, newEl, AV.cells, AV.solid, AV.one, kill, killM, killL, notInt, Int.reduceToNat, cond_true, cond_false, ↓reduceIte, reduceCtorEq, Nat.reduceLT, Nat.reduceLeDiff, Nat.reduceMul, Nat.reduceEqDiff, exists_eq', putF, implies_true, exists_true_left, tys0, tys1, tys2, und0, und1, md67, Tryz.ntmps67, Tryz.results67, marks_len]
      have e0 : ∀ h, (marks k n)[i]'h = k + (i : Int) := by intro h; simp [marks]
      refine ⟨by omega, ?_⟩
      simp only [q0, q1, q2, q3, q4, q5, q6, q7, q8, q9, zq0, zq1, zq2, zq3, zq4, guardSlot, quietA, nilC, nilA, quietB, St.ev, St.put, St.after, Nat.reduceAdd, Nat.reduceSub, ofV, ofL, lenA, binA, intBin, fltBin, strBin, cpxBin, unA, convA, convB, convO, pickV, resL, oneA, indexA, indexS, isQuiet, loadA, loadC, storeA, fieldA, partA, sliceA, boundA, buildA, placeA, setAll, appendA, readSl, newEl, AV.cells, AV.solid, AV.one, kill, killM, killL, notInt, Int.reduceToNat, cond_true, cond_false, ↓reduceIte, reduceCtorEq, Nat.reduceLT, Nat.reduceLeDiff, Nat.reduceMul, Nat.reduceEqDiff, exists_eq', putF, implies_true, exists_true_left, tys0, tys1, tys2, und0, und1, md67, Tryz.ntmps67, Tryz.results67, e0, bne_self_eq_false]
      refine ⟨⟨i + 1, by omega⟩, by show n - (i + 1) < _; omega, ?_⟩
      have e1 : IntKind.i64.wrap (k + (i : Int) + 1) = k + ((i + 1 : Nat) : Int) := by rw [w64 (by omega) (by omega)]; omega
      exact weak_drop (by simp) (by simp [DropHp, ints_below, flts_below, w64_succ i (by omega), e1]) (by simp [DropTm, DropV, below, belowM, belowL, w64_succ i (by omega), e1])
    · have hi' : i = n := by simp at h; omega
      subst hi'
      simp only [q0, q1, q2, q3, q4, q5, q6, q7, q8, q9, zq0, zq1, zq2, zq3, zq4, guardSlot, quietA, nilC, nilA, quietB, St.ev, St.put, St.after, Nat.reduceAdd, Nat.reduceSub, ofV, ofL, lenA, binA, intBin, fltBin, strBin, cpxBin, unA, convA, convB, convO, pickV, resL, oneA, indexA, indexS, isQuiet, loadA, loadC, storeA, fieldA, partA, sliceA, boundA, buildA, placeA, setAll, appendA, readSl, newEl, AV.cells, AV.solid, AV.one, kill, killM, killL, notInt, Int.reduceToNat, cond_true, cond_false, ↓reduceIte, reduceCtorEq, Nat.reduceLT, Nat.reduceLeDiff, Nat.reduceMul, Nat.reduceEqDiff, exists_eq', putF, implies_true, exists_true_left, tys0, tys1, tys2, und0, und1, md67, Tryz.ntmps67, Tryz.results67]
      exact PostR.ret
theorem nat0I : ((0 : Nat) : Int) = 0 := rfl
theorem markInt64S_nil (k : Int) : CallA Tryz.prog 65 [.nils, .int .i64 k] [] (Ret (.int .i64 k) []) := by
  refine CallP.out (t := .mk) (go_in (md := md65) mixed Tryz.func65 rfl go65 (by kernel_rfl) ?_)
  simp only [q0, q1, q2, q3, q4, q5, q6, q7, q8, q9, zq0, zq1, zq2, zq3, zq4, guardSlot, quietA, nilC, nilA, quietB, St.ev, St.put, St.after, Nat.reduceAdd, Nat.reduceSub, ofV, ofL, lenA, binA, intBin, fltBin, strBin, cpxBin, unA, convA, convB, convO, pickV, resL, oneA, indexA, indexS, isQuiet, loadA, loadC, storeA, fieldA, partA, sliceA, boundA, buildA, placeA, setAll, appendA, readSl, newEl, AV.cells, AV.solid, AV.one, kill, killM, killL, notInt, Int.reduceToNat, cond_true, cond_false, ↓reduceIte, reduceCtorEq, Nat.reduceLT, Nat.reduceLeDiff, Nat.reduceMul, Nat.reduceEqDiff, exists_eq', putF, implies_true, exists_true_left, tys0, tys1, tys2, und0, und1, md65, Tryz.ntmps65, Tryz.results65, nat0I, Int.reduceLT, Int.reduceLE, Int.reduceNeg, Int.reduceEq, Int.reduceGT, Int.reduceGE, decide_true, decide_false, beq_self_eq_true, bne_self_eq_false, Int.reduceBEq, Int.reduceBNe, Int.reduceAdd, Int.reduceSub]
  refine go_round (md := md65) mixed (by kernel_rfl) (fun _ : Unit => ⟨[.nils, .int .i64 k, .any, .any, .any, .int .i64 0, .any, .any, .any, .any, .any, .any, .any, .any, .any, .any, .any, .any, .any], []⟩) (fun _ => 0) () ?_ ?_
  · exact weak_drop (by simp) (by simp [DropHp, ints_below, flts_below]) (by simp [DropTm, DropV, below, belowM, belowL])
  · intro _
    simp only [q0, q1, q2, q3, q4, q5, q6, q7, q8, q9, zq0, zq1, zq2, zq3, zq4, guardSlot, quietA, nilC, nilA, quietB, St.ev, St.put, St.after, Nat.reduceAdd, Nat.reduceSub, ofV, ofL, lenA, binA, intBin, fltBin, strBin, cpxBin, unA, convA, convB, convO, pickV, resL, oneA, indexA, indexS, isQuiet, loadA, loadC, storeA, fieldA, partA, sliceA, boundA, buildA, placeA, setAll, appendA, readSl, newEl, AV.cells, AV.solid, AV.one, kill, killM, killL, notInt, Int.reduceToNat, cond_true, cond_false, ↓reduceIte, reduceCtorEq, Nat.reduceLT, Nat.reduceLeDiff, Nat.reduceMul, Nat.reduceEqDiff, exists_eq', putF, implies_true, exists_true_left, tys0, tys1, tys2, und0, und1, md65, Tryz.ntmps65, Tryz.results65, nat0I, Int.reduceLT, Int.reduceLE, Int.reduceNeg, Int.reduceEq, Int.reduceGT, Int.reduceGE, decide_true, decide_false, beq_self_eq_true, bne_self_eq_false, Int.reduceBEq, Int.reduceBNe, Int.reduceAdd, Int.reduceSub]
    exact PostR.ret

theorem get_at {α : Type} (A l : List α) (x : α) : (A ++ (x :: l))[A.length]? = some x := by rw [List.getElem?_append_right (Nat.le_refl _), Nat.sub_self]; rfl
theorem set_at {α : Type} (A l : List α) (x y : α) : (A ++ (x :: l)).set A.length y = A ++ (y :: l) := by rw [List.set_append_right _ _ (Nat.le_refl _), Nat.sub_self]; rfl
theorem at_in {α : Type} (A L T : List α) (x : α) (i : Nat) (h : i < L.length) : (A ++ (x :: (L ++ T)))[A.length + 1 + i]? = some L[i] := by
  rw [List.getElem?_append_right (by omega), show A.length + 1 + i - A.length = i + 1 by omega, List.getElem?_cons_succ, List.getElem?_append_left h, List.getElem?_eq_getElem h]
theorem set_in {α : Type} (A L T : List α) (x y : α) (i : Nat) (h : i < L.length) : (A ++ (x :: (L ++ T))).set (A.length + 1 + i) y = A ++ (x :: (L.set i y ++ T)) := by
  rw [List.set_append_right _ _ (by omega), show A.length + 1 + i - A.length = i + 1 by omega, List.set_cons_succ, List.set_append_left _ _ h]
def mkR (k : Int) (r : Rul) : Rul := (k, marks (k + 1) r.2.1.length, k + 1 + r.2.1.length, k + 2 + r.2.1.length, k + 3 + r.2.1.length)
def mkRs (k : Int) : List Rul → List Rul
  | [] => []
  | r :: R => mkR k r :: mkRs (k + 4 + r.2.1.length) R
def nxRs (k : Int) : List Rul → Int
  | [] => k
  | r :: R => nxRs (k + 4 + r.2.1.length) R
theorem nxRs_is : ∀ (R : List Rul) (k : Int), nxRs k R = k + 4 * R.length + sumL R
  | [], k => by simp [nxRs, sumL]
  | r :: R, k => by rw [nxRs, nxRs_is R]; simp [sumL]; omega
theorem mkRs_len : ∀ (R : List Rul) (k : Int), (mkRs k R).length = R.length
  | [], _ => rfl
  | r :: R, k => by simp [mkRs, mkRs_len R]
theorem mkRs_snoc (r : Rul) : ∀ (R : List Rul) (k : Int), mkRs k (R ++ [r]) = mkRs k R ++ [mkR (nxRs k R) r]
  | [], _ => rfl
  | q :: R, k => by simp [mkRs, nxRs, mkRs_snoc r R]
theorem nxRs_snoc (r : Rul) : ∀ (R : List Rul) (k : Int), nxRs k (R ++ [r]) = nxRs k R + 4 + r.2.1.length
  | [], _ => rfl
  | q :: R, k => by simp [nxRs, nxRs_snoc r R]
def mxR (k : Int) (R : List Rul) (i : Nat) : List Rul := mkRs k (R.take i) ++ R.drop i
theorem mxR_len (k : Int) (R : List Rul) (i : Nat) (h : i ≤ R.length) : (mxR k R i).length = R.length := by unfold mxR; rw [List.length_append, mkRs_len, List.length_take, List.length_drop]; omega
theorem mxR_get (k : Int) (R : List Rul) (i : Nat) (h : i < R.length) (h2 : i < (mxR k R i).length) : (mxR k R i)[i] = R[i] := by
  have e : (mkRs k (R.take i)).length = i := by rw [mkRs_len, List.length_take]; omega
  unfold mxR at h2 ⊢
  rw [List.getElem_append_right (by omega)]
  simp [e]
theorem mxR_set (k : Int) (R : List Rul) (i : Nat) (h : i < R.length) : (mxR k R i).set i (mkR (nxRs k (R.take i)) R[i]) = mxR k R (i + 1) := by
  have e : (mkRs k (R.take i)).length = i := by rw [mkRs_len, List.length_take]; omega
  unfold mxR
  rw [List.set_append_right _ _ (by omega), e, Nat.sub_self, List.drop_eq_getElem_cons h, List.set_cons_zero, List.take_succ_eq_append_getElem h, mkRs_snoc, List.append_assoc]
  rfl
theorem markRuleS_call (A T : List Blk) (R : List Rul) (k : Int) (h0 : 0 ≤ k) (h1 : k + 4 * R.length + sumL R ≤ 9000000000000000000) (hR : R.length ≤ 1048576) : CallA Tryz.prog 64 [.sl A.length 0 R.length, .int .i64 k] (A ++ (rulB (elsR (A.length + 1) R) :: (R.map ifsB ++ T))) (Ret (.int .i64 (nxRs k R)) (A ++ (rulB (elsR (A.length + 1) (mkRs k R)) :: ((mkRs k R).map ifsB ++ T)))) := by
  refine CallP.out (t := .mk) (go_in (md := md64) mixed Tryz.func64 rfl go64 (by kernel_rfl) ?_)
  simp only [q0, q1, q2, q3, q4, q5, q6, q7, q8, q9, zq0, zq1, zq2, zq3, zq4, guardSlot, quietA, nilC, nilA, quietB, St.ev, St.put, St.after, Nat.reduceAdd, Nat.reduceSub, ofV, ofL, lenA, binA, intBin, fltBin, strBin, cpxBin, unA, convA, convB, convO, pickV, resL, oneA, indexA, indexS, isQuiet, loadA, loadC, storeA, fieldA, partA, sliceA, boundA, buildA, placeA, setAll, appendA, readSl, newEl, AV.cells, AV.solid, AV.one, kill, killM, killL, notInt, Int.reduceToNat, cond_true, cond_false, ↓reduceIte, reduceCtorEq, Nat.reduceLT, Nat.reduceLeDiff, Nat.reduceMul, Nat.reduceEqDiff, exists_eq', putF, implies_true, exists_true_left, tys0, tys1, tys2, und0, und1, md64, Tryz.ntmps64, Tryz.results64]
  refine go_round (md := md64) mixed (by kernel_rfl) (fun i : {i : Nat // i ≤ R.length} => ⟨[.sl A.length 0 R.length, .int .i64 (nxRs k (R.take i.1)), .any, .any, .any, .int .i64 i.1, .any, .any, .any, .any, .any, .any, .any, .any, .any, .any, .any, .any, .any, .any, .any, .any, .any, .any, .any, .any, .any, .any, .any, .any, .any, .any, .any, .any, .any, .any, .any, .any, .any, .any, .any, .any, .any, .any, .any, .any, .any, .any], A ++ (rulB (elsR (A.length + 1) (mxR k R i.1)) :: ((mxR k R i.1).map ifsB ++ T))⟩) (fun i => R.length - i.1) ⟨0, Nat.zero_le _⟩ ?_ ?_
  · refine weak_same (by simp [mxR, mkRs]) ?_
    simp [SameTm, nxRs]
  · intro ⟨i, hi⟩
    dsimp only
    simp only [q0, q1, q2, q3, q4, q5, q6, q7, q8, q9, zq0, zq1, zq2, zq3, zq4, guardSlot, quietA, nilC, nilA, quietB, St.ev, St.put, St.after, Nat.reduceAdd, Nat.reduceSub, ofV, ofL, lenA, binA, intBin, fltBin, strBin, cpxBin, unA, convA, convB, convO, pickV, resL, oneA, indexA, indexS, isQuiet, loadA, loadC, storeA, fieldA, partA, sliceA, boundA, buildA, placeA, setAll, appendA, readSl, newEl, AV.cells, AV.solid, AV.one, kill, killM, killL, notInt, Int.reduceToNat, cond_true, cond_false, ↓reduceIte, reduceCtorEq, Nat.reduceLT, Nat.reduceLeDiff, Nat.reduceMul, Nat.reduceEqDiff, exists_eq', putF, implies_true, exists_true_left, tys0, tys1, tys2, und0, und1, md64, Tryz.ntmps64, Tryz.results64, get_at, set_at]
    refine br_intro (fun g => ?_) (fun g => ?_) <;> simp only [q0, q1, q2, q3, q4, q5, q6, q7, q8, q9, zq0, zq1, zq2, zq3, zq4, guardSlot, quietA, nilC, nilA, quietB, St.ev, St.put, St.after, Nat.reduceAdd, Nat.reduceSub, ofV, ofL, lenA, binA, intBin, fltBin, strBin, cpxBin, unA, convA, convB, convO, pickV, resL, oneA, indexA, indexS, isQuiet, loadA, loadC, storeA, fieldA, partA, sliceA, boundA, buildA, placeA, setAll, appendA, readSl, newEl, AV.cells, AV.solid, AV.one, kill, killM, killL, notInt, Int.reduceToNat, cond_true, cond_false, ↓reduceIte, reduceCtorEq, Nat.reduceLT, Nat.reduceLeDiff, Nat.reduceMul, Nat.reduceEqDiff, exists_eq', putF, implies_true, exists_true_left, tys0, tys1, tys2, und0, und1, md64, Tryz.ntmps64, Tryz.results64, get_at, set_at]
    · have g : i < R.length := by have := of_decide_eq_true g; omega
      have h2 : i < (mxR k R i).length := by rw [mxR_len k R i hi]; exact g
      have eg := mxR_get k R i g h2
      have el := mxR_len k R i hi
      have E0 : ∀ h, (elsR (A.length + 1) (mxR k R i))[i]'h = rulV (A.length + 1 + i) R[i] := fun h => by rw [elsR_get _ _ i h2, eg]
      have gi : (i : Int) < R.length := by omega
      have nx := nxRs_is (R.take i) k
      have sm := sumL_mono R (i + 1)
      have st := sumL_take R i g
      have tl : (R.take i).length = i := by rw [List.length_take]; omega
      rw [tl] at nx
      have ms := mxR_set k R i g
      have ns : nxRs k (R.take (i + 1)) = nxRs k (R.take i) + 4 + R[i].2.1.length := by rw [List.take_succ_eq_append_getElem g, nxRs_snoc]
      generalize hk : nxRs k (R.take i) = m at *
      have w1 : IntKind.i64.wrap (m + 1) = m + 1 := w64 (by omega) (by omega)
      by_cases hn : R[i].2.1.length = 0
      · have E1 : rulV (A.length + 1 + i) R[i] = .agg [.int .i64 R[i].1, .nils, .int .i64 R[i].2.2.1, .int .i64 R[i].2.2.2.1, .int .i64 R[i].2.2.2.2] := by
          unfold rulV slV; rw [if_pos hn]
        simp only [q0, q1, q2, q3, q4, q5, q6, q7, q8, q9, zq0, zq1, zq2, zq3, zq4, guardSlot, quietA, nilC, nilA, quietB, St.ev, St.put, St.after, Nat.reduceAdd, Nat.reduceSub, ofV, ofL, lenA, binA, intBin, fltBin, strBin, cpxBin, unA, convA, convB, convO, pickV, resL, oneA, indexA, indexS, isQuiet, loadA, loadC, storeA, fieldA, partA, sliceA, boundA, buildA, placeA, setAll, appendA, readSl, newEl, AV.cells, AV.solid, AV.one, kill, killM, killL, notInt, Int.reduceToNat, cond_true, cond_false, ↓reduceIte, reduceCtorEq, Nat.reduceLT, Nat.reduceLeDiff, Nat.reduceMul, Nat.reduceEqDiff, exists_eq', putF, implies_true, exists_true_left, tys0, tys1, tys2, und0, und1, md64, Tryz.ntmps64, Tryz.results64, get_at, set_at, rulB, E0, E1, List.length_set, elsR_len, el, List.getElem_set_self, List.set_set, gi, g, w1]
        refine call_ret (markInt64S_nil (m + 1)) rfl rfl ?_
        have E2 : rulV (A.length + 1 + i) (mkR m R[i]) = .agg [.int .i64 m, .nils, .int .i64 (m + 1), .int .i64 (m + 2), .int .i64 (m + 3)] := by
          unfold rulV slV mkR; simp [hn, marks_len]
        have E3 : ifsB (mkR m R[i]) = deadB := by unfold ifsB mkR; simp [hn, marks_len]
        have E4 : ((mxR k R i).map ifsB).set i deadB = (mxR k R i).map ifsB := by
          have : ((mxR k R i).map ifsB)[i]'(by rw [List.length_map]; exact h2) = deadB := by rw [List.getElem_map, eg]; unfold ifsB; rw [if_pos hn]
          rw [← this, List.set_getElem_self]
        have w2 : IntKind.i64.wrap (m + 1 + 1) = m + 2 := by rw [w64 (by omega) (by omega)]; omega
        have w3 : IntKind.i64.wrap (m + 2 + 1) = m + 3 := by rw [w64 (by omega) (by omega)]; omega
        have w4 : IntKind.i64.wrap (m + 3 + 1) = m + 4 := by rw [w64 (by omega) (by omega)]; omega
        simp only [q0, q1, q2, q3, q4, q5, q6, q7, q8, q9, zq0, zq1, zq2, zq3, zq4, guardSlot, quietA, nilC, nilA, quietB, St.ev, St.put, St.after, Nat.reduceAdd, Nat.reduceSub, ofV, ofL, lenA, binA, intBin, fltBin, strBin, cpxBin, unA, convA, convB, convO, pickV, resL, oneA, indexA, indexS, isQuiet, loadA, loadC, storeA, fieldA, partA, sliceA, boundA, buildA, placeA, setAll, appendA, readSl, newEl, AV.cells, AV.solid, AV.one, kill, killM, killL, notInt, Int.reduceToNat, cond_true, cond_false, ↓reduceIte, reduceCtorEq, Nat.reduceLT, Nat.reduceLeDiff, Nat.reduceMul, Nat.reduceEqDiff, exists_eq', putF, implies_true, exists_true_left, tys0, tys1, tys2, und0, und1, md64, Tryz.ntmps64, Tryz.results64, get_at, set_at, rulB, E0, E1, List.length_set, elsR_len, el, List.getElem_set_self, List.set_set, gi, g, w2, w3, w4]
        refine ⟨⟨i + 1, by omega⟩, by show R.length - (i + 1) < R.length - i; omega, ?_⟩
        refine weak_same ?_ ?_
        · show _ = A ++ (rulB (elsR (A.length + 1) (mxR k R (i + 1))) :: ((mxR k R (i + 1)).map ifsB ++ T))
          rw [← ms, List.map_set, ← elsR_set, E2, E3]
          rw [E4]; rfl
        · simp [SameTm, w64_succ i (by omega), ns, hn]
      · have E1 : rulV (A.length + 1 + i) R[i] = .agg [.int .i64 R[i].1, .sl (A.length + 1 + i) 0 R[i].2.1.length, .int .i64 R[i].2.2.1, .int .i64 R[i].2.2.2.1, .int .i64 R[i].2.2.2.2] := by
          unfold rulV slV; rw [if_neg hn]
        simp only [q0, q1, q2, q3, q4, q5, q6, q7, q8, q9, zq0, zq1, zq2, zq3, zq4, guardSlot, quietA, nilC, nilA, quietB, St.ev, St.put, St.after, Nat.reduceAdd, Nat.reduceSub, ofV, ofL, lenA, binA, intBin, fltBin, strBin, cpxBin, unA, convA, convB, convO, pickV, resL, oneA, indexA, indexS, isQuiet, loadA, loadC, storeA, fieldA, partA, sliceA, boundA, buildA, placeA, setAll, appendA, readSl, newEl, AV.cells, AV.solid, AV.one, kill, killM, killL, notInt, Int.reduceToNat, cond_true, cond_false, ↓reduceIte, reduceCtorEq, Nat.reduceLT, Nat.reduceLeDiff, Nat.reduceMul, Nat.reduceEqDiff, exists_eq', putF, implies_true, exists_true_left, tys0, tys1, tys2, und0, und1, md64, Tryz.ntmps64, Tryz.results64, get_at, set_at, rulB, E0, E1, List.length_set, elsR_len, el, List.getElem_set_self, List.set_set, gi, g, w1]
        refine call_handed [A.length + 1 + i] (markInt64S_call R[i].2.1 (m + 1) (by omega) (by omega)) (by simp) ⟨⟨?_, ints_below _ _⟩, trivial⟩ rfl rfl rfl rfl (by simp [ints_below]) ?_
        · rw [at_in _ _ _ _ _ (by rw [List.length_map]; exact h2), List.getElem_map, eg]
          unfold ifsB; rw [if_neg hn]; rfl
        have si : ∀ x y, (A ++ (x :: ((mxR k R i).map ifsB ++ T))).set (A.length + 1 + i) y = A ++ (x :: (((mxR k R i).map ifsB).set i y ++ T)) := fun x y => set_in _ _ _ _ _ _ (by rw [List.length_map]; exact h2)
        have E2 : rulV (A.length + 1 + i) (mkR m R[i]) = .agg [.int .i64 m, .sl (A.length + 1 + i) 0 R[i].2.1.length, .int .i64 (m + 1 + (R[i].2.1.length : Int)), .int .i64 (m + 2 + (R[i].2.1.length : Int)), .int .i64 (m + 3 + (R[i].2.1.length : Int))] := by
          unfold rulV slV mkR; simp [hn, marks_len]
        have E3 : ifsB (mkR m R[i]) = intB (marks (m + 1) R[i].2.1.length) := by unfold ifsB mkR; simp [hn, marks_len]
        have w2 : IntKind.i64.wrap (m + 1 + (R[i].2.1.length : Int) + 1) = m + 2 + (R[i].2.1.length : Int) := by rw [w64 (by omega) (by omega)]; omega
        have w3 : IntKind.i64.wrap (m + 2 + (R[i].2.1.length : Int) + 1) = m + 3 + (R[i].2.1.length : Int) := by rw [w64 (by omega) (by omega)]; omega
        have w4 : IntKind.i64.wrap (m + 3 + (R[i].2.1.length : Int) + 1) = m + 4 + (R[i].2.1.length : Int) := by rw [w64 (by omega) (by omega)]; omega
        simp only [q0, q1, q2, q3, q4, q5, q6, q7, q8, q9, zq0, zq1, zq2, zq3, zq4, guardSlot, quietA, nilC, nilA, quietB, St.ev, St.put, St.after, Nat.reduceAdd, Nat.reduceSub, ofV, ofL, lenA, binA, intBin, fltBin, strBin, cpxBin, unA, convA, convB, convO, pickV, resL, oneA, indexA, indexS, isQuiet, loadA, loadC, storeA, fieldA, partA, sliceA, boundA, buildA, placeA, setAll, appendA, readSl, newEl, AV.cells, AV.solid, AV.one, kill, killM, killL, notInt, Int.reduceToNat, cond_true, cond_false, ↓reduceIte, reduceCtorEq, Nat.reduceLT, Nat.reduceLeDiff, Nat.reduceMul, Nat.reduceEqDiff, exists_eq', putF, implies_true, exists_true_left, tys0, tys1, tys2, und0, und1, md64, Tryz.ntmps64, Tryz.results64, get_at, set_at, rulB, E0, E1, List.length_set, elsR_len, el, List.getElem_set_self, List.set_set, gi, g, w2, w3, w4, si]
        refine ⟨⟨i + 1, by omega⟩, by show R.length - (i + 1) < R.length - i; omega, ?_⟩
        refine weak_same ?_ ?_
        · show _ = A ++ (rulB (elsR (A.length + 1) (mxR k R (i + 1))) :: ((mxR k R (i + 1)).map ifsB ++ T))
          rw [← ms, List.map_set, ← elsR_set, E2, E3]
          rfl
        · simp [SameTm, w64_succ i (by omega), ns, hn]
    · have g : i = R.length := by have := of_decide_eq_false g; omega
      subst g
      rw [show mxR k R R.length = mkRs k R by simp [mxR], List.take_length]
      exact PostR.ret
end Go.Proofs.YtigipcckflcilaaGreatDoor
