/- Lives: what the program computes. -/
import Derived.Test.YtpjifmfpddjeiaaAlR
set_option maxRecDepth 10000
set_option maxHeartbeats 8000000
set_option linter.unusedSimpArgs false
set_option linter.unusedVariables false
namespace Go.Proofs.Ytpjifmfpddjeiaa
open Go Go.Abs

theorem allW_flt (k : FloatKind) (n : Nat) : AllW 1 [AV.flt k n] := by intro a ha; rw [List.mem_singleton.1 ha]; exact ⟨rfl, rfl⟩
theorem isTable_call {q : List Nat} (T : Tab q) : CallA Try.prog 11 [.ro (flts q)] [] (Ret (.bool true) []) := by
  have h1 := T.one
  have h6 := T.six
  refine CallP.out (t := .mk) (go_in (md := md11) mixed Try.func11 rfl go11 (by kernel_rfl) ?_)
  simp only [q0, q1, q2, q3, q4, q5, q6, q7, q8, q9, zq0, zq1, zq2, zq3, zq4, guardSlot, quietA, nilC, nilA, quietB, St.ev, St.put, St.after, Nat.reduceAdd, Nat.reduceSub, ofV, ofL, lenA, binA, intBin, fltBin, strBin, cpxBin, unA, convA, convB, convO, pickV, resL, oneA, indexA, indexS, isQuiet, loadA, loadC, storeA, fieldA, partA, sliceA, boundA, buildA, placeA, setAll, appendA, readSl, newEl, AV.cells, AV.solid, AV.one, kill, killM, killL, notInt, Int.reduceToNat, cond_true, cond_false, ↓reduceIte, reduceCtorEq, Nat.reduceLT, Nat.reduceLeDiff, Nat.reduceMul, Nat.reduceEqDiff, exists_eq', putF, implies_true, exists_true_left, tys0, tys1, tys2, und0, und1, und2, md11, Try.ntmps11, Try.results11]
  refine go_round (md := md11) mixed (by kernel_rfl) (fun i : {i : Nat // i ≤ q.length} => ⟨[.ro (flts q), .any, .any, .any, .any, .ro (flts q), .int .i64 q.length, .int .i64 (i.1 : Int), .any, .any, .any, .any, .any, .any, .any, .any, .any, .any, .any, .any, .any, .any, .any, .any, .any, .any, .any, .any, .any, .any, .any, .any, .any, .any, .any, .any], []⟩) (fun i => q.length - i.1) ⟨0, by omega⟩ ?_ ?_
  · exact weak_drop (by simp) (by simp [DropHp, ints_below, flts_below]) (by simp [DropTm, DropV, below, belowM, belowL])
  rintro ⟨i, hi⟩
  simp only [q0, q1, q2, q3, q4, q5, q6, q7, q8, q9, zq0, zq1, zq2, zq3, zq4, guardSlot, quietA, nilC, nilA, quietB, St.ev, St.put, St.after, Nat.reduceAdd, Nat.reduceSub, ofV, ofL, lenA, binA, intBin, fltBin, strBin, cpxBin, unA, convA, convB, convO, pickV, resL, oneA, indexA, indexS, isQuiet, loadA, loadC, storeA, fieldA, partA, sliceA, boundA, buildA, placeA, setAll, appendA, readSl, newEl, AV.cells, AV.solid, AV.one, kill, killM, killL, notInt, Int.reduceToNat, cond_true, cond_false, ↓reduceIte, reduceCtorEq, Nat.reduceLT, Nat.reduceLeDiff, Nat.reduceMul, Nat.reduceEqDiff, exists_eq', putF, implies_true, exists_true_left, tys0, tys1, tys2, und0, und1, und2, md11, Try.ntmps11, Try.results11, f0, f1, flts_len]
  refine br_intro (fun h => ?_) (fun h => ?_) <;> simp only [q0, q1, q2, q3, q4, q5, q6, q7, q8, q9, zq0, zq1, zq2, zq3, zq4, guardSlot, quietA, nilC, nilA, quietB, St.ev, St.put, St.after, Nat.reduceAdd, Nat.reduceSub, ofV, ofL, lenA, binA, intBin, fltBin, strBin, cpxBin, unA, convA, convB, convO, pickV, resL, oneA, indexA, indexS, isQuiet, loadA, loadC, storeA, fieldA, partA, sliceA, boundA, buildA, placeA, setAll, appendA, readSl, newEl, AV.cells, AV.solid, AV.one, kill, killM, killL, notInt, Int.reduceToNat, cond_true, cond_false, ↓reduceIte, reduceCtorEq, Nat.reduceLT, Nat.reduceLeDiff, Nat.reduceMul, Nat.reduceEqDiff, exists_eq', putF, implies_true, exists_true_left, tys0, tys1, tys2, und0, und1, und2, md11, Try.ntmps11, Try.results11, f0, f1, flts_len]
  · have hi' : i < q.length := by have := of_decide_eq_true h; omega
    have u := T.u i hi'
    rw [getD_at q 0 i hi'] at u
    have g1 : fge .f32 q[i] 0 = true := by rw [fge_val u.fin fin_z, fval_zero]; exact decide_eq_true u.lo
    have g2 : fle .f32 q[i] 1065353216 = true := by
      have h := fle_val u.fin fin_one
      rw [one_val] at h
      exact h.trans (decide_eq_true u.up)
    refine ⟨hi', ?_⟩
    refine br_yes g1 ?_
    simp only [q0, q1, q2, q3, q4, q5, q6, q7, q8, q9, zq0, zq1, zq2, zq3, zq4, guardSlot, quietA, nilC, nilA, quietB, St.ev, St.put, St.after, Nat.reduceAdd, Nat.reduceSub, ofV, ofL, lenA, binA, intBin, fltBin, strBin, cpxBin, unA, convA, convB, convO, pickV, resL, oneA, indexA, indexS, isQuiet, loadA, loadC, storeA, fieldA, partA, sliceA, boundA, buildA, placeA, setAll, appendA, readSl, newEl, AV.cells, AV.solid, AV.one, kill, killM, killL, notInt, Int.reduceToNat, cond_true, cond_false, ↓reduceIte, reduceCtorEq, Nat.reduceLT, Nat.reduceLeDiff, Nat.reduceMul, Nat.reduceEqDiff, exists_eq', putF, implies_true, exists_true_left, tys0, tys1, tys2, und0, und1, und2, md11, Try.ntmps11, Try.results11, f0, f1, flts_len, g1, g2]
    refine ⟨⟨i + 1, by omega⟩, by show q.length - (i + 1) < q.length - i; omega, ?_⟩
    exact weak_drop (by simp) (by simp [DropHp, ints_below, flts_below, w64_succ i (by omega)]) (by simp [DropTm, DropV, below, belowM, belowL, w64_succ i (by omega)])
  · have hi' : i = q.length := by have := of_decide_eq_false h; omega
    subst hi'
    have hl : q.length - 1 < q.length := by omega
    have la := T.last
    rw [getD_at q 0 _ hl] at la
    have e1 : IntKind.i64.wrap ((q.length : Int) - 1) = ((q.length - 1 : Nat) : Int) := by rw [w64 (by omega) (by omega)]; omega
    have fe : feq .f32 1065353216 1065353216 = true := by decide +kernel
    refine br_yes (decide_eq_true (by omega)) ?_
    simp only [q0, q1, q2, q3, q4, q5, q6, q7, q8, q9, zq0, zq1, zq2, zq3, zq4, guardSlot, quietA, nilC, nilA, quietB, St.ev, St.put, St.after, Nat.reduceAdd, Nat.reduceSub, ofV, ofL, lenA, binA, intBin, fltBin, strBin, cpxBin, unA, convA, convB, convO, pickV, resL, oneA, indexA, indexS, isQuiet, loadA, loadC, storeA, fieldA, partA, sliceA, boundA, buildA, placeA, setAll, appendA, readSl, newEl, AV.cells, AV.solid, AV.one, kill, killM, killL, notInt, Int.reduceToNat, cond_true, cond_false, ↓reduceIte, reduceCtorEq, Nat.reduceLT, Nat.reduceLeDiff, Nat.reduceMul, Nat.reduceEqDiff, exists_eq', putF, implies_true, exists_true_left, tys0, tys1, tys2, und0, und1, und2, md11, Try.ntmps11, Try.results11, f0, f1, flts_len, e1]
    refine br_yes (decide_eq_true (by omega)) ?_
    simp only [q0, q1, q2, q3, q4, q5, q6, q7, q8, q9, zq0, zq1, zq2, zq3, zq4, guardSlot, quietA, nilC, nilA, quietB, St.ev, St.put, St.after, Nat.reduceAdd, Nat.reduceSub, ofV, ofL, lenA, binA, intBin, fltBin, strBin, cpxBin, unA, convA, convB, convO, pickV, resL, oneA, indexA, indexS, isQuiet, loadA, loadC, storeA, fieldA, partA, sliceA, boundA, buildA, placeA, setAll, appendA, readSl, newEl, AV.cells, AV.solid, AV.one, kill, killM, killL, notInt, Int.reduceToNat, cond_true, cond_false, ↓reduceIte, reduceCtorEq, Nat.reduceLT, Nat.reduceLeDiff, Nat.reduceMul, Nat.reduceEqDiff, exists_eq', putF, implies_true, exists_true_left, tys0, tys1, tys2, und0, und1, und2, md11, Try.ntmps11, Try.results11, f0, f1, flts_len, e1]
    refine ⟨hl, ?_⟩
    have la' : q[q.length - 1] = 1065353216 := la
    rw [la', fe]
    exact PostR.pure ⟨rfl, rfl⟩ rfl
theorem alive_call {q : List Nat} (hm : q.length ≤ 60) : CallA Try.prog 18 [.ro (flts q)] [] (Ret (.sl 0 0 q.length) [fltB (alvL q)]) := by
  refine CallP.out (t := .mk) (go_in (md := md18) mixed Try.func18 rfl go18 (by kernel_rfl) ?_)
  simp only [q0, q1, q2, q3, q4, q5, q6, q7, q8, q9, zq0, zq1, zq2, zq3, zq4, guardSlot, quietA, nilC, nilA, quietB, St.ev, St.put, St.after, Nat.reduceAdd, Nat.reduceSub, ofV, ofL, lenA, binA, intBin, fltBin, strBin, cpxBin, unA, convA, convB, convO, pickV, resL, oneA, indexA, indexS, isQuiet, loadA, loadC, storeA, fieldA, partA, sliceA, boundA, buildA, placeA, setAll, appendA, readSl, newEl, AV.cells, AV.solid, AV.one, kill, killM, killL, notInt, Int.reduceToNat, cond_true, cond_false, ↓reduceIte, reduceCtorEq, Nat.reduceLT, Nat.reduceLeDiff, Nat.reduceMul, Nat.reduceEqDiff, exists_eq', putF, implies_true, exists_true_left, tys0, tys1, tys2, und0, und1, und2, md18, Try.ntmps18, Try.results18, f0, f1]
  refine go_round (md := md18) mixed (by kernel_rfl) (fun i : {i : Nat // i ≤ q.length} => ⟨[.any, .any, .any, .sl 0 0 i.1, .flt .f32 (shF q i.1), .any, .any, .any, .ro (flts q), .int .i64 q.length, .int .i64 (i.1 : Int), .any, .any, .any, .any, .any, .any, .any, .any, .any, .any, .any, .any, .any], [fltB ((List.range i.1).map (shF q))]⟩) (fun i => q.length - i.1) ⟨0, by omega⟩ ?_ ?_
  · have e : shF q 0 = 1065353216 := rfl
    have z : (List.range 0).map (shF q) = [] := rfl
    have zf : flts [] = [] := rfl
    rw [e, z]
    exact weak_drop (by simp) (by simp [DropHp, ints_below, flts_below, fltB, zf, allBelow_cons, allBelow_nil, below, belowM, belowL]) (by simp [DropTm, DropV, below, belowM, belowL, fltB, zf, allBelow_cons, allBelow_nil, below, belowM, belowL])
  rintro ⟨i, hi⟩
  have ll : ((List.range i).map (shF q)).length = i := by simp
  simp only [q0, q1, q2, q3, q4, q5, q6, q7, q8, q9, zq0, zq1, zq2, zq3, zq4, guardSlot, quietA, nilC, nilA, quietB, St.ev, St.put, St.after, Nat.reduceAdd, Nat.reduceSub, ofV, ofL, lenA, binA, intBin, fltBin, strBin, cpxBin, unA, convA, convB, convO, pickV, resL, oneA, indexA, indexS, isQuiet, loadA, loadC, storeA, fieldA, partA, sliceA, boundA, buildA, placeA, setAll, appendA, readSl, newEl, AV.cells, AV.solid, AV.one, kill, killM, killL, notInt, Int.reduceToNat, cond_true, cond_false, ↓reduceIte, reduceCtorEq, Nat.reduceLT, Nat.reduceLeDiff, Nat.reduceMul, Nat.reduceEqDiff, exists_eq', putF, implies_true, exists_true_left, tys0, tys1, tys2, und0, und1, und2, md18, Try.ntmps18, Try.results18, f0, f1, fltB, flts_len, ll]
  refine br_intro (fun h => ?_) (fun h => ?_) <;> simp only [q0, q1, q2, q3, q4, q5, q6, q7, q8, q9, zq0, zq1, zq2, zq3, zq4, guardSlot, quietA, nilC, nilA, quietB, St.ev, St.put, St.after, Nat.reduceAdd, Nat.reduceSub, ofV, ofL, lenA, binA, intBin, fltBin, strBin, cpxBin, unA, convA, convB, convO, pickV, resL, oneA, indexA, indexS, isQuiet, loadA, loadC, storeA, fieldA, partA, sliceA, boundA, buildA, placeA, setAll, appendA, readSl, newEl, AV.cells, AV.solid, AV.one, kill, killM, killL, notInt, Int.reduceToNat, cond_true, cond_false, ↓reduceIte, reduceCtorEq, Nat.reduceLT, Nat.reduceLeDiff, Nat.reduceMul, Nat.reduceEqDiff, exists_eq', putF, implies_true, exists_true_left, tys0, tys1, tys2, und0, und1, und2, md18, Try.ntmps18, Try.results18, f0, f1, fltB, flts_len, ll]
  · have hi' : i < q.length := by have := of_decide_eq_true h; omega
    refine ⟨hi', allW_flt _ _, by rw [fits]; omega, ⟨i + 1, by omega⟩, by show q.length - (i + 1) < q.length - i; omega, ?_⟩
    have es : shF q (i + 1) = fmul .f32 (shF q i) (fsub .f32 1065353216 q[i]) := by rw [shF, getD_at q 0 i hi']; rfl
    have el : (List.range i).map (shF q) ++ [shF q i] = (List.range (i + 1)).map (shF q) := by rw [List.range_succ, List.map_append]; rfl
    rw [es]
    rw [← el]
    exact weak_drop (by simp) (by simp [DropHp, ints_below, flts_below, w64_succ i (by omega), fltB, flts_snoc, flts_below, allBelow_cons, allBelow_nil, below, belowM, belowL]) (by simp [DropTm, DropV, below, belowM, belowL, w64_succ i (by omega), fltB, flts_snoc, flts_below, allBelow_cons, allBelow_nil, below, belowM, belowL])
  · have hi' : i = q.length := by have := of_decide_eq_false h; omega
    subst hi'
    exact PostR.ret
theorem view_alv {q : List Nat} : view 2 [fltB (alvL q)] (.sl 0 0 q.length) = .ro (flts (alvL q)) := view_fl rfl (alvL_len q)
theorem alive_ro {q : List Nat} (hm : q.length ≤ 60) : CallA Try.prog 18 [.ro (flts q)] [] (Ret (.ro (flts (alvL q))) []) := CallA.frozen 2 (alive_call hm) view_alv
def facF (r : Nat) : Nat := fdiv .f32 one32 (fadd .f32 one32 r)
theorem present_call (S : List Nat) (r w : Nat) (hm : S.length ≤ 60) (hw : w ≤ 60) : CallA Try.prog 22 [.ro (flts S), .flt .f32 r, .int .i64 (w : Int)] [] (Ret (.flt .f32 (prF S (facF r) w S.length)) []) := by
  have ef : fdiv .f32 1065353216 (fadd .f32 1065353216 r) = facF r := rfl
  refine CallP.out (t := .mk) (go_in (md := md22) mixed Try.func22 rfl go22 (by kernel_rfl) ?_)
  simp only [q0, q1, q2, q3, q4, q5, q6, q7, q8, q9, zq0, zq1, zq2, zq3, zq4, guardSlot, quietA, nilC, nilA, quietB, St.ev, St.put, St.after, Nat.reduceAdd, Nat.reduceSub, ofV, ofL, lenA, binA, intBin, fltBin, strBin, cpxBin, unA, convA, convB, convO, pickV, resL, oneA, indexA, indexS, isQuiet, loadA, loadC, storeA, fieldA, partA, sliceA, boundA, buildA, placeA, setAll, appendA, readSl, newEl, AV.cells, AV.solid, AV.one, kill, killM, killL, notInt, Int.reduceToNat, cond_true, cond_false, ↓reduceIte, reduceCtorEq, Nat.reduceLT, Nat.reduceLeDiff, Nat.reduceMul, Nat.reduceEqDiff, exists_eq', putF, implies_true, exists_true_left, tys0, tys1, tys2, und0, und1, und2, md22, Try.ntmps22, Try.results22, f0, f1, ef]
  refine go_round (md := md22) mixed (by kernel_rfl) (fun i : {i : Nat // i ≤ S.length} => ⟨[.any, .any, .int .i64 (w : Int), .any, .any, .any, .any, .flt .f32 (facF r), .flt .f32 (pF (facF r) i.1), .flt .f32 (prF S (facF r) w i.1), .any, .any, .any, .any, .any, .ro (flts S), .int .i64 S.length, .int .i64 (i.1 : Int), .any, .any, .any, .any, .any, .any, .any, .any, .any, .any, .any, .any, .any, .any, .any, .any, .any], []⟩) (fun i => S.length - i.1) ⟨0, by omega⟩ ?_ ?_
  · have e : pF (facF r) 0 = 1065353216 := rfl
    have e2 : prF S (facF r) w 0 = 0 := rfl
    rw [e, e2]
    exact weak_drop (by simp) (by simp [DropHp, ints_below, flts_below, flts_len]) (by simp [DropTm, DropV, below, belowM, belowL, flts_len])
  rintro ⟨i, hi⟩
  simp only [q0, q1, q2, q3, q4, q5, q6, q7, q8, q9, zq0, zq1, zq2, zq3, zq4, guardSlot, quietA, nilC, nilA, quietB, St.ev, St.put, St.after, Nat.reduceAdd, Nat.reduceSub, ofV, ofL, lenA, binA, intBin, fltBin, strBin, cpxBin, unA, convA, convB, convO, pickV, resL, oneA, indexA, indexS, isQuiet, loadA, loadC, storeA, fieldA, partA, sliceA, boundA, buildA, placeA, setAll, appendA, readSl, newEl, AV.cells, AV.solid, AV.one, kill, killM, killL, notInt, Int.reduceToNat, cond_true, cond_false, ↓reduceIte, reduceCtorEq, Nat.reduceLT, Nat.reduceLeDiff, Nat.reduceMul, Nat.reduceEqDiff, exists_eq', putF, implies_true, exists_true_left, tys0, tys1, tys2, und0, und1, und2, md22, Try.ntmps22, Try.results22, flts_len]
  refine br_intro (fun h => ?_) (fun h => ?_) <;> simp only [q0, q1, q2, q3, q4, q5, q6, q7, q8, q9, zq0, zq1, zq2, zq3, zq4, guardSlot, quietA, nilC, nilA, quietB, St.ev, St.put, St.after, Nat.reduceAdd, Nat.reduceSub, ofV, ofL, lenA, binA, intBin, fltBin, strBin, cpxBin, unA, convA, convB, convO, pickV, resL, oneA, indexA, indexS, isQuiet, loadA, loadC, storeA, fieldA, partA, sliceA, boundA, buildA, placeA, setAll, appendA, readSl, newEl, AV.cells, AV.solid, AV.one, kill, killM, killL, notInt, Int.reduceToNat, cond_true, cond_false, ↓reduceIte, reduceCtorEq, Nat.reduceLT, Nat.reduceLeDiff, Nat.reduceMul, Nat.reduceEqDiff, exists_eq', putF, implies_true, exists_true_left, tys0, tys1, tys2, und0, und1, und2, md22, Try.ntmps22, Try.results22, flts_len]
  · have hi' : i < S.length := by have := of_decide_eq_true h; omega
    have ep : pF (facF r) (i + 1) = fmul .f32 (pF (facF r) i) (facF r) := rfl
    have ew := w64_succ i (by omega)
    refine ⟨hi', ?_⟩
    refine br_intro (fun g => ?_) (fun g => ?_) <;> simp only [q0, q1, q2, q3, q4, q5, q6, q7, q8, q9, zq0, zq1, zq2, zq3, zq4, guardSlot, quietA, nilC, nilA, quietB, St.ev, St.put, St.after, Nat.reduceAdd, Nat.reduceSub, ofV, ofL, lenA, binA, intBin, fltBin, strBin, cpxBin, unA, convA, convB, convO, pickV, resL, oneA, indexA, indexS, isQuiet, loadA, loadC, storeA, fieldA, partA, sliceA, boundA, buildA, placeA, setAll, appendA, readSl, newEl, AV.cells, AV.solid, AV.one, kill, killM, killL, notInt, Int.reduceToNat, cond_true, cond_false, ↓reduceIte, reduceCtorEq, Nat.reduceLT, Nat.reduceLeDiff, Nat.reduceMul, Nat.reduceEqDiff, exists_eq', putF, implies_true, exists_true_left, tys0, tys1, tys2, und0, und1, und2, md22, Try.ntmps22, Try.results22, flts_len]
    · have hg : w ≤ i := by have := of_decide_eq_true g; omega
      have es : prF S (facF r) w (i + 1) = fadd .f32 (prF S (facF r) w i) (fmul .f32 S[i] (pF (facF r) i)) := by rw [prF, if_pos hg, getD_at S 0 i hi']
      refine ⟨⟨i + 1, by omega⟩, by show S.length - (i + 1) < S.length - i; omega, ?_⟩
      exact weak_drop (by simp) (by simp [DropHp, ints_below, flts_below, ep, es, ew]) (by simp [DropTm, DropV, below, belowM, belowL, ep, es, ew])
    · have hg : ¬ w ≤ i := by have := of_decide_eq_false g; omega
      have es : prF S (facF r) w (i + 1) = prF S (facF r) w i := by rw [prF, if_neg hg]
      refine ⟨⟨i + 1, by omega⟩, by show S.length - (i + 1) < S.length - i; omega, ?_⟩
      exact weak_drop (by simp) (by simp [DropHp, ints_below, flts_below, ep, es, ew]) (by simp [DropTm, DropV, below, belowM, belowL, ep, es, ew])
  · have hi' : i = S.length := by have := of_decide_eq_false h; omega
    subst hi'
    exact PostR.pure ⟨rfl, rfl⟩ rfl
theorem aliveShares_call {q : List Nat} (T : Tab q) : CallA Try.prog 7 [.ro (flts q)] [] (Ret (.tup [.ro (flts (alvL q)), .bool true]) []) := by
  have h6 := T.six
  refine CallP.out (t := .mk) (go_in (md := md7) mixed Try.func7 rfl go7 (by kernel_rfl) ?_)
  simp only [q0, q1, q2, q3, q4, q5, q6, q7, q8, q9, zq0, zq1, zq2, zq3, zq4, guardSlot, quietA, nilC, nilA, quietB, St.ev, St.put, St.after, Nat.reduceAdd, Nat.reduceSub, ofV, ofL, lenA, binA, intBin, fltBin, strBin, cpxBin, unA, convA, convB, convO, pickV, resL, oneA, indexA, indexS, isQuiet, loadA, loadC, storeA, fieldA, partA, sliceA, boundA, buildA, placeA, setAll, appendA, readSl, newEl, AV.cells, AV.solid, AV.one, kill, killM, killL, notInt, Int.reduceToNat, cond_true, cond_false, ↓reduceIte, reduceCtorEq, Nat.reduceLT, Nat.reduceLeDiff, Nat.reduceMul, Nat.reduceEqDiff, exists_eq', putF, implies_true, exists_true_left, tys0, tys1, tys2, und0, und1, und2, md7, Try.ntmps7, Try.results7]
  refine call_ret (isTable_call T) rfl rfl ?_
  simp only [q0, q1, q2, q3, q4, q5, q6, q7, q8, q9, zq0, zq1, zq2, zq3, zq4, guardSlot, quietA, nilC, nilA, quietB, St.ev, St.put, St.after, Nat.reduceAdd, Nat.reduceSub, ofV, ofL, lenA, binA, intBin, fltBin, strBin, cpxBin, unA, convA, convB, convO, pickV, resL, oneA, indexA, indexS, isQuiet, loadA, loadC, storeA, fieldA, partA, sliceA, boundA, buildA, placeA, setAll, appendA, readSl, newEl, AV.cells, AV.solid, AV.one, kill, killM, killL, notInt, Int.reduceToNat, cond_true, cond_false, ↓reduceIte, reduceCtorEq, Nat.reduceLT, Nat.reduceLeDiff, Nat.reduceMul, Nat.reduceEqDiff, exists_eq', putF, implies_true, exists_true_left, tys0, tys1, tys2, und0, und1, und2, md7, Try.ntmps7, Try.results7]
  refine call_ret (alive_ro (by omega)) rfl rfl ?_
  simp only [q0, q1, q2, q3, q4, q5, q6, q7, q8, q9, zq0, zq1, zq2, zq3, zq4, guardSlot, quietA, nilC, nilA, quietB, St.ev, St.put, St.after, Nat.reduceAdd, Nat.reduceSub, ofV, ofL, lenA, binA, intBin, fltBin, strBin, cpxBin, unA, convA, convB, convO, pickV, resL, oneA, indexA, indexS, isQuiet, loadA, loadC, storeA, fieldA, partA, sliceA, boundA, buildA, placeA, setAll, appendA, readSl, newEl, AV.cells, AV.solid, AV.one, kill, killM, killL, notInt, Int.reduceToNat, cond_true, cond_false, ↓reduceIte, reduceCtorEq, Nat.reduceLT, Nat.reduceLeDiff, Nat.reduceMul, Nat.reduceEqDiff, exists_eq', putF, implies_true, exists_true_left, tys0, tys1, tys2, und0, und1, und2, md7, Try.ntmps7, Try.results7]
  exact PostR.pure ⟨rfl, rfl⟩ rfl
def smF (S : List Nat) : Nat → Nat
  | 0 => 0
  | i + 1 => fadd .f32 (smF S i) (S.getD i 0)
def yrF (q : List Nat) : Nat := fsub .f32 (smF (alvL q) q.length) 1056964608
theorem years_call {q : List Nat} (T : Tab q) (hf : finB .f32 (yrF q) = true) : CallA Try.prog 8 [.ro (flts q)] [] (Ret (.tup [.flt .f32 (yrF q), .bool true]) []) := by
  have h6 := T.six
  have al := alvL_len q
  have ch : canon .f32 1056964608 = 1056964608 := by decide +kernel
  refine CallP.out (t := .mk) (go_in (md := md8) mixed Try.func8 rfl go8 (by kernel_rfl) ?_)
  simp only [q0, q1, q2, q3, q4, q5, q6, q7, q8, q9, zq0, zq1, zq2, zq3, zq4, guardSlot, quietA, nilC, nilA, quietB, St.ev, St.put, St.after, Nat.reduceAdd, Nat.reduceSub, ofV, ofL, lenA, binA, intBin, fltBin, strBin, cpxBin, unA, convA, convB, convO, pickV, resL, oneA, indexA, indexS, isQuiet, loadA, loadC, storeA, fieldA, partA, sliceA, boundA, buildA, placeA, setAll, appendA, readSl, newEl, AV.cells, AV.solid, AV.one, kill, killM, killL, notInt, Int.reduceToNat, cond_true, cond_false, ↓reduceIte, reduceCtorEq, Nat.reduceLT, Nat.reduceLeDiff, Nat.reduceMul, Nat.reduceEqDiff, exists_eq', putF, implies_true, exists_true_left, tys0, tys1, tys2, und0, und1, und2, md8, Try.ntmps8, Try.results8, f0]
  refine call_ret (isTable_call T) rfl rfl ?_
  simp only [q0, q1, q2, q3, q4, q5, q6, q7, q8, q9, zq0, zq1, zq2, zq3, zq4, guardSlot, quietA, nilC, nilA, quietB, St.ev, St.put, St.after, Nat.reduceAdd, Nat.reduceSub, ofV, ofL, lenA, binA, intBin, fltBin, strBin, cpxBin, unA, convA, convB, convO, pickV, resL, oneA, indexA, indexS, isQuiet, loadA, loadC, storeA, fieldA, partA, sliceA, boundA, buildA, placeA, setAll, appendA, readSl, newEl, AV.cells, AV.solid, AV.one, kill, killM, killL, notInt, Int.reduceToNat, cond_true, cond_false, ↓reduceIte, reduceCtorEq, Nat.reduceLT, Nat.reduceLeDiff, Nat.reduceMul, Nat.reduceEqDiff, exists_eq', putF, implies_true, exists_true_left, tys0, tys1, tys2, und0, und1, und2, md8, Try.ntmps8, Try.results8, f0]
  refine call_ret (alive_ro (by omega)) rfl rfl ?_
  simp only [q0, q1, q2, q3, q4, q5, q6, q7, q8, q9, zq0, zq1, zq2, zq3, zq4, guardSlot, quietA, nilC, nilA, quietB, St.ev, St.put, St.after, Nat.reduceAdd, Nat.reduceSub, ofV, ofL, lenA, binA, intBin, fltBin, strBin, cpxBin, unA, convA, convB, convO, pickV, resL, oneA, indexA, indexS, isQuiet, loadA, loadC, storeA, fieldA, partA, sliceA, boundA, buildA, placeA, setAll, appendA, readSl, newEl, AV.cells, AV.solid, AV.one, kill, killM, killL, notInt, Int.reduceToNat, cond_true, cond_false, ↓reduceIte, reduceCtorEq, Nat.reduceLT, Nat.reduceLeDiff, Nat.reduceMul, Nat.reduceEqDiff, exists_eq', putF, implies_true, exists_true_left, tys0, tys1, tys2, und0, und1, und2, md8, Try.ntmps8, Try.results8, f0, flts_len, al]
  refine go_round (md := md8) mixed (by kernel_rfl) (fun i : {i : Nat // i ≤ q.length} => ⟨[.any, .any, .any, .any, .flt .f32 (smF (alvL q) i.1), .any, .any, .any, .any, .any, .any, .ro (flts (alvL q)), .int .i64 q.length, .int .i64 (i.1 : Int), .any, .any, .any, .any, .any, .any, .any, .any, .any, .any, .any, .any], []⟩) (fun i => q.length - i.1) ⟨0, by omega⟩ ?_ ?_
  · have e : smF (alvL q) 0 = 0 := rfl
    rw [e]
    exact weak_drop (by simp) (by simp [DropHp, ints_below, flts_below]) (by simp [DropTm, DropV, below, belowM, belowL])
  rintro ⟨i, hi⟩
  simp only [q0, q1, q2, q3, q4, q5, q6, q7, q8, q9, zq0, zq1, zq2, zq3, zq4, guardSlot, quietA, nilC, nilA, quietB, St.ev, St.put, St.after, Nat.reduceAdd, Nat.reduceSub, ofV, ofL, lenA, binA, intBin, fltBin, strBin, cpxBin, unA, convA, convB, convO, pickV, resL, oneA, indexA, indexS, isQuiet, loadA, loadC, storeA, fieldA, partA, sliceA, boundA, buildA, placeA, setAll, appendA, readSl, newEl, AV.cells, AV.solid, AV.one, kill, killM, killL, notInt, Int.reduceToNat, cond_true, cond_false, ↓reduceIte, reduceCtorEq, Nat.reduceLT, Nat.reduceLeDiff, Nat.reduceMul, Nat.reduceEqDiff, exists_eq', putF, implies_true, exists_true_left, tys0, tys1, tys2, und0, und1, und2, md8, Try.ntmps8, Try.results8, flts_len, al, ch]
  refine br_intro (fun h => ?_) (fun h => ?_) <;> simp only [q0, q1, q2, q3, q4, q5, q6, q7, q8, q9, zq0, zq1, zq2, zq3, zq4, guardSlot, quietA, nilC, nilA, quietB, St.ev, St.put, St.after, Nat.reduceAdd, Nat.reduceSub, ofV, ofL, lenA, binA, intBin, fltBin, strBin, cpxBin, unA, convA, convB, convO, pickV, resL, oneA, indexA, indexS, isQuiet, loadA, loadC, storeA, fieldA, partA, sliceA, boundA, buildA, placeA, setAll, appendA, readSl, newEl, AV.cells, AV.solid, AV.one, kill, killM, killL, notInt, Int.reduceToNat, cond_true, cond_false, ↓reduceIte, reduceCtorEq, Nat.reduceLT, Nat.reduceLeDiff, Nat.reduceMul, Nat.reduceEqDiff, exists_eq', putF, implies_true, exists_true_left, tys0, tys1, tys2, und0, und1, und2, md8, Try.ntmps8, Try.results8, flts_len, al, ch]
  · have hi' : i < q.length := by have := of_decide_eq_true h; omega
    have ha : i < (alvL q).length := by omega
    have es : smF (alvL q) (i + 1) = fadd .f32 (smF (alvL q) i) (alvL q)[i] := by rw [smF, getD_at (alvL q) 0 i ha]
    refine ⟨hi', ⟨i + 1, by omega⟩, by show q.length - (i + 1) < q.length - i; omega, ?_⟩
    exact weak_drop (by simp) (by simp [DropHp, ints_below, flts_below, es, w64_succ i (by omega)]) (by simp [DropTm, DropV, below, belowM, belowL, es, w64_succ i (by omega)])
  · have hi' : i = q.length := by have := of_decide_eq_false h; omega
    subst hi'
    have ey : fsub .f32 (smF (alvL q) q.length) 1056964608 = yrF q := rfl
    simp only [ey]
    refine call_ret (finite_call _) rfl rfl ?_
    rw [hf]
    simp only [q0, q1, q2, q3, q4, q5, q6, q7, q8, q9, zq0, zq1, zq2, zq3, zq4, guardSlot, quietA, nilC, nilA, quietB, St.ev, St.put, St.after, Nat.reduceAdd, Nat.reduceSub, ofV, ofL, lenA, binA, intBin, fltBin, strBin, cpxBin, unA, convA, convB, convO, pickV, resL, oneA, indexA, indexS, isQuiet, loadA, loadC, storeA, fieldA, partA, sliceA, boundA, buildA, placeA, setAll, appendA, readSl, newEl, AV.cells, AV.solid, AV.one, kill, killM, killL, notInt, Int.reduceToNat, cond_true, cond_false, ↓reduceIte, reduceCtorEq, Nat.reduceLT, Nat.reduceLeDiff, Nat.reduceMul, Nat.reduceEqDiff, exists_eq', putF, implies_true, exists_true_left, tys0, tys1, tys2, und0, und1, und2, md8, Try.ntmps8, Try.results8]
    exact PostR.pure ⟨rfl, rfl⟩ rfl
structure Yd (r : Nat) : Prop where
  u : U01 r
theorem isYield_call {r : Nat} (Y : U01 r) : CallA Try.prog 20 [.flt .f32 r] [] (Ret (.bool true) []) := by
  have g1 : fge .f32 r 0 = true := by rw [fge_val Y.fin fin_z, fval_zero]; exact decide_eq_true Y.lo
  have g2 : fle .f32 r 1065353216 = true := by
    have h := fle_val Y.fin fin_one
    rw [one_val] at h
    exact h.trans (decide_eq_true Y.up)
  refine CallP.out (t := .mk) (go_in (md := md20) mixed Try.func20 rfl go20 (by kernel_rfl) ?_)
  simp only [q0, q1, q2, q3, q4, q5, q6, q7, q8, q9, zq0, zq1, zq2, zq3, zq4, guardSlot, quietA, nilC, nilA, quietB, St.ev, St.put, St.after, Nat.reduceAdd, Nat.reduceSub, ofV, ofL, lenA, binA, intBin, fltBin, strBin, cpxBin, unA, convA, convB, convO, pickV, resL, oneA, indexA, indexS, isQuiet, loadA, loadC, storeA, fieldA, partA, sliceA, boundA, buildA, placeA, setAll, appendA, readSl, newEl, AV.cells, AV.solid, AV.one, kill, killM, killL, notInt, Int.reduceToNat, cond_true, cond_false, ↓reduceIte, reduceCtorEq, Nat.reduceLT, Nat.reduceLeDiff, Nat.reduceMul, Nat.reduceEqDiff, exists_eq', putF, implies_true, exists_true_left, tys0, tys1, tys2, und0, und1, und2, md20, Try.ntmps20, Try.results20, f0, f1, g1, g2]
  exact PostR.pure ⟨rfl, rfl⟩ rfl
theorem fac_u {r : Nat} (Y : U01 r) : U01 (facF r) := by
  have y0 := Y.lo
  have y1 := Y.up
  have hb : ab (fval .f32 one32 + fval .f32 r) ≤ 16 := by rw [one_val]; clear Y; exact ab_le (by grind) (by grind)
  have rs := rn_add fin_one Y.fin (top16 hb)
  have l := rs.lo 1 rep1 (by rw [one_val]; clear Y; grind)
  have sf := rs.fin
  unfold facF
  generalize fadd .f32 one32 r = d at *
  have d0 : fval .f32 d ≠ 0 := by clear Y rs; grind
  have hm : fval .f32 one32 / fval .f32 d * fval .f32 d = fval .f32 one32 := Rat.div_mul_cancel d0
  rw [one_val] at hm
  have q0 : 0 ≤ fval .f32 one32 / fval .f32 d := by
    rw [one_val]
    apply Classical.byContradiction
    intro hh
    have h6 := Rat.mul_lt_mul_of_pos_right (show (1 : Rat) / fval .f32 d < 0 by clear Y rs; grind) (show (0 : Rat) < fval .f32 d by clear Y rs; grind)
    clear Y rs
    grind
  have q1 : fval .f32 one32 / fval .f32 d ≤ 1 := by
    rw [one_val] at q0 ⊢
    have h6 := Rat.mul_le_mul_of_nonneg_left l q0
    clear Y rs
    grind
  have r := rn_div fin_one sf d0 (top16 (by rw [ab_of q0]; clear Y rs; grind))
  exact ⟨r.fin, r.lo 0 rep0 q0, r.up 1 rep1 q1⟩
def valF (q : List Nat) (r w : Nat) : Nat := prF (alvL q) (facF r) w q.length
theorem later_call {q : List Nat} (T : Tab q) {r : Nat} (Y : U01 r) (w : Nat) (hw : w ≤ q.length) : CallA Try.prog 13 [.ro (flts q), .flt .f32 r, .int .i64 (w : Int)] [] (Ret (.tup [.flt .f32 (valF q r w), .bool true]) []) := by
  have h6 := T.six
  have al := alvL_len q
  have vf := (pr_ok (alv_shs T) T.six (fac_u Y) w q.length (Nat.le_refl _)).1
  have pc := present_call (alvL q) r w (by omega) (by omega)
  rw [al] at pc
  have pc : CallA Try.prog 22 [.ro (flts (alvL q)), .flt .f32 r, .int .i64 (w : Int)] [] (Ret (.flt .f32 (valF q r w)) []) := pc
  have e1 : IntKind.i64.wrap (w : Int) = (w : Int) := w64 (by omega) (by omega)
  refine CallP.out (t := .mk) (go_in (md := md13) mixed Try.func13 rfl go13 (by kernel_rfl) ?_)
  simp only [q0, q1, q2, q3, q4, q5, q6, q7, q8, q9, zq0, zq1, zq2, zq3, zq4, guardSlot, quietA, nilC, nilA, quietB, St.ev, St.put, St.after, Nat.reduceAdd, Nat.reduceSub, ofV, ofL, lenA, binA, intBin, fltBin, strBin, cpxBin, unA, convA, convB, convO, pickV, resL, oneA, indexA, indexS, isQuiet, loadA, loadC, storeA, fieldA, partA, sliceA, boundA, buildA, placeA, setAll, appendA, readSl, newEl, AV.cells, AV.solid, AV.one, kill, killM, killL, notInt, Int.reduceToNat, cond_true, cond_false, ↓reduceIte, reduceCtorEq, Nat.reduceLT, Nat.reduceLeDiff, Nat.reduceMul, Nat.reduceEqDiff, exists_eq', putF, implies_true, exists_true_left, tys0, tys1, tys2, und0, und1, und2, md13, Try.ntmps13, Try.results13, f0]
  refine call_ret (isTable_call T) rfl rfl ?_
  simp only [q0, q1, q2, q3, q4, q5, q6, q7, q8, q9, zq0, zq1, zq2, zq3, zq4, guardSlot, quietA, nilC, nilA, quietB, St.ev, St.put, St.after, Nat.reduceAdd, Nat.reduceSub, ofV, ofL, lenA, binA, intBin, fltBin, strBin, cpxBin, unA, convA, convB, convO, pickV, resL, oneA, indexA, indexS, isQuiet, loadA, loadC, storeA, fieldA, partA, sliceA, boundA, buildA, placeA, setAll, appendA, readSl, newEl, AV.cells, AV.solid, AV.one, kill, killM, killL, notInt, Int.reduceToNat, cond_true, cond_false, ↓reduceIte, reduceCtorEq, Nat.reduceLT, Nat.reduceLeDiff, Nat.reduceMul, Nat.reduceEqDiff, exists_eq', putF, implies_true, exists_true_left, tys0, tys1, tys2, und0, und1, und2, md13, Try.ntmps13, Try.results13, f0]
  refine call_ret (isYield_call Y) rfl rfl ?_
  simp only [q0, q1, q2, q3, q4, q5, q6, q7, q8, q9, zq0, zq1, zq2, zq3, zq4, guardSlot, quietA, nilC, nilA, quietB, St.ev, St.put, St.after, Nat.reduceAdd, Nat.reduceSub, ofV, ofL, lenA, binA, intBin, fltBin, strBin, cpxBin, unA, convA, convB, convO, pickV, resL, oneA, indexA, indexS, isQuiet, loadA, loadC, storeA, fieldA, partA, sliceA, boundA, buildA, placeA, setAll, appendA, readSl, newEl, AV.cells, AV.solid, AV.one, kill, killM, killL, notInt, Int.reduceToNat, cond_true, cond_false, ↓reduceIte, reduceCtorEq, Nat.reduceLT, Nat.reduceLeDiff, Nat.reduceMul, Nat.reduceEqDiff, exists_eq', putF, implies_true, exists_true_left, tys0, tys1, tys2, und0, und1, und2, md13, Try.ntmps13, Try.results13, f0, flts_len]
  refine call_ret (within_call _ _ _) rfl rfl ?_
  rw [inR_yes (by omega) (by omega)]
  simp only [q0, q1, q2, q3, q4, q5, q6, q7, q8, q9, zq0, zq1, zq2, zq3, zq4, guardSlot, quietA, nilC, nilA, quietB, St.ev, St.put, St.after, Nat.reduceAdd, Nat.reduceSub, ofV, ofL, lenA, binA, intBin, fltBin, strBin, cpxBin, unA, convA, convB, convO, pickV, resL, oneA, indexA, indexS, isQuiet, loadA, loadC, storeA, fieldA, partA, sliceA, boundA, buildA, placeA, setAll, appendA, readSl, newEl, AV.cells, AV.solid, AV.one, kill, killM, killL, notInt, Int.reduceToNat, cond_true, cond_false, ↓reduceIte, reduceCtorEq, Nat.reduceLT, Nat.reduceLeDiff, Nat.reduceMul, Nat.reduceEqDiff, exists_eq', putF, implies_true, exists_true_left, tys0, tys1, tys2, und0, und1, und2, md13, Try.ntmps13, Try.results13, f0]
  refine call_ret (alive_ro (by omega)) rfl rfl ?_
  simp only [q0, q1, q2, q3, q4, q5, q6, q7, q8, q9, zq0, zq1, zq2, zq3, zq4, guardSlot, quietA, nilC, nilA, quietB, St.ev, St.put, St.after, Nat.reduceAdd, Nat.reduceSub, ofV, ofL, lenA, binA, intBin, fltBin, strBin, cpxBin, unA, convA, convB, convO, pickV, resL, oneA, indexA, indexS, isQuiet, loadA, loadC, storeA, fieldA, partA, sliceA, boundA, buildA, placeA, setAll, appendA, readSl, newEl, AV.cells, AV.solid, AV.one, kill, killM, killL, notInt, Int.reduceToNat, cond_true, cond_false, ↓reduceIte, reduceCtorEq, Nat.reduceLT, Nat.reduceLeDiff, Nat.reduceMul, Nat.reduceEqDiff, exists_eq', putF, implies_true, exists_true_left, tys0, tys1, tys2, und0, und1, und2, md13, Try.ntmps13, Try.results13, f0, e1]
  refine call_ret pc rfl rfl ?_
  simp only [q0, q1, q2, q3, q4, q5, q6, q7, q8, q9, zq0, zq1, zq2, zq3, zq4, guardSlot, quietA, nilC, nilA, quietB, St.ev, St.put, St.after, Nat.reduceAdd, Nat.reduceSub, ofV, ofL, lenA, binA, intBin, fltBin, strBin, cpxBin, unA, convA, convB, convO, pickV, resL, oneA, indexA, indexS, isQuiet, loadA, loadC, storeA, fieldA, partA, sliceA, boundA, buildA, placeA, setAll, appendA, readSl, newEl, AV.cells, AV.solid, AV.one, kill, killM, killL, notInt, Int.reduceToNat, cond_true, cond_false, ↓reduceIte, reduceCtorEq, Nat.reduceLT, Nat.reduceLeDiff, Nat.reduceMul, Nat.reduceEqDiff, exists_eq', putF, implies_true, exists_true_left, tys0, tys1, tys2, und0, und1, und2, md13, Try.ntmps13, Try.results13, f0]
  refine call_ret (finite_call _) rfl rfl ?_
  rw [show finB .f32 (valF q r w) = true from vf]
  simp only [q0, q1, q2, q3, q4, q5, q6, q7, q8, q9, zq0, zq1, zq2, zq3, zq4, guardSlot, quietA, nilC, nilA, quietB, St.ev, St.put, St.after, Nat.reduceAdd, Nat.reduceSub, ofV, ofL, lenA, binA, intBin, fltBin, strBin, cpxBin, unA, convA, convB, convO, pickV, resL, oneA, indexA, indexS, isQuiet, loadA, loadC, storeA, fieldA, partA, sliceA, boundA, buildA, placeA, setAll, appendA, readSl, newEl, AV.cells, AV.solid, AV.one, kill, killM, killL, notInt, Int.reduceToNat, cond_true, cond_false, ↓reduceIte, reduceCtorEq, Nat.reduceLT, Nat.reduceLeDiff, Nat.reduceMul, Nat.reduceEqDiff, exists_eq', putF, implies_true, exists_true_left, tys0, tys1, tys2, und0, und1, und2, md13, Try.ntmps13, Try.results13, f0]
  exact PostR.pure ⟨rfl, rfl⟩ rfl
theorem annuity_call {q : List Nat} (T : Tab q) {r : Nat} (Y : U01 r) : CallA Try.prog 9 [.ro (flts q), .flt .f32 r] [] (Ret (.tup [.flt .f32 (valF q r 0), .bool true]) []) := by
  refine CallP.out (t := .mk) (go_in (md := md9) mixed Try.func9 rfl go9 (by kernel_rfl) ?_)
  simp only [q0, q1, q2, q3, q4, q5, q6, q7, q8, q9, zq0, zq1, zq2, zq3, zq4, guardSlot, quietA, nilC, nilA, quietB, St.ev, St.put, St.after, Nat.reduceAdd, Nat.reduceSub, ofV, ofL, lenA, binA, intBin, fltBin, strBin, cpxBin, unA, convA, convB, convO, pickV, resL, oneA, indexA, indexS, isQuiet, loadA, loadC, storeA, fieldA, partA, sliceA, boundA, buildA, placeA, setAll, appendA, readSl, newEl, AV.cells, AV.solid, AV.one, kill, killM, killL, notInt, Int.reduceToNat, cond_true, cond_false, ↓reduceIte, reduceCtorEq, Nat.reduceLT, Nat.reduceLeDiff, Nat.reduceMul, Nat.reduceEqDiff, exists_eq', putF, implies_true, exists_true_left, tys0, tys1, tys2, und0, und1, und2, md9, Try.ntmps9, Try.results9, f0]
  refine call_ret (later_call T Y 0 (Nat.zero_le _)) rfl rfl ?_
  simp only [q0, q1, q2, q3, q4, q5, q6, q7, q8, q9, zq0, zq1, zq2, zq3, zq4, guardSlot, quietA, nilC, nilA, quietB, St.ev, St.put, St.after, Nat.reduceAdd, Nat.reduceSub, ofV, ofL, lenA, binA, intBin, fltBin, strBin, cpxBin, unA, convA, convB, convO, pickV, resL, oneA, indexA, indexS, isQuiet, loadA, loadC, storeA, fieldA, partA, sliceA, boundA, buildA, placeA, setAll, appendA, readSl, newEl, AV.cells, AV.solid, AV.one, kill, killM, killL, notInt, Int.reduceToNat, cond_true, cond_false, ↓reduceIte, reduceCtorEq, Nat.reduceLT, Nat.reduceLeDiff, Nat.reduceMul, Nat.reduceEqDiff, exists_eq', putF, implies_true, exists_true_left, tys0, tys1, tys2, und0, und1, und2, md9, Try.ntmps9, Try.results9, f0]
  exact PostR.pure ⟨rfl, rfl⟩ rfl
end Go.Proofs.Ytpjifmfpddjeiaa
