/- Funds and flows: what the program computes. -/
import Derived.Test.YthildgdbgjgidaaFrB
import Derived.Test.YthildgdbgjgidaaFrP
import Derived.Test.YthildgdbgjgidaaFrS
set_option maxRecDepth 10000
set_option maxHeartbeats 8000000
set_option linter.unusedSimpArgs false
set_option linter.unusedVariables false
namespace Go.Proofs.Ythildgdbgjgidaa
open Go Go.Abs

theorem areReturns_call (rs : List Int) (hm : rs.length ≤ 1048576) : CallA Try.prog 16 [.ro (ints rs)] [] (Ret (.bool (hasC rs 1 60 (-9999) 10000)) []) := by
  refine CallP.out (t := .mk) (go_in (md := md16) mixed Try.func16 rfl go16 (by kernel_rfl) ?_)
  simp only [q0, q1, q2, q3, q4, q5, q6, q7, q8, q9, zq0, zq1, zq2, zq3, zq4, guardSlot, quietA, nilC, nilA, quietB, St.ev, St.put, St.after, Nat.reduceAdd, Nat.reduceSub, ofV, ofL, lenA, binA, intBin, fltBin, strBin, cpxBin, unA, convA, convB, convO, pickV, resL, oneA, indexA, indexS, isQuiet, loadA, loadC, storeA, fieldA, partA, sliceA, boundA, buildA, placeA, setAll, appendA, readSl, newEl, AV.cells, AV.solid, AV.one, kill, killM, killL, notInt, Int.reduceToNat, cond_true, cond_false, ↓reduceIte, reduceCtorEq, Nat.reduceLT, Nat.reduceLeDiff, Nat.reduceMul, Nat.reduceEqDiff, exists_eq', putF, implies_true, exists_true_left, tys0, tys1, tys2, und0, und1, und2, md16, Try.ntmps16, Try.results16]
  refine call_ret (hasCount_call rs _ _ _ _ hm) rfl rfl ?_
  simp only [q0, q1, q2, q3, q4, q5, q6, q7, q8, q9, zq0, zq1, zq2, zq3, zq4, guardSlot, quietA, nilC, nilA, quietB, St.ev, St.put, St.after, Nat.reduceAdd, Nat.reduceSub, ofV, ofL, lenA, binA, intBin, fltBin, strBin, cpxBin, unA, convA, convB, convO, pickV, resL, oneA, indexA, indexS, isQuiet, loadA, loadC, storeA, fieldA, partA, sliceA, boundA, buildA, placeA, setAll, appendA, readSl, newEl, AV.cells, AV.solid, AV.one, kill, killM, killL, notInt, Int.reduceToNat, cond_true, cond_false, ↓reduceIte, reduceCtorEq, Nat.reduceLT, Nat.reduceLeDiff, Nat.reduceMul, Nat.reduceEqDiff, exists_eq', putF, implies_true, exists_true_left, tys0, tys1, tys2, und0, und1, und2, md16, Try.ntmps16, Try.results16]
  exact PostR.pure ⟨rfl, rfl⟩ rfl
theorem areYears_call (rs : List Int) (hm : rs.length ≤ 1048576) : CallA Try.prog 15 [.ro (ints rs)] [] (Ret (.bool (hasC rs 1 60 0 1000000000000)) []) := by
  refine CallP.out (t := .mk) (go_in (md := md15) mixed Try.func15 rfl go15 (by kernel_rfl) ?_)
  simp only [q0, q1, q2, q3, q4, q5, q6, q7, q8, q9, zq0, zq1, zq2, zq3, zq4, guardSlot, quietA, nilC, nilA, quietB, St.ev, St.put, St.after, Nat.reduceAdd, Nat.reduceSub, ofV, ofL, lenA, binA, intBin, fltBin, strBin, cpxBin, unA, convA, convB, convO, pickV, resL, oneA, indexA, indexS, isQuiet, loadA, loadC, storeA, fieldA, partA, sliceA, boundA, buildA, placeA, setAll, appendA, readSl, newEl, AV.cells, AV.solid, AV.one, kill, killM, killL, notInt, Int.reduceToNat, cond_true, cond_false, ↓reduceIte, reduceCtorEq, Nat.reduceLT, Nat.reduceLeDiff, Nat.reduceMul, Nat.reduceEqDiff, exists_eq', putF, implies_true, exists_true_left, tys0, tys1, tys2, und0, und1, und2, md15, Try.ntmps15, Try.results15]
  refine call_ret (hasCount_call rs _ _ _ _ hm) rfl rfl ?_
  simp only [q0, q1, q2, q3, q4, q5, q6, q7, q8, q9, zq0, zq1, zq2, zq3, zq4, guardSlot, quietA, nilC, nilA, quietB, St.ev, St.put, St.after, Nat.reduceAdd, Nat.reduceSub, ofV, ofL, lenA, binA, intBin, fltBin, strBin, cpxBin, unA, convA, convB, convO, pickV, resL, oneA, indexA, indexS, isQuiet, loadA, loadC, storeA, fieldA, partA, sliceA, boundA, buildA, placeA, setAll, appendA, readSl, newEl, AV.cells, AV.solid, AV.one, kill, killM, killL, notInt, Int.reduceToNat, cond_true, cond_false, ↓reduceIte, reduceCtorEq, Nat.reduceLT, Nat.reduceLeDiff, Nat.reduceMul, Nat.reduceEqDiff, exists_eq', putF, implies_true, exists_true_left, tys0, tys1, tys2, und0, und1, und2, md15, Try.ntmps15, Try.results15]
  exact PostR.pure ⟨rfl, rfl⟩ rfl
theorem areFlows_call (rs : List Int) (hm : rs.length ≤ 1048576) : CallA Try.prog 23 [.ro (ints rs)] [] (Ret (.bool (hasC rs 2 60 (-1000000000) 1000000000)) []) := by
  refine CallP.out (t := .mk) (go_in (md := md23) mixed Try.func23 rfl go23 (by kernel_rfl) ?_)
  simp only [q0, q1, q2, q3, q4, q5, q6, q7, q8, q9, zq0, zq1, zq2, zq3, zq4, guardSlot, quietA, nilC, nilA, quietB, St.ev, St.put, St.after, Nat.reduceAdd, Nat.reduceSub, ofV, ofL, lenA, binA, intBin, fltBin, strBin, cpxBin, unA, convA, convB, convO, pickV, resL, oneA, indexA, indexS, isQuiet, loadA, loadC, storeA, fieldA, partA, sliceA, boundA, buildA, placeA, setAll, appendA, readSl, newEl, AV.cells, AV.solid, AV.one, kill, killM, killL, notInt, Int.reduceToNat, cond_true, cond_false, ↓reduceIte, reduceCtorEq, Nat.reduceLT, Nat.reduceLeDiff, Nat.reduceMul, Nat.reduceEqDiff, exists_eq', putF, implies_true, exists_true_left, tys0, tys1, tys2, und0, und1, und2, md23, Try.ntmps23, Try.results23]
  refine call_ret (hasCount_call rs _ _ _ _ hm) rfl rfl ?_
  simp only [q0, q1, q2, q3, q4, q5, q6, q7, q8, q9, zq0, zq1, zq2, zq3, zq4, guardSlot, quietA, nilC, nilA, quietB, St.ev, St.put, St.after, Nat.reduceAdd, Nat.reduceSub, ofV, ofL, lenA, binA, intBin, fltBin, strBin, cpxBin, unA, convA, convB, convO, pickV, resL, oneA, indexA, indexS, isQuiet, loadA, loadC, storeA, fieldA, partA, sliceA, boundA, buildA, placeA, setAll, appendA, readSl, newEl, AV.cells, AV.solid, AV.one, kill, killM, killL, notInt, Int.reduceToNat, cond_true, cond_false, ↓reduceIte, reduceCtorEq, Nat.reduceLT, Nat.reduceLeDiff, Nat.reduceMul, Nat.reduceEqDiff, exists_eq', putF, implies_true, exists_true_left, tys0, tys1, tys2, und0, und1, und2, md23, Try.ntmps23, Try.results23]
  exact PostR.pure ⟨rfl, rfl⟩ rfl
theorem hasC_of {l : List Int} {a b lo hi : Int} (h1 : a ≤ l.length) (h2 : (l.length : Int) ≤ b) (h3 : ∀ x ∈ l, lo ≤ x ∧ x ≤ hi) : hasC l a b lo hi = true := by
  unfold hasC
  rw [decide_eq_true h1, decide_eq_true h2, List.all_eq_true.2 fun x hx => inR_yes (h3 x hx).1 (h3 x hx).2]
  rfl
theorem fundRun_call (s0 : Int) (ps : List Int) (rate fee : Int) (hr : -500 ≤ rate) (hr2 : rate ≤ 1490) (hf : 0 ≤ fee) (hf2 : fee ≤ 100) (h0 : 0 ≤ s0) (h1 : s0 ≤ 255) (one : 1 ≤ ps.length) (tw : ps.length ≤ 12) (hp : ∀ x ∈ ps, 0 ≤ x ∧ x < 2000) :
    CallA Try.prog 7 [.int .i64 s0, .ro (ints ps), .ro (ints (List.replicate ps.length rate)), .int .i64 fee] [] (Ret (.tup [.sl 0 0 ps.length, .bool true]) [intB (rngL (fun i => fundF s0 ps rate fee (i + 1)) ps.length)]) := by
  have rl : (List.replicate ps.length rate).length = ps.length := by simp
  refine CallP.out (t := .mk) (go_in (md := md7) mixed Try.func7 rfl go7 (by kernel_rfl) ?_)
  simp only [q0, q1, q2, q3, q4, q5, q6, q7, q8, q9, zq0, zq1, zq2, zq3, zq4, guardSlot, quietA, nilC, nilA, quietB, St.ev, St.put, St.after, Nat.reduceAdd, Nat.reduceSub, ofV, ofL, lenA, binA, intBin, fltBin, strBin, cpxBin, unA, convA, convB, convO, pickV, resL, oneA, indexA, indexS, isQuiet, loadA, loadC, storeA, fieldA, partA, sliceA, boundA, buildA, placeA, setAll, appendA, readSl, newEl, AV.cells, AV.solid, AV.one, kill, killM, killL, notInt, Int.reduceToNat, cond_true, cond_false, ↓reduceIte, reduceCtorEq, Nat.reduceLT, Nat.reduceLeDiff, Nat.reduceMul, Nat.reduceEqDiff, exists_eq', putF, implies_true, exists_true_left, tys0, tys1, tys2, und0, und1, und2, md7, Try.ntmps7, Try.results7]
  refine call_ret (isAmount_call _) rfl rfl ?_
  rw [inR_yes (by omega) (by omega)]
  simp only [q0, q1, q2, q3, q4, q5, q6, q7, q8, q9, zq0, zq1, zq2, zq3, zq4, guardSlot, quietA, nilC, nilA, quietB, St.ev, St.put, St.after, Nat.reduceAdd, Nat.reduceSub, ofV, ofL, lenA, binA, intBin, fltBin, strBin, cpxBin, unA, convA, convB, convO, pickV, resL, oneA, indexA, indexS, isQuiet, loadA, loadC, storeA, fieldA, partA, sliceA, boundA, buildA, placeA, setAll, appendA, readSl, newEl, AV.cells, AV.solid, AV.one, kill, killM, killL, notInt, Int.reduceToNat, cond_true, cond_false, ↓reduceIte, reduceCtorEq, Nat.reduceLT, Nat.reduceLeDiff, Nat.reduceMul, Nat.reduceEqDiff, exists_eq', putF, implies_true, exists_true_left, tys0, tys1, tys2, und0, und1, und2, md7, Try.ntmps7, Try.results7]
  refine call_ret (areYears_call ps (by omega)) rfl rfl ?_
  rw [hasC_of (by omega) (by omega) (fun x hx => by have := hp x hx; omega)]
  simp only [q0, q1, q2, q3, q4, q5, q6, q7, q8, q9, zq0, zq1, zq2, zq3, zq4, guardSlot, quietA, nilC, nilA, quietB, St.ev, St.put, St.after, Nat.reduceAdd, Nat.reduceSub, ofV, ofL, lenA, binA, intBin, fltBin, strBin, cpxBin, unA, convA, convB, convO, pickV, resL, oneA, indexA, indexS, isQuiet, loadA, loadC, storeA, fieldA, partA, sliceA, boundA, buildA, placeA, setAll, appendA, readSl, newEl, AV.cells, AV.solid, AV.one, kill, killM, killL, notInt, Int.reduceToNat, cond_true, cond_false, ↓reduceIte, reduceCtorEq, Nat.reduceLT, Nat.reduceLeDiff, Nat.reduceMul, Nat.reduceEqDiff, exists_eq', putF, implies_true, exists_true_left, tys0, tys1, tys2, und0, und1, und2, md7, Try.ntmps7, Try.results7]
  refine call_ret (areReturns_call _ (by omega)) rfl rfl ?_
  rw [hasC_of (by omega) (by omega) (fun x hx => by rw [(List.mem_replicate.1 hx).2]; omega)]
  simp only [q0, q1, q2, q3, q4, q5, q6, q7, q8, q9, zq0, zq1, zq2, zq3, zq4, guardSlot, quietA, nilC, nilA, quietB, St.ev, St.put, St.after, Nat.reduceAdd, Nat.reduceSub, ofV, ofL, lenA, binA, intBin, fltBin, strBin, cpxBin, unA, convA, convB, convO, pickV, resL, oneA, indexA, indexS, isQuiet, loadA, loadC, storeA, fieldA, partA, sliceA, boundA, buildA, placeA, setAll, appendA, readSl, newEl, AV.cells, AV.solid, AV.one, kill, killM, killL, notInt, Int.reduceToNat, cond_true, cond_false, ↓reduceIte, reduceCtorEq, Nat.reduceLT, Nat.reduceLeDiff, Nat.reduceMul, Nat.reduceEqDiff, exists_eq', putF, implies_true, exists_true_left, tys0, tys1, tys2, und0, und1, und2, md7, Try.ntmps7, Try.results7, ints_len, rl]
  refine br_no (by simp) ?_
  simp only [q0, q1, q2, q3, q4, q5, q6, q7, q8, q9, zq0, zq1, zq2, zq3, zq4, guardSlot, quietA, nilC, nilA, quietB, St.ev, St.put, St.after, Nat.reduceAdd, Nat.reduceSub, ofV, ofL, lenA, binA, intBin, fltBin, strBin, cpxBin, unA, convA, convB, convO, pickV, resL, oneA, indexA, indexS, isQuiet, loadA, loadC, storeA, fieldA, partA, sliceA, boundA, buildA, placeA, setAll, appendA, readSl, newEl, AV.cells, AV.solid, AV.one, kill, killM, killL, notInt, Int.reduceToNat, cond_true, cond_false, ↓reduceIte, reduceCtorEq, Nat.reduceLT, Nat.reduceLeDiff, Nat.reduceMul, Nat.reduceEqDiff, exists_eq', putF, implies_true, exists_true_left, tys0, tys1, tys2, und0, und1, und2, md7, Try.ntmps7, Try.results7, ints_len, rl]
  refine call_ret (isRate_call _) rfl rfl ?_
  rw [inR_yes (by omega) (by omega)]
  simp only [q0, q1, q2, q3, q4, q5, q6, q7, q8, q9, zq0, zq1, zq2, zq3, zq4, guardSlot, quietA, nilC, nilA, quietB, St.ev, St.put, St.after, Nat.reduceAdd, Nat.reduceSub, ofV, ofL, lenA, binA, intBin, fltBin, strBin, cpxBin, unA, convA, convB, convO, pickV, resL, oneA, indexA, indexS, isQuiet, loadA, loadC, storeA, fieldA, partA, sliceA, boundA, buildA, placeA, setAll, appendA, readSl, newEl, AV.cells, AV.solid, AV.one, kill, killM, killL, notInt, Int.reduceToNat, cond_true, cond_false, ↓reduceIte, reduceCtorEq, Nat.reduceLT, Nat.reduceLeDiff, Nat.reduceMul, Nat.reduceEqDiff, exists_eq', putF, implies_true, exists_true_left, tys0, tys1, tys2, und0, und1, und2, md7, Try.ntmps7, Try.results7]
  refine go_round (md := md7) mixed (by kernel_rfl) (fun i : {i : Nat // i ≤ ps.length} => ⟨[.int .i64 (fundF s0 ps rate fee i.1), .any, .ro (ints (List.replicate ps.length rate)), .int .i64 fee, .any, .any, .any, .any, .any, .any, .sl 0 0 i.1, .any, .any, .any, .any, .any, .any, .any, .any, .any, .any, .any, .any, .any, .any, .any, .any, .any, .any, .any, .any, .any, .any, .any, .any, .any, .any, .any, .any, .ro (ints ps), .int .i64 ps.length, .int .i64 i.1, .any, .any, .any, .any, .any, .any, .any, .any, .any, .any, .any, .any, .any, .any, .any, .any, .any, .any, .any, .any, .any, .any, .any, .any, .any, .any, .any, .any], [intB (rngL (fun i => fundF s0 ps rate fee (i + 1)) i.1)]⟩) (fun i => ps.length - i.1) ⟨0, by omega⟩ ?_ ?_
  · have z : rngL (fun i => fundF s0 ps rate fee (i + 1)) 0 = [] := rfl
    rw [z]
    exact weak_drop (by simp) (by simp [DropHp, ints_below, flts_below, intB, ints, fundF, allBelow_cons, allBelow_nil, below, belowM, belowL]) (by simp [DropTm, DropV, below, belowM, belowL, intB, ints, fundF, allBelow_cons, allBelow_nil, below, belowM, belowL])
  rintro ⟨i, hi⟩
  have ll := rngL_len (fun i => fundF s0 ps rate fee (i + 1)) i
  simp only [q0, q1, q2, q3, q4, q5, q6, q7, q8, q9, zq0, zq1, zq2, zq3, zq4, guardSlot, quietA, nilC, nilA, quietB, St.ev, St.put, St.after, Nat.reduceAdd, Nat.reduceSub, ofV, ofL, lenA, binA, intBin, fltBin, strBin, cpxBin, unA, convA, convB, convO, pickV, resL, oneA, indexA, indexS, isQuiet, loadA, loadC, storeA, fieldA, partA, sliceA, boundA, buildA, placeA, setAll, appendA, readSl, newEl, AV.cells, AV.solid, AV.one, kill, killM, killL, notInt, Int.reduceToNat, cond_true, cond_false, ↓reduceIte, reduceCtorEq, Nat.reduceLT, Nat.reduceLeDiff, Nat.reduceMul, Nat.reduceEqDiff, exists_eq', putF, implies_true, exists_true_left, tys0, tys1, tys2, und0, und1, und2, md7, Try.ntmps7, Try.results7, intB, ints_len, ll, rl]
  refine br_intro (fun h => ?_) (fun h => ?_) <;> simp only [q0, q1, q2, q3, q4, q5, q6, q7, q8, q9, zq0, zq1, zq2, zq3, zq4, guardSlot, quietA, nilC, nilA, quietB, St.ev, St.put, St.after, Nat.reduceAdd, Nat.reduceSub, ofV, ofL, lenA, binA, intBin, fltBin, strBin, cpxBin, unA, convA, convB, convO, pickV, resL, oneA, indexA, indexS, isQuiet, loadA, loadC, storeA, fieldA, partA, sliceA, boundA, buildA, placeA, setAll, appendA, readSl, newEl, AV.cells, AV.solid, AV.one, kill, killM, killL, notInt, Int.reduceToNat, cond_true, cond_false, ↓reduceIte, reduceCtorEq, Nat.reduceLT, Nat.reduceLeDiff, Nat.reduceMul, Nat.reduceEqDiff, exists_eq', putF, implies_true, exists_true_left, tys0, tys1, tys2, und0, und1, und2, md7, Try.ntmps7, Try.results7, intB, ints_len, ll, rl]
  · have hi' : i < ps.length := by simpa using h
    have hx := hp _ (List.getElem_mem hi')
    obtain ⟨l1, l2⟩ := fund_low hr hr2 hf hf2 h0 h1 hp i (by omega)
    have pw := pow_small i (by omega)
    have st := fundS_low (p := ps[i]) hr hr2 hf hf2 l1 hx.1
    have rg : (List.replicate ps.length rate)[i]'(by simpa using hi') = rate := by simp
    have e1 : IntKind.i64.wrap (fundF s0 ps rate fee i + ps[i]) = fundF s0 ps rate fee i + ps[i] := w64 (by omega) (by omega)
    have e2 : IntKind.i64.wrap (10000 + rate) = 10000 + rate := w64 (by omega) (by omega)
    have m0 : 0 ≤ (fundF s0 ps rate fee i + ps[i]) * (10000 + rate) := Int.mul_nonneg (by omega) (by omega)
    have m1 : (fundF s0 ps rate fee i + ps[i]) * (10000 + rate) ≤ (fundF s0 ps rate fee i + ps[i]) * 20000 := Int.mul_le_mul_of_nonneg_left (by omega) (by omega)
    have e3 : IntKind.i64.wrap ((fundF s0 ps rate fee i + ps[i]) * (10000 + rate)) = (fundF s0 ps rate fee i + ps[i]) * (10000 + rate) := w64 (by omega) (by omega)
    have fs : fundF s0 ps rate fee (i + 1) = fundS rate fee (fundF s0 ps rate fee i) ps[i] := by rw [fundF, getD_at ps 0 i hi']
    refine ⟨hi', by omega, ?_⟩
    simp only [rg, e1, e2, e3]
    refine call_ret (rounded_call _ 10000 2 m0 (by omega) (by omega) (by omega) (by omega) (by omega)) rfl rfl ?_
    simp only [q0, q1, q2, q3, q4, q5, q6, q7, q8, q9, zq0, zq1, zq2, zq3, zq4, guardSlot, quietA, nilC, nilA, quietB, St.ev, St.put, St.after, Nat.reduceAdd, Nat.reduceSub, ofV, ofL, lenA, binA, intBin, fltBin, strBin, cpxBin, unA, convA, convB, convO, pickV, resL, oneA, indexA, indexS, isQuiet, loadA, loadC, storeA, fieldA, partA, sliceA, boundA, buildA, placeA, setAll, appendA, readSl, newEl, AV.cells, AV.solid, AV.one, kill, killM, killL, notInt, Int.reduceToNat, cond_true, cond_false, ↓reduceIte, reduceCtorEq, Nat.reduceLT, Nat.reduceLeDiff, Nat.reduceMul, Nat.reduceEqDiff, exists_eq', putF, implies_true, exists_true_left, tys0, tys1, tys2, und0, und1, und2, md7, Try.ntmps7, Try.results7, intB, ints_len, ll, rl]
    refine call_ret (dueBy_call _ fee 0 st.1 (by omega) hf (by omega) (by omega) (by omega)) rfl rfl ?_
    have e4 : IntKind.i64.wrap (rnd ((fundF s0 ps rate fee i + ps[i]) * (10000 + rate)) 10000 2 - rnd (rnd ((fundF s0 ps rate fee i + ps[i]) * (10000 + rate)) 10000 2 * fee) 10000 0) = fundF s0 ps rate fee (i + 1) := by
      rw [fs]
      have h3 := st.2.2
      unfold fundS at h3 ⊢
      exact w64 (by omega) (by omega)
    simp only [q0, q1, q2, q3, q4, q5, q6, q7, q8, q9, zq0, zq1, zq2, zq3, zq4, guardSlot, quietA, nilC, nilA, quietB, St.ev, St.put, St.after, Nat.reduceAdd, Nat.reduceSub, ofV, ofL, lenA, binA, intBin, fltBin, strBin, cpxBin, unA, convA, convB, convO, pickV, resL, oneA, indexA, indexS, isQuiet, loadA, loadC, storeA, fieldA, partA, sliceA, boundA, buildA, placeA, setAll, appendA, readSl, newEl, AV.cells, AV.solid, AV.one, kill, killM, killL, notInt, Int.reduceToNat, cond_true, cond_false, ↓reduceIte, reduceCtorEq, Nat.reduceLT, Nat.reduceLeDiff, Nat.reduceMul, Nat.reduceEqDiff, exists_eq', putF, implies_true, exists_true_left, tys0, tys1, tys2, und0, und1, und2, md7, Try.ntmps7, Try.results7, intB, ints_len, ll, rl, e4]
    refine call_ret (isAmount_call _) rfl rfl ?_
    rw [inR_yes (by rw [fs]; exact st.2.2.1) (by rw [fs]; have := st.2.2.2; omega)]
    simp only [q0, q1, q2, q3, q4, q5, q6, q7, q8, q9, zq0, zq1, zq2, zq3, zq4, guardSlot, quietA, nilC, nilA, quietB, St.ev, St.put, St.after, Nat.reduceAdd, Nat.reduceSub, ofV, ofL, lenA, binA, intBin, fltBin, strBin, cpxBin, unA, convA, convB, convO, pickV, resL, oneA, indexA, indexS, isQuiet, loadA, loadC, storeA, fieldA, partA, sliceA, boundA, buildA, placeA, setAll, appendA, readSl, newEl, AV.cells, AV.solid, AV.one, kill, killM, killL, notInt, Int.reduceToNat, cond_true, cond_false, ↓reduceIte, reduceCtorEq, Nat.reduceLT, Nat.reduceLeDiff, Nat.reduceMul, Nat.reduceEqDiff, exists_eq', putF, implies_true, exists_true_left, tys0, tys1, tys2, und0, und1, und2, md7, Try.ntmps7, Try.results7, intB, ints_len, ll, rl, allW_int, fits, List.isEmpty_cons, brk_false, Nat.reduceMul]
    refine ⟨by omega, ⟨i + 1, by omega⟩, by show ps.length - (i + 1) < ps.length - i; omega, ?_⟩
    rw [rngL_succ (fun i => fundF s0 ps rate fee (i + 1))]
    exact weak_drop (by simp) (by simp [DropHp, ints_below, flts_below, w64_succ i (by omega), intB, allBelow_cons, allBelow_nil, below, belowM, belowL]) (by simp [DropTm, DropV, below, belowM, belowL, w64_succ i (by omega), intB, allBelow_cons, allBelow_nil, below, belowM, belowL])
  · have hi' : i = ps.length := by simp at h; omega
    subst hi'
    exact PostR.ret
theorem gap8_call (a b : Nat) (ha : finB .f32 a = true) (hb : finB .f32 b = true) : CallA Try.prog 9 [.flt .f32 a, .flt .f32 b] [] (Ret (.flt .f64 (gap8 a b)) []) := by
  refine CallP.out (t := .mk) (go_in (md := md9) mixed Try.func9 rfl go9 (by kernel_rfl) ?_)
  simp only [q0, q1, q2, q3, q4, q5, q6, q7, q8, q9, zq0, zq1, zq2, zq3, zq4, guardSlot, quietA, nilC, nilA, quietB, St.ev, St.put, St.after, Nat.reduceAdd, Nat.reduceSub, ofV, ofL, lenA, binA, intBin, fltBin, strBin, cpxBin, unA, convA, convB, convO, pickV, resL, oneA, indexA, indexS, isQuiet, loadA, loadC, storeA, fieldA, partA, sliceA, boundA, buildA, placeA, setAll, appendA, readSl, newEl, AV.cells, AV.solid, AV.one, kill, killM, killL, notInt, Int.reduceToNat, cond_true, cond_false, ↓reduceIte, reduceCtorEq, Nat.reduceLT, Nat.reduceLeDiff, Nat.reduceMul, Nat.reduceEqDiff, exists_eq', putF, implies_true, exists_true_left, tys0, tys1, tys2, und0, und1, und2, md9, Try.ntmps9, Try.results9]
  have wa := (wide_rn ha).1.fin
  have wb := (wide_rn hb).1.fin
  have va := (wide_rn ha).2
  have vb := (wide_rn hb).2
  have sub : ∀ x y, finB .f64 x = true → finB .f64 y = true → ab (fval .f64 x) ≤ p2 130 → ab (fval .f64 y) ≤ p2 130 → finB .f64 (fsub .f64 x y) = true := fun x y hx hy b1 b2 => by
    have h := ab_sub (fval .f64 x) (fval .f64 y)
    have e : p2 131 = 2 * p2 130 := by
      have : p2 1 = 2 := rfl
      rw [← this, ← p2_add]; rfl
    exact (rn_sub (k := .f64) hx hy (lt_top64 (t := 131) (by grind) (by decide))).fin
  have big : ∀ x, finB .f32 x = true → ab (fval .f32 x) ≤ p2 130 := fun x hx => by
    obtain ⟨s, m, e, hd⟩ := fin_num hx
    obtain ⟨b1, b2, b3⟩ := read_single x s m e hd
    rw [fval_of hd, ab_sg _ (mag_nonneg _ _)]
    have h1 := cast_le (show m ≤ 2 ^ 24 by omega)
    rw [← p2_nat] at h1
    have h2 := mul_le_r (Rat.le_of_lt (p2_pos e)) h1
    rw [← p2_add] at h2
    have h3 := p2_mono (show ((24 : Nat) : Int) + e ≤ 130 by omega)
    grind
  have ba := big a ha
  have bb := big b hb
  rw [← va] at ba
  rw [← vb] at bb
  have f1 := sub _ _ wa wb ba bb
  have f2 := sub _ _ wb wa bb ba
  have hs : (FloatKind.f64.format.order (fsub .f64 (fconv .f64 .f32 a) (fconv .f64 .f32 b)) (fsub .f64 (fconv .f64 .f32 b) (fconv .f64 .f32 a))).isSome = true := by rw [order_val f1 f2]; rfl
  simp only [q0, q1, q2, q3, q4, q5, q6, q7, q8, q9, zq0, zq1, zq2, zq3, zq4, guardSlot, quietA, nilC, nilA, quietB, St.ev, St.put, St.after, Nat.reduceAdd, Nat.reduceSub, ofV, ofL, lenA, binA, intBin, fltBin, strBin, cpxBin, unA, convA, convB, convO, pickV, resL, oneA, indexA, indexS, isQuiet, loadA, loadC, storeA, fieldA, partA, sliceA, boundA, buildA, placeA, setAll, appendA, readSl, newEl, AV.cells, AV.solid, AV.one, kill, killM, killL, notInt, Int.reduceToNat, cond_true, cond_false, ↓reduceIte, reduceCtorEq, Nat.reduceLT, Nat.reduceLeDiff, Nat.reduceMul, Nat.reduceEqDiff, exists_eq', putF, implies_true, exists_true_left, tys0, tys1, tys2, und0, und1, und2, md9, Try.ntmps9, Try.results9, maxA, hs]
  exact PostR.ret
theorem worth_call (fl : List Int) (r : Nat) (hm : fl.length ≤ 60) : CallA Try.prog 24 [.ro (ints fl), .flt .f32 r] [] (Ret (.flt .f32 (worF fl r)) []) := by
  refine CallP.out (t := .mk) (go_in (md := md24) mixed Try.func24 rfl go24 (by kernel_rfl) ?_)
  have e0 : IntKind.i64.wrap ((fl.length : Int) - 1) = (fl.length : Int) - 1 := w64 (by omega) (by omega)
  simp only [q0, q1, q2, q3, q4, q5, q6, q7, q8, q9, zq0, zq1, zq2, zq3, zq4, guardSlot, quietA, nilC, nilA, quietB, St.ev, St.put, St.after, Nat.reduceAdd, Nat.reduceSub, ofV, ofL, lenA, binA, intBin, fltBin, strBin, cpxBin, unA, convA, convB, convO, pickV, resL, oneA, indexA, indexS, isQuiet, loadA, loadC, storeA, fieldA, partA, sliceA, boundA, buildA, placeA, setAll, appendA, readSl, newEl, AV.cells, AV.solid, AV.one, kill, killM, killL, notInt, Int.reduceToNat, cond_true, cond_false, ↓reduceIte, reduceCtorEq, Nat.reduceLT, Nat.reduceLeDiff, Nat.reduceMul, Nat.reduceEqDiff, exists_eq', putF, implies_true, exists_true_left, tys0, tys1, tys2, und0, und1, und2, md24, Try.ntmps24, Try.results24, f0, f1, ints_len, e0]
  refine go_round (md := md24) mixed (by kernel_rfl) (fun k : {k : Nat // k ≤ fl.length} => ⟨[.ro (ints fl), .flt .f32 r, .any, .any, .any, .flt .f32 (wF fl r k.1), .int .i64 ((fl.length : Int) - 1 - (k.1 : Int)), .any, .any, .any, .any, .any, .any, .any, .any, .any, .any, .any, .any, .any, .any, .any, .any, .any, .any], []⟩) (fun k => fl.length - k.1) ⟨0, by omega⟩ ?_ ?_
  · have e : wF fl r 0 = 0 := rfl
    rw [e]
    exact weak_drop (by simp) (by simp [DropHp, ints_below, flts_below, Int.sub_zero]) (by simp [DropTm, DropV, below, belowM, belowL, Int.sub_zero])
  rintro ⟨k, hk⟩
  simp only [q0, q1, q2, q3, q4, q5, q6, q7, q8, q9, zq0, zq1, zq2, zq3, zq4, guardSlot, quietA, nilC, nilA, quietB, St.ev, St.put, St.after, Nat.reduceAdd, Nat.reduceSub, ofV, ofL, lenA, binA, intBin, fltBin, strBin, cpxBin, unA, convA, convB, convO, pickV, resL, oneA, indexA, indexS, isQuiet, loadA, loadC, storeA, fieldA, partA, sliceA, boundA, buildA, placeA, setAll, appendA, readSl, newEl, AV.cells, AV.solid, AV.one, kill, killM, killL, notInt, Int.reduceToNat, cond_true, cond_false, ↓reduceIte, reduceCtorEq, Nat.reduceLT, Nat.reduceLeDiff, Nat.reduceMul, Nat.reduceEqDiff, exists_eq', putF, implies_true, exists_true_left, tys0, tys1, tys2, und0, und1, und2, md24, Try.ntmps24, Try.results24, f1]
  refine br_intro (fun h => ?_) (fun h => ?_) <;> simp only [q0, q1, q2, q3, q4, q5, q6, q7, q8, q9, zq0, zq1, zq2, zq3, zq4, guardSlot, quietA, nilC, nilA, quietB, St.ev, St.put, St.after, Nat.reduceAdd, Nat.reduceSub, ofV, ofL, lenA, binA, intBin, fltBin, strBin, cpxBin, unA, convA, convB, convO, pickV, resL, oneA, indexA, indexS, isQuiet, loadA, loadC, storeA, fieldA, partA, sliceA, boundA, buildA, placeA, setAll, appendA, readSl, newEl, AV.cells, AV.solid, AV.one, kill, killM, killL, notInt, Int.reduceToNat, cond_true, cond_false, ↓reduceIte, reduceCtorEq, Nat.reduceLT, Nat.reduceLeDiff, Nat.reduceMul, Nat.reduceEqDiff, exists_eq', putF, implies_true, exists_true_left, tys0, tys1, tys2, und0, und1, und2, md24, Try.ntmps24, Try.results24, f1]
  · have hk' : k < fl.length := by have := of_decide_eq_true h; omega
    have hi : fl.length - 1 - k < fl.length := by omega
    have ei : ((fl.length : Int) - 1 - (k : Int)).toNat = fl.length - 1 - k := by omega
    have ef : flow fl k = fl[fl.length - 1 - k] := getD_at fl 0 _ hi
    refine ⟨by omega, by omega, ⟨k + 1, by omega⟩, by show fl.length - (k + 1) < fl.length - k; omega, ?_⟩
    have w1 : IntKind.i64.wrap ((fl.length : Int) - 1 - (k : Int) - 1) = (fl.length : Int) - 1 - ((k + 1 : Nat) : Int) := by rw [w64 (by omega) (by omega)]; omega
    have ew : wF fl r (k + 1) = fadd .f32 (canon .f32 (FloatKind.nearest .f32 fl[fl.length - 1 - k])) (fdiv .f32 (wF fl r k) (fadd .f32 1065353216 r)) := by rw [← ef]; rfl
    simp only [ei, w1, ← ew]
    exact weak_drop (by simp) (by simp [DropHp, ints_below, flts_below]) (by simp [DropTm, DropV, below, belowM, belowL])
  · have hk' : k = fl.length := by have := of_decide_eq_false h; omega
    subst hk'
    exact PostR.pure ⟨rfl, rfl⟩ rfl
theorem flw_many {fl : List Int} (F : Flw fl) : hasC fl 2 60 (-1000000000) 1000000000 = true := by
  have h2 := F.two
  have h7 := F.sev
  refine hasC_of (by omega) (by omega) fun x hx => ?_
  obtain ⟨j, hj, rfl⟩ := List.mem_iff_getElem.1 hx
  have h := flow_small F (fl.length - 1 - j) (by omega)
  have e : flow fl (fl.length - 1 - j) = fl[j] := by
    unfold flow
    rw [show fl.length - 1 - (fl.length - 1 - j) = j by omega, getD_at fl 0 j hj]
  rw [e] at h
  omega
theorem value_call {fl : List Int} (F : Flw fl) {r : Nat} (Y : Yld r) : CallA Try.prog 10 [.ro (ints fl), .flt .f32 r] [] (Ret (.tup [.flt .f32 (worF fl r), .bool true]) []) := by
  have h7 := F.sev
  have wf := (wor_near F Y).1
  have ch : canon .f32 3204448256 = 3204448256 := by decide +kernel
  have g1 : fge .f32 r 3204448256 = true := by
    have h := fge_val Y.fin mh_ok.1
    rw [mh_ok.2] at h
    exact h.trans (decide_eq_true Y.lo)
  have g2 : fle .f32 r 1065353216 = true := by
    have h := fle_val Y.fin fin_one32
    rw [one32_val] at h
    exact h.trans (decide_eq_true Y.up)
  refine CallP.out (t := .mk) (go_in (md := md10) mixed Try.func10 rfl go10 (by kernel_rfl) ?_)
  simp only [q0, q1, q2, q3, q4, q5, q6, q7, q8, q9, zq0, zq1, zq2, zq3, zq4, guardSlot, quietA, nilC, nilA, quietB, St.ev, St.put, St.after, Nat.reduceAdd, Nat.reduceSub, ofV, ofL, lenA, binA, intBin, fltBin, strBin, cpxBin, unA, convA, convB, convO, pickV, resL, oneA, indexA, indexS, isQuiet, loadA, loadC, storeA, fieldA, partA, sliceA, boundA, buildA, placeA, setAll, appendA, readSl, newEl, AV.cells, AV.solid, AV.one, kill, killM, killL, notInt, Int.reduceToNat, cond_true, cond_false, ↓reduceIte, reduceCtorEq, Nat.reduceLT, Nat.reduceLeDiff, Nat.reduceMul, Nat.reduceEqDiff, exists_eq', putF, implies_true, exists_true_left, tys0, tys1, tys2, und0, und1, und2, md10, Try.ntmps10, Try.results10, f0, f1, ch]
  refine call_ret (areFlows_call fl (by omega)) rfl rfl ?_
  rw [flw_many F]
  simp only [q0, q1, q2, q3, q4, q5, q6, q7, q8, q9, zq0, zq1, zq2, zq3, zq4, guardSlot, quietA, nilC, nilA, quietB, St.ev, St.put, St.after, Nat.reduceAdd, Nat.reduceSub, ofV, ofL, lenA, binA, intBin, fltBin, strBin, cpxBin, unA, convA, convB, convO, pickV, resL, oneA, indexA, indexS, isQuiet, loadA, loadC, storeA, fieldA, partA, sliceA, boundA, buildA, placeA, setAll, appendA, readSl, newEl, AV.cells, AV.solid, AV.one, kill, killM, killL, notInt, Int.reduceToNat, cond_true, cond_false, ↓reduceIte, reduceCtorEq, Nat.reduceLT, Nat.reduceLeDiff, Nat.reduceMul, Nat.reduceEqDiff, exists_eq', putF, implies_true, exists_true_left, tys0, tys1, tys2, und0, und1, und2, md10, Try.ntmps10, Try.results10, f0, f1, ch, g1, g2]
  refine call_ret (worth_call fl r (by omega)) rfl rfl ?_
  simp only [q0, q1, q2, q3, q4, q5, q6, q7, q8, q9, zq0, zq1, zq2, zq3, zq4, guardSlot, quietA, nilC, nilA, quietB, St.ev, St.put, St.after, Nat.reduceAdd, Nat.reduceSub, ofV, ofL, lenA, binA, intBin, fltBin, strBin, cpxBin, unA, convA, convB, convO, pickV, resL, oneA, indexA, indexS, isQuiet, loadA, loadC, storeA, fieldA, partA, sliceA, boundA, buildA, placeA, setAll, appendA, readSl, newEl, AV.cells, AV.solid, AV.one, kill, killM, killL, notInt, Int.reduceToNat, cond_true, cond_false, ↓reduceIte, reduceCtorEq, Nat.reduceLT, Nat.reduceLeDiff, Nat.reduceMul, Nat.reduceEqDiff, exists_eq', putF, implies_true, exists_true_left, tys0, tys1, tys2, und0, und1, und2, md10, Try.ntmps10, Try.results10, f0, f1, ch, g1, g2]
  refine call_ret (finite_call (worF fl r)) rfl rfl ?_
  rw [wf]
  simp only [q0, q1, q2, q3, q4, q5, q6, q7, q8, q9, zq0, zq1, zq2, zq3, zq4, guardSlot, quietA, nilC, nilA, quietB, St.ev, St.put, St.after, Nat.reduceAdd, Nat.reduceSub, ofV, ofL, lenA, binA, intBin, fltBin, strBin, cpxBin, unA, convA, convB, convO, pickV, resL, oneA, indexA, indexS, isQuiet, loadA, loadC, storeA, fieldA, partA, sliceA, boundA, buildA, placeA, setAll, appendA, readSl, newEl, AV.cells, AV.solid, AV.one, kill, killM, killL, notInt, Int.reduceToNat, cond_true, cond_false, ↓reduceIte, reduceCtorEq, Nat.reduceLT, Nat.reduceLeDiff, Nat.reduceMul, Nat.reduceEqDiff, exists_eq', putF, implies_true, exists_true_left, tys0, tys1, tys2, und0, und1, und2, md10, Try.ntmps10, Try.results10, f0, f1, ch, g1, g2]
  exact PostR.pure ⟨rfl, rfl⟩ rfl
def seekB (fl : List Int) : Bool := !(flt .f32 (worF fl mh32) 0 == flt .f32 (worF fl one32) 0)
def stpB (fl : List Int) (p : Nat × Nat) : Nat × Nat := if flt .f32 (worF fl (mid p.1 p.2)) 0 then (mid p.1 p.2, p.2) else (p.1, mid p.1 p.2)
def bisF (fl : List Int) : Nat → Nat × Nat
  | 0 => (one32, mh32)
  | k + 1 => stpB fl (bisF fl k)
theorem bisF_ok {fl : List Int} (F : Flw fl) (hn : flt .f32 (worF fl one32) 0 = true) (hp : flt .f32 (worF fl mh32) 0 = false) : ∀ k, Bis fl k (bisF fl k).1 (bisF fl k).2
  | 0 => by
    have hh := half
    have e : p2 (-((0 : Nat) : Int)) = 1 := rfl
    have et : 0 ≤ eta := by
      have := p2_pos (-24)
      have := p2_pos (-140)
      show 0 ≤ p2 (-24) + p2 (-140)
      grind
    have v1 : fval .f32 one32 = 1 := one32_val
    have v2 := mh_ok.2
    refine ⟨yld_one, yld_mh, ?_, ?_, hn, hp⟩
    · show fval .f32 mh32 ≤ fval .f32 one32
      rw [v1, v2]; clear F; grind
    · show fval .f32 one32 - fval .f32 mh32 ≤ _
      rw [v1, v2, e]; clear F; grind
  | k + 1 => by
    have ih := bisF_ok F hn hp k
    obtain ⟨s1, s2⟩ := bis_step F ih
    show Bis fl (k + 1) (stpB fl (bisF fl k)).1 (stpB fl (bisF fl k)).2
    unfold stpB
    by_cases c : flt .f32 (worF fl (mid (bisF fl k).1 (bisF fl k).2)) 0 = true
    · rw [if_pos c]
      exact s1 c
    · rw [if_neg c]
      exact s2 (by simpa using c)
theorem inner_call {fl : List Int} (F : Flw fl) : ∃ c : Nat, CallA Try.prog 11 [.ro (ints fl), .int .i64 24] [] (Ret (.tup [.flt .f32 c, .bool (seekB fl)]) []) ∧ (seekB fl = true → Yld c ∧ ab (fval .f32 (worF fl c)) ≤ p2 (-5)) := by
  have h7 := F.sev
  have ch : canon .f32 3204448256 = 3204448256 := by decide +kernel
  have c2 : canon .f32 1073741824 = 1073741824 := by decide +kernel
  by_cases c : flt .f32 (worF fl mh32) 0 = flt .f32 (worF fl one32) 0
  · refine ⟨0, ?_, fun h => ?_⟩
    · have sb : seekB fl = false := by unfold seekB; rw [c]; simp
      rw [sb]
      refine CallP.out (t := .mk) (go_in (md := md11) mixed Try.func11 rfl go11 (by kernel_rfl) ?_)
      simp only [q0, q1, q2, q3, q4, q5, q6, q7, q8, q9, zq0, zq1, zq2, zq3, zq4, guardSlot, quietA, nilC, nilA, quietB, St.ev, St.put, St.after, Nat.reduceAdd, Nat.reduceSub, ofV, ofL, lenA, binA, intBin, fltBin, strBin, cpxBin, unA, convA, convB, convO, pickV, resL, oneA, indexA, indexS, isQuiet, loadA, loadC, storeA, fieldA, partA, sliceA, boundA, buildA, placeA, setAll, appendA, readSl, newEl, AV.cells, AV.solid, AV.one, kill, killM, killL, notInt, Int.reduceToNat, cond_true, cond_false, ↓reduceIte, reduceCtorEq, Nat.reduceLT, Nat.reduceLeDiff, Nat.reduceMul, Nat.reduceEqDiff, exists_eq', putF, implies_true, exists_true_left, tys0, tys1, tys2, und0, und1, und2, md11, Try.ntmps11, Try.results11, f0, f1, ch]
      refine call_ret (areFlows_call fl (by omega)) rfl rfl ?_
      rw [flw_many F]
      simp only [q0, q1, q2, q3, q4, q5, q6, q7, q8, q9, zq0, zq1, zq2, zq3, zq4, guardSlot, quietA, nilC, nilA, quietB, St.ev, St.put, St.after, Nat.reduceAdd, Nat.reduceSub, ofV, ofL, lenA, binA, intBin, fltBin, strBin, cpxBin, unA, convA, convB, convO, pickV, resL, oneA, indexA, indexS, isQuiet, loadA, loadC, storeA, fieldA, partA, sliceA, boundA, buildA, placeA, setAll, appendA, readSl, newEl, AV.cells, AV.solid, AV.one, kill, killM, killL, notInt, Int.reduceToNat, cond_true, cond_false, ↓reduceIte, reduceCtorEq, Nat.reduceLT, Nat.reduceLeDiff, Nat.reduceMul, Nat.reduceEqDiff, exists_eq', putF, implies_true, exists_true_left, tys0, tys1, tys2, und0, und1, und2, md11, Try.ntmps11, Try.results11, f0, f1, ch]
      refine call_ret (within_call _ _ _) rfl rfl ?_
      rw [inR_yes (by omega) (by omega)]
      simp only [q0, q1, q2, q3, q4, q5, q6, q7, q8, q9, zq0, zq1, zq2, zq3, zq4, guardSlot, quietA, nilC, nilA, quietB, St.ev, St.put, St.after, Nat.reduceAdd, Nat.reduceSub, ofV, ofL, lenA, binA, intBin, fltBin, strBin, cpxBin, unA, convA, convB, convO, pickV, resL, oneA, indexA, indexS, isQuiet, loadA, loadC, storeA, fieldA, partA, sliceA, boundA, buildA, placeA, setAll, appendA, readSl, newEl, AV.cells, AV.solid, AV.one, kill, killM, killL, notInt, Int.reduceToNat, cond_true, cond_false, ↓reduceIte, reduceCtorEq, Nat.reduceLT, Nat.reduceLeDiff, Nat.reduceMul, Nat.reduceEqDiff, exists_eq', putF, implies_true, exists_true_left, tys0, tys1, tys2, und0, und1, und2, md11, Try.ntmps11, Try.results11, f0, f1, ch]
      refine call_ret (worth_call fl _ (by omega)) rfl rfl ?_
      simp only [q0, q1, q2, q3, q4, q5, q6, q7, q8, q9, zq0, zq1, zq2, zq3, zq4, guardSlot, quietA, nilC, nilA, quietB, St.ev, St.put, St.after, Nat.reduceAdd, Nat.reduceSub, ofV, ofL, lenA, binA, intBin, fltBin, strBin, cpxBin, unA, convA, convB, convO, pickV, resL, oneA, indexA, indexS, isQuiet, loadA, loadC, storeA, fieldA, partA, sliceA, boundA, buildA, placeA, setAll, appendA, readSl, newEl, AV.cells, AV.solid, AV.one, kill, killM, killL, notInt, Int.reduceToNat, cond_true, cond_false, ↓reduceIte, reduceCtorEq, Nat.reduceLT, Nat.reduceLeDiff, Nat.reduceMul, Nat.reduceEqDiff, exists_eq', putF, implies_true, exists_true_left, tys0, tys1, tys2, und0, und1, und2, md11, Try.ntmps11, Try.results11, f0, f1, ch]
      refine call_ret (worth_call fl _ (by omega)) rfl rfl ?_
      simp only [q0, q1, q2, q3, q4, q5, q6, q7, q8, q9, zq0, zq1, zq2, zq3, zq4, guardSlot, quietA, nilC, nilA, quietB, St.ev, St.put, St.after, Nat.reduceAdd, Nat.reduceSub, ofV, ofL, lenA, binA, intBin, fltBin, strBin, cpxBin, unA, convA, convB, convO, pickV, resL, oneA, indexA, indexS, isQuiet, loadA, loadC, storeA, fieldA, partA, sliceA, boundA, buildA, placeA, setAll, appendA, readSl, newEl, AV.cells, AV.solid, AV.one, kill, killM, killL, notInt, Int.reduceToNat, cond_true, cond_false, ↓reduceIte, reduceCtorEq, Nat.reduceLT, Nat.reduceLeDiff, Nat.reduceMul, Nat.reduceEqDiff, exists_eq', putF, implies_true, exists_true_left, tys0, tys1, tys2, und0, und1, und2, md11, Try.ntmps11, Try.results11, f0, f1, ch]
      refine br_yes (by rw [show flt .f32 (worF fl 3204448256) 0 = flt .f32 (worF fl 1065353216) 0 from c]; simp) ?_
      simp only [q0, q1, q2, q3, q4, q5, q6, q7, q8, q9, zq0, zq1, zq2, zq3, zq4, guardSlot, quietA, nilC, nilA, quietB, St.ev, St.put, St.after, Nat.reduceAdd, Nat.reduceSub, ofV, ofL, lenA, binA, intBin, fltBin, strBin, cpxBin, unA, convA, convB, convO, pickV, resL, oneA, indexA, indexS, isQuiet, loadA, loadC, storeA, fieldA, partA, sliceA, boundA, buildA, placeA, setAll, appendA, readSl, newEl, AV.cells, AV.solid, AV.one, kill, killM, killL, notInt, Int.reduceToNat, cond_true, cond_false, ↓reduceIte, reduceCtorEq, Nat.reduceLT, Nat.reduceLeDiff, Nat.reduceMul, Nat.reduceEqDiff, exists_eq', putF, implies_true, exists_true_left, tys0, tys1, tys2, und0, und1, und2, md11, Try.ntmps11, Try.results11, f0, f1, ch]
      exact PostR.pure ⟨rfl, rfl⟩ rfl
    · unfold seekB at h
      rw [c] at h
      simp at h
  · have hp : flt .f32 (worF fl mh32) 0 = false := by
      cases hh : flt .f32 (worF fl mh32) 0 with
      | false => rfl
      | true => exact absurd (by rw [hh, fall F hh]) c
    have hn : flt .f32 (worF fl one32) 0 = true := by
      cases hh : flt .f32 (worF fl one32) 0 with
      | true => rfl
      | false => exact absurd (by rw [hp, hh]) c
    have sb : seekB fl = true := by unfold seekB; rw [hp, hn]; rfl
    have B := bisF_ok F hn hp
    obtain ⟨Ym, small⟩ := bis_end F (B 24)
    refine ⟨mid (bisF fl 24).1 (bisF fl 24).2, ?_, fun _ => ⟨Ym, small⟩⟩
    rw [sb]
    have hn' : flt .f32 (worF fl 1065353216) 0 = true := hn
    have hp' : flt .f32 (worF fl 3204448256) 0 = false := hp
    refine CallP.out (t := .mk) (go_in (md := md11) mixed Try.func11 rfl go11 (by kernel_rfl) ?_)
    simp only [q0, q1, q2, q3, q4, q5, q6, q7, q8, q9, zq0, zq1, zq2, zq3, zq4, guardSlot, quietA, nilC, nilA, quietB, St.ev, St.put, St.after, Nat.reduceAdd, Nat.reduceSub, ofV, ofL, lenA, binA, intBin, fltBin, strBin, cpxBin, unA, convA, convB, convO, pickV, resL, oneA, indexA, indexS, isQuiet, loadA, loadC, storeA, fieldA, partA, sliceA, boundA, buildA, placeA, setAll, appendA, readSl, newEl, AV.cells, AV.solid, AV.one, kill, killM, killL, notInt, Int.reduceToNat, cond_true, cond_false, ↓reduceIte, reduceCtorEq, Nat.reduceLT, Nat.reduceLeDiff, Nat.reduceMul, Nat.reduceEqDiff, exists_eq', putF, implies_true, exists_true_left, tys0, tys1, tys2, und0, und1, und2, md11, Try.ntmps11, Try.results11, f0, f1, ch]
    refine call_ret (areFlows_call fl (by omega)) rfl rfl ?_
    rw [flw_many F]
    simp only [q0, q1, q2, q3, q4, q5, q6, q7, q8, q9, zq0, zq1, zq2, zq3, zq4, guardSlot, quietA, nilC, nilA, quietB, St.ev, St.put, St.after, Nat.reduceAdd, Nat.reduceSub, ofV, ofL, lenA, binA, intBin, fltBin, strBin, cpxBin, unA, convA, convB, convO, pickV, resL, oneA, indexA, indexS, isQuiet, loadA, loadC, storeA, fieldA, partA, sliceA, boundA, buildA, placeA, setAll, appendA, readSl, newEl, AV.cells, AV.solid, AV.one, kill, killM, killL, notInt, Int.reduceToNat, cond_true, cond_false, ↓reduceIte, reduceCtorEq, Nat.reduceLT, Nat.reduceLeDiff, Nat.reduceMul, Nat.reduceEqDiff, exists_eq', putF, implies_true, exists_true_left, tys0, tys1, tys2, und0, und1, und2, md11, Try.ntmps11, Try.results11, f0, f1, ch]
    refine call_ret (within_call _ _ _) rfl rfl ?_
    rw [inR_yes (by omega) (by omega)]
    simp only [q0, q1, q2, q3, q4, q5, q6, q7, q8, q9, zq0, zq1, zq2, zq3, zq4, guardSlot, quietA, nilC, nilA, quietB, St.ev, St.put, St.after, Nat.reduceAdd, Nat.reduceSub, ofV, ofL, lenA, binA, intBin, fltBin, strBin, cpxBin, unA, convA, convB, convO, pickV, resL, oneA, indexA, indexS, isQuiet, loadA, loadC, storeA, fieldA, partA, sliceA, boundA, buildA, placeA, setAll, appendA, readSl, newEl, AV.cells, AV.solid, AV.one, kill, killM, killL, notInt, Int.reduceToNat, cond_true, cond_false, ↓reduceIte, reduceCtorEq, Nat.reduceLT, Nat.reduceLeDiff, Nat.reduceMul, Nat.reduceEqDiff, exists_eq', putF, implies_true, exists_true_left, tys0, tys1, tys2, und0, und1, und2, md11, Try.ntmps11, Try.results11, f0, f1, ch]
    refine call_ret (worth_call fl _ (by omega)) rfl rfl ?_
    simp only [q0, q1, q2, q3, q4, q5, q6, q7, q8, q9, zq0, zq1, zq2, zq3, zq4, guardSlot, quietA, nilC, nilA, quietB, St.ev, St.put, St.after, Nat.reduceAdd, Nat.reduceSub, ofV, ofL, lenA, binA, intBin, fltBin, strBin, cpxBin, unA, convA, convB, convO, pickV, resL, oneA, indexA, indexS, isQuiet, loadA, loadC, storeA, fieldA, partA, sliceA, boundA, buildA, placeA, setAll, appendA, readSl, newEl, AV.cells, AV.solid, AV.one, kill, killM, killL, notInt, Int.reduceToNat, cond_true, cond_false, ↓reduceIte, reduceCtorEq, Nat.reduceLT, Nat.reduceLeDiff, Nat.reduceMul, Nat.reduceEqDiff, exists_eq', putF, implies_true, exists_true_left, tys0, tys1, tys2, und0, und1, und2, md11, Try.ntmps11, Try.results11, f0, f1, ch]
    refine call_ret (worth_call fl _ (by omega)) rfl rfl ?_
    simp only [q0, q1, q2, q3, q4, q5, q6, q7, q8, q9, zq0, zq1, zq2, zq3, zq4, guardSlot, quietA, nilC, nilA, quietB, St.ev, St.put, St.after, Nat.reduceAdd, Nat.reduceSub, ofV, ofL, lenA, binA, intBin, fltBin, strBin, cpxBin, unA, convA, convB, convO, pickV, resL, oneA, indexA, indexS, isQuiet, loadA, loadC, storeA, fieldA, partA, sliceA, boundA, buildA, placeA, setAll, appendA, readSl, newEl, AV.cells, AV.solid, AV.one, kill, killM, killL, notInt, Int.reduceToNat, cond_true, cond_false, ↓reduceIte, reduceCtorEq, Nat.reduceLT, Nat.reduceLeDiff, Nat.reduceMul, Nat.reduceEqDiff, exists_eq', putF, implies_true, exists_true_left, tys0, tys1, tys2, und0, und1, und2, md11, Try.ntmps11, Try.results11, f0, f1, ch, hn', hp']
    refine br_no (by decide) ?_
    simp only [q0, q1, q2, q3, q4, q5, q6, q7, q8, q9, zq0, zq1, zq2, zq3, zq4, guardSlot, quietA, nilC, nilA, quietB, St.ev, St.put, St.after, Nat.reduceAdd, Nat.reduceSub, ofV, ofL, lenA, binA, intBin, fltBin, strBin, cpxBin, unA, convA, convB, convO, pickV, resL, oneA, indexA, indexS, isQuiet, loadA, loadC, storeA, fieldA, partA, sliceA, boundA, buildA, placeA, setAll, appendA, readSl, newEl, AV.cells, AV.solid, AV.one, kill, killM, killL, notInt, Int.reduceToNat, cond_true, cond_false, ↓reduceIte, reduceCtorEq, Nat.reduceLT, Nat.reduceLeDiff, Nat.reduceMul, Nat.reduceEqDiff, exists_eq', putF, implies_true, exists_true_left, tys0, tys1, tys2, und0, und1, und2, md11, Try.ntmps11, Try.results11, f0, f1, ch, hn', hp']
    refine call_ret (worth_call fl _ (by omega)) rfl rfl ?_
    simp only [q0, q1, q2, q3, q4, q5, q6, q7, q8, q9, zq0, zq1, zq2, zq3, zq4, guardSlot, quietA, nilC, nilA, quietB, St.ev, St.put, St.after, Nat.reduceAdd, Nat.reduceSub, ofV, ofL, lenA, binA, intBin, fltBin, strBin, cpxBin, unA, convA, convB, convO, pickV, resL, oneA, indexA, indexS, isQuiet, loadA, loadC, storeA, fieldA, partA, sliceA, boundA, buildA, placeA, setAll, appendA, readSl, newEl, AV.cells, AV.solid, AV.one, kill, killM, killL, notInt, Int.reduceToNat, cond_true, cond_false, ↓reduceIte, reduceCtorEq, Nat.reduceLT, Nat.reduceLeDiff, Nat.reduceMul, Nat.reduceEqDiff, exists_eq', putF, implies_true, exists_true_left, tys0, tys1, tys2, und0, und1, und2, md11, Try.ntmps11, Try.results11, f0, f1, ch, hn', hp']
    refine go_round (md := md11) mixed (by kernel_rfl) (fun k : {k : Nat // k ≤ 24} => ⟨[.ro (ints fl), .any, .any, .any, .any, .any, .flt .f32 (bisF fl k.1).1, .flt .f32 (bisF fl k.1).2, .any, .any, .any, .any, .any, .any, .any, .any, .any, .any, .any, .any, .any, .any, .any, .any, .any, .any, .any, .any, .any, .any, .any, .any, .int .i64 24, .int .i64 (k.1 : Int), .any, .any, .any, .any, .any, .any, .any, .any, .any, .any, .any, .any, .any, .any, .any, .any, .any, .any, .any], []⟩) (fun k => 24 - k.1) ⟨0, by omega⟩ ?_ ?_
    · have e : bisF fl 0 = (1065353216, 3204448256) := rfl
      rw [e]
      exact weak_drop (by simp) (by simp [DropHp, ints_below, flts_below]) (by simp [DropTm, DropV, below, belowM, belowL])
    rintro ⟨k, hk⟩
    simp only [q0, q1, q2, q3, q4, q5, q6, q7, q8, q9, zq0, zq1, zq2, zq3, zq4, guardSlot, quietA, nilC, nilA, quietB, St.ev, St.put, St.after, Nat.reduceAdd, Nat.reduceSub, ofV, ofL, lenA, binA, intBin, fltBin, strBin, cpxBin, unA, convA, convB, convO, pickV, resL, oneA, indexA, indexS, isQuiet, loadA, loadC, storeA, fieldA, partA, sliceA, boundA, buildA, placeA, setAll, appendA, readSl, newEl, AV.cells, AV.solid, AV.one, kill, killM, killL, notInt, Int.reduceToNat, cond_true, cond_false, ↓reduceIte, reduceCtorEq, Nat.reduceLT, Nat.reduceLeDiff, Nat.reduceMul, Nat.reduceEqDiff, exists_eq', putF, implies_true, exists_true_left, tys0, tys1, tys2, und0, und1, und2, md11, Try.ntmps11, Try.results11, c2]
    refine br_intro (fun h => ?_) (fun h => ?_) <;> simp only [q0, q1, q2, q3, q4, q5, q6, q7, q8, q9, zq0, zq1, zq2, zq3, zq4, guardSlot, quietA, nilC, nilA, quietB, St.ev, St.put, St.after, Nat.reduceAdd, Nat.reduceSub, ofV, ofL, lenA, binA, intBin, fltBin, strBin, cpxBin, unA, convA, convB, convO, pickV, resL, oneA, indexA, indexS, isQuiet, loadA, loadC, storeA, fieldA, partA, sliceA, boundA, buildA, placeA, setAll, appendA, readSl, newEl, AV.cells, AV.solid, AV.one, kill, killM, killL, notInt, Int.reduceToNat, cond_true, cond_false, ↓reduceIte, reduceCtorEq, Nat.reduceLT, Nat.reduceLeDiff, Nat.reduceMul, Nat.reduceEqDiff, exists_eq', putF, implies_true, exists_true_left, tys0, tys1, tys2, und0, und1, und2, md11, Try.ntmps11, Try.results11, c2]
    · have hk' : k < 24 := by have := of_decide_eq_true h; omega
      have em : fdiv .f32 (fadd .f32 (bisF fl k).1 (bisF fl k).2) 1073741824 = mid (bisF fl k).1 (bisF fl k).2 := rfl
      simp only [em]
      refine call_ret (worth_call fl _ (by omega)) rfl rfl ?_
      simp only [q0, q1, q2, q3, q4, q5, q6, q7, q8, q9, zq0, zq1, zq2, zq3, zq4, guardSlot, quietA, nilC, nilA, quietB, St.ev, St.put, St.after, Nat.reduceAdd, Nat.reduceSub, ofV, ofL, lenA, binA, intBin, fltBin, strBin, cpxBin, unA, convA, convB, convO, pickV, resL, oneA, indexA, indexS, isQuiet, loadA, loadC, storeA, fieldA, partA, sliceA, boundA, buildA, placeA, setAll, appendA, readSl, newEl, AV.cells, AV.solid, AV.one, kill, killM, killL, notInt, Int.reduceToNat, cond_true, cond_false, ↓reduceIte, reduceCtorEq, Nat.reduceLT, Nat.reduceLeDiff, Nat.reduceMul, Nat.reduceEqDiff, exists_eq', putF, implies_true, exists_true_left, tys0, tys1, tys2, und0, und1, und2, md11, Try.ntmps11, Try.results11, c2, f0, em]
      have es : bisF fl (k + 1) = stpB fl (bisF fl k) := rfl
      refine br_intro (fun g => ?_) (fun g => ?_) <;> simp only [q0, q1, q2, q3, q4, q5, q6, q7, q8, q9, zq0, zq1, zq2, zq3, zq4, guardSlot, quietA, nilC, nilA, quietB, St.ev, St.put, St.after, Nat.reduceAdd, Nat.reduceSub, ofV, ofL, lenA, binA, intBin, fltBin, strBin, cpxBin, unA, convA, convB, convO, pickV, resL, oneA, indexA, indexS, isQuiet, loadA, loadC, storeA, fieldA, partA, sliceA, boundA, buildA, placeA, setAll, appendA, readSl, newEl, AV.cells, AV.solid, AV.one, kill, killM, killL, notInt, Int.reduceToNat, cond_true, cond_false, ↓reduceIte, reduceCtorEq, Nat.reduceLT, Nat.reduceLeDiff, Nat.reduceMul, Nat.reduceEqDiff, exists_eq', putF, implies_true, exists_true_left, tys0, tys1, tys2, und0, und1, und2, md11, Try.ntmps11, Try.results11, c2, f0, em]
      · refine ⟨⟨k + 1, by omega⟩, by show 24 - (k + 1) < 24 - k; omega, ?_⟩
        have e2 : bisF fl (k + 1) = (mid (bisF fl k).1 (bisF fl k).2, (bisF fl k).2) := by rw [es, stpB, if_pos g]
        exact weak_drop (by simp) (by simp [DropHp, ints_below, flts_below, e2, w64_succ k (by omega)]) (by simp [DropTm, DropV, below, belowM, belowL, e2, w64_succ k (by omega)])
      · refine ⟨⟨k + 1, by omega⟩, by show 24 - (k + 1) < 24 - k; omega, ?_⟩
        have e2 : bisF fl (k + 1) = ((bisF fl k).1, mid (bisF fl k).1 (bisF fl k).2) := by rw [es, stpB, if_neg (by rw [g]; decide)]
        exact weak_drop (by simp) (by simp [DropHp, ints_below, flts_below, e2, w64_succ k (by omega)]) (by simp [DropTm, DropV, below, belowM, belowL, e2, w64_succ k (by omega)])
    · have hk' : k = 24 := by have := of_decide_eq_false h; omega
      subst hk'
      have em : fdiv .f32 (fadd .f32 (bisF fl 24).1 (bisF fl 24).2) 1073741824 = mid (bisF fl 24).1 (bisF fl 24).2 := rfl
      simp only [em]
      refine call_ret (finite_call _) rfl rfl ?_
      rw [Ym.fin]
      simp only [q0, q1, q2, q3, q4, q5, q6, q7, q8, q9, zq0, zq1, zq2, zq3, zq4, guardSlot, quietA, nilC, nilA, quietB, St.ev, St.put, St.after, Nat.reduceAdd, Nat.reduceSub, ofV, ofL, lenA, binA, intBin, fltBin, strBin, cpxBin, unA, convA, convB, convO, pickV, resL, oneA, indexA, indexS, isQuiet, loadA, loadC, storeA, fieldA, partA, sliceA, boundA, buildA, placeA, setAll, appendA, readSl, newEl, AV.cells, AV.solid, AV.one, kill, killM, killL, notInt, Int.reduceToNat, cond_true, cond_false, ↓reduceIte, reduceCtorEq, Nat.reduceLT, Nat.reduceLeDiff, Nat.reduceMul, Nat.reduceEqDiff, exists_eq', putF, implies_true, exists_true_left, tys0, tys1, tys2, und0, und1, und2, md11, Try.ntmps11, Try.results11, c2]
      exact PostR.pure ⟨rfl, rfl⟩ rfl
end Go.Proofs.Ythildgdbgjgidaa
