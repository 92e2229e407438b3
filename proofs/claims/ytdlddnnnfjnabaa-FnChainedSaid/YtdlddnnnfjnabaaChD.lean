/- Prices with dues on dues, nets, lines and rates: what the program's parts compute. -/
import Derived.Test.YtdlddnnnfjnabaaChC
set_option maxRecDepth 10000
set_option maxHeartbeats 8000000
set_option linter.unusedSimpArgs false
set_option linter.unusedVariables false
namespace Go.Proofs.Ytdlddnnnfjnabaa
open Go Go.Abs

def casP (r w : Int) (xs : List Int) : Nat → Int
  | 0 => 0
  | i + 1 => casP r w xs i + xs.getD i 0 + ownF r w (casP r w xs i + xs.getD i 0)
theorem cas_bound {r w : Int} {xs : List Int} (hx : Sml 2000 xs) (r0 : 0 ≤ r) (r1 : r ≤ 10000) : ∀ i, i ≤ xs.length → 0 ≤ casP r w xs i ∧ casP r w xs i ≤ 5000 * 2 ^ i - 5000 ∧ sumI (xs.take i) ≤ casP r w xs i
  | 0, _ => by simp [casP, sumI]
  | i + 1, hi => by
    obtain ⟨h1, h2, h3⟩ := cas_bound (w := w) hx r0 r1 i (by omega)
    have hb := hx.at_ (show i < xs.length by omega)
    have ho := own_bound (w := w) (x := casP r w xs i + xs.getD i 0) r0 r1 (by omega)
    have hs := sumI_take xs i (by omega)
    rw [← getD_at xs 0 i (by omega)] at hs
    simp only [casP, Int.pow_succ, hs]
    omega
theorem cas_top {r w : Int} {xs : List Int} (hx : Sml 2000 xs) (r0 : 0 ≤ r) (r1 : r ≤ 10000) (hl : xs.length ≤ 10) (i : Nat) (hi : i ≤ xs.length) : 0 ≤ casP r w xs i ∧ casP r w xs i ≤ 5120000 ∧ sumI (xs.take i) ≤ casP r w xs i := by
  obtain ⟨h1, h2, h3⟩ := cas_bound (w := w) hx r0 r1 i hi
  have h4 : ∀ i, i < 11 → (2 : Int) ^ i ≤ 1024 := by decide
  have h5 := h4 i (by omega)
  omega
theorem cascade_call (xs : List Int) (hx : Sml 2000 xs) (h1 : 1 ≤ xs.length) (hl : xs.length ≤ 10) (r w : Int) (r0 : 0 ≤ r) (r1 : r ≤ 10000) (w0 : 0 ≤ w) (w3 : w ≤ 3) :
    CallA Try.prog 11 [.ro (ints xs), .int .i64 r, .int .i64 w] [] (Ret (.tup [.sl 0 0 xs.length, .bool true]) [intB (rngL (fun i => casP r w xs (i + 1)) xs.length)]) := by
  refine CallP.out (t := .mk) (go_in (md := md11) mixed Try.func11 rfl go11 (by kernel_rfl) ?_)
  simp only [q0, q1, q2, q3, q4, q5, q6, q7, q8, q9, zq0, zq1, zq2, zq3, zq4, guardSlot, quietA, nilC, nilA, quietB, St.ev, St.put, St.after, Nat.reduceAdd, Nat.reduceSub, ofV, ofL, lenA, binA, intBin, fltBin, strBin, cpxBin, unA, convA, convB, convO, pickV, resL, oneA, indexA, indexS, isQuiet, loadA, loadC, storeA, fieldA, partA, sliceA, boundA, buildA, placeA, setAll, appendA, readSl, newEl, AV.cells, AV.solid, AV.one, kill, killM, killL, notInt, Int.reduceToNat, cond_true, cond_false, ↓reduceIte, reduceCtorEq, Nat.reduceLT, Nat.reduceLeDiff, Nat.reduceMul, Nat.reduceEqDiff, exists_eq', putF, implies_true, exists_true_left, tys0, tys1, tys2, tys3, tys4, und0, und1, und2, und3, md11, Try.ntmps11, Try.results11]
  refine call_ret (hasCount_call xs _ _ _ _ (by omega)) rfl rfl ?_
  rw [hasC_yes hx h1 (by omega) (by omega)]
  simp only [q0, q1, q2, q3, q4, q5, q6, q7, q8, q9, zq0, zq1, zq2, zq3, zq4, guardSlot, quietA, nilC, nilA, quietB, St.ev, St.put, St.after, Nat.reduceAdd, Nat.reduceSub, ofV, ofL, lenA, binA, intBin, fltBin, strBin, cpxBin, unA, convA, convB, convO, pickV, resL, oneA, indexA, indexS, isQuiet, loadA, loadC, storeA, fieldA, partA, sliceA, boundA, buildA, placeA, setAll, appendA, readSl, newEl, AV.cells, AV.solid, AV.one, kill, killM, killL, notInt, Int.reduceToNat, cond_true, cond_false, ↓reduceIte, reduceCtorEq, Nat.reduceLT, Nat.reduceLeDiff, Nat.reduceMul, Nat.reduceEqDiff, exists_eq', putF, implies_true, exists_true_left, tys0, tys1, tys2, tys3, tys4, und0, und1, und2, und3, md11, Try.ntmps11, Try.results11]
  refine call_ret (isRated_call r w r0 r1 w0 w3) rfl rfl ?_
  simp only [q0, q1, q2, q3, q4, q5, q6, q7, q8, q9, zq0, zq1, zq2, zq3, zq4, guardSlot, quietA, nilC, nilA, quietB, St.ev, St.put, St.after, Nat.reduceAdd, Nat.reduceSub, ofV, ofL, lenA, binA, intBin, fltBin, strBin, cpxBin, unA, convA, convB, convO, pickV, resL, oneA, indexA, indexS, isQuiet, loadA, loadC, storeA, fieldA, partA, sliceA, boundA, buildA, placeA, setAll, appendA, readSl, newEl, AV.cells, AV.solid, AV.one, kill, killM, killL, notInt, Int.reduceToNat, cond_true, cond_false, ↓reduceIte, reduceCtorEq, Nat.reduceLT, Nat.reduceLeDiff, Nat.reduceMul, Nat.reduceEqDiff, exists_eq', putF, implies_true, exists_true_left, tys0, tys1, tys2, tys3, tys4, und0, und1, und2, und3, md11, Try.ntmps11, Try.results11]
  refine go_round (md := md11) mixed (by kernel_rfl) (fun i : {i : Nat // i ≤ xs.length} => ⟨[.any, .int .i64 r, .int .i64 w, .any, .any, .any, .any, .any, .sl 0 0 i.1, .int .i64 (casP r w xs i.1), .any, .any, .any, .any, .any, .any, .any, .any, .any, .any, .any, .any, .ro (ints xs), .int .i64 xs.length, .int .i64 i.1, .any, .any, .any, .any, .any, .any, .any, .any, .any, .any, .any, .any, .any, .any, .any, .any, .any, .any, .any, .any, .any, .any, .any, .any], [intB (rngL (fun i => casP r w xs (i + 1)) i.1)]⟩) (fun i => xs.length - i.1) ⟨0, by simp⟩ ?_ ?_
  · exact weak_drop (by simp) (by simp [DropHp, ints_below, flts_below, intB, ints, rngL, casP, allBelow_cons, allBelow_nil, below, belowM, belowL]) (by simp [DropTm, DropV, below, belowM, belowL, intB, ints, rngL, casP, allBelow_cons, allBelow_nil, below, belowM, belowL])
  · intro ⟨i, hi⟩
    have rl := rngL_len (fun i => casP r w xs (i + 1)) i
    simp only [q0, q1, q2, q3, q4, q5, q6, q7, q8, q9, zq0, zq1, zq2, zq3, zq4, guardSlot, quietA, nilC, nilA, quietB, St.ev, St.put, St.after, Nat.reduceAdd, Nat.reduceSub, ofV, ofL, lenA, binA, intBin, fltBin, strBin, cpxBin, unA, convA, convB, convO, pickV, resL, oneA, indexA, indexS, isQuiet, loadA, loadC, storeA, fieldA, partA, sliceA, boundA, buildA, placeA, setAll, appendA, readSl, newEl, AV.cells, AV.solid, AV.one, kill, killM, killL, notInt, Int.reduceToNat, cond_true, cond_false, ↓reduceIte, reduceCtorEq, Nat.reduceLT, Nat.reduceLeDiff, Nat.reduceMul, Nat.reduceEqDiff, exists_eq', putF, implies_true, exists_true_left, tys0, tys1, tys2, tys3, tys4, und0, und1, und2, und3, md11, Try.ntmps11, Try.results11, intB, ints_len, rl]
    refine br_intro (fun h => ?_) (fun h => ?_) <;> simp only [q0, q1, q2, q3, q4, q5, q6, q7, q8, q9, zq0, zq1, zq2, zq3, zq4, guardSlot, quietA, nilC, nilA, quietB, St.ev, St.put, St.after, Nat.reduceAdd, Nat.reduceSub, ofV, ofL, lenA, binA, intBin, fltBin, strBin, cpxBin, unA, convA, convB, convO, pickV, resL, oneA, indexA, indexS, isQuiet, loadA, loadC, storeA, fieldA, partA, sliceA, boundA, buildA, placeA, setAll, appendA, readSl, newEl, AV.cells, AV.solid, AV.one, kill, killM, killL, notInt, Int.reduceToNat, cond_true, cond_false, ↓reduceIte, reduceCtorEq, Nat.reduceLT, Nat.reduceLeDiff, Nat.reduceMul, Nat.reduceEqDiff, exists_eq', putF, implies_true, exists_true_left, tys0, tys1, tys2, tys3, tys4, und0, und1, und2, und3, md11, Try.ntmps11, Try.results11, intB, ints_len, rl]
    · have hi' : i < xs.length := by simpa using h
      have bx := hx.at_ hi'
      have ct := cas_top (w := w) hx r0 r1 hl i (by omega)
      have cu := cas_top (w := w) hx r0 r1 hl (i + 1) (by omega)
      rw [casP, ownF, getD_at xs 0 i hi'] at cu
      rw [getD_at xs 0 i hi'] at bx
      have bo := own_bound (w := w) (x := casP r w xs i + xs[i]) r0 r1 (by omega)
      have e1 : IntKind.i64.wrap (casP r w xs i + xs[i]) = casP r w xs i + xs[i] := w64 (by omega) (by omega)
      have e2 : IntKind.i64.wrap (casP r w xs i + xs[i] + rnd ((casP r w xs i + xs[i]) * r) 10000 w) = casP r w xs (i + 1) := by
        rw [w64 (by omega) (by omega), casP, ownF, getD_at xs 0 i hi']
      refine ⟨hi', ?_⟩
      simp only [q0, q1, q2, q3, q4, q5, q6, q7, q8, q9, zq0, zq1, zq2, zq3, zq4, guardSlot, quietA, nilC, nilA, quietB, St.ev, St.put, St.after, Nat.reduceAdd, Nat.reduceSub, ofV, ofL, lenA, binA, intBin, fltBin, strBin, cpxBin, unA, convA, convB, convO, pickV, resL, oneA, indexA, indexS, isQuiet, loadA, loadC, storeA, fieldA, partA, sliceA, boundA, buildA, placeA, setAll, appendA, readSl, newEl, AV.cells, AV.solid, AV.one, kill, killM, killL, notInt, Int.reduceToNat, cond_true, cond_false, ↓reduceIte, reduceCtorEq, Nat.reduceLT, Nat.reduceLeDiff, Nat.reduceMul, Nat.reduceEqDiff, exists_eq', putF, implies_true, exists_true_left, tys0, tys1, tys2, tys3, tys4, und0, und1, und2, und3, md11, Try.ntmps11, Try.results11, intB, ints_len, rl, e1]
      refine call_ret (isAmount_call _) rfl rfl ?_
      rw [inR_yes (by omega) (by omega)]
      simp only [q0, q1, q2, q3, q4, q5, q6, q7, q8, q9, zq0, zq1, zq2, zq3, zq4, guardSlot, quietA, nilC, nilA, quietB, St.ev, St.put, St.after, Nat.reduceAdd, Nat.reduceSub, ofV, ofL, lenA, binA, intBin, fltBin, strBin, cpxBin, unA, convA, convB, convO, pickV, resL, oneA, indexA, indexS, isQuiet, loadA, loadC, storeA, fieldA, partA, sliceA, boundA, buildA, placeA, setAll, appendA, readSl, newEl, AV.cells, AV.solid, AV.one, kill, killM, killL, notInt, Int.reduceToNat, cond_true, cond_false, ↓reduceIte, reduceCtorEq, Nat.reduceLT, Nat.reduceLeDiff, Nat.reduceMul, Nat.reduceEqDiff, exists_eq', putF, implies_true, exists_true_left, tys0, tys1, tys2, tys3, tys4, und0, und1, und2, und3, md11, Try.ntmps11, Try.results11, intB, ints_len, rl, e1]
      refine call_ret (dueBy_call _ r w (by omega) (by omega) r0 r1 w0 w3) rfl rfl ?_
      simp only [q0, q1, q2, q3, q4, q5, q6, q7, q8, q9, zq0, zq1, zq2, zq3, zq4, guardSlot, quietA, nilC, nilA, quietB, St.ev, St.put, St.after, Nat.reduceAdd, Nat.reduceSub, ofV, ofL, lenA, binA, intBin, fltBin, strBin, cpxBin, unA, convA, convB, convO, pickV, resL, oneA, indexA, indexS, isQuiet, loadA, loadC, storeA, fieldA, partA, sliceA, boundA, buildA, placeA, setAll, appendA, readSl, newEl, AV.cells, AV.solid, AV.one, kill, killM, killL, notInt, Int.reduceToNat, cond_true, cond_false, ↓reduceIte, reduceCtorEq, Nat.reduceLT, Nat.reduceLeDiff, Nat.reduceMul, Nat.reduceEqDiff, exists_eq', putF, implies_true, exists_true_left, tys0, tys1, tys2, tys3, tys4, und0, und1, und2, und3, md11, Try.ntmps11, Try.results11, intB, ints_len, rl, e2]
      have cv := cas_top (w := w) hx r0 r1 hl (i + 1) (by omega)
      refine call_ret (isAmount_call _) rfl rfl ?_
      rw [inR_yes (by omega) (by omega)]
      simp only [q0, q1, q2, q3, q4, q5, q6, q7, q8, q9, zq0, zq1, zq2, zq3, zq4, guardSlot, quietA, nilC, nilA, quietB, St.ev, St.put, St.after, Nat.reduceAdd, Nat.reduceSub, ofV, ofL, lenA, binA, intBin, fltBin, strBin, cpxBin, unA, convA, convB, convO, pickV, resL, oneA, indexA, indexS, isQuiet, loadA, loadC, storeA, fieldA, partA, sliceA, boundA, buildA, placeA, setAll, appendA, readSl, newEl, AV.cells, AV.solid, AV.one, kill, killM, killL, notInt, Int.reduceToNat, cond_true, cond_false, ↓reduceIte, reduceCtorEq, Nat.reduceLT, Nat.reduceLeDiff, Nat.reduceMul, Nat.reduceEqDiff, exists_eq', putF, implies_true, exists_true_left, tys0, tys1, tys2, tys3, tys4, und0, und1, und2, und3, md11, Try.ntmps11, Try.results11, intB, ints_len, rl, e2, allW_int, fits, List.isEmpty_cons, brk_false, Nat.reduceMul]
      refine ⟨by omega, ⟨i + 1, by omega⟩, by show xs.length - (i + 1) < xs.length - i; omega, ?_⟩
      rw [rngL_succ (fun i => casP r w xs (i + 1))]
      exact weak_drop (by simp) (by simp [DropHp, ints_below, flts_below, w64_succ i (by omega), intB, allBelow_cons, allBelow_nil, below, belowM, belowL]) (by simp [DropTm, DropV, below, belowM, belowL, w64_succ i (by omega), intB, allBelow_cons, allBelow_nil, below, belowM, belowL])
    · have hi' : i = xs.length := by simp at h; omega
      subst hi'
      exact PostR.ret
theorem netOfPrice_call (p r w : Int) (p0 : 0 ≤ p) (p1 : p ≤ 20000) (r0 : 0 ≤ r) (r1 : r ≤ 10000) (w0 : 0 ≤ w) (w3 : w ≤ 3) :
    CallA Try.prog 12 [.int .i64 p, .int .i64 r, .int .i64 w] [] (Ret (.tup [.int .i64 (rnd (p * 10000) (10000 + r) w), .bool true]) []) := by
  have e1 : IntKind.i64.wrap (p * 10000) = p * 10000 := w64 (by omega) (by omega)
  have e2 : IntKind.i64.wrap (10000 + r) = 10000 + r := w64 (by omega) (by omega)
  refine CallP.out (t := .mk) (go_in (md := md12) mixed Try.func12 rfl go12 (by kernel_rfl) ?_)
  simp only [q0, q1, q2, q3, q4, q5, q6, q7, q8, q9, zq0, zq1, zq2, zq3, zq4, guardSlot, quietA, nilC, nilA, quietB, St.ev, St.put, St.after, Nat.reduceAdd, Nat.reduceSub, ofV, ofL, lenA, binA, intBin, fltBin, strBin, cpxBin, unA, convA, convB, convO, pickV, resL, oneA, indexA, indexS, isQuiet, loadA, loadC, storeA, fieldA, partA, sliceA, boundA, buildA, placeA, setAll, appendA, readSl, newEl, AV.cells, AV.solid, AV.one, kill, killM, killL, notInt, Int.reduceToNat, cond_true, cond_false, ↓reduceIte, reduceCtorEq, Nat.reduceLT, Nat.reduceLeDiff, Nat.reduceMul, Nat.reduceEqDiff, exists_eq', putF, implies_true, exists_true_left, tys0, tys1, tys2, tys3, tys4, und0, und1, und2, und3, md12, Try.ntmps12, Try.results12]
  refine call_ret (isAmount_call _) rfl rfl ?_
  rw [inR_yes (by omega) (by omega)]
  simp only [q0, q1, q2, q3, q4, q5, q6, q7, q8, q9, zq0, zq1, zq2, zq3, zq4, guardSlot, quietA, nilC, nilA, quietB, St.ev, St.put, St.after, Nat.reduceAdd, Nat.reduceSub, ofV, ofL, lenA, binA, intBin, fltBin, strBin, cpxBin, unA, convA, convB, convO, pickV, resL, oneA, indexA, indexS, isQuiet, loadA, loadC, storeA, fieldA, partA, sliceA, boundA, buildA, placeA, setAll, appendA, readSl, newEl, AV.cells, AV.solid, AV.one, kill, killM, killL, notInt, Int.reduceToNat, cond_true, cond_false, ↓reduceIte, reduceCtorEq, Nat.reduceLT, Nat.reduceLeDiff, Nat.reduceMul, Nat.reduceEqDiff, exists_eq', putF, implies_true, exists_true_left, tys0, tys1, tys2, tys3, tys4, und0, und1, und2, und3, md12, Try.ntmps12, Try.results12]
  refine call_ret (isRated_call r w r0 r1 w0 w3) rfl rfl ?_
  simp only [q0, q1, q2, q3, q4, q5, q6, q7, q8, q9, zq0, zq1, zq2, zq3, zq4, guardSlot, quietA, nilC, nilA, quietB, St.ev, St.put, St.after, Nat.reduceAdd, Nat.reduceSub, ofV, ofL, lenA, binA, intBin, fltBin, strBin, cpxBin, unA, convA, convB, convO, pickV, resL, oneA, indexA, indexS, isQuiet, loadA, loadC, storeA, fieldA, partA, sliceA, boundA, buildA, placeA, setAll, appendA, readSl, newEl, AV.cells, AV.solid, AV.one, kill, killM, killL, notInt, Int.reduceToNat, cond_true, cond_false, ↓reduceIte, reduceCtorEq, Nat.reduceLT, Nat.reduceLeDiff, Nat.reduceMul, Nat.reduceEqDiff, exists_eq', putF, implies_true, exists_true_left, tys0, tys1, tys2, tys3, tys4, und0, und1, und2, und3, md12, Try.ntmps12, Try.results12, e1, e2]
  refine call_ret (rounded_call _ _ w (by omega) (by omega) (by omega) (by omega) w0 w3) rfl rfl ?_
  simp only [q0, q1, q2, q3, q4, q5, q6, q7, q8, q9, zq0, zq1, zq2, zq3, zq4, guardSlot, quietA, nilC, nilA, quietB, St.ev, St.put, St.after, Nat.reduceAdd, Nat.reduceSub, ofV, ofL, lenA, binA, intBin, fltBin, strBin, cpxBin, unA, convA, convB, convO, pickV, resL, oneA, indexA, indexS, isQuiet, loadA, loadC, storeA, fieldA, partA, sliceA, boundA, buildA, placeA, setAll, appendA, readSl, newEl, AV.cells, AV.solid, AV.one, kill, killM, killL, notInt, Int.reduceToNat, cond_true, cond_false, ↓reduceIte, reduceCtorEq, Nat.reduceLT, Nat.reduceLeDiff, Nat.reduceMul, Nat.reduceEqDiff, exists_eq', putF, implies_true, exists_true_left, tys0, tys1, tys2, tys3, tys4, und0, und1, und2, und3, md12, Try.ntmps12, Try.results12]
  exact PostR.pure ⟨rfl, rfl⟩ rfl
theorem refundShare_call (xs : List Int) (hx : Sml 2000 xs) (h1 : 1 ≤ xs.length) (hl : xs.length ≤ 10) (a b : Int) (b0 : 1 ≤ b) (b1 : b ≤ 10000) (a0 : 0 ≤ a) (a1 : a ≤ b) :
    CallA Try.prog 16 [.ro (ints xs), .int .i64 a, .int .i64 b] [] (Ret (.tup [.int .i64 (sumI xs * a / b), .bool true]) []) := by
  have s := hx.sumT hl xs.length
  rw [List.take_length] at s
  have m := mul_bounds s.1 s.2 a0 (show a ≤ 10000 by omega)
  have e1 : IntKind.i64.wrap (sumI xs * a) = sumI xs * a := w64 (by omega) (by omega)
  have d0 : 0 ≤ sumI xs * a / b := Int.ediv_nonneg m.1 (by omega)
  have d1 : sumI xs * a / b ≤ 200000000 := by
    have := Int.ediv_le_self b m.1
    omega
  have e2 : (sumI xs * a).tdiv b = sumI xs * a / b := Int.tdiv_eq_ediv_of_nonneg m.1
  refine CallP.out (t := .mk) (go_in (md := md16) mixed Try.func16 rfl go16 (by kernel_rfl) ?_)
  simp only [q0, q1, q2, q3, q4, q5, q6, q7, q8, q9, zq0, zq1, zq2, zq3, zq4, guardSlot, quietA, nilC, nilA, quietB, St.ev, St.put, St.after, Nat.reduceAdd, Nat.reduceSub, ofV, ofL, lenA, binA, intBin, fltBin, strBin, cpxBin, unA, convA, convB, convO, pickV, resL, oneA, indexA, indexS, isQuiet, loadA, loadC, storeA, fieldA, partA, sliceA, boundA, buildA, placeA, setAll, appendA, readSl, newEl, AV.cells, AV.solid, AV.one, kill, killM, killL, notInt, Int.reduceToNat, cond_true, cond_false, ↓reduceIte, reduceCtorEq, Nat.reduceLT, Nat.reduceLeDiff, Nat.reduceMul, Nat.reduceEqDiff, exists_eq', putF, implies_true, exists_true_left, tys0, tys1, tys2, tys3, tys4, und0, und1, und2, und3, md16, Try.ntmps16, Try.results16]
  refine call_ret (hasCount_call xs _ _ _ _ (by omega)) rfl rfl ?_
  rw [hasC_yes hx h1 (by omega) (by omega)]
  simp only [q0, q1, q2, q3, q4, q5, q6, q7, q8, q9, zq0, zq1, zq2, zq3, zq4, guardSlot, quietA, nilC, nilA, quietB, St.ev, St.put, St.after, Nat.reduceAdd, Nat.reduceSub, ofV, ofL, lenA, binA, intBin, fltBin, strBin, cpxBin, unA, convA, convB, convO, pickV, resL, oneA, indexA, indexS, isQuiet, loadA, loadC, storeA, fieldA, partA, sliceA, boundA, buildA, placeA, setAll, appendA, readSl, newEl, AV.cells, AV.solid, AV.one, kill, killM, killL, notInt, Int.reduceToNat, cond_true, cond_false, ↓reduceIte, reduceCtorEq, Nat.reduceLT, Nat.reduceLeDiff, Nat.reduceMul, Nat.reduceEqDiff, exists_eq', putF, implies_true, exists_true_left, tys0, tys1, tys2, tys3, tys4, und0, und1, und2, und3, md16, Try.ntmps16, Try.results16]
  refine call_ret (within_call _ _ _) rfl rfl ?_
  rw [inR_yes b0 b1]
  simp only [q0, q1, q2, q3, q4, q5, q6, q7, q8, q9, zq0, zq1, zq2, zq3, zq4, guardSlot, quietA, nilC, nilA, quietB, St.ev, St.put, St.after, Nat.reduceAdd, Nat.reduceSub, ofV, ofL, lenA, binA, intBin, fltBin, strBin, cpxBin, unA, convA, convB, convO, pickV, resL, oneA, indexA, indexS, isQuiet, loadA, loadC, storeA, fieldA, partA, sliceA, boundA, buildA, placeA, setAll, appendA, readSl, newEl, AV.cells, AV.solid, AV.one, kill, killM, killL, notInt, Int.reduceToNat, cond_true, cond_false, ↓reduceIte, reduceCtorEq, Nat.reduceLT, Nat.reduceLeDiff, Nat.reduceMul, Nat.reduceEqDiff, exists_eq', putF, implies_true, exists_true_left, tys0, tys1, tys2, tys3, tys4, und0, und1, und2, und3, md16, Try.ntmps16, Try.results16]
  refine call_ret (within_call _ _ _) rfl rfl ?_
  rw [inR_yes a0 a1]
  simp only [q0, q1, q2, q3, q4, q5, q6, q7, q8, q9, zq0, zq1, zq2, zq3, zq4, guardSlot, quietA, nilC, nilA, quietB, St.ev, St.put, St.after, Nat.reduceAdd, Nat.reduceSub, ofV, ofL, lenA, binA, intBin, fltBin, strBin, cpxBin, unA, convA, convB, convO, pickV, resL, oneA, indexA, indexS, isQuiet, loadA, loadC, storeA, fieldA, partA, sliceA, boundA, buildA, placeA, setAll, appendA, readSl, newEl, AV.cells, AV.solid, AV.one, kill, killM, killL, notInt, Int.reduceToNat, cond_true, cond_false, ↓reduceIte, reduceCtorEq, Nat.reduceLT, Nat.reduceLeDiff, Nat.reduceMul, Nat.reduceEqDiff, exists_eq', putF, implies_true, exists_true_left, tys0, tys1, tys2, tys3, tys4, und0, und1, und2, und3, md16, Try.ntmps16, Try.results16]
  refine call_ret (total_call xs hx hl) rfl rfl ?_
  simp only [q0, q1, q2, q3, q4, q5, q6, q7, q8, q9, zq0, zq1, zq2, zq3, zq4, guardSlot, quietA, nilC, nilA, quietB, St.ev, St.put, St.after, Nat.reduceAdd, Nat.reduceSub, ofV, ofL, lenA, binA, intBin, fltBin, strBin, cpxBin, unA, convA, convB, convO, pickV, resL, oneA, indexA, indexS, isQuiet, loadA, loadC, storeA, fieldA, partA, sliceA, boundA, buildA, placeA, setAll, appendA, readSl, newEl, AV.cells, AV.solid, AV.one, kill, killM, killL, notInt, Int.reduceToNat, cond_true, cond_false, ↓reduceIte, reduceCtorEq, Nat.reduceLT, Nat.reduceLeDiff, Nat.reduceMul, Nat.reduceEqDiff, exists_eq', putF, implies_true, exists_true_left, tys0, tys1, tys2, tys3, tys4, und0, und1, und2, und3, md16, Try.ntmps16, Try.results16, e1]
  refine ⟨by omega, ?_⟩
  rw [e2, w64 (by omega) (by omega)]
  have am := amount_call (sumI xs * a / b)
  rw [inR_yes d0 (by omega)] at am
  refine call_ret am rfl rfl ?_
  simp only [q0, q1, q2, q3, q4, q5, q6, q7, q8, q9, zq0, zq1, zq2, zq3, zq4, guardSlot, quietA, nilC, nilA, quietB, St.ev, St.put, St.after, Nat.reduceAdd, Nat.reduceSub, ofV, ofL, lenA, binA, intBin, fltBin, strBin, cpxBin, unA, convA, convB, convO, pickV, resL, oneA, indexA, indexS, isQuiet, loadA, loadC, storeA, fieldA, partA, sliceA, boundA, buildA, placeA, setAll, appendA, readSl, newEl, AV.cells, AV.solid, AV.one, kill, killM, killL, notInt, Int.reduceToNat, cond_true, cond_false, ↓reduceIte, reduceCtorEq, Nat.reduceLT, Nat.reduceLeDiff, Nat.reduceMul, Nat.reduceEqDiff, exists_eq', putF, implies_true, exists_true_left, tys0, tys1, tys2, tys3, tys4, und0, und1, und2, und3, md16, Try.ntmps16, Try.results16]
  exact PostR.pure ⟨rfl, rfl⟩ rfl
end Go.Proofs.Ytdlddnnnfjnabaa
