/- Groups, their sums, weights raked: what the program and the reference do. -/
import Derived.Test.YtmgfghcmmbdcgaaRakeM
set_option maxRecDepth 10000
set_option maxHeartbeats 4000000
set_option linter.unusedSimpArgs false
set_option linter.unusedVariables false
namespace Go.Proofs.Ytmgfghcmmbdcgaa
open Go Go.Abs

def fltB (xs : List Nat) : Blk := { ty := 27, w := 1, els := flts xs }
theorem sumG_next {ws : List Nat} {gs : List Int} {k : Int} {i : Nat} (h1 : i < ws.length) (h2 : i < gs.length) : sumG ws gs k (i + 1) = if gs[i] = k then fadd .f32 (sumG ws gs k i) ws[i] else sumG ws gs k i := by
  rw [sumG, getD_at gs 0 i h2, getD_at ws 0 i h1]
theorem groupSum_call (ws : List Nat) (gs : List Int) (g : Int) (hg : gs.length = ws.length) (hm : ws.length ≤ 1048576) : CallA Try.prog 16 [.ro (flts ws), .ro (ints gs), .int .i64 g] [] (Ret (.flt .f32 (sumG ws gs g ws.length)) []) := by
  refine CallP.out (t := .mk) (go_in (md := md16) mixed Try.func16 rfl go16 (by kernel_rfl) ?_)
  simp only [q0, q1, q2, q3, q4, q5, q6, q7, q8, q9, zq0, zq1, zq2, zq3, zq4, guardSlot, quietA, nilC, nilA, quietB, St.ev, St.put, St.after, Nat.reduceAdd, Nat.reduceSub, ofV, ofL, lenA, binA, intBin, fltBin, strBin, cpxBin, unA, convA, convB, convO, pickV, resL, oneA, indexA, indexS, isQuiet, loadA, loadC, storeA, fieldA, partA, sliceA, boundA, buildA, placeA, setAll, appendA, readSl, newEl, AV.cells, AV.solid, AV.one, kill, killM, killL, notInt, Int.reduceToNat, cond_true, cond_false, ↓reduceIte, reduceCtorEq, Nat.reduceLT, Nat.reduceLeDiff, Nat.reduceMul, Nat.reduceEqDiff, exists_eq', putF, implies_true, exists_true_left, tys0, tys1, tys2, und0, und1, und2, md16, Try.ntmps16, Try.results16, canon_zero]
  refine go_round (md := md16) mixed (by kernel_rfl) (fun i : {i : Nat // i ≤ ws.length} => ⟨[.any, .ro (ints gs), .int .i64 g, .any, .any, .any, .any, .flt .f32 (sumG ws gs g i.1), .any, .any, .ro (flts ws), .int .i64 ws.length, .int .i64 i.1, .any, .any, .any, .any, .any, .any, .any, .any, .any, .any, .any, .any, .any, .any, .any], []⟩) (fun i => ws.length - i.1) ⟨0, by omega⟩ ?_ ?_
  · exact weak_drop (by simp) (by simp [DropHp, ints_below, flts_below, sumG]) (by simp [DropTm, DropV, below, belowM, belowL, sumG])
  rintro ⟨i, hi⟩
  simp only [q0, q1, q2, q3, q4, q5, q6, q7, q8, q9, zq0, zq1, zq2, zq3, zq4, guardSlot, quietA, nilC, nilA, quietB, St.ev, St.put, St.after, Nat.reduceAdd, Nat.reduceSub, ofV, ofL, lenA, binA, intBin, fltBin, strBin, cpxBin, unA, convA, convB, convO, pickV, resL, oneA, indexA, indexS, isQuiet, loadA, loadC, storeA, fieldA, partA, sliceA, boundA, buildA, placeA, setAll, appendA, readSl, newEl, AV.cells, AV.solid, AV.one, kill, killM, killL, notInt, Int.reduceToNat, cond_true, cond_false, ↓reduceIte, reduceCtorEq, Nat.reduceLT, Nat.reduceLeDiff, Nat.reduceMul, Nat.reduceEqDiff, exists_eq', putF, implies_true, exists_true_left, tys0, tys1, tys2, und0, und1, und2, md16, Try.ntmps16, Try.results16]
  refine br_intro (fun h => ?_) (fun h => ?_) <;> simp only [q0, q1, q2, q3, q4, q5, q6, q7, q8, q9, zq0, zq1, zq2, zq3, zq4, guardSlot, quietA, nilC, nilA, quietB, St.ev, St.put, St.after, Nat.reduceAdd, Nat.reduceSub, ofV, ofL, lenA, binA, intBin, fltBin, strBin, cpxBin, unA, convA, convB, convO, pickV, resL, oneA, indexA, indexS, isQuiet, loadA, loadC, storeA, fieldA, partA, sliceA, boundA, buildA, placeA, setAll, appendA, readSl, newEl, AV.cells, AV.solid, AV.one, kill, killM, killL, notInt, Int.reduceToNat, cond_true, cond_false, ↓reduceIte, reduceCtorEq, Nat.reduceLT, Nat.reduceLeDiff, Nat.reduceMul, Nat.reduceEqDiff, exists_eq', putF, implies_true, exists_true_left, tys0, tys1, tys2, und0, und1, und2, md16, Try.ntmps16, Try.results16]
  · have hi' : i < ws.length := by have := of_decide_eq_true h; omega
    have hI : (i : Int) < (ws.length : Int) := by omega
    have hg' : i < gs.length := by omega
    have hgI : (i : Int) < (gs.length : Int) := by omega
    have nx := sumG_next (ws := ws) (gs := gs) (k := g) hi' hg'
    simp only [q0, q1, q2, q3, q4, q5, q6, q7, q8, q9, zq0, zq1, zq2, zq3, zq4, guardSlot, quietA, nilC, nilA, quietB, St.ev, St.put, St.after, Nat.reduceAdd, Nat.reduceSub, ofV, ofL, lenA, binA, intBin, fltBin, strBin, cpxBin, unA, convA, convB, convO, pickV, resL, oneA, indexA, indexS, isQuiet, loadA, loadC, storeA, fieldA, partA, sliceA, boundA, buildA, placeA, setAll, appendA, readSl, newEl, AV.cells, AV.solid, AV.one, kill, killM, killL, notInt, Int.reduceToNat, cond_true, cond_false, ↓reduceIte, reduceCtorEq, Nat.reduceLT, Nat.reduceLeDiff, Nat.reduceMul, Nat.reduceEqDiff, exists_eq', putF, implies_true, exists_true_left, tys0, tys1, tys2, und0, und1, und2, md16, Try.ntmps16, Try.results16, hi', hI, hg', hgI]
    refine br_intro (fun u => ?_) (fun u => ?_) <;> simp only [q0, q1, q2, q3, q4, q5, q6, q7, q8, q9, zq0, zq1, zq2, zq3, zq4, guardSlot, quietA, nilC, nilA, quietB, St.ev, St.put, St.after, Nat.reduceAdd, Nat.reduceSub, ofV, ofL, lenA, binA, intBin, fltBin, strBin, cpxBin, unA, convA, convB, convO, pickV, resL, oneA, indexA, indexS, isQuiet, loadA, loadC, storeA, fieldA, partA, sliceA, boundA, buildA, placeA, setAll, appendA, readSl, newEl, AV.cells, AV.solid, AV.one, kill, killM, killL, notInt, Int.reduceToNat, cond_true, cond_false, ↓reduceIte, reduceCtorEq, Nat.reduceLT, Nat.reduceLeDiff, Nat.reduceMul, Nat.reduceEqDiff, exists_eq', putF, implies_true, exists_true_left, tys0, tys1, tys2, und0, und1, und2, md16, Try.ntmps16, Try.results16, hi', hI, hg', hgI]
    · rw [if_pos (beq_iff_eq.1 u)] at nx
      refine ⟨⟨i + 1, by omega⟩, by show ws.length - (i + 1) < _; omega, ?_⟩
      exact weak_drop (by simp) (by simp [DropHp, ints_below, flts_below, w64_succ i (by omega), nx]) (by simp [DropTm, DropV, below, belowM, belowL, w64_succ i (by omega), nx])
    · rw [if_neg (by intro e; rw [e] at u; simp at u)] at nx
      refine ⟨⟨i + 1, by omega⟩, by show ws.length - (i + 1) < _; omega, ?_⟩
      exact weak_drop (by simp) (by simp [DropHp, ints_below, flts_below, w64_succ i (by omega), nx]) (by simp [DropTm, DropV, below, belowM, belowL, w64_succ i (by omega), nx])
  · have hi' : i = ws.length := by have := of_decide_eq_false h; omega
    subst hi'
    exact PostR.pure ⟨rfl, rfl⟩ rfl
theorem l07Weight_call (ws : List Nat) (gs : List Int) (g : Int) (hg : gs.length = ws.length) (hm : ws.length ≤ 1048576) : CallA Try.prog 23 [.ro (flts ws), .ro (ints gs), .int .i64 g] [] (Ret (.flt .f32 (sumG ws gs g ws.length)) []) := by
  refine CallP.out (t := .mk) (go_in (md := md23) mixed Try.func23 rfl go23 (by kernel_rfl) ?_)
  simp only [q0, q1, q2, q3, q4, q5, q6, q7, q8, q9, zq0, zq1, zq2, zq3, zq4, guardSlot, quietA, nilC, nilA, quietB, St.ev, St.put, St.after, Nat.reduceAdd, Nat.reduceSub, ofV, ofL, lenA, binA, intBin, fltBin, strBin, cpxBin, unA, convA, convB, convO, pickV, resL, oneA, indexA, indexS, isQuiet, loadA, loadC, storeA, fieldA, partA, sliceA, boundA, buildA, placeA, setAll, appendA, readSl, newEl, AV.cells, AV.solid, AV.one, kill, killM, killL, notInt, Int.reduceToNat, cond_true, cond_false, ↓reduceIte, reduceCtorEq, Nat.reduceLT, Nat.reduceLeDiff, Nat.reduceMul, Nat.reduceEqDiff, exists_eq', putF, implies_true, exists_true_left, tys0, tys1, tys2, und0, und1, und2, md23, Try.ntmps23, Try.results23, canon_zero]
  refine go_round (md := md23) mixed (by kernel_rfl) (fun i : {i : Nat // i ≤ ws.length} => ⟨[.ro (flts ws), .ro (ints gs), .int .i64 g, .any, .any, .any, .any, .flt .f32 (sumG ws gs g i.1), .any, .any, .int .i64 ws.length, .int .i64 i.1, .any, .any, .any, .any, .any, .any, .any, .any, .any, .any, .any, .any, .any, .any, .any, .any], []⟩) (fun i => ws.length - i.1) ⟨0, by omega⟩ ?_ ?_
  · exact weak_drop (by simp) (by simp [DropHp, ints_below, flts_below, sumG]) (by simp [DropTm, DropV, below, belowM, belowL, sumG])
  rintro ⟨i, hi⟩
  simp only [q0, q1, q2, q3, q4, q5, q6, q7, q8, q9, zq0, zq1, zq2, zq3, zq4, guardSlot, quietA, nilC, nilA, quietB, St.ev, St.put, St.after, Nat.reduceAdd, Nat.reduceSub, ofV, ofL, lenA, binA, intBin, fltBin, strBin, cpxBin, unA, convA, convB, convO, pickV, resL, oneA, indexA, indexS, isQuiet, loadA, loadC, storeA, fieldA, partA, sliceA, boundA, buildA, placeA, setAll, appendA, readSl, newEl, AV.cells, AV.solid, AV.one, kill, killM, killL, notInt, Int.reduceToNat, cond_true, cond_false, ↓reduceIte, reduceCtorEq, Nat.reduceLT, Nat.reduceLeDiff, Nat.reduceMul, Nat.reduceEqDiff, exists_eq', putF, implies_true, exists_true_left, tys0, tys1, tys2, und0, und1, und2, md23, Try.ntmps23, Try.results23]
  refine br_intro (fun h => ?_) (fun h => ?_) <;> simp only [q0, q1, q2, q3, q4, q5, q6, q7, q8, q9, zq0, zq1, zq2, zq3, zq4, guardSlot, quietA, nilC, nilA, quietB, St.ev, St.put, St.after, Nat.reduceAdd, Nat.reduceSub, ofV, ofL, lenA, binA, intBin, fltBin, strBin, cpxBin, unA, convA, convB, convO, pickV, resL, oneA, indexA, indexS, isQuiet, loadA, loadC, storeA, fieldA, partA, sliceA, boundA, buildA, placeA, setAll, appendA, readSl, newEl, AV.cells, AV.solid, AV.one, kill, killM, killL, notInt, Int.reduceToNat, cond_true, cond_false, ↓reduceIte, reduceCtorEq, Nat.reduceLT, Nat.reduceLeDiff, Nat.reduceMul, Nat.reduceEqDiff, exists_eq', putF, implies_true, exists_true_left, tys0, tys1, tys2, und0, und1, und2, md23, Try.ntmps23, Try.results23]
  · have hi' : i < ws.length := by have := of_decide_eq_true h; omega
    have hI : (i : Int) < (ws.length : Int) := by omega
    have hg' : i < gs.length := by omega
    have hgI : (i : Int) < (gs.length : Int) := by omega
    have nx := sumG_next (ws := ws) (gs := gs) (k := g) hi' hg'
    simp only [q0, q1, q2, q3, q4, q5, q6, q7, q8, q9, zq0, zq1, zq2, zq3, zq4, guardSlot, quietA, nilC, nilA, quietB, St.ev, St.put, St.after, Nat.reduceAdd, Nat.reduceSub, ofV, ofL, lenA, binA, intBin, fltBin, strBin, cpxBin, unA, convA, convB, convO, pickV, resL, oneA, indexA, indexS, isQuiet, loadA, loadC, storeA, fieldA, partA, sliceA, boundA, buildA, placeA, setAll, appendA, readSl, newEl, AV.cells, AV.solid, AV.one, kill, killM, killL, notInt, Int.reduceToNat, cond_true, cond_false, ↓reduceIte, reduceCtorEq, Nat.reduceLT, Nat.reduceLeDiff, Nat.reduceMul, Nat.reduceEqDiff, exists_eq', putF, implies_true, exists_true_left, tys0, tys1, tys2, und0, und1, und2, md23, Try.ntmps23, Try.results23, hi', hI, hg', hgI]
    refine br_intro (fun u => ?_) (fun u => ?_) <;> simp only [q0, q1, q2, q3, q4, q5, q6, q7, q8, q9, zq0, zq1, zq2, zq3, zq4, guardSlot, quietA, nilC, nilA, quietB, St.ev, St.put, St.after, Nat.reduceAdd, Nat.reduceSub, ofV, ofL, lenA, binA, intBin, fltBin, strBin, cpxBin, unA, convA, convB, convO, pickV, resL, oneA, indexA, indexS, isQuiet, loadA, loadC, storeA, fieldA, partA, sliceA, boundA, buildA, placeA, setAll, appendA, readSl, newEl, AV.cells, AV.solid, AV.one, kill, killM, killL, notInt, Int.reduceToNat, cond_true, cond_false, ↓reduceIte, reduceCtorEq, Nat.reduceLT, Nat.reduceLeDiff, Nat.reduceMul, Nat.reduceEqDiff, exists_eq', putF, implies_true, exists_true_left, tys0, tys1, tys2, und0, und1, und2, md23, Try.ntmps23, Try.results23, hi', hI, hg', hgI]
    · rw [if_pos (beq_iff_eq.1 u)] at nx
      refine ⟨⟨i + 1, by omega⟩, by show ws.length - (i + 1) < _; omega, ?_⟩
      exact weak_drop (by simp) (by simp [DropHp, ints_below, flts_below, w64_succ i (by omega), nx]) (by simp [DropTm, DropV, below, belowM, belowL, w64_succ i (by omega), nx])
    · rw [if_neg (by intro e; rw [e] at u; simp at u)] at nx
      refine ⟨⟨i + 1, by omega⟩, by show ws.length - (i + 1) < _; omega, ?_⟩
      exact weak_drop (by simp) (by simp [DropHp, ints_below, flts_below, w64_succ i (by omega), nx]) (by simp [DropTm, DropV, below, belowM, belowL, w64_succ i (by omega), nx])
  · have hi' : i = ws.length := by have := of_decide_eq_false h; omega
    subst hi'
    exact PostR.pure ⟨rfl, rfl⟩ rfl
theorem rake_call (ws : List Nat) (gs : List Int) (aims : List Nat) (hg : gs.length = ws.length) (hm : ws.length ≤ 64) (ha : aims.length ≤ 8) : CallA Try.prog 15 [.sl 0 0 ws.length, .ro (ints gs), .ro (flts aims)] [fltB ws] (Ret (.tup []) [fltB (rkG ws gs aims aims.length)]) := by
  refine CallP.out (t := .mk) (go_in (md := md15) mixed Try.func15 rfl go15 (by kernel_rfl) ?_)
  simp only [q0, q1, q2, q3, q4, q5, q6, q7, q8, q9, zq0, zq1, zq2, zq3, zq4, guardSlot, quietA, nilC, nilA, quietB, St.ev, St.put, St.after, Nat.reduceAdd, Nat.reduceSub, ofV, ofL, lenA, binA, intBin, fltBin, strBin, cpxBin, unA, convA, convB, convO, pickV, resL, oneA, indexA, indexS, isQuiet, loadA, loadC, storeA, fieldA, partA, sliceA, boundA, buildA, placeA, setAll, appendA, readSl, newEl, AV.cells, AV.solid, AV.one, kill, killM, killL, notInt, Int.reduceToNat, cond_true, cond_false, ↓reduceIte, reduceCtorEq, Nat.reduceLT, Nat.reduceLeDiff, Nat.reduceMul, Nat.reduceEqDiff, exists_eq', putF, implies_true, exists_true_left, tys0, tys1, tys2, und0, und1, und2, md15, Try.ntmps15, Try.results15, fltB]
  refine go_round (md := md15) mixed (by kernel_rfl) (fun g : {g : Nat // g ≤ aims.length} => ⟨[.sl 0 0 ws.length, .ro (ints gs), .any, .any, .any, .any, .any, .any, .any, .any, .ro (flts aims), .int .i64 aims.length, .int .i64 g.1, .any, .any, .any, .any, .any, .any, .any, .any, .any, .any, .any, .any, .any, .any, .any, .any, .any, .any, .any, .any, .any, .any, .any, .any, .any, .any, .any, .any, .any, .any, .any, .any], [fltB (rkG ws gs aims g.1)]⟩) (fun g => aims.length - g.1) ⟨0, by omega⟩ ?_ ?_
  · exact weak_drop (by simp) (by simp [DropHp, ints_below, flts_below, fltB, rkG, allBelow_cons, allBelow_nil, below, belowM, belowL]) (by simp [DropTm, DropV, below, belowM, belowL, fltB, rkG, allBelow_cons, allBelow_nil, below, belowM, belowL])
  rintro ⟨g, hgg⟩
  have wl := rkG_len ws gs aims g
  have nx : rkG ws gs aims (g + 1) = mulL (rkG ws gs aims g) gs (g : Int) (fdiv .f32 (aims.getD g 0) (sumG (rkG ws gs aims g) gs (g : Int) (rkG ws gs aims g).length)) := rfl
  generalize hW0 : rkG ws gs aims g = W at wl nx
  simp only [q0, q1, q2, q3, q4, q5, q6, q7, q8, q9, zq0, zq1, zq2, zq3, zq4, guardSlot, quietA, nilC, nilA, quietB, St.ev, St.put, St.after, Nat.reduceAdd, Nat.reduceSub, ofV, ofL, lenA, binA, intBin, fltBin, strBin, cpxBin, unA, convA, convB, convO, pickV, resL, oneA, indexA, indexS, isQuiet, loadA, loadC, storeA, fieldA, partA, sliceA, boundA, buildA, placeA, setAll, appendA, readSl, newEl, AV.cells, AV.solid, AV.one, kill, killM, killL, notInt, Int.reduceToNat, cond_true, cond_false, ↓reduceIte, reduceCtorEq, Nat.reduceLT, Nat.reduceLeDiff, Nat.reduceMul, Nat.reduceEqDiff, exists_eq', putF, implies_true, exists_true_left, tys0, tys1, tys2, und0, und1, und2, md15, Try.ntmps15, Try.results15, fltB]
  refine br_intro (fun h => ?_) (fun h => ?_) <;> simp only [q0, q1, q2, q3, q4, q5, q6, q7, q8, q9, zq0, zq1, zq2, zq3, zq4, guardSlot, quietA, nilC, nilA, quietB, St.ev, St.put, St.after, Nat.reduceAdd, Nat.reduceSub, ofV, ofL, lenA, binA, intBin, fltBin, strBin, cpxBin, unA, convA, convB, convO, pickV, resL, oneA, indexA, indexS, isQuiet, loadA, loadC, storeA, fieldA, partA, sliceA, boundA, buildA, placeA, setAll, appendA, readSl, newEl, AV.cells, AV.solid, AV.one, kill, killM, killL, notInt, Int.reduceToNat, cond_true, cond_false, ↓reduceIte, reduceCtorEq, Nat.reduceLT, Nat.reduceLeDiff, Nat.reduceMul, Nat.reduceEqDiff, exists_eq', putF, implies_true, exists_true_left, tys0, tys1, tys2, und0, und1, und2, md15, Try.ntmps15, Try.results15, fltB]
  · have hi' : g < aims.length := by have := of_decide_eq_true h; omega
    have hI : (g : Int) < (aims.length : Int) := by omega
    have gs1 := groupSum_call W gs g (by omega) (by omega)
    rw [getD_at aims 0 g hi'] at nx
    simp only [q0, q1, q2, q3, q4, q5, q6, q7, q8, q9, zq0, zq1, zq2, zq3, zq4, guardSlot, quietA, nilC, nilA, quietB, St.ev, St.put, St.after, Nat.reduceAdd, Nat.reduceSub, ofV, ofL, lenA, binA, intBin, fltBin, strBin, cpxBin, unA, convA, convB, convO, pickV, resL, oneA, indexA, indexS, isQuiet, loadA, loadC, storeA, fieldA, partA, sliceA, boundA, buildA, placeA, setAll, appendA, readSl, newEl, AV.cells, AV.solid, AV.one, kill, killM, killL, notInt, Int.reduceToNat, cond_true, cond_false, ↓reduceIte, reduceCtorEq, Nat.reduceLT, Nat.reduceLeDiff, Nat.reduceMul, Nat.reduceEqDiff, exists_eq', putF, implies_true, exists_true_left, tys0, tys1, tys2, und0, und1, und2, md15, Try.ntmps15, Try.results15, fltB, hi', hI]
    refine call_lent 2 (args' := [.ro (flts W), .ro (ints gs), .int .i64 g]) (by simp [view_sl, view_ro, view_int, map_view_flts, take_flts, flts_len, ← wl]) gs1 rfl rfl ?_
    simp only [q0, q1, q2, q3, q4, q5, q6, q7, q8, q9, zq0, zq1, zq2, zq3, zq4, guardSlot, quietA, nilC, nilA, quietB, St.ev, St.put, St.after, Nat.reduceAdd, Nat.reduceSub, ofV, ofL, lenA, binA, intBin, fltBin, strBin, cpxBin, unA, convA, convB, convO, pickV, resL, oneA, indexA, indexS, isQuiet, loadA, loadC, storeA, fieldA, partA, sliceA, boundA, buildA, placeA, setAll, appendA, readSl, newEl, AV.cells, AV.solid, AV.one, kill, killM, killL, notInt, Int.reduceToNat, cond_true, cond_false, ↓reduceIte, reduceCtorEq, Nat.reduceLT, Nat.reduceLeDiff, Nat.reduceMul, Nat.reduceEqDiff, exists_eq', putF, implies_true, exists_true_left, tys0, tys1, tys2, und0, und1, und2, md15, Try.ntmps15, Try.results15, fltB, hi', hI]
    generalize fdiv .f32 aims[g] (sumG W gs (g : Int) W.length) = y at nx
    refine go_round (md := md15) mixed (by kernel_rfl) (fun i : {i : Nat // i ≤ ws.length} => ⟨[.sl 0 0 ws.length, .ro (ints gs), .any, .any, .any, .any, .int .i64 g, .any, .flt .f32 y, .any, .ro (flts aims), .int .i64 aims.length, .int .i64 g, .any, .any, .any, .any, .any, .any, .any, .any, .any, .any, .any, .int .i64 ws.length, .int .i64 i.1, .any, .any, .any, .any, .any, .any, .any, .any, .any, .any, .any, .any, .any, .any, .any, .any, .any, .any, .any], [fltB (mulI W gs g y i.1)]⟩) (fun i => ws.length - i.1) ⟨0, by omega⟩ ?_ ?_
    · exact weak_drop (by simp) (by simp [DropHp, ints_below, flts_below, fltB, mulI_zero, allBelow_cons, allBelow_nil, below, belowM, belowL]) (by simp [DropTm, DropV, below, belowM, belowL, fltB, mulI_zero, allBelow_cons, allBelow_nil, below, belowM, belowL])
    rintro ⟨i, hi⟩
    have ml := mulI_len W gs g y i (by omega)
    simp only [q0, q1, q2, q3, q4, q5, q6, q7, q8, q9, zq0, zq1, zq2, zq3, zq4, guardSlot, quietA, nilC, nilA, quietB, St.ev, St.put, St.after, Nat.reduceAdd, Nat.reduceSub, ofV, ofL, lenA, binA, intBin, fltBin, strBin, cpxBin, unA, convA, convB, convO, pickV, resL, oneA, indexA, indexS, isQuiet, loadA, loadC, storeA, fieldA, partA, sliceA, boundA, buildA, placeA, setAll, appendA, readSl, newEl, AV.cells, AV.solid, AV.one, kill, killM, killL, notInt, Int.reduceToNat, cond_true, cond_false, ↓reduceIte, reduceCtorEq, Nat.reduceLT, Nat.reduceLeDiff, Nat.reduceMul, Nat.reduceEqDiff, exists_eq', putF, implies_true, exists_true_left, tys0, tys1, tys2, und0, und1, und2, md15, Try.ntmps15, Try.results15, fltB]
    refine br_intro (fun u => ?_) (fun u => ?_) <;> simp only [q0, q1, q2, q3, q4, q5, q6, q7, q8, q9, zq0, zq1, zq2, zq3, zq4, guardSlot, quietA, nilC, nilA, quietB, St.ev, St.put, St.after, Nat.reduceAdd, Nat.reduceSub, ofV, ofL, lenA, binA, intBin, fltBin, strBin, cpxBin, unA, convA, convB, convO, pickV, resL, oneA, indexA, indexS, isQuiet, loadA, loadC, storeA, fieldA, partA, sliceA, boundA, buildA, placeA, setAll, appendA, readSl, newEl, AV.cells, AV.solid, AV.one, kill, killM, killL, notInt, Int.reduceToNat, cond_true, cond_false, ↓reduceIte, reduceCtorEq, Nat.reduceLT, Nat.reduceLeDiff, Nat.reduceMul, Nat.reduceEqDiff, exists_eq', putF, implies_true, exists_true_left, tys0, tys1, tys2, und0, und1, und2, md15, Try.ntmps15, Try.results15, fltB]
    · have hw : i < ws.length := by have := of_decide_eq_true u; omega
      have hwI : (i : Int) < (ws.length : Int) := by omega
      have hg' : i < gs.length := by omega
      have hgI : (i : Int) < (gs.length : Int) := by omega
      have hW : i < W.length := by omega
      have hM : i < (mulI W gs g y i).length := by omega
      have mg := mulI_get W gs g y i hW hM
      have ms := mulI_set W gs g y i hW
      have ew : IntKind.i64.wrap ((i : Int) + 1) = (i : Int) + 1 := w64 (by omega) (by omega)
      simp only [q0, q1, q2, q3, q4, q5, q6, q7, q8, q9, zq0, zq1, zq2, zq3, zq4, guardSlot, quietA, nilC, nilA, quietB, St.ev, St.put, St.after, Nat.reduceAdd, Nat.reduceSub, ofV, ofL, lenA, binA, intBin, fltBin, strBin, cpxBin, unA, convA, convB, convO, pickV, resL, oneA, indexA, indexS, isQuiet, loadA, loadC, storeA, fieldA, partA, sliceA, boundA, buildA, placeA, setAll, appendA, readSl, newEl, AV.cells, AV.solid, AV.one, kill, killM, killL, notInt, Int.reduceToNat, cond_true, cond_false, ↓reduceIte, reduceCtorEq, Nat.reduceLT, Nat.reduceLeDiff, Nat.reduceMul, Nat.reduceEqDiff, exists_eq', putF, implies_true, exists_true_left, tys0, tys1, tys2, und0, und1, und2, md15, Try.ntmps15, Try.results15, fltB, hg', hgI]
      refine br_intro (fun v => ?_) (fun v => ?_) <;> simp only [q0, q1, q2, q3, q4, q5, q6, q7, q8, q9, zq0, zq1, zq2, zq3, zq4, guardSlot, quietA, nilC, nilA, quietB, St.ev, St.put, St.after, Nat.reduceAdd, Nat.reduceSub, ofV, ofL, lenA, binA, intBin, fltBin, strBin, cpxBin, unA, convA, convB, convO, pickV, resL, oneA, indexA, indexS, isQuiet, loadA, loadC, storeA, fieldA, partA, sliceA, boundA, buildA, placeA, setAll, appendA, readSl, newEl, AV.cells, AV.solid, AV.one, kill, killM, killL, notInt, Int.reduceToNat, cond_true, cond_false, ↓reduceIte, reduceCtorEq, Nat.reduceLT, Nat.reduceLeDiff, Nat.reduceMul, Nat.reduceEqDiff, exists_eq', putF, implies_true, exists_true_left, tys0, tys1, tys2, und0, und1, und2, md15, Try.ntmps15, Try.results15, fltB, hg', hgI, hw, hwI, hM, ml, wl, hW]
      · have e : mulG W gs g y i = fmul .f32 W[i] y := by unfold mulG; rw [getD_at gs 0 i hg', if_pos (beq_iff_eq.1 v), getD_at W 0 i hW]
        rw [e] at ms
        refine ⟨⟨i + 1, by omega⟩, by show ws.length - (i + 1) < _; omega, ?_⟩
        show Weak 1 _ ⟨_, _⟩
        rw [mg, flts_set, ms]
        exact weak_drop (by simp) (by simp [DropHp, ints_below, flts_below, ew, fltB, allBelow_cons, allBelow_nil, below, belowM, belowL]) (by simp [DropTm, DropV, below, belowM, belowL, ew, fltB, allBelow_cons, allBelow_nil, below, belowM, belowL])
      · have e : mulG W gs g y i = W[i] := by unfold mulG; rw [getD_at gs 0 i hg', if_neg (by intro e; rw [e] at v; simp at v), getD_at W 0 i hW]
        have mk := mulI_keep W gs g y i hW e
        refine ⟨⟨i + 1, by omega⟩, by show ws.length - (i + 1) < _; omega, ?_⟩
        show Weak 1 _ ⟨_, _⟩
        rw [mk]
        exact weak_drop (by simp) (by simp [DropHp, ints_below, flts_below, ew, fltB, allBelow_cons, allBelow_nil, below, belowM, belowL]) (by simp [DropTm, DropV, below, belowM, belowL, ew, fltB, allBelow_cons, allBelow_nil, below, belowM, belowL])
    · have hi2 : i = ws.length := by have := of_decide_eq_false u; omega
      have ma := mulI_all W gs g y
      rw [wl, ← hi2] at ma
      have eg : IntKind.i64.wrap ((g : Int) + 1) = (g : Int) + 1 := w64 (by omega) (by omega)
      refine ⟨⟨g + 1, by omega⟩, by show aims.length - (g + 1) < _; omega, ?_⟩
      show Weak 1 _ ⟨_, _⟩
      rw [ma, ← nx]
      exact weak_drop (by simp) (by simp [DropHp, ints_below, flts_below, eg, fltB, allBelow_cons, allBelow_nil, below, belowM, belowL]) (by simp [DropTm, DropV, below, belowM, belowL, eg, fltB, allBelow_cons, allBelow_nil, below, belowM, belowL])
  · have hi' : g = aims.length := by have := of_decide_eq_false h; omega
    subst hi'
    rw [hW0]
    exact PostR.ret
theorem l07Meet_call (ws : List Nat) (gs : List Int) (aims : List Nat) (hg : gs.length = ws.length) (hm : ws.length ≤ 64) (ha : aims.length ≤ 8) : CallA Try.prog 22 [.sl 0 0 ws.length, .ro (ints gs), .ro (flts aims)] [fltB ws] (Ret (.tup []) [fltB (rkG ws gs aims aims.length)]) := by
  refine CallP.out (t := .mk) (go_in (md := md22) mixed Try.func22 rfl go22 (by kernel_rfl) ?_)
  simp only [q0, q1, q2, q3, q4, q5, q6, q7, q8, q9, zq0, zq1, zq2, zq3, zq4, guardSlot, quietA, nilC, nilA, quietB, St.ev, St.put, St.after, Nat.reduceAdd, Nat.reduceSub, ofV, ofL, lenA, binA, intBin, fltBin, strBin, cpxBin, unA, convA, convB, convO, pickV, resL, oneA, indexA, indexS, isQuiet, loadA, loadC, storeA, fieldA, partA, sliceA, boundA, buildA, placeA, setAll, appendA, readSl, newEl, AV.cells, AV.solid, AV.one, kill, killM, killL, notInt, Int.reduceToNat, cond_true, cond_false, ↓reduceIte, reduceCtorEq, Nat.reduceLT, Nat.reduceLeDiff, Nat.reduceMul, Nat.reduceEqDiff, exists_eq', putF, implies_true, exists_true_left, tys0, tys1, tys2, und0, und1, und2, md22, Try.ntmps22, Try.results22, fltB]
  refine go_round (md := md22) mixed (by kernel_rfl) (fun g : {g : Nat // g ≤ aims.length} => ⟨[.sl 0 0 ws.length, .ro (ints gs), .ro (flts aims), .any, .any, .any, .any, .any, .any, .any, .int .i64 aims.length, .int .i64 g.1, .any, .any, .any, .any, .any, .any, .any, .any, .any, .any, .any, .any, .any, .any, .any, .any, .any, .any, .any, .any, .any, .any, .any, .any, .any, .any, .any, .any, .any, .any, .any, .any, .any], [fltB (rkG ws gs aims g.1)]⟩) (fun g => aims.length - g.1) ⟨0, by omega⟩ ?_ ?_
  · exact weak_drop (by simp) (by simp [DropHp, ints_below, flts_below, fltB, rkG, allBelow_cons, allBelow_nil, below, belowM, belowL]) (by simp [DropTm, DropV, below, belowM, belowL, fltB, rkG, allBelow_cons, allBelow_nil, below, belowM, belowL])
  rintro ⟨g, hgg⟩
  have wl := rkG_len ws gs aims g
  have nx : rkG ws gs aims (g + 1) = mulL (rkG ws gs aims g) gs (g : Int) (fdiv .f32 (aims.getD g 0) (sumG (rkG ws gs aims g) gs (g : Int) (rkG ws gs aims g).length)) := rfl
  generalize hW0 : rkG ws gs aims g = W at wl nx
  simp only [q0, q1, q2, q3, q4, q5, q6, q7, q8, q9, zq0, zq1, zq2, zq3, zq4, guardSlot, quietA, nilC, nilA, quietB, St.ev, St.put, St.after, Nat.reduceAdd, Nat.reduceSub, ofV, ofL, lenA, binA, intBin, fltBin, strBin, cpxBin, unA, convA, convB, convO, pickV, resL, oneA, indexA, indexS, isQuiet, loadA, loadC, storeA, fieldA, partA, sliceA, boundA, buildA, placeA, setAll, appendA, readSl, newEl, AV.cells, AV.solid, AV.one, kill, killM, killL, notInt, Int.reduceToNat, cond_true, cond_false, ↓reduceIte, reduceCtorEq, Nat.reduceLT, Nat.reduceLeDiff, Nat.reduceMul, Nat.reduceEqDiff, exists_eq', putF, implies_true, exists_true_left, tys0, tys1, tys2, und0, und1, und2, md22, Try.ntmps22, Try.results22, fltB]
  refine br_intro (fun h => ?_) (fun h => ?_) <;> simp only [q0, q1, q2, q3, q4, q5, q6, q7, q8, q9, zq0, zq1, zq2, zq3, zq4, guardSlot, quietA, nilC, nilA, quietB, St.ev, St.put, St.after, Nat.reduceAdd, Nat.reduceSub, ofV, ofL, lenA, binA, intBin, fltBin, strBin, cpxBin, unA, convA, convB, convO, pickV, resL, oneA, indexA, indexS, isQuiet, loadA, loadC, storeA, fieldA, partA, sliceA, boundA, buildA, placeA, setAll, appendA, readSl, newEl, AV.cells, AV.solid, AV.one, kill, killM, killL, notInt, Int.reduceToNat, cond_true, cond_false, ↓reduceIte, reduceCtorEq, Nat.reduceLT, Nat.reduceLeDiff, Nat.reduceMul, Nat.reduceEqDiff, exists_eq', putF, implies_true, exists_true_left, tys0, tys1, tys2, und0, und1, und2, md22, Try.ntmps22, Try.results22, fltB]
  · have hi' : g < aims.length := by have := of_decide_eq_true h; omega
    have hI : (g : Int) < (aims.length : Int) := by omega
    have gs1 := l07Weight_call W gs g (by omega) (by omega)
    rw [getD_at aims 0 g hi'] at nx
    simp only [q0, q1, q2, q3, q4, q5, q6, q7, q8, q9, zq0, zq1, zq2, zq3, zq4, guardSlot, quietA, nilC, nilA, quietB, St.ev, St.put, St.after, Nat.reduceAdd, Nat.reduceSub, ofV, ofL, lenA, binA, intBin, fltBin, strBin, cpxBin, unA, convA, convB, convO, pickV, resL, oneA, indexA, indexS, isQuiet, loadA, loadC, storeA, fieldA, partA, sliceA, boundA, buildA, placeA, setAll, appendA, readSl, newEl, AV.cells, AV.solid, AV.one, kill, killM, killL, notInt, Int.reduceToNat, cond_true, cond_false, ↓reduceIte, reduceCtorEq, Nat.reduceLT, Nat.reduceLeDiff, Nat.reduceMul, Nat.reduceEqDiff, exists_eq', putF, implies_true, exists_true_left, tys0, tys1, tys2, und0, und1, und2, md22, Try.ntmps22, Try.results22, fltB, hi', hI]
    refine callr_lent 2 (args' := [.ro (flts W), .ro (ints gs), .int .i64 g]) (by simp [view_sl, view_ro, view_int, map_view_flts, take_flts, flts_len, ← wl]) gs1 rfl rfl ?_
    simp only [q0, q1, q2, q3, q4, q5, q6, q7, q8, q9, zq0, zq1, zq2, zq3, zq4, guardSlot, quietA, nilC, nilA, quietB, St.ev, St.put, St.after, Nat.reduceAdd, Nat.reduceSub, ofV, ofL, lenA, binA, intBin, fltBin, strBin, cpxBin, unA, convA, convB, convO, pickV, resL, oneA, indexA, indexS, isQuiet, loadA, loadC, storeA, fieldA, partA, sliceA, boundA, buildA, placeA, setAll, appendA, readSl, newEl, AV.cells, AV.solid, AV.one, kill, killM, killL, notInt, Int.reduceToNat, cond_true, cond_false, ↓reduceIte, reduceCtorEq, Nat.reduceLT, Nat.reduceLeDiff, Nat.reduceMul, Nat.reduceEqDiff, exists_eq', putF, implies_true, exists_true_left, tys0, tys1, tys2, und0, und1, und2, md22, Try.ntmps22, Try.results22, fltB, hi', hI]
    generalize fdiv .f32 aims[g] (sumG W gs (g : Int) W.length) = y at nx
    refine go_round (md := md22) mixed (by kernel_rfl) (fun i : {i : Nat // i ≤ ws.length} => ⟨[.sl 0 0 ws.length, .ro (ints gs), .ro (flts aims), .any, .any, .any, .int .i64 g, .flt .f32 y, .any, .any, .int .i64 aims.length, .int .i64 g, .any, .any, .any, .any, .any, .any, .any, .any, .any, .any, .any, .any, .int .i64 ws.length, .int .i64 i.1, .any, .any, .any, .any, .any, .any, .any, .any, .any, .any, .any, .any, .any, .any, .any, .any, .any, .any, .any], [fltB (mulI W gs g y i.1)]⟩) (fun i => ws.length - i.1) ⟨0, by omega⟩ ?_ ?_
    · exact weak_drop (by simp) (by simp [DropHp, ints_below, flts_below, fltB, mulI_zero, allBelow_cons, allBelow_nil, below, belowM, belowL]) (by simp [DropTm, DropV, below, belowM, belowL, fltB, mulI_zero, allBelow_cons, allBelow_nil, below, belowM, belowL])
    rintro ⟨i, hi⟩
    have ml := mulI_len W gs g y i (by omega)
    simp only [q0, q1, q2, q3, q4, q5, q6, q7, q8, q9, zq0, zq1, zq2, zq3, zq4, guardSlot, quietA, nilC, nilA, quietB, St.ev, St.put, St.after, Nat.reduceAdd, Nat.reduceSub, ofV, ofL, lenA, binA, intBin, fltBin, strBin, cpxBin, unA, convA, convB, convO, pickV, resL, oneA, indexA, indexS, isQuiet, loadA, loadC, storeA, fieldA, partA, sliceA, boundA, buildA, placeA, setAll, appendA, readSl, newEl, AV.cells, AV.solid, AV.one, kill, killM, killL, notInt, Int.reduceToNat, cond_true, cond_false, ↓reduceIte, reduceCtorEq, Nat.reduceLT, Nat.reduceLeDiff, Nat.reduceMul, Nat.reduceEqDiff, exists_eq', putF, implies_true, exists_true_left, tys0, tys1, tys2, und0, und1, und2, md22, Try.ntmps22, Try.results22, fltB]
    refine br_intro (fun u => ?_) (fun u => ?_) <;> simp only [q0, q1, q2, q3, q4, q5, q6, q7, q8, q9, zq0, zq1, zq2, zq3, zq4, guardSlot, quietA, nilC, nilA, quietB, St.ev, St.put, St.after, Nat.reduceAdd, Nat.reduceSub, ofV, ofL, lenA, binA, intBin, fltBin, strBin, cpxBin, unA, convA, convB, convO, pickV, resL, oneA, indexA, indexS, isQuiet, loadA, loadC, storeA, fieldA, partA, sliceA, boundA, buildA, placeA, setAll, appendA, readSl, newEl, AV.cells, AV.solid, AV.one, kill, killM, killL, notInt, Int.reduceToNat, cond_true, cond_false, ↓reduceIte, reduceCtorEq, Nat.reduceLT, Nat.reduceLeDiff, Nat.reduceMul, Nat.reduceEqDiff, exists_eq', putF, implies_true, exists_true_left, tys0, tys1, tys2, und0, und1, und2, md22, Try.ntmps22, Try.results22, fltB]
    · have hw : i < ws.length := by have := of_decide_eq_true u; omega
      have hwI : (i : Int) < (ws.length : Int) := by omega
      have hg' : i < gs.length := by omega
      have hgI : (i : Int) < (gs.length : Int) := by omega
      have hW : i < W.length := by omega
      have hM : i < (mulI W gs g y i).length := by omega
      have mg := mulI_get W gs g y i hW hM
      have ms := mulI_set W gs g y i hW
      have ew : IntKind.i64.wrap ((i : Int) + 1) = (i : Int) + 1 := w64 (by omega) (by omega)
      simp only [q0, q1, q2, q3, q4, q5, q6, q7, q8, q9, zq0, zq1, zq2, zq3, zq4, guardSlot, quietA, nilC, nilA, quietB, St.ev, St.put, St.after, Nat.reduceAdd, Nat.reduceSub, ofV, ofL, lenA, binA, intBin, fltBin, strBin, cpxBin, unA, convA, convB, convO, pickV, resL, oneA, indexA, indexS, isQuiet, loadA, loadC, storeA, fieldA, partA, sliceA, boundA, buildA, placeA, setAll, appendA, readSl, newEl, AV.cells, AV.solid, AV.one, kill, killM, killL, notInt, Int.reduceToNat, cond_true, cond_false, ↓reduceIte, reduceCtorEq, Nat.reduceLT, Nat.reduceLeDiff, Nat.reduceMul, Nat.reduceEqDiff, exists_eq', putF, implies_true, exists_true_left, tys0, tys1, tys2, und0, und1, und2, md22, Try.ntmps22, Try.results22, fltB, hg', hgI]
      refine br_intro (fun v => ?_) (fun v => ?_) <;> simp only [q0, q1, q2, q3, q4, q5, q6, q7, q8, q9, zq0, zq1, zq2, zq3, zq4, guardSlot, quietA, nilC, nilA, quietB, St.ev, St.put, St.after, Nat.reduceAdd, Nat.reduceSub, ofV, ofL, lenA, binA, intBin, fltBin, strBin, cpxBin, unA, convA, convB, convO, pickV, resL, oneA, indexA, indexS, isQuiet, loadA, loadC, storeA, fieldA, partA, sliceA, boundA, buildA, placeA, setAll, appendA, readSl, newEl, AV.cells, AV.solid, AV.one, kill, killM, killL, notInt, Int.reduceToNat, cond_true, cond_false, ↓reduceIte, reduceCtorEq, Nat.reduceLT, Nat.reduceLeDiff, Nat.reduceMul, Nat.reduceEqDiff, exists_eq', putF, implies_true, exists_true_left, tys0, tys1, tys2, und0, und1, und2, md22, Try.ntmps22, Try.results22, fltB, hg', hgI, hw, hwI, hM, ml, wl, hW]
      · have e : mulG W gs g y i = fmul .f32 W[i] y := by unfold mulG; rw [getD_at gs 0 i hg', if_pos (beq_iff_eq.1 v), getD_at W 0 i hW]
        rw [e] at ms
        refine ⟨⟨i + 1, by omega⟩, by show ws.length - (i + 1) < _; omega, ?_⟩
        show Weak 1 _ ⟨_, _⟩
        rw [mg, flts_set, ms]
        exact weak_drop (by simp) (by simp [DropHp, ints_below, flts_below, ew, fltB, allBelow_cons, allBelow_nil, below, belowM, belowL]) (by simp [DropTm, DropV, below, belowM, belowL, ew, fltB, allBelow_cons, allBelow_nil, below, belowM, belowL])
      · have e : mulG W gs g y i = W[i] := by unfold mulG; rw [getD_at gs 0 i hg', if_neg (by intro e; rw [e] at v; simp at v), getD_at W 0 i hW]
        have mk := mulI_keep W gs g y i hW e
        refine ⟨⟨i + 1, by omega⟩, by show ws.length - (i + 1) < _; omega, ?_⟩
        show Weak 1 _ ⟨_, _⟩
        rw [mk]
        exact weak_drop (by simp) (by simp [DropHp, ints_below, flts_below, ew, fltB, allBelow_cons, allBelow_nil, below, belowM, belowL]) (by simp [DropTm, DropV, below, belowM, belowL, ew, fltB, allBelow_cons, allBelow_nil, below, belowM, belowL])
    · have hi2 : i = ws.length := by have := of_decide_eq_false u; omega
      have ma := mulI_all W gs g y
      rw [wl, ← hi2] at ma
      have eg : IntKind.i64.wrap ((g : Int) + 1) = (g : Int) + 1 := w64 (by omega) (by omega)
      refine ⟨⟨g + 1, by omega⟩, by show aims.length - (g + 1) < _; omega, ?_⟩
      show Weak 1 _ ⟨_, _⟩
      rw [ma, ← nx]
      exact weak_drop (by simp) (by simp [DropHp, ints_below, flts_below, eg, fltB, allBelow_cons, allBelow_nil, below, belowM, belowL]) (by simp [DropTm, DropV, below, belowM, belowL, eg, fltB, allBelow_cons, allBelow_nil, below, belowM, belowL])
  · have hi' : g = aims.length := by have := of_decide_eq_false h; omega
    subst hi'
    rw [hW0]
    exact PostR.ret
end Go.Proofs.Ytmgfghcmmbdcgaa
