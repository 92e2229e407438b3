/- Points of pays, pays that nothing grows, the best years: the program's functions. -/
import Derived.Test.YtadbddlekinkpaaCaF
set_option maxRecDepth 10000
set_option maxHeartbeats 8000000
set_option linter.unusedSimpArgs false
set_option linter.unusedVariables false
namespace Go.Proofs.Ytadbddlekinkpaa
open Go Go.Abs

def mn (a b : Int) : Int := if b < a then b else a
def ptF (x m : Int) : Int := mn 30000 (rnd (x * 10000) m 1)
def ptsL (xs ms : List Int) (i : Nat) : List Int := (List.range i).map fun j => ptF (xs.getD j 0) (ms.getD j 0)
theorem ptsL_len (xs ms : List Int) (i : Nat) : (ptsL xs ms i).length = i := by simp [ptsL]
theorem ptsL_succ (xs ms : List Int) (i : Nat) : ptsL xs ms (i + 1) = ptsL xs ms i ++ [ptF (xs.getD i 0) (ms.getD i 0)] := by simp [ptsL, List.range_succ]
theorem getD_is (xs : List Int) (i : Nat) (h : i < xs.length) : xs.getD i 0 = xs[i] := by simp [List.getD_eq_getElem?_getD, h]
theorem view_two (xs : List Int) : view 3 [intB xs] (.tup [.sl 0 0 xs.length, .bool true]) = .tup [.ro (ints xs), .bool true] := by
  rw [view_tup, List.map_cons, List.map_cons, List.map_nil, view_sl, view_bool]
  simp [intB, ints_len, map_view_ints, take_ints]
theorem pointsOf0_call {n : Nat} {xs ms : List Int} (D : Pays n 20000 xs) (E : Pays n 900 ms) (E1 : ∀ m ∈ ms, 1 ≤ m) : CallA Try.prog 14 [.ro (ints xs), .ro (ints ms), .int .i64 30000] [] (Ret (.tup [.sl 0 0 n, .bool true]) [intB (ptsL xs ms n)]) := by
  have dl := D.len
  have el := E.len
  have d8 := D.n8
  have ay := areYears_call D (by omega)
  have aw := areWithin_call ms 1 1000000000000 (by omega)
  have al : ms.all (inR 1 1000000000000) = true := by
    rw [List.all_eq_true]
    intro m hm
    have := E.ok m hm
    have := E1 m hm
    exact inR_yes (by omega) (by omega)
  rw [al] at aw
  have wc := within_call 30000 0 1000000
  rw [inR_yes (by omega) (by omega)] at wc
  have bn : (((n : Nat) : Int) != ((n : Nat) : Int)) = false := bne_self_eq_false _
  refine CallP.out (t := .mk) (go_in (md := md14) mixed Try.func14 rfl go14 (by kernel_rfl) ?_)
  simp only [q0, q1, q2, q3, q4, q5, q6, q7, q8, q9, zq0, zq1, zq2, zq3, guardSlot, quietA, nilC, nilA, quietB, St.ev, St.put, St.after, Nat.reduceAdd, Nat.reduceSub, List.replicate_succ, ofV, ofL, lenA, binA, intBin, fltBin, strBin, cpxBin, unA, convA, convB, convO, pickV, resL, oneA, indexA, indexS, isQuiet, loadA, loadC, storeA, fieldA, partA, sliceA, boundA, buildA, placeA, setAll, appendA, readSl, newEl, AV.cells, AV.solid, AV.one, kill, killM, killL, notInt, Int.reduceToNat, cond_true, cond_false, ↓reduceIte, reduceCtorEq, Nat.reduceLT, Nat.reduceLeDiff, Nat.reduceMul, Nat.reduceEqDiff, exists_eq', putF, implies_true, exists_true_left, tys0, tys1, tys2, tys3, und0, und1, und2, md14, Try.ntmps14, Try.results14, ints_len, dl, el]
  refine call_ret ay rfl rfl ?_
  simp only [q0, q1, q2, q3, q4, q5, q6, q7, q8, q9, zq0, zq1, zq2, zq3, guardSlot, quietA, nilC, nilA, quietB, St.ev, St.put, St.after, Nat.reduceAdd, Nat.reduceSub, List.replicate_succ, ofV, ofL, lenA, binA, intBin, fltBin, strBin, cpxBin, unA, convA, convB, convO, pickV, resL, oneA, indexA, indexS, isQuiet, loadA, loadC, storeA, fieldA, partA, sliceA, boundA, buildA, placeA, setAll, appendA, readSl, newEl, AV.cells, AV.solid, AV.one, kill, killM, killL, notInt, Int.reduceToNat, cond_true, cond_false, ↓reduceIte, reduceCtorEq, Nat.reduceLT, Nat.reduceLeDiff, Nat.reduceMul, Nat.reduceEqDiff, exists_eq', putF, implies_true, exists_true_left, tys0, tys1, tys2, tys3, und0, und1, und2, md14, Try.ntmps14, Try.results14, ints_len, dl, el, bn]
  refine call_ret aw rfl rfl ?_
  simp only [q0, q1, q2, q3, q4, q5, q6, q7, q8, q9, zq0, zq1, zq2, zq3, guardSlot, quietA, nilC, nilA, quietB, St.ev, St.put, St.after, Nat.reduceAdd, Nat.reduceSub, List.replicate_succ, ofV, ofL, lenA, binA, intBin, fltBin, strBin, cpxBin, unA, convA, convB, convO, pickV, resL, oneA, indexA, indexS, isQuiet, loadA, loadC, storeA, fieldA, partA, sliceA, boundA, buildA, placeA, setAll, appendA, readSl, newEl, AV.cells, AV.solid, AV.one, kill, killM, killL, notInt, Int.reduceToNat, cond_true, cond_false, ↓reduceIte, reduceCtorEq, Nat.reduceLT, Nat.reduceLeDiff, Nat.reduceMul, Nat.reduceEqDiff, exists_eq', putF, implies_true, exists_true_left, tys0, tys1, tys2, tys3, und0, und1, und2, md14, Try.ntmps14, Try.results14, ints_len, dl, el, bn]
  refine call_ret wc rfl rfl ?_
  simp only [q0, q1, q2, q3, q4, q5, q6, q7, q8, q9, zq0, zq1, zq2, zq3, guardSlot, quietA, nilC, nilA, quietB, St.ev, St.put, St.after, Nat.reduceAdd, Nat.reduceSub, List.replicate_succ, ofV, ofL, lenA, binA, intBin, fltBin, strBin, cpxBin, unA, convA, convB, convO, pickV, resL, oneA, indexA, indexS, isQuiet, loadA, loadC, storeA, fieldA, partA, sliceA, boundA, buildA, placeA, setAll, appendA, readSl, newEl, AV.cells, AV.solid, AV.one, kill, killM, killL, notInt, Int.reduceToNat, cond_true, cond_false, ↓reduceIte, reduceCtorEq, Nat.reduceLT, Nat.reduceLeDiff, Nat.reduceMul, Nat.reduceEqDiff, exists_eq', putF, implies_true, exists_true_left, tys0, tys1, tys2, tys3, und0, und1, und2, md14, Try.ntmps14, Try.results14, ints_len, dl, el, bn]
  refine go_round (md := md14) mixed (by kernel_rfl) (fun i : {i : Nat // i ≤ n} => ⟨[.any, .ro (ints ms), .int .i64 30000, .any, .any, .any, .any, .any, .sl 0 0 i.1, .any, .any, .any, .any, .any, .any, .any, .any, .any, .any, .any, .any, .any, .any, .any, .any, .any, .any, .any, .any, .any, .any, .any, .ro (ints xs), .int .i64 n, .int .i64 i.1, .any, .any, .any, .any, .any, .any, .any, .any, .any, .any, .any, .any, .any, .any, .any, .any, .any, .any], [intB (ptsL xs ms i.1)]⟩) (fun i => n - i.1) ⟨0, Nat.zero_le _⟩ ?_ ?_
  · exact weak_drop (by simp) (by simp [DropHp, ints_below, flts_below, intB, ptsL, ints, allBelow_cons, allBelow_nil, below, belowM, belowL]) (by simp [DropTm, DropV, below, belowM, belowL, intB, ptsL, ints, allBelow_cons, allBelow_nil, below, belowM, belowL])
  rintro ⟨i, hi⟩
  dsimp only
  simp only [q0, q1, q2, q3, q4, q5, q6, q7, q8, q9, zq0, zq1, zq2, zq3, guardSlot, quietA, nilC, nilA, quietB, St.ev, St.put, St.after, Nat.reduceAdd, Nat.reduceSub, List.replicate_succ, ofV, ofL, lenA, binA, intBin, fltBin, strBin, cpxBin, unA, convA, convB, convO, pickV, resL, oneA, indexA, indexS, isQuiet, loadA, loadC, storeA, fieldA, partA, sliceA, boundA, buildA, placeA, setAll, appendA, readSl, newEl, AV.cells, AV.solid, AV.one, kill, killM, killL, notInt, Int.reduceToNat, cond_true, cond_false, ↓reduceIte, reduceCtorEq, Nat.reduceLT, Nat.reduceLeDiff, Nat.reduceMul, Nat.reduceEqDiff, exists_eq', putF, implies_true, exists_true_left, tys0, tys1, tys2, tys3, und0, und1, und2, md14, Try.ntmps14, Try.results14, ints_len, dl, el, intB, ptsL_len]
  refine br_intro (fun g => ?_) (fun g => ?_) <;> simp only [q0, q1, q2, q3, q4, q5, q6, q7, q8, q9, zq0, zq1, zq2, zq3, guardSlot, quietA, nilC, nilA, quietB, St.ev, St.put, St.after, Nat.reduceAdd, Nat.reduceSub, List.replicate_succ, ofV, ofL, lenA, binA, intBin, fltBin, strBin, cpxBin, unA, convA, convB, convO, pickV, resL, oneA, indexA, indexS, isQuiet, loadA, loadC, storeA, fieldA, partA, sliceA, boundA, buildA, placeA, setAll, appendA, readSl, newEl, AV.cells, AV.solid, AV.one, kill, killM, killL, notInt, Int.reduceToNat, cond_true, cond_false, ↓reduceIte, reduceCtorEq, Nat.reduceLT, Nat.reduceLeDiff, Nat.reduceMul, Nat.reduceEqDiff, exists_eq', putF, implies_true, exists_true_left, tys0, tys1, tys2, tys3, und0, und1, und2, md14, Try.ntmps14, Try.results14, ints_len, dl, el, intB, ptsL_len]
  · have g : i < n := by have := of_decide_eq_true g; omega
    have gi : (i : Int) < (n : Int) := by omega
    have gx : i < xs.length := by omega
    have gm : i < ms.length := by omega
    have bx := D.ok _ (List.getElem_mem gx)
    have bm := E.ok _ (List.getElem_mem gm)
    have bm1 := E1 _ (List.getElem_mem gm)
    have w1 : IntKind.i64.wrap (xs[i] * 10000) = xs[i] * 10000 := w64 (by omega) (by omega)
    have w2 : IntKind.i64.wrap ((i : Int) + 1) = ((i + 1 : Nat) : Int) := by rw [w64 (by omega) (by omega)]; omega
    have rc := rounded_call (xs[i] * 10000) ms[i] 1 (by omega) (by omega) (by omega) (by omega) (by omega) (by omega)
    have ps := ptsL_succ xs ms i
    rw [getD_is xs i gx, getD_is ms i gm] at ps
    simp only [q0, q1, q2, q3, q4, q5, q6, q7, q8, q9, zq0, zq1, zq2, zq3, guardSlot, quietA, nilC, nilA, quietB, St.ev, St.put, St.after, Nat.reduceAdd, Nat.reduceSub, List.replicate_succ, ofV, ofL, lenA, binA, intBin, fltBin, strBin, cpxBin, unA, convA, convB, convO, pickV, resL, oneA, indexA, indexS, isQuiet, loadA, loadC, storeA, fieldA, partA, sliceA, boundA, buildA, placeA, setAll, appendA, readSl, newEl, AV.cells, AV.solid, AV.one, kill, killM, killL, notInt, Int.reduceToNat, cond_true, cond_false, ↓reduceIte, reduceCtorEq, Nat.reduceLT, Nat.reduceLeDiff, Nat.reduceMul, Nat.reduceEqDiff, exists_eq', putF, implies_true, exists_true_left, tys0, tys1, tys2, tys3, und0, und1, und2, md14, Try.ntmps14, Try.results14, ints_len, dl, el, intB, ptsL_len, ints_get, g, gi, w1]
    refine call_ret rc rfl rfl ?_
    have em : (if rnd (xs[i] * 10000) ms[i] 1 < 30000 then rnd (xs[i] * 10000) ms[i] 1 else 30000) = ptF xs[i] ms[i] := rfl
    simp only [q0, q1, q2, q3, q4, q5, q6, q7, q8, q9, zq0, zq1, zq2, zq3, guardSlot, quietA, nilC, nilA, quietB, St.ev, St.put, St.after, Nat.reduceAdd, Nat.reduceSub, List.replicate_succ, ofV, ofL, lenA, binA, intBin, fltBin, strBin, cpxBin, unA, convA, convB, convO, pickV, resL, oneA, indexA, indexS, isQuiet, loadA, loadC, storeA, fieldA, partA, sliceA, boundA, buildA, placeA, setAll, appendA, readSl, newEl, AV.cells, AV.solid, AV.one, kill, killM, killL, notInt, Int.reduceToNat, cond_true, cond_false, ↓reduceIte, reduceCtorEq, Nat.reduceLT, Nat.reduceLeDiff, Nat.reduceMul, Nat.reduceEqDiff, exists_eq', putF, implies_true, exists_true_left, tys0, tys1, tys2, tys3, und0, und1, und2, md14, Try.ntmps14, Try.results14, ints_len, dl, el, ptsL_len, minA, em, allW_int, fits, List.isEmpty_cons, brk_false, Nat.reduceMul]
    refine ⟨by omega, ⟨i + 1, by omega⟩, by show n - (i + 1) < n - i; omega, ?_⟩
    rw [← ps, w2]
    show Weak 0 _ ⟨_, [intB (ptsL xs ms (i + 1))]⟩
    exact weak_drop (by simp) (by simp [DropHp, ints_below, flts_below, intB, allBelow_cons, allBelow_nil, below, belowM, belowL]) (by simp [DropTm, DropV, below, belowM, belowL, intB, allBelow_cons, allBelow_nil, below, belowM, belowL])
  · have g : i = n := by have := of_decide_eq_false g; omega
    subst g
    exact PostR.ret
theorem indexPays0_call {n : Nat} {xs : List Int} (D : Pays n 20000 xs) : CallA Try.prog 13 [.ro (ints xs), .ro (ints (List.replicate (n - 1) 0))] [] (Ret (.tup [.sl 0 0 n, .bool true]) [intB xs]) := by
  have dl := D.len
  have n1 := D.n1
  have d8 := D.n8
  have ay := areYears_call D (by omega)
  have gl : (List.replicate (n - 1) (0 : Int)).length = n - 1 := List.length_replicate
  have gg : ∀ (k : Nat) (h : k < (List.replicate (n - 1) (0 : Int)).length), (List.replicate (n - 1) (0 : Int))[k] = 0 := fun k h => List.getElem_replicate h
  generalize List.replicate (n - 1) (0 : Int) = gs at gl gg
  have aw := areWithin_call gs 0 10000 (by omega)
  have al : gs.all (inR 0 10000) = true := by
    rw [List.all_eq_true]
    intro m hm
    obtain ⟨k, hk, rfl⟩ := List.getElem_of_mem hm
    rw [gg k hk]
    exact inR_yes (by omega) (by omega)
  rw [al] at aw
  have w0 : IntKind.i64.wrap (((n : Nat) : Int) - 1) = ((n - 1 : Nat) : Int) := by rw [w64 (by omega) (by omega)]; omega
  have bn : (((n - 1 : Nat) : Int) != ((n - 1 : Nat) : Int)) = false := bne_self_eq_false _
  refine CallP.out (t := .mk) (go_in (md := md13) mixed Try.func13 rfl go13 (by kernel_rfl) ?_)
  simp only [q0, q1, q2, q3, q4, q5, q6, q7, q8, q9, zq0, zq1, zq2, zq3, guardSlot, quietA, nilC, nilA, quietB, St.ev, St.put, St.after, Nat.reduceAdd, Nat.reduceSub, List.replicate_succ, ofV, ofL, lenA, binA, intBin, fltBin, strBin, cpxBin, unA, convA, convB, convO, pickV, resL, oneA, indexA, indexS, isQuiet, loadA, loadC, storeA, fieldA, partA, sliceA, boundA, buildA, placeA, setAll, appendA, readSl, newEl, AV.cells, AV.solid, AV.one, kill, killM, killL, notInt, Int.reduceToNat, cond_true, cond_false, ↓reduceIte, reduceCtorEq, Nat.reduceLT, Nat.reduceLeDiff, Nat.reduceMul, Nat.reduceEqDiff, exists_eq', putF, implies_true, exists_true_left, tys0, tys1, tys2, tys3, und0, und1, und2, md13, Try.ntmps13, Try.results13, ints_len, dl, gl]
  refine call_ret ay rfl rfl ?_
  simp only [q0, q1, q2, q3, q4, q5, q6, q7, q8, q9, zq0, zq1, zq2, zq3, guardSlot, quietA, nilC, nilA, quietB, St.ev, St.put, St.after, Nat.reduceAdd, Nat.reduceSub, List.replicate_succ, ofV, ofL, lenA, binA, intBin, fltBin, strBin, cpxBin, unA, convA, convB, convO, pickV, resL, oneA, indexA, indexS, isQuiet, loadA, loadC, storeA, fieldA, partA, sliceA, boundA, buildA, placeA, setAll, appendA, readSl, newEl, AV.cells, AV.solid, AV.one, kill, killM, killL, notInt, Int.reduceToNat, cond_true, cond_false, ↓reduceIte, reduceCtorEq, Nat.reduceLT, Nat.reduceLeDiff, Nat.reduceMul, Nat.reduceEqDiff, exists_eq', putF, implies_true, exists_true_left, tys0, tys1, tys2, tys3, und0, und1, und2, md13, Try.ntmps13, Try.results13, ints_len, dl, gl, w0, bn]
  refine call_ret aw rfl rfl ?_
  simp only [q0, q1, q2, q3, q4, q5, q6, q7, q8, q9, zq0, zq1, zq2, zq3, guardSlot, quietA, nilC, nilA, quietB, St.ev, St.put, St.after, Nat.reduceAdd, Nat.reduceSub, List.replicate_succ, ofV, ofL, lenA, binA, intBin, fltBin, strBin, cpxBin, unA, convA, convB, convO, pickV, resL, oneA, indexA, indexS, isQuiet, loadA, loadC, storeA, fieldA, partA, sliceA, boundA, buildA, placeA, setAll, appendA, readSl, newEl, AV.cells, AV.solid, AV.one, kill, killM, killL, notInt, Int.reduceToNat, cond_true, cond_false, ↓reduceIte, reduceCtorEq, Nat.reduceLT, Nat.reduceLeDiff, Nat.reduceMul, Nat.reduceEqDiff, exists_eq', putF, implies_true, exists_true_left, tys0, tys1, tys2, tys3, und0, und1, und2, md13, Try.ntmps13, Try.results13, ints_len, dl, gl, w0, bn]
  refine go_round (md := md13) mixed (by kernel_rfl) (fun i : {i : Nat // i ≤ n} => ⟨[.any, .ro (ints gs), .any, .any, .any, .any, .sl 0 0 i.1, .any, .any, .any, .any, .any, .any, .any, .any, .any, .any, .any, .any, .any, .any, .any, .any, .any, .any, .any, .any, .any, .ro (ints xs), .int .i64 n, .int .i64 i.1, .any, .any, .any, .any, .any, .any, .any, .any, .any, .any, .any, .any, .any, .any, .any, .any, .any, .any, .any, .any, .any, .any, .any, .any, .any, .any, .any], [intB (xs.take i.1)]⟩) (fun i => n - i.1) ⟨0, Nat.zero_le _⟩ ?_ ?_
  · exact weak_drop (by simp) (by simp [DropHp, ints_below, flts_below, intB, ints, allBelow_cons, allBelow_nil, below, belowM, belowL]) (by simp [DropTm, DropV, below, belowM, belowL, intB, ints, allBelow_cons, allBelow_nil, below, belowM, belowL])
  rintro ⟨i, hi⟩
  dsimp only
  have tkl : (xs.take i).length = i := by rw [List.length_take]; omega
  simp only [q0, q1, q2, q3, q4, q5, q6, q7, q8, q9, zq0, zq1, zq2, zq3, guardSlot, quietA, nilC, nilA, quietB, St.ev, St.put, St.after, Nat.reduceAdd, Nat.reduceSub, List.replicate_succ, ofV, ofL, lenA, binA, intBin, fltBin, strBin, cpxBin, unA, convA, convB, convO, pickV, resL, oneA, indexA, indexS, isQuiet, loadA, loadC, storeA, fieldA, partA, sliceA, boundA, buildA, placeA, setAll, appendA, readSl, newEl, AV.cells, AV.solid, AV.one, kill, killM, killL, notInt, Int.reduceToNat, cond_true, cond_false, ↓reduceIte, reduceCtorEq, Nat.reduceLT, Nat.reduceLeDiff, Nat.reduceMul, Nat.reduceEqDiff, exists_eq', putF, implies_true, exists_true_left, tys0, tys1, tys2, tys3, und0, und1, und2, md13, Try.ntmps13, Try.results13, ints_len, dl, gl, intB]
  refine br_intro (fun g => ?_) (fun g => ?_) <;> simp only [q0, q1, q2, q3, q4, q5, q6, q7, q8, q9, zq0, zq1, zq2, zq3, guardSlot, quietA, nilC, nilA, quietB, St.ev, St.put, St.after, Nat.reduceAdd, Nat.reduceSub, List.replicate_succ, ofV, ofL, lenA, binA, intBin, fltBin, strBin, cpxBin, unA, convA, convB, convO, pickV, resL, oneA, indexA, indexS, isQuiet, loadA, loadC, storeA, fieldA, partA, sliceA, boundA, buildA, placeA, setAll, appendA, readSl, newEl, AV.cells, AV.solid, AV.one, kill, killM, killL, notInt, Int.reduceToNat, cond_true, cond_false, ↓reduceIte, reduceCtorEq, Nat.reduceLT, Nat.reduceLeDiff, Nat.reduceMul, Nat.reduceEqDiff, exists_eq', putF, implies_true, exists_true_left, tys0, tys1, tys2, tys3, und0, und1, und2, md13, Try.ntmps13, Try.results13, ints_len, dl, gl, intB]
  · have g : i < n := by have := of_decide_eq_true g; omega
    have gi : (i : Int) < (n : Int) := by omega
    have gx : i < xs.length := by omega
    have bx := D.ok _ (List.getElem_mem gx)
    have w2 : IntKind.i64.wrap ((i : Int) + 1) = ((i + 1 : Nat) : Int) := by rw [w64 (by omega) (by omega)]; omega
    have tk : xs.take i ++ [xs[i]] = xs.take (i + 1) := List.take_append_getElem gx
    simp only [q0, q1, q2, q3, q4, q5, q6, q7, q8, q9, zq0, zq1, zq2, zq3, guardSlot, quietA, nilC, nilA, quietB, St.ev, St.put, St.after, Nat.reduceAdd, Nat.reduceSub, List.replicate_succ, ofV, ofL, lenA, binA, intBin, fltBin, strBin, cpxBin, unA, convA, convB, convO, pickV, resL, oneA, indexA, indexS, isQuiet, loadA, loadC, storeA, fieldA, partA, sliceA, boundA, buildA, placeA, setAll, appendA, readSl, newEl, AV.cells, AV.solid, AV.one, kill, killM, killL, notInt, Int.reduceToNat, cond_true, cond_false, ↓reduceIte, reduceCtorEq, Nat.reduceLT, Nat.reduceLeDiff, Nat.reduceMul, Nat.reduceEqDiff, exists_eq', putF, implies_true, exists_true_left, tys0, tys1, tys2, tys3, und0, und1, und2, md13, Try.ntmps13, Try.results13, ints_len, dl, gl, intB, ints_get, g, gi]
    have tt : (ints gs).take (n - 1) = ints gs := List.take_of_length_le (by rw [ints_len]; omega)
    have td : (ints gs).drop i = ints (gs.drop i) := by unfold ints; rw [List.map_drop]
    have hl : (gs.drop i).length = n - 1 - i := by rw [List.length_drop, gl]
    have hg : ∀ (k : Nat) (h : k < (gs.drop i).length), (gs.drop i)[k] = 0 := fun k h => by rw [List.getElem_drop]; exact gg _ _
    refine ⟨by omega, by omega, fun v hv => (by obtain ⟨b, _, rfl⟩ := List.mem_map.1 hv; rfl), ?_⟩
    rw [tt, td]
    generalize gs.drop i = hs at hl hg
    have rc := rounded_call (xs[i] * 10000) 10000 1 (by omega) (by omega) (by omega) (by omega) (by omega) (by omega)
    rw [rnd_whole _ _ bx.1] at rc
    have ia := isAmount_call xs[i]
    rw [inR_yes (by omega) (by omega)] at ia
    have w5 : IntKind.i64.wrap (10000 + 0) = 10000 := by decide
    have w6 : IntKind.i64.wrap (xs[i] * 10000) = xs[i] * 10000 := w64 (by omega) (by omega)
    refine go_round (md := md13) mixed (by kernel_rfl) (fun k : {k : Nat // k ≤ n - 1 - i} => ⟨[.any, .ro (ints gs), .any, .any, .any, .any, .sl 0 0 i, .any, .int .i64 xs[i], .any, .any, .any, .any, .any, .any, .any, .any, .any, .any, .any, .any, .any, .any, .any, .any, .any, .any, .any, .ro (ints xs), .int .i64 n, .int .i64 i, .any, .any, .any, .any, .any, .any, .ro (ints hs), .int .i64 ((n - 1 - i : Nat) : Int), .int .i64 k.1, .any, .any, .any, .any, .any, .any, .any, .any, .any, .any, .any, .any, .any, .any, .any, .any, .any, .any], [intB (xs.take i)]⟩) (fun k => n - 1 - i - k.1) ⟨0, Nat.zero_le _⟩ ?_ ?_
    · exact weak_drop (by simp) (by simp [DropHp, ints_below, flts_below, intB, allBelow_cons, allBelow_nil, below, belowM, belowL, ints_len, hl]) (by simp [DropTm, DropV, below, belowM, belowL, intB, allBelow_cons, allBelow_nil, below, belowM, belowL, ints_len, hl])
    rintro ⟨k, hk⟩
    dsimp only
    simp only [q0, q1, q2, q3, q4, q5, q6, q7, q8, q9, zq0, zq1, zq2, zq3, guardSlot, quietA, nilC, nilA, quietB, St.ev, St.put, St.after, Nat.reduceAdd, Nat.reduceSub, List.replicate_succ, ofV, ofL, lenA, binA, intBin, fltBin, strBin, cpxBin, unA, convA, convB, convO, pickV, resL, oneA, indexA, indexS, isQuiet, loadA, loadC, storeA, fieldA, partA, sliceA, boundA, buildA, placeA, setAll, appendA, readSl, newEl, AV.cells, AV.solid, AV.one, kill, killM, killL, notInt, Int.reduceToNat, cond_true, cond_false, ↓reduceIte, reduceCtorEq, Nat.reduceLT, Nat.reduceLeDiff, Nat.reduceMul, Nat.reduceEqDiff, exists_eq', putF, implies_true, exists_true_left, tys0, tys1, tys2, tys3, und0, und1, und2, md13, Try.ntmps13, Try.results13, ints_len, dl, gl, intB, hl, tkl]
    refine br_intro (fun e => ?_) (fun e => ?_) <;> simp only [q0, q1, q2, q3, q4, q5, q6, q7, q8, q9, zq0, zq1, zq2, zq3, guardSlot, quietA, nilC, nilA, quietB, St.ev, St.put, St.after, Nat.reduceAdd, Nat.reduceSub, List.replicate_succ, ofV, ofL, lenA, binA, intBin, fltBin, strBin, cpxBin, unA, convA, convB, convO, pickV, resL, oneA, indexA, indexS, isQuiet, loadA, loadC, storeA, fieldA, partA, sliceA, boundA, buildA, placeA, setAll, appendA, readSl, newEl, AV.cells, AV.solid, AV.one, kill, killM, killL, notInt, Int.reduceToNat, cond_true, cond_false, ↓reduceIte, reduceCtorEq, Nat.reduceLT, Nat.reduceLeDiff, Nat.reduceMul, Nat.reduceEqDiff, exists_eq', putF, implies_true, exists_true_left, tys0, tys1, tys2, tys3, und0, und1, und2, md13, Try.ntmps13, Try.results13, ints_len, dl, gl, intB, hl, tkl]
    · have e : k < n - 1 - i := by have := of_decide_eq_true e; omega
      have eI : (k : Int) < ((n - 1 - i : Nat) : Int) := by omega
      have w7 : IntKind.i64.wrap ((k : Int) + 1) = ((k + 1 : Nat) : Int) := by rw [w64 (by omega) (by omega)]; omega
      simp only [q0, q1, q2, q3, q4, q5, q6, q7, q8, q9, zq0, zq1, zq2, zq3, guardSlot, quietA, nilC, nilA, quietB, St.ev, St.put, St.after, Nat.reduceAdd, Nat.reduceSub, List.replicate_succ, ofV, ofL, lenA, binA, intBin, fltBin, strBin, cpxBin, unA, convA, convB, convO, pickV, resL, oneA, indexA, indexS, isQuiet, loadA, loadC, storeA, fieldA, partA, sliceA, boundA, buildA, placeA, setAll, appendA, readSl, newEl, AV.cells, AV.solid, AV.one, kill, killM, killL, notInt, Int.reduceToNat, cond_true, cond_false, ↓reduceIte, reduceCtorEq, Nat.reduceLT, Nat.reduceLeDiff, Nat.reduceMul, Nat.reduceEqDiff, exists_eq', putF, implies_true, exists_true_left, tys0, tys1, tys2, tys3, und0, und1, und2, md13, Try.ntmps13, Try.results13, ints_len, dl, gl, intB, hl, tkl, ints_get, hg, e, eI, w5, w6]
      refine call_ret rc rfl rfl ?_
      simp only [q0, q1, q2, q3, q4, q5, q6, q7, q8, q9, zq0, zq1, zq2, zq3, guardSlot, quietA, nilC, nilA, quietB, St.ev, St.put, St.after, Nat.reduceAdd, Nat.reduceSub, List.replicate_succ, ofV, ofL, lenA, binA, intBin, fltBin, strBin, cpxBin, unA, convA, convB, convO, pickV, resL, oneA, indexA, indexS, isQuiet, loadA, loadC, storeA, fieldA, partA, sliceA, boundA, buildA, placeA, setAll, appendA, readSl, newEl, AV.cells, AV.solid, AV.one, kill, killM, killL, notInt, Int.reduceToNat, cond_true, cond_false, ↓reduceIte, reduceCtorEq, Nat.reduceLT, Nat.reduceLeDiff, Nat.reduceMul, Nat.reduceEqDiff, exists_eq', putF, implies_true, exists_true_left, tys0, tys1, tys2, tys3, und0, und1, und2, md13, Try.ntmps13, Try.results13, ints_len, dl, gl, intB, hl, tkl]
      refine call_ret ia rfl rfl ?_
      simp only [q0, q1, q2, q3, q4, q5, q6, q7, q8, q9, zq0, zq1, zq2, zq3, guardSlot, quietA, nilC, nilA, quietB, St.ev, St.put, St.after, Nat.reduceAdd, Nat.reduceSub, List.replicate_succ, ofV, ofL, lenA, binA, intBin, fltBin, strBin, cpxBin, unA, convA, convB, convO, pickV, resL, oneA, indexA, indexS, isQuiet, loadA, loadC, storeA, fieldA, partA, sliceA, boundA, buildA, placeA, setAll, appendA, readSl, newEl, AV.cells, AV.solid, AV.one, kill, killM, killL, notInt, Int.reduceToNat, cond_true, cond_false, ↓reduceIte, reduceCtorEq, Nat.reduceLT, Nat.reduceLeDiff, Nat.reduceMul, Nat.reduceEqDiff, exists_eq', putF, implies_true, exists_true_left, tys0, tys1, tys2, tys3, und0, und1, und2, md13, Try.ntmps13, Try.results13, ints_len, dl, gl, intB, hl, tkl]
      refine ⟨⟨k + 1, by omega⟩, by show n - 1 - i - (k + 1) < n - 1 - i - k; omega, ?_⟩
      show Weak 0 _ ⟨_, _⟩
      exact weak_drop (by simp) (by simp [DropHp, ints_below, flts_below, w7, intB, allBelow_cons, allBelow_nil, below, belowM, belowL]) (by simp [DropTm, DropV, below, belowM, belowL, w7, intB, allBelow_cons, allBelow_nil, below, belowM, belowL])
    · refine ⟨fun v hv => (by rw [List.mem_singleton.1 hv]; exact ⟨rfl, rfl⟩), (by unfold fits; omega), ⟨i + 1, by omega⟩, by show n - (i + 1) < n - i; omega, ?_⟩
      rw [tk, w2]
      show Weak 0 _ ⟨_, [intB (xs.take (i + 1))]⟩
      exact weak_drop (by simp) (by simp [DropHp, ints_below, flts_below, intB, allBelow_cons, allBelow_nil, below, belowM, belowL]) (by simp [DropTm, DropV, below, belowM, belowL, intB, allBelow_cons, allBelow_nil, below, belowM, belowL])
  · have g : i = n := by have := of_decide_eq_false g; omega
    subst g
    rw [show xs.take i = xs by rw [← dl]; exact List.take_length]
    exact PostR.ret
theorem sumZ_is (l : List Int) : sumZ l = sumI l := by
  induction l with
  | nil => rfl
  | cons a l ih => rw [sumI_cons, sumZ, ih]
theorem view_part (l : List Int) (a k : Nat) (h : a + k ≤ l.length) : view 2 [intB l] (.sl 0 a k) = .ro (ints ((l.drop a).take k)) := by
  rw [view_sl]
  have e : ((ints l).drop a).take k = ints ((l.drop a).take k) := by unfold ints; rw [List.map_take, List.map_drop]
  simp [intB, ints_len, h, e, map_view_ints]
theorem bestYears_call {n : Nat} {xs : List Int} (D : Pays n 20000 xs) (c : Nat) (h1 : 1 ≤ c) (h2 : c ≤ n) : CallA Try.prog 11 [.ro (ints xs), .int .i64 c] [] (Ret (.tup [.int .i64 (sumI ((sortI xs).drop (n - c)) / (c : Int)), .bool true]) []) := by
  have dl := D.len
  have n1 := D.n1
  have d8 := D.n8
  have is := isSome_call D (by omega) (c : Int) (by omega) (by omega)
  have cl := iclone_ne xs (by omega) (by omega)
  have so := sortL_call xs (by omega) 2
  have sl := sortI_len xs
  have iv : Inc ((sortI xs).drop (n - c)) := (inc_sort (D.inc (by omega))).drop _
  have tc := total_call ((sortI xs).drop (n - c)) iv (by rw [List.length_drop]; omega)
  obtain ⟨s0, s1⟩ := iv.sum
  rw [List.length_drop] at s1
  have w1 : IntKind.i64.wrap (((n : Nat) : Int) - (c : Int)) = ((n - c : Nat) : Int) := by rw [w64 (by omega) (by omega)]; omega
  have w2 : (sumI ((sortI xs).drop (n - c))).tdiv (c : Int) = sumI ((sortI xs).drop (n - c)) / (c : Int) := tdiv_nn s0
  have w3 : IntKind.i64.wrap (sumI ((sortI xs).drop (n - c)) / (c : Int)) = sumI ((sortI xs).drop (n - c)) / (c : Int) := by
    have := Int.ediv_nonneg s0 (show (0 : Int) ≤ (c : Int) by omega)
    have := Int.ediv_le_self (b := (c : Int)) s0
    exact w64 (by omega) (by omega)
  refine CallP.out (t := .mk) (go_in (md := md11) mixed Try.func11 rfl go11 (by kernel_rfl) ?_)
  simp only [q0, q1, q2, q3, q4, q5, q6, q7, q8, q9, zq0, zq1, zq2, zq3, guardSlot, quietA, nilC, nilA, quietB, St.ev, St.put, St.after, Nat.reduceAdd, Nat.reduceSub, List.replicate_succ, ofV, ofL, lenA, binA, intBin, fltBin, strBin, cpxBin, unA, convA, convB, convO, pickV, resL, oneA, indexA, indexS, isQuiet, loadA, loadC, storeA, fieldA, partA, sliceA, boundA, buildA, placeA, setAll, appendA, readSl, newEl, AV.cells, AV.solid, AV.one, kill, killM, killL, notInt, Int.reduceToNat, cond_true, cond_false, ↓reduceIte, reduceCtorEq, Nat.reduceLT, Nat.reduceLeDiff, Nat.reduceMul, Nat.reduceEqDiff, exists_eq', putF, implies_true, exists_true_left, tys0, tys1, tys2, tys3, und0, und1, und2, md11, Try.ntmps11, Try.results11]
  refine call_ret is rfl rfl ?_
  simp only [q0, q1, q2, q3, q4, q5, q6, q7, q8, q9, zq0, zq1, zq2, zq3, guardSlot, quietA, nilC, nilA, quietB, St.ev, St.put, St.after, Nat.reduceAdd, Nat.reduceSub, List.replicate_succ, ofV, ofL, lenA, binA, intBin, fltBin, strBin, cpxBin, unA, convA, convB, convO, pickV, resL, oneA, indexA, indexS, isQuiet, loadA, loadC, storeA, fieldA, partA, sliceA, boundA, buildA, placeA, setAll, appendA, readSl, newEl, AV.cells, AV.solid, AV.one, kill, killM, killL, notInt, Int.reduceToNat, cond_true, cond_false, ↓reduceIte, reduceCtorEq, Nat.reduceLT, Nat.reduceLeDiff, Nat.reduceMul, Nat.reduceEqDiff, exists_eq', putF, implies_true, exists_true_left, tys0, tys1, tys2, tys3, und0, und1, und2, md11, Try.ntmps11, Try.results11]
  refine call_new cl rfl (by simp [ints_below]) ?_
  simp only [q0, q1, q2, q3, q4, q5, q6, q7, q8, q9, zq0, zq1, zq2, zq3, guardSlot, quietA, nilC, nilA, quietB, St.ev, St.put, St.after, Nat.reduceAdd, Nat.reduceSub, List.replicate_succ, ofV, ofL, lenA, binA, intBin, fltBin, strBin, cpxBin, unA, convA, convB, convO, pickV, resL, oneA, indexA, indexS, isQuiet, loadA, loadC, storeA, fieldA, partA, sliceA, boundA, buildA, placeA, setAll, appendA, readSl, newEl, AV.cells, AV.solid, AV.one, kill, killM, killL, notInt, Int.reduceToNat, cond_true, cond_false, ↓reduceIte, reduceCtorEq, Nat.reduceLT, Nat.reduceLeDiff, Nat.reduceMul, Nat.reduceEqDiff, exists_eq', putF, implies_true, exists_true_left, tys0, tys1, tys2, tys3, und0, und1, und2, md11, Try.ntmps11, Try.results11, ren, renM, renL]
  refine call_at (so.mono ?_)
  rintro r hp ⟨rfl, rfl⟩
  simp only [q0, q1, q2, q3, q4, q5, q6, q7, q8, q9, zq0, zq1, zq2, zq3, guardSlot, quietA, nilC, nilA, quietB, St.ev, St.put, St.after, Nat.reduceAdd, Nat.reduceSub, List.replicate_succ, ofV, ofL, lenA, binA, intBin, fltBin, strBin, cpxBin, unA, convA, convB, convO, pickV, resL, oneA, indexA, indexS, isQuiet, loadA, loadC, storeA, fieldA, partA, sliceA, boundA, buildA, placeA, setAll, appendA, readSl, newEl, AV.cells, AV.solid, AV.one, kill, killM, killL, notInt, Int.reduceToNat, cond_true, cond_false, ↓reduceIte, reduceCtorEq, Nat.reduceLT, Nat.reduceLeDiff, Nat.reduceMul, Nat.reduceEqDiff, exists_eq', putF, implies_true, exists_true_left, tys0, tys1, tys2, tys3, und0, und1, und2, md11, Try.ntmps11, Try.results11, ints_len, dl, sl, w1]
  refine ⟨by omega, by omega, ?_⟩
  have vw : [AV.sl 0 (n - c) (n - (n - c))].map (view 2 [{ ty := 2, w := 1, els := ints (sortI xs) }]) = [.ro (ints ((sortI xs).drop (n - c)))] := by
    have := view_part (sortI xs) (n - c) (n - (n - c)) (by omega)
    rw [List.take_of_length_le (by rw [List.length_drop]; omega)] at this
    rw [List.map_cons, List.map_nil]
    exact congrArg (· :: []) this
  refine call_lent 2 vw tc rfl rfl ?_
  have cz : ((c : Nat) : Int) ≠ 0 := by omega
  simp only [q0, q1, q2, q3, q4, q5, q6, q7, q8, q9, zq0, zq1, zq2, zq3, guardSlot, quietA, nilC, nilA, quietB, St.ev, St.put, St.after, Nat.reduceAdd, Nat.reduceSub, List.replicate_succ, ofV, ofL, lenA, binA, intBin, fltBin, strBin, cpxBin, unA, convA, convB, convO, pickV, resL, oneA, indexA, indexS, isQuiet, loadA, loadC, storeA, fieldA, partA, sliceA, boundA, buildA, placeA, setAll, appendA, readSl, newEl, AV.cells, AV.solid, AV.one, kill, killM, killL, notInt, Int.reduceToNat, cond_true, cond_false, ↓reduceIte, reduceCtorEq, Nat.reduceLT, Nat.reduceLeDiff, Nat.reduceMul, Nat.reduceEqDiff, exists_eq', putF, implies_true, exists_true_left, tys0, tys1, tys2, tys3, und0, und1, und2, md11, Try.ntmps11, Try.results11, w2, w3]
  exact ⟨cz, PostR.pure ⟨rfl, rfl⟩ rfl⟩
def winF (xs : List Int) (c i : Nat) : Int := sumI ((xs.drop i).take c)
structure SpanIs (xs : List Int) (c i p : Nat) : Prop where
  at_ : p + c ≤ xs.length
  best : ∀ j, j < i → winF xs c j ≤ winF xs c p
  first : ∀ j, j < p → winF xs c j < winF xs c p
theorem bestSpan_call {n : Nat} {xs : List Int} (D : Pays n 20000 xs) (c : Nat) (h1 : 1 ≤ c) (h2 : c ≤ n) : ∃ p, SpanIs xs c (n - c + 1) p ∧ CallA Try.prog 12 [.ro (ints xs), .int .i64 c] [] (Ret (.tup [.int .i64 ((p : Nat) : Int), .int .i64 (winF xs c p), .bool true]) []) := by
  have dl := D.len
  have n1 := D.n1
  have d8 := D.n8
  have ex : ∀ i, i ≤ n - c + 1 → ∃ p, SpanIs xs c i p := by
    intro i
    induction i with
    | zero => intro _; exact ⟨0, by omega, fun j hj => absurd hj (by omega), fun j hj => absurd hj (by omega)⟩
    | succ i ih =>
      intro hi
      obtain ⟨p, a1, a2, a3⟩ := ih (by omega)
      by_cases e : winF xs c p < winF xs c i
      · refine ⟨i, by omega, fun j hj => ?_, fun j hj => ?_⟩
        · rcases Nat.lt_or_ge j i with hl | hl
          · have := a2 j hl; omega
          · rw [show j = i by omega]; exact Int.le_refl _
        · have := a2 j hj; omega
      · refine ⟨p, a1, fun j hj => ?_, a3⟩
        rcases Nat.lt_or_ge j i with hl | hl
        · exact a2 j hl
        · rw [show j = i by omega]; omega
  have uq : ∀ p q, SpanIs xs c (n - c + 1) p → SpanIs xs c (n - c + 1) q → p = q := by
    intro p q hp hq
    have p1 := hp.at_
    have q1 := hq.at_
    rcases Nat.lt_trichotomy p q with hl | hl | hl
    · have := hq.first p hl
      have := hp.best q (by omega)
      omega
    · exact hl
    · have := hp.first q hl
      have := hq.best p (by omega)
      omega
  obtain ⟨p0, hp0⟩ := ex (n - c + 1) (Nat.le_refl _)
  refine ⟨p0, hp0, ?_⟩
  have is := isSome_call D (by omega) (c : Int) (by omega) (by omega)
  have win : ∀ i, i + c ≤ n → CallA Try.prog 27 [.ro (ints ((xs.drop i).take c))] [] (Ret (.int .i64 (winF xs c i)) []) := fun i hi =>
    total_call _ (((D.inc (by omega)).drop i).take c) (by rw [List.length_take]; omega)
  have winb : ∀ i, 0 ≤ winF xs c i ∧ winF xs c i ≤ 8000000000 := fun i => by
    obtain ⟨s0, s1⟩ := (((D.inc (by omega)).drop i).take c).sum
    rw [List.length_take] at s1
    exact ⟨s0, by unfold winF; omega⟩
  have cut : ∀ i, (ints xs).take c = ints ((xs.drop 0).take c) ∧ (ints xs).drop i = ints (xs.drop i) := fun i => ⟨by rw [List.drop_zero]; unfold ints; rw [List.map_take], by unfold ints; rw [List.map_drop]⟩
  have wn : IntKind.i64.wrap (((n : Nat) : Int) - (c : Int)) = ((n - c : Nat) : Int) := by rw [w64 (by omega) (by omega)]; omega
  have wn2 : IntKind.i64.wrap (((n - c : Nat) : Int) + 1) = ((n - c + 1 : Nat) : Int) := by rw [w64 (by omega) (by omega)]; omega
  have w0 := win 0 (by omega)
  refine CallP.out (t := .mk) (go_in (md := md12) mixed Try.func12 rfl go12 (by kernel_rfl) ?_)
  simp only [q0, q1, q2, q3, q4, q5, q6, q7, q8, q9, zq0, zq1, zq2, zq3, guardSlot, quietA, nilC, nilA, quietB, St.ev, St.put, St.after, Nat.reduceAdd, Nat.reduceSub, List.replicate_succ, ofV, ofL, lenA, binA, intBin, fltBin, strBin, cpxBin, unA, convA, convB, convO, pickV, resL, oneA, indexA, indexS, isQuiet, loadA, loadC, storeA, fieldA, partA, sliceA, boundA, buildA, placeA, setAll, appendA, readSl, newEl, AV.cells, AV.solid, AV.one, kill, killM, killL, notInt, Int.reduceToNat, cond_true, cond_false, ↓reduceIte, reduceCtorEq, Nat.reduceLT, Nat.reduceLeDiff, Nat.reduceMul, Nat.reduceEqDiff, exists_eq', putF, implies_true, exists_true_left, tys0, tys1, tys2, tys3, und0, und1, und2, md12, Try.ntmps12, Try.results12, ints_len, dl]
  refine call_ret is rfl rfl ?_
  simp only [q0, q1, q2, q3, q4, q5, q6, q7, q8, q9, zq0, zq1, zq2, zq3, guardSlot, quietA, nilC, nilA, quietB, St.ev, St.put, St.after, Nat.reduceAdd, Nat.reduceSub, List.replicate_succ, ofV, ofL, lenA, binA, intBin, fltBin, strBin, cpxBin, unA, convA, convB, convO, pickV, resL, oneA, indexA, indexS, isQuiet, loadA, loadC, storeA, fieldA, partA, sliceA, boundA, buildA, placeA, setAll, appendA, readSl, newEl, AV.cells, AV.solid, AV.one, kill, killM, killL, notInt, Int.reduceToNat, cond_true, cond_false, ↓reduceIte, reduceCtorEq, Nat.reduceLT, Nat.reduceLeDiff, Nat.reduceMul, Nat.reduceEqDiff, exists_eq', putF, implies_true, exists_true_left, tys0, tys1, tys2, tys3, und0, und1, und2, md12, Try.ntmps12, Try.results12, ints_len, dl]
  refine ⟨Int.le_refl 0, by omega, fun v hv => (by obtain ⟨b, _, rfl⟩ := List.mem_map.1 hv; rfl), ?_⟩
  rw [(cut 0).1]
  refine call_ret w0 rfl rfl ?_
  simp only [q0, q1, q2, q3, q4, q5, q6, q7, q8, q9, zq0, zq1, zq2, zq3, guardSlot, quietA, nilC, nilA, quietB, St.ev, St.put, St.after, Nat.reduceAdd, Nat.reduceSub, List.replicate_succ, ofV, ofL, lenA, binA, intBin, fltBin, strBin, cpxBin, unA, convA, convB, convO, pickV, resL, oneA, indexA, indexS, isQuiet, loadA, loadC, storeA, fieldA, partA, sliceA, boundA, buildA, placeA, setAll, appendA, readSl, newEl, AV.cells, AV.solid, AV.one, kill, killM, killL, notInt, Int.reduceToNat, cond_true, cond_false, ↓reduceIte, reduceCtorEq, Nat.reduceLT, Nat.reduceLeDiff, Nat.reduceMul, Nat.reduceEqDiff, exists_eq', putF, implies_true, exists_true_left, tys0, tys1, tys2, tys3, und0, und1, und2, md12, Try.ntmps12, Try.results12, ints_len, dl, wn, wn2]
  refine go_round (md := md12) mixed (by kernel_rfl) (fun q : {q : Nat × Nat // q.1 ≤ n - c + 1 ∧ SpanIs xs c q.1 q.2} => ⟨[.ro (ints xs), .int .i64 c, .any, .any, .any, .any, .any, .int .i64 ((q.1.2 : Nat) : Int), .int .i64 (winF xs c q.1.2), .any, .any, .any, .any, .any, .any, .any, .any, .any, .any, .any, .any, .any, .any, .int .i64 ((n - c + 1 : Nat) : Int), .int .i64 ((q.1.1 : Nat) : Int), .any, .any, .any, .any, .any, .any, .any, .any, .any, .any, .any, .any, .any, .any, .any, .any, .any, .any, .any, .any], []⟩) (fun q => n - c + 1 - q.1.1) ⟨(0, 0), Nat.zero_le _, ⟨by show 0 + c ≤ _; omega, fun j hj => absurd hj (by show ¬ j < 0; omega), fun j hj => absurd hj (by show ¬ j < 0; omega)⟩⟩ ?_ ?_
  · exact weak_drop (by simp) (by simp [DropHp, ints_below, flts_below]) (by simp [DropTm, DropV, below, belowM, belowL])
  rintro ⟨⟨i, p⟩, hi, SP⟩
  dsimp only at hi SP ⊢
  have wp := winb p
  simp only [q0, q1, q2, q3, q4, q5, q6, q7, q8, q9, zq0, zq1, zq2, zq3, guardSlot, quietA, nilC, nilA, quietB, St.ev, St.put, St.after, Nat.reduceAdd, Nat.reduceSub, List.replicate_succ, ofV, ofL, lenA, binA, intBin, fltBin, strBin, cpxBin, unA, convA, convB, convO, pickV, resL, oneA, indexA, indexS, isQuiet, loadA, loadC, storeA, fieldA, partA, sliceA, boundA, buildA, placeA, setAll, appendA, readSl, newEl, AV.cells, AV.solid, AV.one, kill, killM, killL, notInt, Int.reduceToNat, cond_true, cond_false, ↓reduceIte, reduceCtorEq, Nat.reduceLT, Nat.reduceLeDiff, Nat.reduceMul, Nat.reduceEqDiff, exists_eq', putF, implies_true, exists_true_left, tys0, tys1, tys2, tys3, und0, und1, und2, md12, Try.ntmps12, Try.results12, ints_len, dl]
  refine br_intro (fun g => ?_) (fun g => ?_) <;> simp only [q0, q1, q2, q3, q4, q5, q6, q7, q8, q9, zq0, zq1, zq2, zq3, guardSlot, quietA, nilC, nilA, quietB, St.ev, St.put, St.after, Nat.reduceAdd, Nat.reduceSub, List.replicate_succ, ofV, ofL, lenA, binA, intBin, fltBin, strBin, cpxBin, unA, convA, convB, convO, pickV, resL, oneA, indexA, indexS, isQuiet, loadA, loadC, storeA, fieldA, partA, sliceA, boundA, buildA, placeA, setAll, appendA, readSl, newEl, AV.cells, AV.solid, AV.one, kill, killM, killL, notInt, Int.reduceToNat, cond_true, cond_false, ↓reduceIte, reduceCtorEq, Nat.reduceLT, Nat.reduceLeDiff, Nat.reduceMul, Nat.reduceEqDiff, exists_eq', putF, implies_true, exists_true_left, tys0, tys1, tys2, tys3, und0, und1, und2, md12, Try.ntmps12, Try.results12, ints_len, dl]
  · have g : i < n - c + 1 := by have := of_decide_eq_true g; omega
    have wi := win i (by omega)
    have w1 : IntKind.i64.wrap ((i : Int) + (c : Int)) = ((i + c : Nat) : Int) := by rw [w64 (by omega) (by omega)]; omega
    have w2 : IntKind.i64.wrap ((i : Int) + 1) = ((i + 1 : Nat) : Int) := by rw [w64 (by omega) (by omega)]; omega
    have tk : ((ints xs).take (i + c)).drop i = ints ((xs.drop i).take c) := by
      rw [List.drop_take, show i + c - i = c by omega]
      unfold ints
      rw [List.map_take, List.map_drop]
    simp only [q0, q1, q2, q3, q4, q5, q6, q7, q8, q9, zq0, zq1, zq2, zq3, guardSlot, quietA, nilC, nilA, quietB, St.ev, St.put, St.after, Nat.reduceAdd, Nat.reduceSub, List.replicate_succ, ofV, ofL, lenA, binA, intBin, fltBin, strBin, cpxBin, unA, convA, convB, convO, pickV, resL, oneA, indexA, indexS, isQuiet, loadA, loadC, storeA, fieldA, partA, sliceA, boundA, buildA, placeA, setAll, appendA, readSl, newEl, AV.cells, AV.solid, AV.one, kill, killM, killL, notInt, Int.reduceToNat, cond_true, cond_false, ↓reduceIte, reduceCtorEq, Nat.reduceLT, Nat.reduceLeDiff, Nat.reduceMul, Nat.reduceEqDiff, exists_eq', putF, implies_true, exists_true_left, tys0, tys1, tys2, tys3, und0, und1, und2, md12, Try.ntmps12, Try.results12, ints_len, dl, w1]
    refine ⟨by omega, by omega, fun v hv => (by obtain ⟨b, _, rfl⟩ := List.mem_map.1 hv; rfl), ?_⟩
    rw [tk]
    refine call_ret wi rfl rfl ?_
    simp only [q0, q1, q2, q3, q4, q5, q6, q7, q8, q9, zq0, zq1, zq2, zq3, guardSlot, quietA, nilC, nilA, quietB, St.ev, St.put, St.after, Nat.reduceAdd, Nat.reduceSub, List.replicate_succ, ofV, ofL, lenA, binA, intBin, fltBin, strBin, cpxBin, unA, convA, convB, convO, pickV, resL, oneA, indexA, indexS, isQuiet, loadA, loadC, storeA, fieldA, partA, sliceA, boundA, buildA, placeA, setAll, appendA, readSl, newEl, AV.cells, AV.solid, AV.one, kill, killM, killL, notInt, Int.reduceToNat, cond_true, cond_false, ↓reduceIte, reduceCtorEq, Nat.reduceLT, Nat.reduceLeDiff, Nat.reduceMul, Nat.reduceEqDiff, exists_eq', putF, implies_true, exists_true_left, tys0, tys1, tys2, tys3, und0, und1, und2, md12, Try.ntmps12, Try.results12, ints_len, dl]
    refine br_intro (fun e => ?_) (fun e => ?_) <;> simp only [q0, q1, q2, q3, q4, q5, q6, q7, q8, q9, zq0, zq1, zq2, zq3, guardSlot, quietA, nilC, nilA, quietB, St.ev, St.put, St.after, Nat.reduceAdd, Nat.reduceSub, List.replicate_succ, ofV, ofL, lenA, binA, intBin, fltBin, strBin, cpxBin, unA, convA, convB, convO, pickV, resL, oneA, indexA, indexS, isQuiet, loadA, loadC, storeA, fieldA, partA, sliceA, boundA, buildA, placeA, setAll, appendA, readSl, newEl, AV.cells, AV.solid, AV.one, kill, killM, killL, notInt, Int.reduceToNat, cond_true, cond_false, ↓reduceIte, reduceCtorEq, Nat.reduceLT, Nat.reduceLeDiff, Nat.reduceMul, Nat.reduceEqDiff, exists_eq', putF, implies_true, exists_true_left, tys0, tys1, tys2, tys3, und0, und1, und2, md12, Try.ntmps12, Try.results12, ints_len, dl, w2]
    · have e : winF xs c p < winF xs c i := by have := of_decide_eq_true e; omega
      refine ⟨⟨(i + 1, i), by show i + 1 ≤ n - c + 1; omega, ⟨by show i + c ≤ _; omega, fun j hj => ?_, fun j hj => ?_⟩⟩, by show n - c + 1 - (i + 1) < n - c + 1 - i; omega, ?_⟩
      · have hj : j < i + 1 := hj
        rcases Nat.lt_or_ge j i with hl | hl
        · have := SP.best j hl; show winF xs c j ≤ winF xs c i; omega
        · rw [show j = i by omega]; exact Int.le_refl _
      · have := SP.best j hj; show winF xs c j < winF xs c i; omega
      exact weak_drop (by simp) (by simp [DropHp, ints_below, flts_below]) (by simp [DropTm, DropV, below, belowM, belowL])
    · have e : winF xs c i ≤ winF xs c p := by have := of_decide_eq_false e; omega
      refine ⟨⟨(i + 1, p), by show i + 1 ≤ n - c + 1; omega, ⟨SP.at_, fun j hj => ?_, SP.first⟩⟩, by show n - c + 1 - (i + 1) < n - c + 1 - i; omega, ?_⟩
      · have hj : j < i + 1 := hj
        rcases Nat.lt_or_ge j i with hl | hl
        · exact SP.best j hl
        · rw [show j = i by omega]; exact e
      exact weak_drop (by simp) (by simp [DropHp, ints_below, flts_below]) (by simp [DropTm, DropV, below, belowM, belowL])
  · have g : i = n - c + 1 := by have := of_decide_eq_false g; omega
    subst g
    have e := uq p p0 SP hp0
    subst e
    have ia := isAmount_call (winF xs c p)
    rw [inR_yes (by omega) (by omega)] at ia
    refine call_ret ia rfl rfl ?_
    simp only [q0, q1, q2, q3, q4, q5, q6, q7, q8, q9, zq0, zq1, zq2, zq3, guardSlot, quietA, nilC, nilA, quietB, St.ev, St.put, St.after, Nat.reduceAdd, Nat.reduceSub, List.replicate_succ, ofV, ofL, lenA, binA, intBin, fltBin, strBin, cpxBin, unA, convA, convB, convO, pickV, resL, oneA, indexA, indexS, isQuiet, loadA, loadC, storeA, fieldA, partA, sliceA, boundA, buildA, placeA, setAll, appendA, readSl, newEl, AV.cells, AV.solid, AV.one, kill, killM, killL, notInt, Int.reduceToNat, cond_true, cond_false, ↓reduceIte, reduceCtorEq, Nat.reduceLT, Nat.reduceLeDiff, Nat.reduceMul, Nat.reduceEqDiff, exists_eq', putF, implies_true, exists_true_left, tys0, tys1, tys2, tys3, und0, und1, und2, md12, Try.ntmps12, Try.results12, ints_len, dl]
    exact PostR.pure ⟨rfl, rfl⟩ rfl
end Go.Proofs.Ytadbddlekinkpaa
