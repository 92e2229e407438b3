/- Points that are split: the program's SplitPoints. -/
import Derived.Test.YtadbddlekinkpaaCaG
set_option maxRecDepth 10000
set_option maxHeartbeats 8000000
set_option linter.unusedSimpArgs false
set_option linter.unusedVariables false
namespace Go.Proofs.Ytadbddlekinkpaa
open Go Go.Abs

def halfF (x y : Int) : Int := if x > y then -(mx (x - y) (y - x) / 2) else mx (x - y) (y - x) / 2
def spl1 (xs ys : List Int) (f i : Nat) : List Int := (List.range xs.length).map fun j => if f ≤ j ∧ j < i then xs.getD j 0 + halfF (xs.getD j 0) (ys.getD j 0) else xs.getD j 0
def spl2 (xs ys : List Int) (f i : Nat) : List Int := (List.range ys.length).map fun j => if f ≤ j ∧ j < i then ys.getD j 0 - halfF (xs.getD j 0) (ys.getD j 0) else ys.getD j 0
theorem spl1_len (xs ys : List Int) (f i : Nat) : (spl1 xs ys f i).length = xs.length := by simp [spl1]
theorem spl2_len (xs ys : List Int) (f i : Nat) : (spl2 xs ys f i).length = ys.length := by simp [spl2]
theorem spl1_get (xs ys : List Int) (f i j : Nat) (h : j < (spl1 xs ys f i).length) : (spl1 xs ys f i)[j] = if f ≤ j ∧ j < i then xs.getD j 0 + halfF (xs.getD j 0) (ys.getD j 0) else xs.getD j 0 := by simp [spl1]
theorem spl2_get (xs ys : List Int) (f i j : Nat) (h : j < (spl2 xs ys f i).length) : (spl2 xs ys f i)[j] = if f ≤ j ∧ j < i then ys.getD j 0 - halfF (xs.getD j 0) (ys.getD j 0) else ys.getD j 0 := by simp [spl2]
theorem spl1_set (xs ys : List Int) (f i : Nat) (hf : f ≤ i) : (spl1 xs ys f i).set i (xs.getD i 0 + halfF (xs.getD i 0) (ys.getD i 0)) = spl1 xs ys f (i + 1) := by
  refine List.ext_getElem (by simp [spl1]) fun j h1 h2 => ?_
  rw [List.getElem_set, spl1_get, spl1_get]
  by_cases e : i = j
  · subst e; rw [if_pos rfl, if_pos (by omega)]
  · rw [if_neg e]
    by_cases e2 : f ≤ j ∧ j < i
    · rw [if_pos e2, if_pos (by omega)]
    · rw [if_neg e2, if_neg (by omega)]
theorem spl2_set (xs ys : List Int) (f i : Nat) (hf : f ≤ i) : (spl2 xs ys f i).set i (ys.getD i 0 - halfF (xs.getD i 0) (ys.getD i 0)) = spl2 xs ys f (i + 1) := by
  refine List.ext_getElem (by simp [spl2]) fun j h1 h2 => ?_
  rw [List.getElem_set, spl2_get, spl2_get]
  by_cases e : i = j
  · subst e; rw [if_pos rfl, if_pos (by omega)]
  · rw [if_neg e]
    by_cases e2 : f ≤ j ∧ j < i
    · rw [if_pos e2, if_pos (by omega)]
    · rw [if_neg e2, if_neg (by omega)]
theorem spl1_none (xs ys : List Int) (f : Nat) : spl1 xs ys f f = xs := by
  refine List.ext_getElem (by simp [spl1]) fun j h1 h2 => ?_
  rw [spl1_get, if_neg (by omega), getD_is _ _ h2]
theorem spl2_none (xs ys : List Int) (f : Nat) : spl2 xs ys f f = ys := by
  refine List.ext_getElem (by simp [spl2]) fun j h1 h2 => ?_
  rw [spl2_get, if_neg (by omega), getD_is _ _ h2]
theorem splitPoints_call {n : Nat} {xs ys : List Int} (D : Pays n 20000 xs) (E : Pays n 20000 ys) (f t : Nat) (h1 : f ≤ t) (h2 : t ≤ n) : CallA Try.prog 10 [.ro (ints xs), .ro (ints ys), .int .i64 f, .int .i64 t] [] (Ret (.tup [.ro (ints (spl1 xs ys f t)), .ro (ints (spl2 xs ys f t)), .bool true]) []) := by
  have dl := D.len
  have el := E.len
  have n1 := D.n1
  have d8 := D.n8
  have ap := arePoints_call D (by omega)
  have aq := arePoints_call E (by omega)
  have w1 := within_call (t : Int) 0 ((n : Nat) : Int)
  have w2 := within_call (f : Int) 0 (t : Int)
  rw [inR_yes (by omega) (by omega)] at w1 w2
  have bn : (((n : Nat) : Int) != ((n : Nat) : Int)) = false := bne_self_eq_false _
  have cx := iclone_ne xs (by omega) (by omega)
  have cy := iclone_ne ys (by omega) (by omega)
  have main : CallA Try.prog 10 [.ro (ints xs), .ro (ints ys), .int .i64 f, .int .i64 t] [] (Ret (.tup [.sl 0 0 n, .sl 1 0 n, .bool true]) [intB (spl1 xs ys f t), intB (spl2 xs ys f t)]) := by
    refine CallP.out (t := .mk) (go_in (md := md10) mixed Try.func10 rfl go10 (by kernel_rfl) ?_)
    simp only [q0, q1, q2, q3, q4, q5, q6, q7, q8, q9, zq0, zq1, zq2, zq3, guardSlot, quietA, nilC, nilA, quietB, St.ev, St.put, St.after, Nat.reduceAdd, Nat.reduceSub, List.replicate_succ, ofV, ofL, lenA, binA, intBin, fltBin, strBin, cpxBin, unA, convA, convB, convO, pickV, resL, oneA, indexA, indexS, isQuiet, loadA, loadC, storeA, fieldA, partA, sliceA, boundA, buildA, placeA, setAll, appendA, readSl, newEl, AV.cells, AV.solid, AV.one, kill, killM, killL, notInt, Int.reduceToNat, cond_true, cond_false, ↓reduceIte, reduceCtorEq, Nat.reduceLT, Nat.reduceLeDiff, Nat.reduceMul, Nat.reduceEqDiff, exists_eq', putF, implies_true, exists_true_left, tys0, tys1, tys2, tys3, und0, und1, und2, md10, Try.ntmps10, Try.results10, ints_len, dl, el]
    refine call_ret ap rfl rfl ?_
    simp only [q0, q1, q2, q3, q4, q5, q6, q7, q8, q9, zq0, zq1, zq2, zq3, guardSlot, quietA, nilC, nilA, quietB, St.ev, St.put, St.after, Nat.reduceAdd, Nat.reduceSub, List.replicate_succ, ofV, ofL, lenA, binA, intBin, fltBin, strBin, cpxBin, unA, convA, convB, convO, pickV, resL, oneA, indexA, indexS, isQuiet, loadA, loadC, storeA, fieldA, partA, sliceA, boundA, buildA, placeA, setAll, appendA, readSl, newEl, AV.cells, AV.solid, AV.one, kill, killM, killL, notInt, Int.reduceToNat, cond_true, cond_false, ↓reduceIte, reduceCtorEq, Nat.reduceLT, Nat.reduceLeDiff, Nat.reduceMul, Nat.reduceEqDiff, exists_eq', putF, implies_true, exists_true_left, tys0, tys1, tys2, tys3, und0, und1, und2, md10, Try.ntmps10, Try.results10, ints_len, dl, el]
    refine call_ret aq rfl rfl ?_
    simp only [q0, q1, q2, q3, q4, q5, q6, q7, q8, q9, zq0, zq1, zq2, zq3, guardSlot, quietA, nilC, nilA, quietB, St.ev, St.put, St.after, Nat.reduceAdd, Nat.reduceSub, List.replicate_succ, ofV, ofL, lenA, binA, intBin, fltBin, strBin, cpxBin, unA, convA, convB, convO, pickV, resL, oneA, indexA, indexS, isQuiet, loadA, loadC, storeA, fieldA, partA, sliceA, boundA, buildA, placeA, setAll, appendA, readSl, newEl, AV.cells, AV.solid, AV.one, kill, killM, killL, notInt, Int.reduceToNat, cond_true, cond_false, ↓reduceIte, reduceCtorEq, Nat.reduceLT, Nat.reduceLeDiff, Nat.reduceMul, Nat.reduceEqDiff, exists_eq', putF, implies_true, exists_true_left, tys0, tys1, tys2, tys3, und0, und1, und2, md10, Try.ntmps10, Try.results10, ints_len, dl, el, bn]
    refine call_ret w1 rfl rfl ?_
    simp only [q0, q1, q2, q3, q4, q5, q6, q7, q8, q9, zq0, zq1, zq2, zq3, guardSlot, quietA, nilC, nilA, quietB, St.ev, St.put, St.after, Nat.reduceAdd, Nat.reduceSub, List.replicate_succ, ofV, ofL, lenA, binA, intBin, fltBin, strBin, cpxBin, unA, convA, convB, convO, pickV, resL, oneA, indexA, indexS, isQuiet, loadA, loadC, storeA, fieldA, partA, sliceA, boundA, buildA, placeA, setAll, appendA, readSl, newEl, AV.cells, AV.solid, AV.one, kill, killM, killL, notInt, Int.reduceToNat, cond_true, cond_false, ↓reduceIte, reduceCtorEq, Nat.reduceLT, Nat.reduceLeDiff, Nat.reduceMul, Nat.reduceEqDiff, exists_eq', putF, implies_true, exists_true_left, tys0, tys1, tys2, tys3, und0, und1, und2, md10, Try.ntmps10, Try.results10, ints_len, dl, el, bn]
    refine call_ret w2 rfl rfl ?_
    simp only [q0, q1, q2, q3, q4, q5, q6, q7, q8, q9, zq0, zq1, zq2, zq3, guardSlot, quietA, nilC, nilA, quietB, St.ev, St.put, St.after, Nat.reduceAdd, Nat.reduceSub, List.replicate_succ, ofV, ofL, lenA, binA, intBin, fltBin, strBin, cpxBin, unA, convA, convB, convO, pickV, resL, oneA, indexA, indexS, isQuiet, loadA, loadC, storeA, fieldA, partA, sliceA, boundA, buildA, placeA, setAll, appendA, readSl, newEl, AV.cells, AV.solid, AV.one, kill, killM, killL, notInt, Int.reduceToNat, cond_true, cond_false, ↓reduceIte, reduceCtorEq, Nat.reduceLT, Nat.reduceLeDiff, Nat.reduceMul, Nat.reduceEqDiff, exists_eq', putF, implies_true, exists_true_left, tys0, tys1, tys2, tys3, und0, und1, und2, md10, Try.ntmps10, Try.results10, ints_len, dl, el, bn]
    refine call_new cx rfl (by simp [ints_below]) ?_
    simp only [q0, q1, q2, q3, q4, q5, q6, q7, q8, q9, zq0, zq1, zq2, zq3, guardSlot, quietA, nilC, nilA, quietB, St.ev, St.put, St.after, Nat.reduceAdd, Nat.reduceSub, List.replicate_succ, ofV, ofL, lenA, binA, intBin, fltBin, strBin, cpxBin, unA, convA, convB, convO, pickV, resL, oneA, indexA, indexS, isQuiet, loadA, loadC, storeA, fieldA, partA, sliceA, boundA, buildA, placeA, setAll, appendA, readSl, newEl, AV.cells, AV.solid, AV.one, kill, killM, killL, notInt, Int.reduceToNat, cond_true, cond_false, ↓reduceIte, reduceCtorEq, Nat.reduceLT, Nat.reduceLeDiff, Nat.reduceMul, Nat.reduceEqDiff, exists_eq', putF, implies_true, exists_true_left, tys0, tys1, tys2, tys3, und0, und1, und2, md10, Try.ntmps10, Try.results10, ren, renM, renL, dl, el]
    refine call_new cy rfl (by simp [ints_below]) ?_
    simp only [q0, q1, q2, q3, q4, q5, q6, q7, q8, q9, zq0, zq1, zq2, zq3, guardSlot, quietA, nilC, nilA, quietB, St.ev, St.put, St.after, Nat.reduceAdd, Nat.reduceSub, List.replicate_succ, ofV, ofL, lenA, binA, intBin, fltBin, strBin, cpxBin, unA, convA, convB, convO, pickV, resL, oneA, indexA, indexS, isQuiet, loadA, loadC, storeA, fieldA, partA, sliceA, boundA, buildA, placeA, setAll, appendA, readSl, newEl, AV.cells, AV.solid, AV.one, kill, killM, killL, notInt, Int.reduceToNat, cond_true, cond_false, ↓reduceIte, reduceCtorEq, Nat.reduceLT, Nat.reduceLeDiff, Nat.reduceMul, Nat.reduceEqDiff, exists_eq', putF, implies_true, exists_true_left, tys0, tys1, tys2, tys3, und0, und1, und2, md10, Try.ntmps10, Try.results10, ren, renM, renL, dl, el]
    refine go_round (md := md10) mixed (by kernel_rfl) (fun i : {i : Nat // f ≤ i ∧ i ≤ t} => ⟨[.any, .any, .any, .int .i64 t, .any, .any, .any, .any, .any, .any, .any, .sl 0 0 n, .sl 1 0 n, .int .i64 i.1, .any, .any, .any, .any, .any, .any, .any, .any, .any, .any, .any, .any, .any, .any, .any, .any, .any, .any, .any, .any, .any, .any, .any, .any, .any, .any, .any, .any, .any, .any, .any, .any, .any, .any, .any, .any, .any, .any, .any, .any, .any, .any, .any, .any, .any, .any, .any, .any, .any, .any, .any, .any, .any, .any, .any, .any, .any, .any, .any, .any, .any, .any, .any, .any, .any, .any, .any, .any, .any, .any, .any, .any, .any, .any, .any, .any, .any, .any, .any, .any, .any, .any, .any, .any, .any, .any], [intB (spl1 xs ys f i.1), intB (spl2 xs ys f i.1)]⟩) (fun i => t - i.1) ⟨f, Nat.le_refl _, h1⟩ ?_ ?_
    · exact weak_drop (by simp) (by simp [DropHp, ints_below, flts_below, intB, spl1_none, spl2_none, allBelow_cons, allBelow_nil, below, belowM, belowL]) (by simp [DropTm, DropV, below, belowM, belowL, intB, spl1_none, spl2_none, allBelow_cons, allBelow_nil, below, belowM, belowL])
    rintro ⟨i, hi1, hi2⟩
    dsimp only
    simp only [q0, q1, q2, q3, q4, q5, q6, q7, q8, q9, zq0, zq1, zq2, zq3, guardSlot, quietA, nilC, nilA, quietB, St.ev, St.put, St.after, Nat.reduceAdd, Nat.reduceSub, List.replicate_succ, ofV, ofL, lenA, binA, intBin, fltBin, strBin, cpxBin, unA, convA, convB, convO, pickV, resL, oneA, indexA, indexS, isQuiet, loadA, loadC, storeA, fieldA, partA, sliceA, boundA, buildA, placeA, setAll, appendA, readSl, newEl, AV.cells, AV.solid, AV.one, kill, killM, killL, notInt, Int.reduceToNat, cond_true, cond_false, ↓reduceIte, reduceCtorEq, Nat.reduceLT, Nat.reduceLeDiff, Nat.reduceMul, Nat.reduceEqDiff, exists_eq', putF, implies_true, exists_true_left, tys0, tys1, tys2, tys3, und0, und1, und2, md10, Try.ntmps10, Try.results10, ints_len, spl1_len, spl2_len, dl, el, intB]
    refine br_intro (fun g => ?_) (fun g => ?_) <;> simp only [q0, q1, q2, q3, q4, q5, q6, q7, q8, q9, zq0, zq1, zq2, zq3, guardSlot, quietA, nilC, nilA, quietB, St.ev, St.put, St.after, Nat.reduceAdd, Nat.reduceSub, List.replicate_succ, ofV, ofL, lenA, binA, intBin, fltBin, strBin, cpxBin, unA, convA, convB, convO, pickV, resL, oneA, indexA, indexS, isQuiet, loadA, loadC, storeA, fieldA, partA, sliceA, boundA, buildA, placeA, setAll, appendA, readSl, newEl, AV.cells, AV.solid, AV.one, kill, killM, killL, notInt, Int.reduceToNat, cond_true, cond_false, ↓reduceIte, reduceCtorEq, Nat.reduceLT, Nat.reduceLeDiff, Nat.reduceMul, Nat.reduceEqDiff, exists_eq', putF, implies_true, exists_true_left, tys0, tys1, tys2, tys3, und0, und1, und2, md10, Try.ntmps10, Try.results10, ints_len, spl1_len, spl2_len, dl, el, intB]
    · have g : i < t := by have := of_decide_eq_true g; omega
      have gx : i < xs.length := by omega
      have gy : i < ys.length := by omega
      have gn : i < n := by omega
      have gI : (i : Int) < ((n : Nat) : Int) := by omega
      have bx := D.ok _ (List.getElem_mem gx)
      have by' := E.ok _ (List.getElem_mem gy)
      have E1 : ∀ h, (spl1 xs ys f i)[i]'h = xs[i] := fun h => by rw [spl1_get, if_neg (by omega), getD_is _ _ gx]
      have E2 : ∀ h, (spl2 xs ys f i)[i]'h = ys[i] := fun h => by rw [spl2_get, if_neg (by omega), getD_is _ _ gy]
      have s1 := spl1_set xs ys f i hi1
      have s2 := spl2_set xs ys f i hi1
      rw [getD_is _ _ gx, getD_is _ _ gy] at s1 s2
      generalize xs[i] = X at bx E1 s1 s2
      generalize ys[i] = Y at by' E2 s1 s2
      have u1 : IntKind.i64.wrap (X - Y) = X - Y := w64 (by omega) (by omega)
      have u2 : IntKind.i64.wrap (Y - X) = Y - X := w64 (by omega) (by omega)
      have em : (if Y - X > X - Y then Y - X else X - Y) = mx (X - Y) (Y - X) := rfl
      have mb : 0 ≤ mx (X - Y) (Y - X) ∧ mx (X - Y) (Y - X) ≤ 20000 := by unfold mx; split <;> omega
      have eh : halfF X Y = if X > Y then -(mx (X - Y) (Y - X) / 2) else mx (X - Y) (Y - X) / 2 := rfl
      generalize mx (X - Y) (Y - X) = M at em mb eh
      have u3 : M.tdiv 2 = M / 2 := tdiv_nn mb.1
      have u4 : IntKind.i64.wrap (M / 2) = M / 2 := w64 (by omega) (by omega)
      have u5 : IntKind.i64.wrap (0 - M / 2) = -(M / 2) := by rw [w64 (by omega) (by omega)]; omega
      have u6 : IntKind.i64.wrap ((i : Int) + 1) = ((i + 1 : Nat) : Int) := by rw [w64 (by omega) (by omega)]; omega
      simp only [q0, q1, q2, q3, q4, q5, q6, q7, q8, q9, zq0, zq1, zq2, zq3, guardSlot, quietA, nilC, nilA, quietB, St.ev, St.put, St.after, Nat.reduceAdd, Nat.reduceSub, List.replicate_succ, ofV, ofL, lenA, binA, intBin, fltBin, strBin, cpxBin, unA, convA, convB, convO, pickV, resL, oneA, indexA, indexS, isQuiet, loadA, loadC, storeA, fieldA, partA, sliceA, boundA, buildA, placeA, setAll, appendA, readSl, newEl, AV.cells, AV.solid, AV.one, kill, killM, killL, notInt, Int.reduceToNat, cond_true, cond_false, ↓reduceIte, reduceCtorEq, Nat.reduceLT, Nat.reduceLeDiff, Nat.reduceMul, Nat.reduceEqDiff, exists_eq', putF, implies_true, exists_true_left, tys0, tys1, tys2, tys3, und0, und1, und2, md10, Try.ntmps10, Try.results10, ints_len, spl1_len, spl2_len, dl, el, intB, ints_get, E1, E2, gn, gI, u1, u2, maxA, em, u3, u4]
      refine ⟨by decide, ?_⟩
      refine br_intro (fun q => ?_) (fun q => ?_)
      · have q : X > Y := by have := of_decide_eq_true q; omega
        rw [if_pos q] at eh
        rw [eh] at s1 s2
        have u7 : IntKind.i64.wrap (X + -(M / 2)) = X + -(M / 2) := w64 (by omega) (by omega)
        have u8 : IntKind.i64.wrap (Y - -(M / 2)) = Y - -(M / 2) := w64 (by omega) (by omega)
        simp only [q0, q1, q2, q3, q4, q5, q6, q7, q8, q9, zq0, zq1, zq2, zq3, guardSlot, quietA, nilC, nilA, quietB, St.ev, St.put, St.after, Nat.reduceAdd, Nat.reduceSub, List.replicate_succ, ofV, ofL, lenA, binA, intBin, fltBin, strBin, cpxBin, unA, convA, convB, convO, pickV, resL, oneA, indexA, indexS, isQuiet, loadA, loadC, storeA, fieldA, partA, sliceA, boundA, buildA, placeA, setAll, appendA, readSl, newEl, AV.cells, AV.solid, AV.one, kill, killM, killL, notInt, Int.reduceToNat, cond_true, cond_false, ↓reduceIte, reduceCtorEq, Nat.reduceLT, Nat.reduceLeDiff, Nat.reduceMul, Nat.reduceEqDiff, exists_eq', putF, implies_true, exists_true_left, tys0, tys1, tys2, tys3, und0, und1, und2, md10, Try.ntmps10, Try.results10, ints_len, spl1_len, spl2_len, dl, el, intB, ints_get, E1, E2, gn, gI, u1, u2, maxA, em, u3, u4, u5, u7, u8, List.length_set, ints_set]
        refine ⟨⟨i + 1, by omega, by omega⟩, by show t - (i + 1) < t - i; omega, ?_⟩
        rw [s1, s2, u6]
        show Weak 0 _ ⟨_, [intB (spl1 xs ys f (i + 1)), intB (spl2 xs ys f (i + 1))]⟩
        exact weak_drop (by simp) (by simp [DropHp, ints_below, flts_below, intB, allBelow_cons, allBelow_nil, below, belowM, belowL]) (by simp [DropTm, DropV, below, belowM, belowL, intB, allBelow_cons, allBelow_nil, below, belowM, belowL])
      · have q : ¬ X > Y := by have := of_decide_eq_false q; omega
        rw [if_neg q] at eh
        rw [eh] at s1 s2
        have u7 : IntKind.i64.wrap (X + M / 2) = X + M / 2 := w64 (by omega) (by omega)
        have u8 : IntKind.i64.wrap (Y - M / 2) = Y - M / 2 := w64 (by omega) (by omega)
        simp only [q0, q1, q2, q3, q4, q5, q6, q7, q8, q9, zq0, zq1, zq2, zq3, guardSlot, quietA, nilC, nilA, quietB, St.ev, St.put, St.after, Nat.reduceAdd, Nat.reduceSub, List.replicate_succ, ofV, ofL, lenA, binA, intBin, fltBin, strBin, cpxBin, unA, convA, convB, convO, pickV, resL, oneA, indexA, indexS, isQuiet, loadA, loadC, storeA, fieldA, partA, sliceA, boundA, buildA, placeA, setAll, appendA, readSl, newEl, AV.cells, AV.solid, AV.one, kill, killM, killL, notInt, Int.reduceToNat, cond_true, cond_false, ↓reduceIte, reduceCtorEq, Nat.reduceLT, Nat.reduceLeDiff, Nat.reduceMul, Nat.reduceEqDiff, exists_eq', putF, implies_true, exists_true_left, tys0, tys1, tys2, tys3, und0, und1, und2, md10, Try.ntmps10, Try.results10, ints_len, spl1_len, spl2_len, dl, el, intB, ints_get, E1, E2, gn, gI, u1, u2, maxA, em, u3, u4, u5, u7, u8, List.length_set, ints_set]
        refine ⟨⟨i + 1, by omega, by omega⟩, by show t - (i + 1) < t - i; omega, ?_⟩
        rw [s1, s2, u6]
        show Weak 0 _ ⟨_, [intB (spl1 xs ys f (i + 1)), intB (spl2 xs ys f (i + 1))]⟩
        exact weak_drop (by simp) (by simp [DropHp, ints_below, flts_below, intB, allBelow_cons, allBelow_nil, below, belowM, belowL]) (by simp [DropTm, DropV, below, belowM, belowL, intB, allBelow_cons, allBelow_nil, below, belowM, belowL])
    · have g : i = t := by have := of_decide_eq_false g; omega
      subst g
      exact PostR.ret
  refine main.frozen 3 ?_
  have l1 := spl1_len xs ys f t
  have l2 := spl2_len xs ys f t
  rw [view_tup, List.map_cons, List.map_cons, List.map_cons, List.map_nil, view_sl, view_sl, view_bool]
  generalize spl1 xs ys f t = a at l1
  generalize spl2 xs ys f t = b at l2
  have ta : (ints a).take n = ints a := List.take_of_length_le (by rw [ints_len]; omega)
  have tb : (ints b).take n = ints b := List.take_of_length_le (by rw [ints_len]; omega)
  simp [intB, ints_len, map_view_ints, l1, l2, dl, el, ta, tb]
end Go.Proofs.Ytadbddlekinkpaa
