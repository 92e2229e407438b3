/- Losses that are carried: the reference. -/
import Derived.Test.YtimnfechlomkpaaPdK
set_option maxRecDepth 10000
set_option maxHeartbeats 8000000
set_option linter.unusedSimpArgs false
set_option linter.unusedVariables false
namespace Go.Proofs.Ytimnfechlomkpaa
open Go Go.Abs

theorem l00Max_call (a b : Int) : CallA Try.prog 36 [.int .i64 a, .int .i64 b] [] (Ret (.int .i64 (max a b)) []) := by
  refine CallP.out (t := .mk) (go_in (md := md36) mixed Try.func36 rfl go36 (by kernel_rfl) ?_)
  simp only [q0, q1, q2, q3, q4, q5, q6, q7, q8, q9, zq0, zq1, zq2, zq3, zq4, guardSlot, quietA, nilC, nilA, quietB, St.ev, St.put, St.after, Nat.reduceAdd, Nat.reduceSub, ofV, ofL, lenA, binA, intBin, fltBin, strBin, cpxBin, unA, convA, convB, convO, pickV, resL, oneA, indexA, indexS, isQuiet, loadA, loadC, storeA, fieldA, partA, sliceA, boundA, buildA, placeA, setAll, appendA, readSl, newEl, AV.cells, AV.solid, AV.one, kill, killM, killL, notInt, Int.reduceToNat, cond_true, cond_false, ↓reduceIte, reduceCtorEq, Nat.reduceLT, Nat.reduceLeDiff, Nat.reduceMul, Nat.reduceEqDiff, exists_eq', putF, implies_true, exists_true_left, tys0, tys1, tys2, tys3, und0, und1, und2, md36, Try.ntmps36, Try.results36]
  refine br_intro (fun h => ?_) (fun h => ?_) <;> simp only [q0, q1, q2, q3, q4, q5, q6, q7, q8, q9, zq0, zq1, zq2, zq3, zq4, guardSlot, quietA, nilC, nilA, quietB, St.ev, St.put, St.after, Nat.reduceAdd, Nat.reduceSub, ofV, ofL, lenA, binA, intBin, fltBin, strBin, cpxBin, unA, convA, convB, convO, pickV, resL, oneA, indexA, indexS, isQuiet, loadA, loadC, storeA, fieldA, partA, sliceA, boundA, buildA, placeA, setAll, appendA, readSl, newEl, AV.cells, AV.solid, AV.one, kill, killM, killL, notInt, Int.reduceToNat, cond_true, cond_false, ↓reduceIte, reduceCtorEq, Nat.reduceLT, Nat.reduceLeDiff, Nat.reduceMul, Nat.reduceEqDiff, exists_eq', putF, implies_true, exists_true_left, tys0, tys1, tys2, tys3, und0, und1, und2, md36, Try.ntmps36, Try.results36]
  · have h' := of_decide_eq_true h
    exact PostR.pure ⟨by congr 1; omega, rfl⟩ rfl
  · have h' := of_decide_eq_false h
    exact PostR.pure ⟨by congr 1; omega, rfl⟩ rfl
theorem specCarry_call {X : List Int} (h1 : 1 ≤ X.length) (h8 : X.length ≤ 8) (hX : ∀ j, -1000 ≤ X.getD j 0 ∧ X.getD j 0 ≤ 1000) (b o : Nat) (hb : b ≤ 3) (ho : o ≤ 24) :
    CallA Try.prog 13 [.ro (ints X), .int .i64 (b : Int), .int .i64 (o : Int)] [] (Ret (.tup [.sl 0 0 X.length, .sl 1 0 X.length, .bool true]) [intB (rowsC X.length b o X.length (car0 X)).1, intB (rowsC X.length b o X.length (car0 X)).2]) := by
  refine CallP.out (t := .mk) (go_in (md := md13) mixed Try.func13 rfl go13 (by kernel_rfl) ?_)
  simp only [q0, q1, q2, q3, q4, q5, q6, q7, q8, q9, zq0, zq1, zq2, zq3, zq4, guardSlot, quietA, nilC, nilA, quietB, St.ev, St.put, St.after, Nat.reduceAdd, Nat.reduceSub, ofV, ofL, lenA, binA, intBin, fltBin, strBin, cpxBin, unA, convA, convB, convO, pickV, resL, oneA, indexA, indexS, isQuiet, loadA, loadC, storeA, fieldA, partA, sliceA, boundA, buildA, placeA, setAll, appendA, readSl, newEl, AV.cells, AV.solid, AV.one, kill, killM, killL, notInt, Int.reduceToNat, cond_true, cond_false, ↓reduceIte, reduceCtorEq, Nat.reduceLT, Nat.reduceLeDiff, Nat.reduceMul, Nat.reduceEqDiff, exists_eq', putF, implies_true, exists_true_left, tys0, tys1, tys2, tys3, und0, und1, und2, md13, Try.ntmps13, Try.results13]
  refine br_no (decide_eq_false (by omega)) ?_
  simp only [q0, q1, q2, q3, q4, q5, q6, q7, q8, q9, zq0, zq1, zq2, zq3, zq4, guardSlot, quietA, nilC, nilA, quietB, St.ev, St.put, St.after, Nat.reduceAdd, Nat.reduceSub, ofV, ofL, lenA, binA, intBin, fltBin, strBin, cpxBin, unA, convA, convB, convO, pickV, resL, oneA, indexA, indexS, isQuiet, loadA, loadC, storeA, fieldA, partA, sliceA, boundA, buildA, placeA, setAll, appendA, readSl, newEl, AV.cells, AV.solid, AV.one, kill, killM, killL, notInt, Int.reduceToNat, cond_true, cond_false, ↓reduceIte, reduceCtorEq, Nat.reduceLT, Nat.reduceLeDiff, Nat.reduceMul, Nat.reduceEqDiff, exists_eq', putF, implies_true, exists_true_left, tys0, tys1, tys2, tys3, und0, und1, und2, md13, Try.ntmps13, Try.results13]
  refine br_no (decide_eq_false (by omega)) ?_
  simp only [q0, q1, q2, q3, q4, q5, q6, q7, q8, q9, zq0, zq1, zq2, zq3, zq4, guardSlot, quietA, nilC, nilA, quietB, St.ev, St.put, St.after, Nat.reduceAdd, Nat.reduceSub, ofV, ofL, lenA, binA, intBin, fltBin, strBin, cpxBin, unA, convA, convB, convO, pickV, resL, oneA, indexA, indexS, isQuiet, loadA, loadC, storeA, fieldA, partA, sliceA, boundA, buildA, placeA, setAll, appendA, readSl, newEl, AV.cells, AV.solid, AV.one, kill, killM, killL, notInt, Int.reduceToNat, cond_true, cond_false, ↓reduceIte, reduceCtorEq, Nat.reduceLT, Nat.reduceLeDiff, Nat.reduceMul, Nat.reduceEqDiff, exists_eq', putF, implies_true, exists_true_left, tys0, tys1, tys2, tys3, und0, und1, und2, md13, Try.ntmps13, Try.results13]
  refine call_ret (l00In_call _ _ _) rfl rfl ?_
  rw [inR_yes (show (0 : Int) ≤ b by omega) (show (b : Int) ≤ 3 by omega)]
  simp only [q0, q1, q2, q3, q4, q5, q6, q7, q8, q9, zq0, zq1, zq2, zq3, zq4, guardSlot, quietA, nilC, nilA, quietB, St.ev, St.put, St.after, Nat.reduceAdd, Nat.reduceSub, ofV, ofL, lenA, binA, intBin, fltBin, strBin, cpxBin, unA, convA, convB, convO, pickV, resL, oneA, indexA, indexS, isQuiet, loadA, loadC, storeA, fieldA, partA, sliceA, boundA, buildA, placeA, setAll, appendA, readSl, newEl, AV.cells, AV.solid, AV.one, kill, killM, killL, notInt, Int.reduceToNat, cond_true, cond_false, ↓reduceIte, reduceCtorEq, Nat.reduceLT, Nat.reduceLeDiff, Nat.reduceMul, Nat.reduceEqDiff, exists_eq', putF, implies_true, exists_true_left, tys0, tys1, tys2, tys3, und0, und1, und2, md13, Try.ntmps13, Try.results13]
  refine call_ret (l00In_call _ _ _) rfl rfl ?_
  rw [inR_yes (show (0 : Int) ≤ o by omega) (show (o : Int) ≤ 24 by omega)]
  simp only [q0, q1, q2, q3, q4, q5, q6, q7, q8, q9, zq0, zq1, zq2, zq3, zq4, guardSlot, quietA, nilC, nilA, quietB, St.ev, St.put, St.after, Nat.reduceAdd, Nat.reduceSub, ofV, ofL, lenA, binA, intBin, fltBin, strBin, cpxBin, unA, convA, convB, convO, pickV, resL, oneA, indexA, indexS, isQuiet, loadA, loadC, storeA, fieldA, partA, sliceA, boundA, buildA, placeA, setAll, appendA, readSl, newEl, AV.cells, AV.solid, AV.one, kill, killM, killL, notInt, Int.reduceToNat, cond_true, cond_false, ↓reduceIte, reduceCtorEq, Nat.reduceLT, Nat.reduceLeDiff, Nat.reduceMul, Nat.reduceEqDiff, exists_eq', putF, implies_true, exists_true_left, tys0, tys1, tys2, tys3, und0, und1, und2, md13, Try.ntmps13, Try.results13]
  refine go_round (md := md13) mixed (by kernel_rfl) (fun i : {i : Nat // i ≤ X.length} => ⟨[.ro (ints X), .int .i64 (b : Int), .int .i64 (o : Int), .any, .any, .any, .any, .any, .any, .int .i64 (X.length : Int), .sl 0 0 i.1, .sl 1 0 i.1, .any, .any, .any, .any, .any, .any, .any, .any, .any, .any, .any, .any, .any, .any, .any, .any, .any, .any, .any, .any, .any, .any, .any, .any, .any, .int .i64 (X.length : Int), .int .i64 (i.1 : Int), .any, .any, .any, .any, .any, .any, .any, .any, .any, .any, .any, .any, .any, .any, .any, .any, .any, .any, .any, .any, .any, .any, .any, .any, .any, .any, .any, .any, .any, .any, .any, .any, .any, .any, .any, .any, .any, .any, .any, .any, .any, .any, .any, .any, .any, .any, .any, .any, .any, .any, .any, .any, .any, .any, .any, .any, .any, .any, .any, .any, .any, .any, .any, .any, .any, .any, .any, .any, .any, .any, .any], [intB ((X.map gain).take i.1), intB ((X.map loss).take i.1)]⟩) (fun i => X.length - i.1) ⟨0, by omega⟩ ?_ ?_
  · have z : ints [] = [] := rfl
    rw [List.take_zero, List.take_zero]
    exact weak_drop (by simp) (by simp [DropHp, ints_below, flts_below, intB, z, allBelow_cons, allBelow_nil, below, belowM, belowL]) (by simp [DropTm, DropV, below, belowM, belowL, intB, z, allBelow_cons, allBelow_nil, below, belowM, belowL])
  rintro ⟨i, hi⟩
  have t1 : ((X.map gain).take i).length = i := by simp; omega
  have t2 : ((X.map loss).take i).length = i := by simp; omega
  simp only [q0, q1, q2, q3, q4, q5, q6, q7, q8, q9, zq0, zq1, zq2, zq3, zq4, guardSlot, quietA, nilC, nilA, quietB, St.ev, St.put, St.after, Nat.reduceAdd, Nat.reduceSub, ofV, ofL, lenA, binA, intBin, fltBin, strBin, cpxBin, unA, convA, convB, convO, pickV, resL, oneA, indexA, indexS, isQuiet, loadA, loadC, storeA, fieldA, partA, sliceA, boundA, buildA, placeA, setAll, appendA, readSl, newEl, AV.cells, AV.solid, AV.one, kill, killM, killL, notInt, Int.reduceToNat, cond_true, cond_false, ↓reduceIte, reduceCtorEq, Nat.reduceLT, Nat.reduceLeDiff, Nat.reduceMul, Nat.reduceEqDiff, exists_eq', putF, implies_true, exists_true_left, tys0, tys1, tys2, tys3, und0, und1, und2, md13, Try.ntmps13, Try.results13, intB, ints_len, t1, t2]
  refine br_intro (fun g => ?_) (fun g => ?_) <;> simp only [q0, q1, q2, q3, q4, q5, q6, q7, q8, q9, zq0, zq1, zq2, zq3, zq4, guardSlot, quietA, nilC, nilA, quietB, St.ev, St.put, St.after, Nat.reduceAdd, Nat.reduceSub, ofV, ofL, lenA, binA, intBin, fltBin, strBin, cpxBin, unA, convA, convB, convO, pickV, resL, oneA, indexA, indexS, isQuiet, loadA, loadC, storeA, fieldA, partA, sliceA, boundA, buildA, placeA, setAll, appendA, readSl, newEl, AV.cells, AV.solid, AV.one, kill, killM, killL, notInt, Int.reduceToNat, cond_true, cond_false, ↓reduceIte, reduceCtorEq, Nat.reduceLT, Nat.reduceLeDiff, Nat.reduceMul, Nat.reduceEqDiff, exists_eq', putF, implies_true, exists_true_left, tys0, tys1, tys2, tys3, und0, und1, und2, md13, Try.ntmps13, Try.results13, intB, ints_len, t1, t2]
  · have hi' : i < X.length := by have := of_decide_eq_true g; omega
    have xb := hX i
    rw [getD_at X 0 i hi'] at xb
    refine ⟨hi', ?_⟩
    refine call_ret (l00In_call _ _ _) rfl rfl ?_
    rw [inR_yes (show (-1000000000 : Int) ≤ X[i] by omega) (show X[i] ≤ 1000000000 by omega)]
    simp only [q0, q1, q2, q3, q4, q5, q6, q7, q8, q9, zq0, zq1, zq2, zq3, zq4, guardSlot, quietA, nilC, nilA, quietB, St.ev, St.put, St.after, Nat.reduceAdd, Nat.reduceSub, ofV, ofL, lenA, binA, intBin, fltBin, strBin, cpxBin, unA, convA, convB, convO, pickV, resL, oneA, indexA, indexS, isQuiet, loadA, loadC, storeA, fieldA, partA, sliceA, boundA, buildA, placeA, setAll, appendA, readSl, newEl, AV.cells, AV.solid, AV.one, kill, killM, killL, notInt, Int.reduceToNat, cond_true, cond_false, ↓reduceIte, reduceCtorEq, Nat.reduceLT, Nat.reduceLeDiff, Nat.reduceMul, Nat.reduceEqDiff, exists_eq', putF, implies_true, exists_true_left, tys0, tys1, tys2, tys3, und0, und1, und2, md13, Try.ntmps13, Try.results13, intB, ints_len, t1, t2]
    refine ⟨hi', ?_⟩
    refine call_ret (l00Max_call _ _) rfl rfl ?_
    simp only [q0, q1, q2, q3, q4, q5, q6, q7, q8, q9, zq0, zq1, zq2, zq3, zq4, guardSlot, quietA, nilC, nilA, quietB, St.ev, St.put, St.after, Nat.reduceAdd, Nat.reduceSub, ofV, ofL, lenA, binA, intBin, fltBin, strBin, cpxBin, unA, convA, convB, convO, pickV, resL, oneA, indexA, indexS, isQuiet, loadA, loadC, storeA, fieldA, partA, sliceA, boundA, buildA, placeA, setAll, appendA, readSl, newEl, AV.cells, AV.solid, AV.one, kill, killM, killL, notInt, Int.reduceToNat, cond_true, cond_false, ↓reduceIte, reduceCtorEq, Nat.reduceLT, Nat.reduceLeDiff, Nat.reduceMul, Nat.reduceEqDiff, exists_eq', putF, implies_true, exists_true_left, tys0, tys1, tys2, tys3, und0, und1, und2, md13, Try.ntmps13, Try.results13, intB, ints_len, t1, t2, allW_int, fits, List.isEmpty_cons, brk_false, Nat.reduceMul]
    refine ⟨by omega, hi', ?_⟩
    refine call_ret (l00Max_call _ _) rfl rfl ?_
    simp only [q0, q1, q2, q3, q4, q5, q6, q7, q8, q9, zq0, zq1, zq2, zq3, zq4, guardSlot, quietA, nilC, nilA, quietB, St.ev, St.put, St.after, Nat.reduceAdd, Nat.reduceSub, ofV, ofL, lenA, binA, intBin, fltBin, strBin, cpxBin, unA, convA, convB, convO, pickV, resL, oneA, indexA, indexS, isQuiet, loadA, loadC, storeA, fieldA, partA, sliceA, boundA, buildA, placeA, setAll, appendA, readSl, newEl, AV.cells, AV.solid, AV.one, kill, killM, killL, notInt, Int.reduceToNat, cond_true, cond_false, ↓reduceIte, reduceCtorEq, Nat.reduceLT, Nat.reduceLeDiff, Nat.reduceMul, Nat.reduceEqDiff, exists_eq', putF, implies_true, exists_true_left, tys0, tys1, tys2, tys3, und0, und1, und2, md13, Try.ntmps13, Try.results13, intB, ints_len, t1, t2, allW_int, fits, List.isEmpty_cons, brk_false, Nat.reduceMul]
    have en : IntKind.i64.wrap (0 - X[i]) = -X[i] := by rw [w64 (by omega) (by omega)]; omega
    have w1 : (X.map gain).take i ++ [max 0 X[i]] = (X.map gain).take (i + 1) := by
      rw [gtake_snoc (X.map gain) i (by simpa using hi'), List.getElem_map]; rfl
    have w2 : (X.map loss).take i ++ [max 0 (-X[i])] = (X.map loss).take (i + 1) := by
      rw [gtake_snoc (X.map loss) i (by simpa using hi'), List.getElem_map]; rfl
    refine ⟨by omega, ⟨i + 1, by omega⟩, by show X.length - (i + 1) < X.length - i; omega, ?_⟩
    show Weak 0 _ ⟨_, _⟩
    rw [en, w1, w2]
    exact weak_drop (by simp) (by simp [DropHp, ints_below, flts_below, w64_succ i (by omega), intB, allBelow_cons, allBelow_nil, below, belowM, belowL]) (by simp [DropTm, DropV, below, belowM, belowL, w64_succ i (by omega), intB, allBelow_cons, allBelow_nil, below, belowM, belowL])
  · have hi' : i = X.length := by have := of_decide_eq_false g; omega
    subst hi'
    refine go_round (md := md13) mixed (by kernel_rfl) (fun i : {i : Nat // i ≤ X.length} => ⟨[.any, .int .i64 (b : Int), .int .i64 (o : Int), .any, .any, .any, .any, .any, .any, .int .i64 (X.length : Int), .sl 0 0 X.length, .sl 1 0 X.length, .any, .any, .any, .any, .any, .any, .any, .any, .any, .any, .any, .any, .any, .any, .any, .any, .any, .any, .any, .any, .any, .any, .any, .any, .any, .any, .any, .any, .any, .any, .any, .any, .any, .any, .any, .any, .any, .any, .any, .any, .any, .any, .any, .any, .any, .any, .any, .any, .any, .any, .any, .any, .any, .any, .int .i64 (X.length : Int), .int .i64 (i.1 : Int), .any, .any, .any, .any, .any, .any, .any, .any, .any, .any, .any, .any, .any, .any, .any, .any, .any, .any, .any, .any, .any, .any, .any, .any, .any, .any, .any, .any, .any, .any, .any, .any, .any, .any, .any, .any, .any, .any, .any, .any, .any, .any], [intB (rowsC X.length b o i.1 (car0 X)).1, intB (rowsC X.length b o i.1 (car0 X)).2]⟩) (fun i => X.length - i.1) ⟨0, by omega⟩ ?_ ?_
    · have z : rowsC X.length b o 0 (car0 X) = (X.map gain, X.map loss) := rfl
      have z1 : (X.map gain).take X.length = X.map gain := List.take_of_length_le (by simp)
      have z2 : (X.map loss).take X.length = X.map loss := List.take_of_length_le (by simp)
      rw [z, z1, z2]
      exact weak_drop (by simp) (by simp [DropHp, ints_below, flts_below, intB, allBelow_cons, allBelow_nil, below, belowM, belowL]) (by simp [DropTm, DropV, below, belowM, belowL, intB, allBelow_cons, allBelow_nil, below, belowM, belowL])
    rintro ⟨i, hi⟩
    have C0 := (car0_ok X).rows b o i hi
    generalize hS0 : rowsC X.length b o i (car0 X) = S0 at *
    simp only [q0, q1, q2, q3, q4, q5, q6, q7, q8, q9, zq0, zq1, zq2, zq3, zq4, guardSlot, quietA, nilC, nilA, quietB, St.ev, St.put, St.after, Nat.reduceAdd, Nat.reduceSub, ofV, ofL, lenA, binA, intBin, fltBin, strBin, cpxBin, unA, convA, convB, convO, pickV, resL, oneA, indexA, indexS, isQuiet, loadA, loadC, storeA, fieldA, partA, sliceA, boundA, buildA, placeA, setAll, appendA, readSl, newEl, AV.cells, AV.solid, AV.one, kill, killM, killL, notInt, Int.reduceToNat, cond_true, cond_false, ↓reduceIte, reduceCtorEq, Nat.reduceLT, Nat.reduceLeDiff, Nat.reduceMul, Nat.reduceEqDiff, exists_eq', putF, implies_true, exists_true_left, tys0, tys1, tys2, tys3, und0, und1, und2, md13, Try.ntmps13, Try.results13, intB]
    refine br_intro (fun f => ?_) (fun f => ?_) <;> simp only [q0, q1, q2, q3, q4, q5, q6, q7, q8, q9, zq0, zq1, zq2, zq3, zq4, guardSlot, quietA, nilC, nilA, quietB, St.ev, St.put, St.after, Nat.reduceAdd, Nat.reduceSub, ofV, ofL, lenA, binA, intBin, fltBin, strBin, cpxBin, unA, convA, convB, convO, pickV, resL, oneA, indexA, indexS, isQuiet, loadA, loadC, storeA, fieldA, partA, sliceA, boundA, buildA, placeA, setAll, appendA, readSl, newEl, AV.cells, AV.solid, AV.one, kill, killM, killL, notInt, Int.reduceToNat, cond_true, cond_false, ↓reduceIte, reduceCtorEq, Nat.reduceLT, Nat.reduceLeDiff, Nat.reduceMul, Nat.reduceEqDiff, exists_eq', putF, implies_true, exists_true_left, tys0, tys1, tys2, tys3, und0, und1, und2, md13, Try.ntmps13, Try.results13, intB]
    · have hi' : i < X.length := by have := of_decide_eq_true f; omega
      have ek : max 0 (IntKind.i64.wrap ((i : Int) - (b : Int))) = ((i - b : Nat) : Int) := by rw [w64 (by omega) (by omega)]; omega
      have ej : min (IntKind.i64.wrap ((X.length : Int) - 1)) (IntKind.i64.wrap ((i : Int) + (o : Int))) = ((min (X.length - 1) (i + o) : Nat) : Int) := by
        rw [w64 (by omega) (by omega), w64 (by omega) (by omega)]; omega
      have C1 : ∀ m, m ≤ min (X.length - 1) (i + o) + 1 - (i - b) → Car X (carK i (i - b) m S0) := fun m hm => Car.many hi' m _ _ C0 (by omega)
      have er : rowsC X.length b o (i + 1) (car0 X) = carK i (i - b) (min (X.length - 1) (i + o) + 1 - (i - b)) S0 := by rw [rowC_eq C0 b o i hi', rowsC, hS0]
      refine call_ret (l00Max_call _ _) rfl rfl ?_
      simp only [q0, q1, q2, q3, q4, q5, q6, q7, q8, q9, zq0, zq1, zq2, zq3, zq4, guardSlot, quietA, nilC, nilA, quietB, St.ev, St.put, St.after, Nat.reduceAdd, Nat.reduceSub, ofV, ofL, lenA, binA, intBin, fltBin, strBin, cpxBin, unA, convA, convB, convO, pickV, resL, oneA, indexA, indexS, isQuiet, loadA, loadC, storeA, fieldA, partA, sliceA, boundA, buildA, placeA, setAll, appendA, readSl, newEl, AV.cells, AV.solid, AV.one, kill, killM, killL, notInt, Int.reduceToNat, cond_true, cond_false, ↓reduceIte, reduceCtorEq, Nat.reduceLT, Nat.reduceLeDiff, Nat.reduceMul, Nat.reduceEqDiff, exists_eq', putF, implies_true, exists_true_left, tys0, tys1, tys2, tys3, und0, und1, und2, md13, Try.ntmps13, Try.results13, ek]
      refine go_round (md := md13) mixed (by kernel_rfl) (fun m : {m : Nat // m ≤ min (X.length - 1) (i + o) + 1 - (i - b)} => ⟨[.any, .int .i64 (b : Int), .int .i64 (o : Int), .any, .any, .any, .any, .any, .any, .int .i64 (X.length : Int), .sl 0 0 X.length, .sl 1 0 X.length, .any, .int .i64 (i : Int), .int .i64 ((i - b + m.1 : Nat) : Int), .any, .any, .any, .any, .any, .any, .any, .any, .any, .any, .any, .any, .any, .any, .any, .any, .any, .any, .any, .any, .any, .any, .any, .any, .any, .any, .any, .any, .any, .any, .any, .any, .any, .any, .any, .any, .any, .any, .any, .any, .any, .any, .any, .any, .any, .any, .any, .any, .any, .any, .any, .int .i64 (X.length : Int), .int .i64 (i : Int), .any, .any, .any, .any, .any, .any, .any, .any, .any, .any, .any, .any, .any, .any, .any, .any, .any, .any, .any, .any, .any, .any, .any, .any, .any, .any, .any, .any, .any, .any, .any, .any, .any, .any, .any, .any, .any, .any, .any, .any, .any, .any], [intB (carK i (i - b) m.1 S0).1, intB (carK i (i - b) m.1 S0).2]⟩) (fun m => min (X.length - 1) (i + o) + 1 - (i - b) - m.1) ⟨0, by omega⟩ ?_ ?_
      · exact weak_drop (by simp) (by simp [DropHp, ints_below, flts_below, intB, carK, Nat.add_zero, allBelow_cons, allBelow_nil, below, belowM, belowL]) (by simp [DropTm, DropV, below, belowM, belowL, intB, carK, Nat.add_zero, allBelow_cons, allBelow_nil, below, belowM, belowL])
      rintro ⟨m, hm⟩
      have Cm := C1 m hm
      generalize hS : carK i (i - b) m S0 = S at *
      have hg := Cm.g
      have hl := Cm.l
      simp only [q0, q1, q2, q3, q4, q5, q6, q7, q8, q9, zq0, zq1, zq2, zq3, zq4, guardSlot, quietA, nilC, nilA, quietB, St.ev, St.put, St.after, Nat.reduceAdd, Nat.reduceSub, ofV, ofL, lenA, binA, intBin, fltBin, strBin, cpxBin, unA, convA, convB, convO, pickV, resL, oneA, indexA, indexS, isQuiet, loadA, loadC, storeA, fieldA, partA, sliceA, boundA, buildA, placeA, setAll, appendA, readSl, newEl, AV.cells, AV.solid, AV.one, kill, killM, killL, notInt, Int.reduceToNat, cond_true, cond_false, ↓reduceIte, reduceCtorEq, Nat.reduceLT, Nat.reduceLeDiff, Nat.reduceMul, Nat.reduceEqDiff, exists_eq', putF, implies_true, exists_true_left, tys0, tys1, tys2, tys3, und0, und1, und2, md13, Try.ntmps13, Try.results13, intB, ints_len, hg, hl]
      refine call_ret (l00Min_call _ _) rfl rfl ?_
      rw [ej]
      simp only [q0, q1, q2, q3, q4, q5, q6, q7, q8, q9, zq0, zq1, zq2, zq3, zq4, guardSlot, quietA, nilC, nilA, quietB, St.ev, St.put, St.after, Nat.reduceAdd, Nat.reduceSub, ofV, ofL, lenA, binA, intBin, fltBin, strBin, cpxBin, unA, convA, convB, convO, pickV, resL, oneA, indexA, indexS, isQuiet, loadA, loadC, storeA, fieldA, partA, sliceA, boundA, buildA, placeA, setAll, appendA, readSl, newEl, AV.cells, AV.solid, AV.one, kill, killM, killL, notInt, Int.reduceToNat, cond_true, cond_false, ↓reduceIte, reduceCtorEq, Nat.reduceLT, Nat.reduceLeDiff, Nat.reduceMul, Nat.reduceEqDiff, exists_eq', putF, implies_true, exists_true_left, tys0, tys1, tys2, tys3, und0, und1, und2, md13, Try.ntmps13, Try.results13, intB, ints_len, hg, hl]
      refine br_intro (fun u => ?_) (fun u => ?_) <;> simp only [q0, q1, q2, q3, q4, q5, q6, q7, q8, q9, zq0, zq1, zq2, zq3, zq4, guardSlot, quietA, nilC, nilA, quietB, St.ev, St.put, St.after, Nat.reduceAdd, Nat.reduceSub, ofV, ofL, lenA, binA, intBin, fltBin, strBin, cpxBin, unA, convA, convB, convO, pickV, resL, oneA, indexA, indexS, isQuiet, loadA, loadC, storeA, fieldA, partA, sliceA, boundA, buildA, placeA, setAll, appendA, readSl, newEl, AV.cells, AV.solid, AV.one, kill, killM, killL, notInt, Int.reduceToNat, cond_true, cond_false, ↓reduceIte, reduceCtorEq, Nat.reduceLT, Nat.reduceLeDiff, Nat.reduceMul, Nat.reduceEqDiff, exists_eq', putF, implies_true, exists_true_left, tys0, tys1, tys2, tys3, und0, und1, und2, md13, Try.ntmps13, Try.results13, intB, ints_len, hg, hl]
      · have u' : m < min (X.length - 1) (i + o) + 1 - (i - b) := by have := of_decide_eq_true u; omega
        have hk : i - b + m < X.length := by omega
        have ai := Cm.low i
        have ak := Cm.low (i - b + m)
        have xi := hX i
        have xk := hX (i - b + m)
        have hi2 : i < S.2.length := by omega
        have hk2 : i - b + m < S.1.length := by omega
        have gi := getD_at S.2 0 i hi2
        have gk := getD_at S.1 0 (i - b + m) hk2
        rw [gi] at ai
        rw [gk] at ak
        have ux : min S.2[i] S.1[i - b + m] = useX i (i - b + m) S := by unfold useX; rw [gi, gk]
        have ub := Cm.useX i (i - b + m)
        rw [gi, gk] at ub
        have e1 : IntKind.i64.wrap (S.2[i] - useX i (i - b + m) S) = S.2[i] - useX i (i - b + m) S := w64 (by omega) (by omega)
        have e2 : IntKind.i64.wrap (S.1[i - b + m] - useX i (i - b + m) S) = S.1[i - b + m] - useX i (i - b + m) S := w64 (by omega) (by omega)
        refine ⟨by omega, hi', by omega, hk, ?_⟩
        refine callr_ret (l00Min_call _ _) rfl rfl ?_
        rw [ux]
        simp only [q0, q1, q2, q3, q4, q5, q6, q7, q8, q9, zq0, zq1, zq2, zq3, zq4, guardSlot, quietA, nilC, nilA, quietB, St.ev, St.put, St.after, Nat.reduceAdd, Nat.reduceSub, ofV, ofL, lenA, binA, intBin, fltBin, strBin, cpxBin, unA, convA, convB, convO, pickV, resL, oneA, indexA, indexS, isQuiet, loadA, loadC, storeA, fieldA, partA, sliceA, boundA, buildA, placeA, setAll, appendA, readSl, newEl, AV.cells, AV.solid, AV.one, kill, killM, killL, notInt, Int.reduceToNat, cond_true, cond_false, ↓reduceIte, reduceCtorEq, Nat.reduceLT, Nat.reduceLeDiff, Nat.reduceMul, Nat.reduceEqDiff, exists_eq', putF, implies_true, exists_true_left, tys0, tys1, tys2, tys3, und0, und1, und2, md13, Try.ntmps13, Try.results13, intB, ints_len, hg, hl, e1, e2]
        have ew : IntKind.i64.wrap (((i - b + m : Nat) : Int) + 1) = ((i - b + (m + 1) : Nat) : Int) := w64_succ (i - b + m) (by omega)
        have es := carK_snoc i (i - b) m S0
        rw [hS] at es
        have eu : useS i (i - b + m) S = (S.1.set (i - b + m) (S.1[i - b + m] - useX i (i - b + m) S), S.2.set i (S.2[i] - useX i (i - b + m) S)) := by unfold useS; rw [gi, gk]
        refine ⟨by omega, hi', by omega, hi', by omega, hk, by omega, hk, ⟨m + 1, by omega⟩, by show min (X.length - 1) (i + o) + 1 - (i - b) - (m + 1) < min (X.length - 1) (i + o) + 1 - (i - b) - m; omega, ?_⟩
        show Weak 0 _ ⟨_, _⟩
        rw [ew, es, eu, ints_set, ints_set]
        exact weak_drop (by simp) (by simp [DropHp, ints_below, flts_below, intB, allBelow_cons, allBelow_nil, below, belowM, belowL]) (by simp [DropTm, DropV, below, belowM, belowL, intB, allBelow_cons, allBelow_nil, below, belowM, belowL])
      · have u' : m = min (X.length - 1) (i + o) + 1 - (i - b) := by have := of_decide_eq_false u; omega
        subst u'
        refine ⟨⟨i + 1, by omega⟩, by show X.length - (i + 1) < X.length - i; omega, ?_⟩
        show Weak 0 _ ⟨_, _⟩
        rw [er, hS]
        exact weak_drop (by simp) (by simp [DropHp, ints_below, flts_below, w64_succ i (by omega), intB, allBelow_cons, allBelow_nil, below, belowM, belowL]) (by simp [DropTm, DropV, below, belowM, belowL, w64_succ i (by omega), intB, allBelow_cons, allBelow_nil, below, belowM, belowL])
    · have hi' : i = X.length := by have := of_decide_eq_false f; omega
      subst hi'
      rw [hS0]
      exact PostR.ret
end Go.Proofs.Ytimnfechlomkpaa
