/- Debts that are paid in their order: the reference. -/
import Derived.Test.YtimnfechlomkpaaPdD
set_option maxRecDepth 10000
set_option maxHeartbeats 8000000
set_option linter.unusedSimpArgs false
set_option linter.unusedVariables false
namespace Go.Proofs.Ytimnfechlomkpaa
open Go Go.Abs

def dbtC (d : Dbt) : List AV := [.int .i64 d.1, .int .i64 d.2.1, .int .i64 d.2.2]
def befB (k : Int) (p q : Dbt) : Bool := if k = 1 ∧ p.2.1 ≠ q.2.1 then decide (p.2.1 < q.2.1) else decide (p.1 < q.1)
theorem before_call (p q : Dbt) (k : Int) : CallA Try.prog 27 [.rop (dbtC p), .rop (dbtC q), .int .i64 k] [] (Ret (.bool (befB k p q)) []) := by
  refine CallP.out (t := .mk) (go_in (md := md27) mixed Try.func27 rfl go27 (by kernel_rfl) ?_)
  simp only [q0, q1, q2, q3, q4, q5, q6, q7, q8, q9, zq0, zq1, zq2, zq3, zq4, guardSlot, quietA, nilC, nilA, quietB, St.ev, St.put, St.after, Nat.reduceAdd, Nat.reduceSub, ofV, ofL, lenA, binA, intBin, fltBin, strBin, cpxBin, unA, convA, convB, convO, pickV, resL, oneA, indexA, indexS, isQuiet, loadA, loadC, storeA, fieldA, partA, sliceA, boundA, buildA, placeA, setAll, appendA, readSl, newEl, AV.cells, AV.solid, AV.one, kill, killM, killL, notInt, Int.reduceToNat, cond_true, cond_false, ↓reduceIte, reduceCtorEq, Nat.reduceLT, Nat.reduceLeDiff, Nat.reduceMul, Nat.reduceEqDiff, exists_eq', putF, implies_true, exists_true_left, tys0, tys1, tys2, tys3, und0, und1, und2, md27, Try.ntmps27, Try.results27, dbtC]
  refine br_intro (fun h => ?_) (fun h => ?_) <;> simp only [q0, q1, q2, q3, q4, q5, q6, q7, q8, q9, zq0, zq1, zq2, zq3, zq4, guardSlot, quietA, nilC, nilA, quietB, St.ev, St.put, St.after, Nat.reduceAdd, Nat.reduceSub, ofV, ofL, lenA, binA, intBin, fltBin, strBin, cpxBin, unA, convA, convB, convO, pickV, resL, oneA, indexA, indexS, isQuiet, loadA, loadC, storeA, fieldA, partA, sliceA, boundA, buildA, placeA, setAll, appendA, readSl, newEl, AV.cells, AV.solid, AV.one, kill, killM, killL, notInt, Int.reduceToNat, cond_true, cond_false, ↓reduceIte, reduceCtorEq, Nat.reduceLT, Nat.reduceLeDiff, Nat.reduceMul, Nat.reduceEqDiff, exists_eq', putF, implies_true, exists_true_left, tys0, tys1, tys2, tys3, und0, und1, und2, md27, Try.ntmps27, Try.results27, dbtC]
  · have h' : k = 1 := by simpa using h
    refine br_intro (fun g => ?_) (fun g => ?_) <;> simp only [q0, q1, q2, q3, q4, q5, q6, q7, q8, q9, zq0, zq1, zq2, zq3, zq4, guardSlot, quietA, nilC, nilA, quietB, St.ev, St.put, St.after, Nat.reduceAdd, Nat.reduceSub, ofV, ofL, lenA, binA, intBin, fltBin, strBin, cpxBin, unA, convA, convB, convO, pickV, resL, oneA, indexA, indexS, isQuiet, loadA, loadC, storeA, fieldA, partA, sliceA, boundA, buildA, placeA, setAll, appendA, readSl, newEl, AV.cells, AV.solid, AV.one, kill, killM, killL, notInt, Int.reduceToNat, cond_true, cond_false, ↓reduceIte, reduceCtorEq, Nat.reduceLT, Nat.reduceLeDiff, Nat.reduceMul, Nat.reduceEqDiff, exists_eq', putF, implies_true, exists_true_left, tys0, tys1, tys2, tys3, und0, und1, und2, md27, Try.ntmps27, Try.results27, dbtC]
    · have g' : p.2.1 ≠ q.2.1 := by simpa using g
      exact PostR.pure ⟨by rw [befB, if_pos ⟨h', g'⟩], rfl⟩ rfl
    · have g' : p.2.1 = q.2.1 := by simpa using g
      exact PostR.pure ⟨by rw [befB, if_neg (fun x => x.2 g')], rfl⟩ rfl
  · have h' : ¬ k = 1 := by simpa using h
    exact PostR.pure ⟨by rw [befB, if_neg (fun x => h' x.1)], rfl⟩ rfl
theorem befB_key {D : List Dbt} (h : ∀ q ∈ D, dbtOk q) (k : Int) (i j : Nat) : befB k (D.getD i dbt0) (D.getD j dbt0) = decide (keyP D k i < keyP D k j) := by
  obtain ⟨a1, a2, a3⟩ := dbt_bounds h i
  obtain ⟨b1, b2, b3⟩ := dbt_bounds h j
  unfold befB keyP
  generalize D.getD i dbt0 = p at *
  generalize D.getD j dbt0 = q at *
  by_cases g : k = 1
  · rw [if_pos g, if_pos g]
    by_cases e : p.2.1 = q.2.1
    · rw [if_neg (fun x => x.2 e), Bool.eq_iff_iff]; simp only [decide_eq_true_eq]; omega
    · rw [if_pos ⟨g, e⟩, Bool.eq_iff_iff]; simp only [decide_eq_true_eq]; omega
  · rw [if_neg g, if_neg g, if_neg (fun x => g x.1)]
def bls (B : List Bool) : List AV := B.map .bool
theorem bls_len (B : List Bool) : (bls B).length = B.length := by simp [bls]
theorem bls_get (B : List Bool) (i : Nat) (h : i < (bls B).length) : (bls B)[i] = .bool (B[i]'(by simpa [bls] using h)) := by simp [bls]
theorem bls_set (B : List Bool) (i : Nat) (b : Bool) : (bls B).set i (.bool b) = bls (B.set i b) := by simp [bls, List.map_set]
theorem bls_below (N : Nat) (B : List Bool) : allBelow N (bls B) = true := by
  simp only [allBelow, bls, List.all_map, List.all_eq_true]
  intro x _
  rfl
def bolB (B : List Bool) : Blk := { ty := 4, w := 1, els := bls B }
def tkB (D : List Dbt) (k : Int) (j i : Nat) : Bool := decide (i ∈ (ordN (keyP D k) D.length).take j)
def tkL (D : List Dbt) (k : Int) (j : Nat) : List Bool := (List.range D.length).map (tkB D k j)
theorem tkL_len (D : List Dbt) (k : Int) (j : Nat) : (tkL D k j).length = D.length := by simp [tkL]
theorem tkL_get (D : List Dbt) (k : Int) (j i : Nat) (h : i < (tkL D k j).length) : (tkL D k j)[i] = tkB D k j i := by simp [tkL]
theorem tkL_succ (D : List Dbt) (k : Int) (j : Nat) (hj : j < D.length) : (tkL D k j).set ((ordN (keyP D k) D.length)[j]'(by rw [ordN_len]; exact hj)) true = tkL D k (j + 1) := by
  have hl := ordN_len (keyP D k) D.length
  apply List.ext_getElem
  · simp [tkL]
  · intro i h1 h2
    rw [List.getElem_set, tkL_get, tkL_get]
    unfold tkB
    rw [List.take_add_one, List.getElem?_eq_getElem (by omega)]
    simp only [List.mem_append, Option.toList_some, List.mem_singleton]
    by_cases e : (ordN (keyP D k) D.length)[j]'(by omega) = i
    · rw [if_pos e, e]; simp
    · rw [if_neg e]
      congr 1
      rw [eq_iff_iff]
      exact ⟨.inl, fun h => h.resolve_right (fun x => e x.symm)⟩
theorem tk_sel (D : List Dbt) (k : Int) (j : Nat) (hj : j < D.length) : selK (keyP D k) (tkB D k j) D.length = (((ordN (keyP D k) D.length)[j]'(by rw [ordN_len]; exact hj) : Nat) : Int) :=
  selK_ord (keyP D k) D.length j hj (tkB D k j) fun a ha => by unfold tkB; exact decide_eq_true_iff
theorem l00Min_call (a b : Int) : CallA Try.prog 28 [.int .i64 a, .int .i64 b] [] (Ret (.int .i64 (min a b)) []) := by
  refine CallP.out (t := .mk) (go_in (md := md28) mixed Try.func28 rfl go28 (by kernel_rfl) ?_)
  simp only [q0, q1, q2, q3, q4, q5, q6, q7, q8, q9, zq0, zq1, zq2, zq3, zq4, guardSlot, quietA, nilC, nilA, quietB, St.ev, St.put, St.after, Nat.reduceAdd, Nat.reduceSub, ofV, ofL, lenA, binA, intBin, fltBin, strBin, cpxBin, unA, convA, convB, convO, pickV, resL, oneA, indexA, indexS, isQuiet, loadA, loadC, storeA, fieldA, partA, sliceA, boundA, buildA, placeA, setAll, appendA, readSl, newEl, AV.cells, AV.solid, AV.one, kill, killM, killL, notInt, Int.reduceToNat, cond_true, cond_false, ↓reduceIte, reduceCtorEq, Nat.reduceLT, Nat.reduceLeDiff, Nat.reduceMul, Nat.reduceEqDiff, exists_eq', putF, implies_true, exists_true_left, tys0, tys1, tys2, tys3, und0, und1, und2, md28, Try.ntmps28, Try.results28]
  refine br_intro (fun h => ?_) (fun h => ?_) <;> simp only [q0, q1, q2, q3, q4, q5, q6, q7, q8, q9, zq0, zq1, zq2, zq3, zq4, guardSlot, quietA, nilC, nilA, quietB, St.ev, St.put, St.after, Nat.reduceAdd, Nat.reduceSub, ofV, ofL, lenA, binA, intBin, fltBin, strBin, cpxBin, unA, convA, convB, convO, pickV, resL, oneA, indexA, indexS, isQuiet, loadA, loadC, storeA, fieldA, partA, sliceA, boundA, buildA, placeA, setAll, appendA, readSl, newEl, AV.cells, AV.solid, AV.one, kill, killM, killL, notInt, Int.reduceToNat, cond_true, cond_false, ↓reduceIte, reduceCtorEq, Nat.reduceLT, Nat.reduceLeDiff, Nat.reduceMul, Nat.reduceEqDiff, exists_eq', putF, implies_true, exists_true_left, tys0, tys1, tys2, tys3, und0, und1, und2, md28, Try.ntmps28, Try.results28]
  · have h' := of_decide_eq_true h
    exact PostR.pure ⟨by congr 1; omega, rfl⟩ rfl
  · have h' := of_decide_eq_false h
    exact PostR.pure ⟨by congr 1; omega, rfl⟩ rfl
theorem sel_bound (D : List Dbt) (k : Int) (tk : Nat → Bool) (i : Nat) (hi : i ≤ D.length) : -1 ≤ selK (keyP D k) tk i ∧ selK (keyP D k) tk i < D.length := by
  rcases selK_ok (keyP D k) tk i with ⟨h, _⟩ | ⟨s, h, hs, _⟩
  · rw [h]; omega
  · rw [h]; omega
theorem specPay_call {D : List Dbt} (h : Dts D) (c k : Int) (c0 : 0 ≤ c) (c1 : c ≤ 100000) (k0 : 0 ≤ k) (k2 : k ≤ 2) (P : List Int) (part : k = 2 → c < sumI (wtL D D.length) → CallA Try.prog 26 [.int .i64 c, .ro (ints (wtL D D.length)), .int .i64 (sumI (wtL D D.length))] [] (Ret (.sl 0 0 D.length) [intB P])) :
    CallA Try.prog 8 [.ro (D.map dbtA), .int .i64 c, .int .i64 k] [] (Ret (.tup [.sl 0 0 D.length, .int .i64 (payR D c k P).1, .bool true]) [intB (payR D c k P).2]) := by
  have h1 := h.one
  have h7 := h.seven
  have wS : ∀ i, Sml 2000 (wtL D i) := fun i x hx => by
    obtain ⟨j, hj, rfl⟩ := List.mem_map.1 hx
    obtain ⟨_, _, b1, b2⟩ := dbt_bounds h.ok j
    exact ⟨b1, by show (D.getD j dbt0).2.2 < 2000; omega⟩
  refine CallP.out (t := .mk) (go_in (md := md8) mixed Try.func8 rfl go8 (by kernel_rfl) ?_)
  simp only [q0, q1, q2, q3, q4, q5, q6, q7, q8, q9, zq0, zq1, zq2, zq3, zq4, guardSlot, quietA, nilC, nilA, quietB, St.ev, St.put, St.after, Nat.reduceAdd, Nat.reduceSub, ofV, ofL, lenA, binA, intBin, fltBin, strBin, cpxBin, unA, convA, convB, convO, pickV, resL, oneA, indexA, indexS, isQuiet, loadA, loadC, storeA, fieldA, partA, sliceA, boundA, buildA, placeA, setAll, appendA, readSl, newEl, AV.cells, AV.solid, AV.one, kill, killM, killL, notInt, Int.reduceToNat, cond_true, cond_false, ↓reduceIte, reduceCtorEq, Nat.reduceLT, Nat.reduceLeDiff, Nat.reduceMul, Nat.reduceEqDiff, exists_eq', putF, implies_true, exists_true_left, tys0, tys1, tys2, tys3, und0, und1, und2, md8, Try.ntmps8, Try.results8]
  refine call_ret (l03Debts_call h) rfl rfl ?_
  simp only [q0, q1, q2, q3, q4, q5, q6, q7, q8, q9, zq0, zq1, zq2, zq3, zq4, guardSlot, quietA, nilC, nilA, quietB, St.ev, St.put, St.after, Nat.reduceAdd, Nat.reduceSub, ofV, ofL, lenA, binA, intBin, fltBin, strBin, cpxBin, unA, convA, convB, convO, pickV, resL, oneA, indexA, indexS, isQuiet, loadA, loadC, storeA, fieldA, partA, sliceA, boundA, buildA, placeA, setAll, appendA, readSl, newEl, AV.cells, AV.solid, AV.one, kill, killM, killL, notInt, Int.reduceToNat, cond_true, cond_false, ↓reduceIte, reduceCtorEq, Nat.reduceLT, Nat.reduceLeDiff, Nat.reduceMul, Nat.reduceEqDiff, exists_eq', putF, implies_true, exists_true_left, tys0, tys1, tys2, tys3, und0, und1, und2, md8, Try.ntmps8, Try.results8]
  refine call_ret (l00In_call _ _ _) rfl rfl ?_
  rw [inR_yes c0 (show c ≤ 1000000000000 by omega)]
  simp only [q0, q1, q2, q3, q4, q5, q6, q7, q8, q9, zq0, zq1, zq2, zq3, zq4, guardSlot, quietA, nilC, nilA, quietB, St.ev, St.put, St.after, Nat.reduceAdd, Nat.reduceSub, ofV, ofL, lenA, binA, intBin, fltBin, strBin, cpxBin, unA, convA, convB, convO, pickV, resL, oneA, indexA, indexS, isQuiet, loadA, loadC, storeA, fieldA, partA, sliceA, boundA, buildA, placeA, setAll, appendA, readSl, newEl, AV.cells, AV.solid, AV.one, kill, killM, killL, notInt, Int.reduceToNat, cond_true, cond_false, ↓reduceIte, reduceCtorEq, Nat.reduceLT, Nat.reduceLeDiff, Nat.reduceMul, Nat.reduceEqDiff, exists_eq', putF, implies_true, exists_true_left, tys0, tys1, tys2, tys3, und0, und1, und2, md8, Try.ntmps8, Try.results8]
  refine call_ret (l00In_call _ _ _) rfl rfl ?_
  rw [inR_yes k0 k2]
  simp only [q0, q1, q2, q3, q4, q5, q6, q7, q8, q9, zq0, zq1, zq2, zq3, zq4, guardSlot, quietA, nilC, nilA, quietB, St.ev, St.put, St.after, Nat.reduceAdd, Nat.reduceSub, ofV, ofL, lenA, binA, intBin, fltBin, strBin, cpxBin, unA, convA, convB, convO, pickV, resL, oneA, indexA, indexS, isQuiet, loadA, loadC, storeA, fieldA, partA, sliceA, boundA, buildA, placeA, setAll, appendA, readSl, newEl, AV.cells, AV.solid, AV.one, kill, killM, killL, notInt, Int.reduceToNat, cond_true, cond_false, ↓reduceIte, reduceCtorEq, Nat.reduceLT, Nat.reduceLeDiff, Nat.reduceMul, Nat.reduceEqDiff, exists_eq', putF, implies_true, exists_true_left, tys0, tys1, tys2, tys3, und0, und1, und2, md8, Try.ntmps8, Try.results8]
  refine go_round (md := md8) mixed (by kernel_rfl) (fun i : {i : Nat // i ≤ D.length} => ⟨[.ro (D.map dbtA), .int .i64 c, .int .i64 k, .any, .any, .any, .any, .any, .any, .sl 0 0 i.1, .int .i64 (sumI (wtL D i.1)), .any, .any, .any, .any, .any, .any, .any, .any, .any, .any, .any, .any, .any, .any, .any, .any, .any, .any, .any, .any, .any, .int .i64 D.length, .int .i64 (i.1 : Int), .any, .any, .any, .any, .any, .any, .any, .any, .any, .any, .any, .any, .any, .any, .any, .any, .any, .any, .any, .any, .any, .any, .any, .any, .any, .any, .any, .any, .any, .any, .any, .any, .any, .any, .any, .any, .any, .any, .any, .any, .any, .any, .any, .any, .any, .any, .any, .any, .any, .any, .any, .any, .any, .any, .any, .any, .any, .any, .any, .any, .any, .any, .any, .any, .any, .any, .any, .any, .any, .any, .any, .any, .any, .any, .any, .any, .any, .any, .any, .any, .any, .any, .any, .any, .any, .any, .any], [intB (wtL D i.1)]⟩) (fun i => D.length - i.1) ⟨0, by omega⟩ ?_ ?_
  · have z1 : wtL D 0 = [] := rfl
    have z3 : ints [] = [] := rfl
    have z4 : sumI [] = 0 := rfl
    rw [z1, z4]
    exact weak_drop (by simp) (by simp [DropHp, ints_below, flts_below, intB, z3, List.length_map, allBelow_cons, allBelow_nil, below, belowM, belowL]) (by simp [DropTm, DropV, below, belowM, belowL, intB, z3, List.length_map, allBelow_cons, allBelow_nil, below, belowM, belowL])
  rintro ⟨i, hi⟩
  have wl : (wtL D i).length = i := rngL_len _ _
  have sb := (wS i).sum
  rw [wl] at sb
  simp only [q0, q1, q2, q3, q4, q5, q6, q7, q8, q9, zq0, zq1, zq2, zq3, zq4, guardSlot, quietA, nilC, nilA, quietB, St.ev, St.put, St.after, Nat.reduceAdd, Nat.reduceSub, ofV, ofL, lenA, binA, intBin, fltBin, strBin, cpxBin, unA, convA, convB, convO, pickV, resL, oneA, indexA, indexS, isQuiet, loadA, loadC, storeA, fieldA, partA, sliceA, boundA, buildA, placeA, setAll, appendA, readSl, newEl, AV.cells, AV.solid, AV.one, kill, killM, killL, notInt, Int.reduceToNat, cond_true, cond_false, ↓reduceIte, reduceCtorEq, Nat.reduceLT, Nat.reduceLeDiff, Nat.reduceMul, Nat.reduceEqDiff, exists_eq', putF, implies_true, exists_true_left, tys0, tys1, tys2, tys3, und0, und1, und2, md8, Try.ntmps8, Try.results8, intB, ints_len, wl]
  refine br_intro (fun g => ?_) (fun g => ?_) <;> simp only [q0, q1, q2, q3, q4, q5, q6, q7, q8, q9, zq0, zq1, zq2, zq3, zq4, guardSlot, quietA, nilC, nilA, quietB, St.ev, St.put, St.after, Nat.reduceAdd, Nat.reduceSub, ofV, ofL, lenA, binA, intBin, fltBin, strBin, cpxBin, unA, convA, convB, convO, pickV, resL, oneA, indexA, indexS, isQuiet, loadA, loadC, storeA, fieldA, partA, sliceA, boundA, buildA, placeA, setAll, appendA, readSl, newEl, AV.cells, AV.solid, AV.one, kill, killM, killL, notInt, Int.reduceToNat, cond_true, cond_false, ↓reduceIte, reduceCtorEq, Nat.reduceLT, Nat.reduceLeDiff, Nat.reduceMul, Nat.reduceEqDiff, exists_eq', putF, implies_true, exists_true_left, tys0, tys1, tys2, tys3, und0, und1, und2, md8, Try.ntmps8, Try.results8, intB, ints_len, wl, List.length_map, List.getElem_map, dbtA, allW_int, fits, List.isEmpty_cons, brk_false, Nat.reduceMul]
  · have hi' : i < D.length := by have := of_decide_eq_true g; omega
    obtain ⟨_, _, b1, b2⟩ := h.ok _ (List.getElem_mem hi')
    have e1 : wtL D i ++ [D[i].2.2] = wtL D (i + 1) := by rw [← cen_at D i hi']; exact rngL_succ _ _
    have e2 : IntKind.i64.wrap (sumI (wtL D i) + D[i].2.2) = sumI (wtL D (i + 1)) := by
      rw [← e1, sumI_snoc]
      exact w64 (by omega) (by omega)
    refine ⟨hi', by omega, hi', ⟨i + 1, by omega⟩, by show D.length - (i + 1) < D.length - i; omega, ?_⟩
    rw [e1, e2]
    exact weak_drop (by simp) (by simp [DropHp, ints_below, flts_below, w64_succ i (by omega), intB, allBelow_cons, allBelow_nil, below, belowM, belowL]) (by simp [DropTm, DropV, below, belowM, belowL, w64_succ i (by omega), intB, allBelow_cons, allBelow_nil, below, belowM, belowL])
  · have hi' : i = D.length := by have := of_decide_eq_false g; omega
    subst hi'
    refine br_intro (fun u => ?_) (fun u => ?_) <;> simp only [q0, q1, q2, q3, q4, q5, q6, q7, q8, q9, zq0, zq1, zq2, zq3, zq4, guardSlot, quietA, nilC, nilA, quietB, St.ev, St.put, St.after, Nat.reduceAdd, Nat.reduceSub, ofV, ofL, lenA, binA, intBin, fltBin, strBin, cpxBin, unA, convA, convB, convO, pickV, resL, oneA, indexA, indexS, isQuiet, loadA, loadC, storeA, fieldA, partA, sliceA, boundA, buildA, placeA, setAll, appendA, readSl, newEl, AV.cells, AV.solid, AV.one, kill, killM, killL, notInt, Int.reduceToNat, cond_true, cond_false, ↓reduceIte, reduceCtorEq, Nat.reduceLT, Nat.reduceLeDiff, Nat.reduceMul, Nat.reduceEqDiff, exists_eq', putF, implies_true, exists_true_left, tys0, tys1, tys2, tys3, und0, und1, und2, md8, Try.ntmps8, Try.results8, intB, ints_len, wl, List.length_map]
    · have u' : k = 2 := by simpa using u
      refine br_intro (fun v => ?_) (fun v => ?_) <;> simp only [q0, q1, q2, q3, q4, q5, q6, q7, q8, q9, zq0, zq1, zq2, zq3, zq4, guardSlot, quietA, nilC, nilA, quietB, St.ev, St.put, St.after, Nat.reduceAdd, Nat.reduceSub, ofV, ofL, lenA, binA, intBin, fltBin, strBin, cpxBin, unA, convA, convB, convO, pickV, resL, oneA, indexA, indexS, isQuiet, loadA, loadC, storeA, fieldA, partA, sliceA, boundA, buildA, placeA, setAll, appendA, readSl, newEl, AV.cells, AV.solid, AV.one, kill, killM, killL, notInt, Int.reduceToNat, cond_true, cond_false, ↓reduceIte, reduceCtorEq, Nat.reduceLT, Nat.reduceLeDiff, Nat.reduceMul, Nat.reduceEqDiff, exists_eq', putF, implies_true, exists_true_left, tys0, tys1, tys2, tys3, und0, und1, und2, md8, Try.ntmps8, Try.results8, intB, ints_len, wl]
      · have v' := of_decide_eq_true v
        have e1 : IntKind.i64.wrap (c - sumI (wtL D D.length)) = c - sumI (wtL D D.length) := w64 (by omega) (by omega)
        have e2 : payR D c k P = (c - sumI (wtL D D.length), wtL D D.length) := by unfold payR; rw [if_pos u', if_pos (by omega)]
        rw [e1, e2]
        exact PostR.ret
      · have v' := of_decide_eq_false v
        refine call_lent_new 2 (by rw [List.map_cons, List.map_cons, List.map_cons, List.map_nil, view_in (W := wtL D D.length) rfl wl, view_i2, view_i2]) (part u' (by omega)) rfl (by simp [cleanB, intB, ints_clean]) (fun q hq => by rw [List.mem_singleton.1 hq]; exact ints_below _ _) ?_
        simp only [q0, q1, q2, q3, q4, q5, q6, q7, q8, q9, zq0, zq1, zq2, zq3, zq4, guardSlot, quietA, nilC, nilA, quietB, St.ev, St.put, St.after, Nat.reduceAdd, Nat.reduceSub, ofV, ofL, lenA, binA, intBin, fltBin, strBin, cpxBin, unA, convA, convB, convO, pickV, resL, oneA, indexA, indexS, isQuiet, loadA, loadC, storeA, fieldA, partA, sliceA, boundA, buildA, placeA, setAll, appendA, readSl, newEl, AV.cells, AV.solid, AV.one, kill, killM, killL, notInt, Int.reduceToNat, cond_true, cond_false, ↓reduceIte, reduceCtorEq, Nat.reduceLT, Nat.reduceLeDiff, Nat.reduceMul, Nat.reduceEqDiff, exists_eq', putF, implies_true, exists_true_left, tys0, tys1, tys2, tys3, und0, und1, und2, md8, Try.ntmps8, Try.results8, ren, renM, renL]
        have e2 : payR D c k P = (0, P) := by unfold payR; rw [if_pos u', if_neg (by omega)]
        rw [e2]
        exact PostR.pick (hp2 := [intB P]) (r2 := .tup [.sl 0 0 D.length, .int .i64 0, .bool true]) [1] (by decide) (by decide) (by decide) ⟨⟨rfl, ints_below _ _⟩, trivial⟩ rfl rfl ⟨rfl, rfl⟩
    · have u' : ¬ k = 2 := by simpa using u
      have kn := ordN_len (keyP D k) D.length
      have eR : payR D c k P = payT D c k D.length := if_neg u'
      rw [eR]
      refine ⟨by omega, by omega, by omega, by omega, ?_⟩
      refine go_round (md := md8) mixed (by kernel_rfl) (fun j : {j : Nat // j ≤ D.length} => ⟨[.ro (D.map dbtA), .int .i64 (payT D c k j.1).1, .int .i64 k, .any, .any, .any, .any, .any, .any, .any, .any, .any, .sl 1 0 D.length, .sl 2 0 D.length, .any, .any, .any, .any, .any, .any, .any, .any, .any, .any, .any, .any, .any, .any, .any, .any, .any, .any, .any, .any, .any, .any, .any, .any, .any, .any, .any, .any, .any, .any, .any, .any, .any, .any, .any, .any, .any, .any, .any, .any, .any, .any, .any, .any, .any, .any, .any, .any, .any, .any, .any, .any, .any, .any, .any, .any, .any, .any, .int .i64 D.length, .int .i64 (j.1 : Int), .any, .any, .any, .any, .any, .any, .any, .any, .any, .any, .any, .any, .any, .any, .any, .any, .any, .any, .any, .any, .any, .any, .any, .any, .any, .any, .any, .any, .any, .any, .any, .any, .any, .any, .any, .any, .any, .any, .any, .any, .any, .any, .any, .any, .any, .any, .any], [intB (wtL D D.length), intB (payT D c k j.1).2, bolB (tkL D k j.1)]⟩) (fun j => D.length - j.1) ⟨0, by omega⟩ ?_ ?_
      · have z : ints (List.replicate D.length 0) = List.replicate D.length (.int .i64 0) := by simp [ints]
        have zb : allBelow 3 (List.replicate D.length (AV.int .i64 0)) = true := by rw [← z]; exact ints_below _ _
        have z2 : bls (tkL D k 0) = List.replicate D.length (.bool false) := by
          unfold bls tkL tkB
          rw [List.take_zero, List.map_map]
          apply List.ext_getElem
          · simp
          · intro a h1 h2; simp
        have zb2 : allBelow 3 (List.replicate D.length (AV.bool false)) = true := by rw [← z2]; exact bls_below _ _
        rw [payT_zero]
        exact weak_drop (by simp) (by simp [DropHp, ints_below, flts_below, intB, bolB, z, zb, z2, zb2, List.length_map, allBelow_cons, allBelow_nil, below, belowM, belowL]) (by simp [DropTm, DropV, below, belowM, belowL, intB, bolB, z, zb, z2, zb2, List.length_map, allBelow_cons, allBelow_nil, below, belowM, belowL])
      rintro ⟨j, hj⟩
      obtain ⟨p0, p1, pl⟩ := payT_ok h c0 k j
      have tl := tkL_len D k j
      simp only [q0, q1, q2, q3, q4, q5, q6, q7, q8, q9, zq0, zq1, zq2, zq3, zq4, guardSlot, quietA, nilC, nilA, quietB, St.ev, St.put, St.after, Nat.reduceAdd, Nat.reduceSub, ofV, ofL, lenA, binA, intBin, fltBin, strBin, cpxBin, unA, convA, convB, convO, pickV, resL, oneA, indexA, indexS, isQuiet, loadA, loadC, storeA, fieldA, partA, sliceA, boundA, buildA, placeA, setAll, appendA, readSl, newEl, AV.cells, AV.solid, AV.one, kill, killM, killL, notInt, Int.reduceToNat, cond_true, cond_false, ↓reduceIte, reduceCtorEq, Nat.reduceLT, Nat.reduceLeDiff, Nat.reduceMul, Nat.reduceEqDiff, exists_eq', putF, implies_true, exists_true_left, tys0, tys1, tys2, tys3, und0, und1, und2, md8, Try.ntmps8, Try.results8, intB, bolB, ints_len, bls_len, pl, tl, List.length_map]
      refine br_intro (fun g => ?_) (fun g => ?_) <;> simp only [q0, q1, q2, q3, q4, q5, q6, q7, q8, q9, zq0, zq1, zq2, zq3, zq4, guardSlot, quietA, nilC, nilA, quietB, St.ev, St.put, St.after, Nat.reduceAdd, Nat.reduceSub, ofV, ofL, lenA, binA, intBin, fltBin, strBin, cpxBin, unA, convA, convB, convO, pickV, resL, oneA, indexA, indexS, isQuiet, loadA, loadC, storeA, fieldA, partA, sliceA, boundA, buildA, placeA, setAll, appendA, readSl, newEl, AV.cells, AV.solid, AV.one, kill, killM, killL, notInt, Int.reduceToNat, cond_true, cond_false, ↓reduceIte, reduceCtorEq, Nat.reduceLT, Nat.reduceLeDiff, Nat.reduceMul, Nat.reduceEqDiff, exists_eq', putF, implies_true, exists_true_left, tys0, tys1, tys2, tys3, und0, und1, und2, md8, Try.ntmps8, Try.results8, intB, bolB, ints_len, bls_len, pl, tl, List.length_map]
      · have hj' : j < D.length := by have := of_decide_eq_true g; omega
        refine go_round (md := md8) mixed (by kernel_rfl) (fun i : {i : Nat // i ≤ D.length} => ⟨[.ro (D.map dbtA), .int .i64 (payT D c k j).1, .int .i64 k, .any, .any, .any, .any, .any, .any, .any, .any, .any, .sl 1 0 D.length, .sl 2 0 D.length, .int .i64 (selK (keyP D k) (tkB D k j) i.1), .any, .any, .any, .any, .any, .any, .any, .any, .any, .any, .any, .any, .any, .any, .any, .any, .any, .any, .any, .any, .any, .any, .any, .any, .any, .any, .any, .any, .any, .any, .any, .any, .any, .any, .any, .any, .any, .any, .any, .any, .any, .any, .any, .any, .any, .any, .any, .any, .any, .any, .any, .any, .any, .any, .any, .any, .any, .int .i64 D.length, .int .i64 (j : Int), .any, .any, .int .i64 D.length, .int .i64 (i.1 : Int), .any, .any, .any, .any, .any, .any, .any, .any, .any, .any, .any, .any, .any, .any, .any, .any, .any, .any, .any, .any, .any, .any, .any, .any, .any, .any, .any, .any, .any, .any, .any, .any, .any, .any, .any, .any, .any, .any, .any, .any, .any, .any, .any], [intB (wtL D D.length), intB (payT D c k j).2, bolB (tkL D k j)]⟩) (fun i => D.length - i.1) ⟨0, by omega⟩ ?_ ?_
        · have z : selK (keyP D k) (tkB D k j) 0 = -1 := rfl
          rw [z]
          exact weak_drop (by simp) (by simp [DropHp, ints_below, flts_below, intB, bolB, bls_below, List.length_map, allBelow_cons, allBelow_nil, below, belowM, belowL]) (by simp [DropTm, DropV, below, belowM, belowL, intB, bolB, bls_below, List.length_map, allBelow_cons, allBelow_nil, below, belowM, belowL])
        rintro ⟨i, hi⟩
        obtain ⟨s0, s1⟩ := sel_bound D k (tkB D k j) i hi
        simp only [q0, q1, q2, q3, q4, q5, q6, q7, q8, q9, zq0, zq1, zq2, zq3, zq4, guardSlot, quietA, nilC, nilA, quietB, St.ev, St.put, St.after, Nat.reduceAdd, Nat.reduceSub, ofV, ofL, lenA, binA, intBin, fltBin, strBin, cpxBin, unA, convA, convB, convO, pickV, resL, oneA, indexA, indexS, isQuiet, loadA, loadC, storeA, fieldA, partA, sliceA, boundA, buildA, placeA, setAll, appendA, readSl, newEl, AV.cells, AV.solid, AV.one, kill, killM, killL, notInt, Int.reduceToNat, cond_true, cond_false, ↓reduceIte, reduceCtorEq, Nat.reduceLT, Nat.reduceLeDiff, Nat.reduceMul, Nat.reduceEqDiff, exists_eq', putF, implies_true, exists_true_left, tys0, tys1, tys2, tys3, und0, und1, und2, md8, Try.ntmps8, Try.results8, intB, bolB, ints_len, bls_len, bls_get, tkL_get, pl, tl, List.length_map]
        refine br_intro (fun f => ?_) (fun f => ?_) <;> simp only [q0, q1, q2, q3, q4, q5, q6, q7, q8, q9, zq0, zq1, zq2, zq3, zq4, guardSlot, quietA, nilC, nilA, quietB, St.ev, St.put, St.after, Nat.reduceAdd, Nat.reduceSub, ofV, ofL, lenA, binA, intBin, fltBin, strBin, cpxBin, unA, convA, convB, convO, pickV, resL, oneA, indexA, indexS, isQuiet, loadA, loadC, storeA, fieldA, partA, sliceA, boundA, buildA, placeA, setAll, appendA, readSl, newEl, AV.cells, AV.solid, AV.one, kill, killM, killL, notInt, Int.reduceToNat, cond_true, cond_false, ↓reduceIte, reduceCtorEq, Nat.reduceLT, Nat.reduceLeDiff, Nat.reduceMul, Nat.reduceEqDiff, exists_eq', putF, implies_true, exists_true_left, tys0, tys1, tys2, tys3, und0, und1, und2, md8, Try.ntmps8, Try.results8, intB, bolB, ints_len, bls_len, bls_get, tkL_get, pl, tl, List.length_map, List.getElem_map, dbtA]
        · have hi' : i < D.length := by have := of_decide_eq_true f; omega
          have ws := w64_succ i (by omega)
          refine ⟨by omega, hi', ?_⟩
          refine br_intro (fun t => ?_) (fun t => ?_) <;> simp only [q0, q1, q2, q3, q4, q5, q6, q7, q8, q9, zq0, zq1, zq2, zq3, zq4, guardSlot, quietA, nilC, nilA, quietB, St.ev, St.put, St.after, Nat.reduceAdd, Nat.reduceSub, ofV, ofL, lenA, binA, intBin, fltBin, strBin, cpxBin, unA, convA, convB, convO, pickV, resL, oneA, indexA, indexS, isQuiet, loadA, loadC, storeA, fieldA, partA, sliceA, boundA, buildA, placeA, setAll, appendA, readSl, newEl, AV.cells, AV.solid, AV.one, kill, killM, killL, notInt, Int.reduceToNat, cond_true, cond_false, ↓reduceIte, reduceCtorEq, Nat.reduceLT, Nat.reduceLeDiff, Nat.reduceMul, Nat.reduceEqDiff, exists_eq', putF, implies_true, exists_true_left, tys0, tys1, tys2, tys3, und0, und1, und2, md8, Try.ntmps8, Try.results8, intB, bolB, ints_len, bls_len, bls_get, tkL_get, pl, tl, List.length_map, List.getElem_map]
          · have e : selK (keyP D k) (tkB D k j) (i + 1) = selK (keyP D k) (tkB D k j) i := by
              rw [selK, if_neg (fun x => by rw [x.1] at t; cases t)]
            refine ⟨⟨i + 1, by omega⟩, by show D.length - (i + 1) < D.length - i; omega, ?_⟩
            exact weak_drop (by simp) (by simp [DropHp, ints_below, flts_below, ws, e, intB, bolB, bls_below, allBelow_cons, allBelow_nil, below, belowM, belowL]) (by simp [DropTm, DropV, below, belowM, belowL, ws, e, intB, bolB, bls_below, allBelow_cons, allBelow_nil, below, belowM, belowL])
          · refine br_intro (fun n => ?_) (fun n => ?_) <;> simp only [q0, q1, q2, q3, q4, q5, q6, q7, q8, q9, zq0, zq1, zq2, zq3, zq4, guardSlot, quietA, nilC, nilA, quietB, St.ev, St.put, St.after, Nat.reduceAdd, Nat.reduceSub, ofV, ofL, lenA, binA, intBin, fltBin, strBin, cpxBin, unA, convA, convB, convO, pickV, resL, oneA, indexA, indexS, isQuiet, loadA, loadC, storeA, fieldA, partA, sliceA, boundA, buildA, placeA, setAll, appendA, readSl, newEl, AV.cells, AV.solid, AV.one, kill, killM, killL, notInt, Int.reduceToNat, cond_true, cond_false, ↓reduceIte, reduceCtorEq, Nat.reduceLT, Nat.reduceLeDiff, Nat.reduceMul, Nat.reduceEqDiff, exists_eq', putF, implies_true, exists_true_left, tys0, tys1, tys2, tys3, und0, und1, und2, md8, Try.ntmps8, Try.results8, intB, bolB, ints_len, bls_len, bls_get, tkL_get, pl, tl, List.length_map, List.getElem_map, dbtA]
            · have e : selK (keyP D k) (tkB D k j) (i + 1) = (i : Int) := by
                rw [selK, if_pos ⟨t, .inl (of_decide_eq_true n)⟩]
              refine ⟨⟨i + 1, by omega⟩, by show D.length - (i + 1) < D.length - i; omega, ?_⟩
              exact weak_drop (by simp) (by simp [DropHp, ints_below, flts_below, ws, e, intB, bolB, bls_below, allBelow_cons, allBelow_nil, below, belowM, belowL]) (by simp [DropTm, DropV, below, belowM, belowL, ws, e, intB, bolB, bls_below, allBelow_cons, allBelow_nil, below, belowM, belowL])
            · have n' := of_decide_eq_false n
              have hs : (selK (keyP D k) (tkB D k j) i).toNat < D.length := by omega
              refine ⟨hi', by omega, hs, ?_⟩
              refine callr_ret (before_call D[i] D[(selK (keyP D k) (tkB D k j) i).toNat] k) rfl rfl ?_
              have eb := befB_key h.ok k i (selK (keyP D k) (tkB D k j) i).toNat
              rw [dAt D i hi', dAt D _ hs] at eb
              rw [eb]
              simp only [q0, q1, q2, q3, q4, q5, q6, q7, q8, q9, zq0, zq1, zq2, zq3, zq4, guardSlot, quietA, nilC, nilA, quietB, St.ev, St.put, St.after, Nat.reduceAdd, Nat.reduceSub, ofV, ofL, lenA, binA, intBin, fltBin, strBin, cpxBin, unA, convA, convB, convO, pickV, resL, oneA, indexA, indexS, isQuiet, loadA, loadC, storeA, fieldA, partA, sliceA, boundA, buildA, placeA, setAll, appendA, readSl, newEl, AV.cells, AV.solid, AV.one, kill, killM, killL, notInt, Int.reduceToNat, cond_true, cond_false, ↓reduceIte, reduceCtorEq, Nat.reduceLT, Nat.reduceLeDiff, Nat.reduceMul, Nat.reduceEqDiff, exists_eq', putF, implies_true, exists_true_left, tys0, tys1, tys2, tys3, und0, und1, und2, md8, Try.ntmps8, Try.results8]
              refine br_intro (fun b => ?_) (fun b => ?_) <;> simp only [q0, q1, q2, q3, q4, q5, q6, q7, q8, q9, zq0, zq1, zq2, zq3, zq4, guardSlot, quietA, nilC, nilA, quietB, St.ev, St.put, St.after, Nat.reduceAdd, Nat.reduceSub, ofV, ofL, lenA, binA, intBin, fltBin, strBin, cpxBin, unA, convA, convB, convO, pickV, resL, oneA, indexA, indexS, isQuiet, loadA, loadC, storeA, fieldA, partA, sliceA, boundA, buildA, placeA, setAll, appendA, readSl, newEl, AV.cells, AV.solid, AV.one, kill, killM, killL, notInt, Int.reduceToNat, cond_true, cond_false, ↓reduceIte, reduceCtorEq, Nat.reduceLT, Nat.reduceLeDiff, Nat.reduceMul, Nat.reduceEqDiff, exists_eq', putF, implies_true, exists_true_left, tys0, tys1, tys2, tys3, und0, und1, und2, md8, Try.ntmps8, Try.results8]
              · have e : selK (keyP D k) (tkB D k j) (i + 1) = (i : Int) := by
                  rw [selK, if_pos ⟨t, .inr (of_decide_eq_true b)⟩]
                refine ⟨⟨i + 1, by omega⟩, by show D.length - (i + 1) < D.length - i; omega, ?_⟩
                exact weak_drop (by simp) (by simp [DropHp, ints_below, flts_below, ws, e, intB, bolB, bls_below, allBelow_cons, allBelow_nil, below, belowM, belowL]) (by simp [DropTm, DropV, below, belowM, belowL, ws, e, intB, bolB, bls_below, allBelow_cons, allBelow_nil, below, belowM, belowL])
              · have b' := of_decide_eq_false b
                have e : selK (keyP D k) (tkB D k j) (i + 1) = selK (keyP D k) (tkB D k j) i := by
                  rw [selK, if_neg (fun x => x.2.elim n' b')]
                refine ⟨⟨i + 1, by omega⟩, by show D.length - (i + 1) < D.length - i; omega, ?_⟩
                exact weak_drop (by simp) (by simp [DropHp, ints_below, flts_below, ws, e, intB, bolB, bls_below, allBelow_cons, allBelow_nil, below, belowM, belowL]) (by simp [DropTm, DropV, below, belowM, belowL, ws, e, intB, bolB, bls_below, allBelow_cons, allBelow_nil, below, belowM, belowL])
        · have hi' : i = D.length := by have := of_decide_eq_false f; omega
          subst hi'
          have eo := tk_sel D k j hj'
          have st := payT_succ D c k j hj'
          have ts := tkL_succ D k j hj'
          have om : (ordN (keyP D k) D.length)[j]'(by omega) < D.length := ordN_mem.1 (List.getElem_mem _)
          generalize (ordN (keyP D k) D.length)[j]'(by omega) = o at *
          rw [eo]
          simp only [Int.toNat_natCast]
          have ec := cen_at D o om
          obtain ⟨_, _, b1, b2⟩ := h.ok _ (List.getElem_mem om)
          rw [← ec] at b1 b2
          refine ⟨by omega, by omega, om, by omega, om, ?_⟩
          rw [← ec, bls_set, ts]
          refine call_ret (l00Min_call _ _) rfl rfl ?_
          have cm : min (cen D o) (payT D c k j).1 = min (payT D c k j).1 (cen D o) := by omega
          have e3 : IntKind.i64.wrap ((payT D c k j).1 - min (payT D c k j).1 (cen D o)) = (payT D c k j).1 - min (payT D c k j).1 (cen D o) := w64 (by omega) (by omega)
          rw [cm]
          simp only [q0, q1, q2, q3, q4, q5, q6, q7, q8, q9, zq0, zq1, zq2, zq3, zq4, guardSlot, quietA, nilC, nilA, quietB, St.ev, St.put, St.after, Nat.reduceAdd, Nat.reduceSub, ofV, ofL, lenA, binA, intBin, fltBin, strBin, cpxBin, unA, convA, convB, convO, pickV, resL, oneA, indexA, indexS, isQuiet, loadA, loadC, storeA, fieldA, partA, sliceA, boundA, buildA, placeA, setAll, appendA, readSl, newEl, AV.cells, AV.solid, AV.one, kill, killM, killL, notInt, Int.reduceToNat, cond_true, cond_false, ↓reduceIte, reduceCtorEq, Nat.reduceLT, Nat.reduceLeDiff, Nat.reduceMul, Nat.reduceEqDiff, exists_eq', putF, implies_true, exists_true_left, tys0, tys1, tys2, tys3, und0, und1, und2, md8, Try.ntmps8, Try.results8, ints_len, pl, e3]
          refine ⟨by omega, by omega, ⟨j + 1, by omega⟩, by show D.length - (j + 1) < D.length - j; omega, ?_⟩
          show Weak 0 _ ⟨_, _⟩
          rw [st]
          unfold payStep
          rw [ints_set]
          exact weak_drop (by simp) (by simp [DropHp, ints_below, flts_below, w64_succ j (by omega), intB, bolB, bls_below, allBelow_cons, allBelow_nil, below, belowM, belowL]) (by simp [DropTm, DropV, below, belowM, belowL, w64_succ j (by omega), intB, bolB, bls_below, allBelow_cons, allBelow_nil, below, belowM, belowL])
      · have hj' : j = D.length := by have := of_decide_eq_false g; omega
        subst hj'
        exact PostR.tell [1] (hp2 := [intB (payT D c k D.length).2]) (by decide) (by decide) (by decide) ⟨⟨congrArg some (renB_flat (r := intB _) (ints_below _ _)).symm, ints_below _ _⟩, trivial⟩ rfl rfl ⟨rfl, rfl⟩
end Go.Proofs.Ytimnfechlomkpaa
