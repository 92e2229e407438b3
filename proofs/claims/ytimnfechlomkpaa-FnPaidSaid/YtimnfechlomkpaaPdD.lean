/- Debts that are paid in their order: the program. -/
import Derived.Test.YtimnfechlomkpaaPdC
set_option maxRecDepth 10000
set_option maxHeartbeats 8000000
set_option linter.unusedSimpArgs false
set_option linter.unusedVariables false
namespace Go.Proofs.Ytimnfechlomkpaa
open Go Go.Abs

theorem min_if (a b : Int) : (if b < a then b else a) = min a b := by
  split <;> omega
def cen (D : List Dbt) (i : Nat) : Int := (D.getD i dbt0).2.2
def payStep (D : List Dbt) (s : Int × List Int) (i : Nat) : Int × List Int := (s.1 - min s.1 (cen D i), s.2.set i (min s.1 (cen D i)))
def payT (D : List Dbt) (c k : Int) (j : Nat) : Int × List Int := ((ordN (keyP D k) D.length).take j).foldl (payStep D) (c, List.replicate D.length 0)
theorem payT_zero (D : List Dbt) (c k : Int) : payT D c k 0 = (c, List.replicate D.length 0) := rfl
theorem payT_succ (D : List Dbt) (c k : Int) (j : Nat) (hj : j < D.length) : payT D c k (j + 1) = payStep D (payT D c k j) ((ordN (keyP D k) D.length)[j]'(by rw [ordN_len]; exact hj)) := by
  unfold payT
  rw [List.take_add_one, List.getElem?_eq_getElem (by rw [ordN_len]; exact hj), List.foldl_append]
  rfl
theorem payT_ok {D : List Dbt} (h : Dts D) {c : Int} (c0 : 0 ≤ c) (k : Int) (j : Nat) : 0 ≤ (payT D c k j).1 ∧ (payT D c k j).1 ≤ c ∧ (payT D c k j).2.length = D.length := by
  unfold payT
  generalize (ordN (keyP D k) D.length).take j = l
  have key : ∀ (l : List Nat) (s : Int × List Int), 0 ≤ s.1 → s.1 ≤ c → s.2.length = D.length → 0 ≤ (l.foldl (payStep D) s).1 ∧ (l.foldl (payStep D) s).1 ≤ c ∧ (l.foldl (payStep D) s).2.length = D.length := by
    intro l
    induction l with
    | nil => exact fun s a b c => ⟨a, b, c⟩
    | cons i l ih =>
      intro s a b d
      obtain ⟨_, _, b3, _⟩ := dbt_bounds h.ok i
      rw [List.foldl_cons]
      refine ih _ ?_ ?_ ?_
      · show 0 ≤ s.1 - min s.1 (cen D i); omega
      · have : 0 ≤ cen D i := b3
        show s.1 - min s.1 (cen D i) ≤ c; omega
      · show (s.2.set i _).length = _; simp [d]
  exact key l _ c0 (Int.le_refl _) (by simp)
def wtL (D : List Dbt) (i : Nat) : List Int := rngL (cen D) i
theorem cen_at (D : List Dbt) (i : Nat) (h : i < D.length) : cen D i = D[i].2.2 := by unfold cen; rw [dAt D i h]
def payR (D : List Dbt) (c k : Int) (P : List Int) : Int × List Int := if k = 2 then (if sumI (wtL D D.length) ≤ c then (c - sumI (wtL D D.length), wtL D D.length) else (0, P)) else payT D c k D.length
def lstC (D : List Dbt) : Blk := cel 24 (.ro (D.map dbtA))
def kndC (k : Int) : Blk := cel 2 (.int .i64 k)
def plcB (l : List Int) : Blk := { ty := 3, w := 1, els := ints l }
theorem implPay_call {D : List Dbt} (h : Dts D) (c k : Int) (c0 : 0 ≤ c) (c1 : c ≤ 100000) (k0 : 0 ≤ k) (k2 : k ≤ 2) (P : List Int) (part : k = 2 → c < sumI (wtL D D.length) → CallA Try.prog 20 [.int .i64 c, .ro (ints (wtL D D.length))] [] (Ret (.sl 0 0 D.length) [intB P])) :
    CallA Try.prog 7 [.ro (D.map dbtA), .int .i64 c, .int .i64 k] [] (Ret (.tup [.sl 0 0 D.length, .int .i64 (payR D c k P).1, .bool true]) [intB (payR D c k P).2]) := by
  have h1 := h.one
  have h7 := h.seven
  refine CallP.out (t := .mk) (go_in (md := md7) mixed Try.func7 rfl go7 (by kernel_rfl) ?_)
  simp only [q0, q1, q2, q3, q4, q5, q6, q7, q8, q9, zq0, zq1, zq2, zq3, zq4, guardSlot, quietA, nilC, nilA, quietB, St.ev, St.put, St.after, Nat.reduceAdd, Nat.reduceSub, ofV, ofL, lenA, binA, intBin, fltBin, strBin, cpxBin, unA, convA, convB, convO, pickV, resL, oneA, indexA, indexS, isQuiet, loadA, loadC, storeA, fieldA, partA, sliceA, boundA, buildA, placeA, setAll, appendA, readSl, newEl, AV.cells, AV.solid, AV.one, kill, killM, killL, notInt, Int.reduceToNat, cond_true, cond_false, ↓reduceIte, reduceCtorEq, Nat.reduceLT, Nat.reduceLeDiff, Nat.reduceMul, Nat.reduceEqDiff, exists_eq', putF, implies_true, exists_true_left, tys0, tys1, tys2, tys3, und0, und1, und2, md7, Try.ntmps7, Try.results7]
  refine call_ret (areDebts_call h) rfl rfl ?_
  simp only [q0, q1, q2, q3, q4, q5, q6, q7, q8, q9, zq0, zq1, zq2, zq3, zq4, guardSlot, quietA, nilC, nilA, quietB, St.ev, St.put, St.after, Nat.reduceAdd, Nat.reduceSub, ofV, ofL, lenA, binA, intBin, fltBin, strBin, cpxBin, unA, convA, convB, convO, pickV, resL, oneA, indexA, indexS, isQuiet, loadA, loadC, storeA, fieldA, partA, sliceA, boundA, buildA, placeA, setAll, appendA, readSl, newEl, AV.cells, AV.solid, AV.one, kill, killM, killL, notInt, Int.reduceToNat, cond_true, cond_false, ↓reduceIte, reduceCtorEq, Nat.reduceLT, Nat.reduceLeDiff, Nat.reduceMul, Nat.reduceEqDiff, exists_eq', putF, implies_true, exists_true_left, tys0, tys1, tys2, tys3, und0, und1, und2, md7, Try.ntmps7, Try.results7]
  refine call_ret (within_call _ _ _) rfl rfl ?_
  rw [inR_yes c0 (show c ≤ 1000000000000 by omega)]
  simp only [q0, q1, q2, q3, q4, q5, q6, q7, q8, q9, zq0, zq1, zq2, zq3, zq4, guardSlot, quietA, nilC, nilA, quietB, St.ev, St.put, St.after, Nat.reduceAdd, Nat.reduceSub, ofV, ofL, lenA, binA, intBin, fltBin, strBin, cpxBin, unA, convA, convB, convO, pickV, resL, oneA, indexA, indexS, isQuiet, loadA, loadC, storeA, fieldA, partA, sliceA, boundA, buildA, placeA, setAll, appendA, readSl, newEl, AV.cells, AV.solid, AV.one, kill, killM, killL, notInt, Int.reduceToNat, cond_true, cond_false, ↓reduceIte, reduceCtorEq, Nat.reduceLT, Nat.reduceLeDiff, Nat.reduceMul, Nat.reduceEqDiff, exists_eq', putF, implies_true, exists_true_left, tys0, tys1, tys2, tys3, und0, und1, und2, md7, Try.ntmps7, Try.results7]
  refine call_ret (within_call _ _ _) rfl rfl ?_
  rw [inR_yes k0 k2]
  simp only [q0, q1, q2, q3, q4, q5, q6, q7, q8, q9, zq0, zq1, zq2, zq3, zq4, guardSlot, quietA, nilC, nilA, quietB, St.ev, St.put, St.after, Nat.reduceAdd, Nat.reduceSub, ofV, ofL, lenA, binA, intBin, fltBin, strBin, cpxBin, unA, convA, convB, convO, pickV, resL, oneA, indexA, indexS, isQuiet, loadA, loadC, storeA, fieldA, partA, sliceA, boundA, buildA, placeA, setAll, appendA, readSl, newEl, AV.cells, AV.solid, AV.one, kill, killM, killL, notInt, Int.reduceToNat, cond_true, cond_false, ↓reduceIte, reduceCtorEq, Nat.reduceLT, Nat.reduceLeDiff, Nat.reduceMul, Nat.reduceEqDiff, exists_eq', putF, implies_true, exists_true_left, tys0, tys1, tys2, tys3, und0, und1, und2, md7, Try.ntmps7, Try.results7]
  refine go_round (md := md7) mixed (by kernel_rfl) (fun i : {i : Nat // i ≤ D.length} => ⟨[.any, .int .i64 c, .any, .ptr 0 0 0, .any, .ptr 1 0 0, .any, .any, .any, .sl 2 0 i.1, .sl 3 0 i.1, .any, .any, .any, .any, .any, .any, .any, .any, .any, .any, .any, .any, .any, .any, .any, .any, .any, .any, .any, .any, .any, .ro (D.map dbtA), .int .i64 D.length, .int .i64 (i.1 : Int), .any, .any, .any, .any, .any, .any, .any, .any, .any, .any, .any, .any, .any, .any, .any, .any, .any, .any, .any, .any, .any, .any, .any, .any, .any, .any, .any, .any, .any, .any, .any, .any, .any, .any, .any, .any, .any, .any, .any, .any, .any, .any, .any, .any, .any, .any, .any, .any, .any, .any, .any, .any, .any, .any, .any, .any, .any, .any, .any], [lstC D, kndC k, intB (wtL D i.1), plcB (idL i.1)]⟩) (fun i => D.length - i.1) ⟨0, by omega⟩ ?_ ?_
  · have z1 : wtL D 0 = [] := rfl
    have z2 : idL 0 = [] := rfl
    have z3 : ints [] = [] := rfl
    rw [z1, z2]
    exact weak_drop (by simp) (by simp [DropHp, ints_below, flts_below, lstC, kndC, plcB, intB, cel, z3, List.length_map, allBelow_cons, allBelow_nil, below, belowM, belowL]) (by simp [DropTm, DropV, below, belowM, belowL, lstC, kndC, plcB, intB, cel, z3, List.length_map, allBelow_cons, allBelow_nil, below, belowM, belowL])
  rintro ⟨i, hi⟩
  have wl : (wtL D i).length = i := rngL_len _ _
  have ol : (idL i).length = i := rngL_len _ _
  simp only [q0, q1, q2, q3, q4, q5, q6, q7, q8, q9, zq0, zq1, zq2, zq3, zq4, guardSlot, quietA, nilC, nilA, quietB, St.ev, St.put, St.after, Nat.reduceAdd, Nat.reduceSub, ofV, ofL, lenA, binA, intBin, fltBin, strBin, cpxBin, unA, convA, convB, convO, pickV, resL, oneA, indexA, indexS, isQuiet, loadA, loadC, storeA, fieldA, partA, sliceA, boundA, buildA, placeA, setAll, appendA, readSl, newEl, AV.cells, AV.solid, AV.one, kill, killM, killL, notInt, Int.reduceToNat, cond_true, cond_false, ↓reduceIte, reduceCtorEq, Nat.reduceLT, Nat.reduceLeDiff, Nat.reduceMul, Nat.reduceEqDiff, exists_eq', putF, implies_true, exists_true_left, tys0, tys1, tys2, tys3, und0, und1, und2, md7, Try.ntmps7, Try.results7, lstC, kndC, plcB, intB, cel, ints_len, wl, ol]
  refine br_intro (fun g => ?_) (fun g => ?_) <;> simp only [q0, q1, q2, q3, q4, q5, q6, q7, q8, q9, zq0, zq1, zq2, zq3, zq4, guardSlot, quietA, nilC, nilA, quietB, St.ev, St.put, St.after, Nat.reduceAdd, Nat.reduceSub, ofV, ofL, lenA, binA, intBin, fltBin, strBin, cpxBin, unA, convA, convB, convO, pickV, resL, oneA, indexA, indexS, isQuiet, loadA, loadC, storeA, fieldA, partA, sliceA, boundA, buildA, placeA, setAll, appendA, readSl, newEl, AV.cells, AV.solid, AV.one, kill, killM, killL, notInt, Int.reduceToNat, cond_true, cond_false, ↓reduceIte, reduceCtorEq, Nat.reduceLT, Nat.reduceLeDiff, Nat.reduceMul, Nat.reduceEqDiff, exists_eq', putF, implies_true, exists_true_left, tys0, tys1, tys2, tys3, und0, und1, und2, md7, Try.ntmps7, Try.results7, lstC, kndC, plcB, intB, cel, ints_len, wl, ol, List.length_map, List.getElem_map, dbtA, allW_int, fits, List.isEmpty_cons, brk_false, Nat.reduceMul]
  · have hi' : i < D.length := by have := of_decide_eq_true g; omega
    refine ⟨hi', by omega, by omega, ⟨i + 1, by omega⟩, by show D.length - (i + 1) < D.length - i; omega, ?_⟩
    have e1 : wtL D i ++ [D[i].2.2] = wtL D (i + 1) := by rw [← cen_at D i hi']; exact rngL_succ _ _
    have e2 : idL i ++ [(i : Int)] = idL (i + 1) := rngL_succ _ _
    rw [e1, e2]
    exact weak_drop (by simp) (by simp [DropHp, ints_below, flts_below, w64_succ i (by omega), lstC, kndC, plcB, intB, cel, allBelow_cons, allBelow_nil, below, belowM, belowL]) (by simp [DropTm, DropV, below, belowM, belowL, w64_succ i (by omega), lstC, kndC, plcB, intB, cel, allBelow_cons, allBelow_nil, below, belowM, belowL])
  · have hi' : i = D.length := by have := of_decide_eq_false g; omega
    subst hi'
    have wb : Sml 2000 (wtL D D.length) := by
      intro x hx
      obtain ⟨j, hj, rfl⟩ := List.mem_map.1 hx
      obtain ⟨_, _, b1, b2⟩ := dbt_bounds h.ok j
      exact ⟨b1, by show (D.getD j dbt0).2.2 < 2000; omega⟩
    have sb := wb.sum
    rw [wl] at sb
    refine br_intro (fun u => ?_) (fun u => ?_) <;> simp only [q0, q1, q2, q3, q4, q5, q6, q7, q8, q9, zq0, zq1, zq2, zq3, zq4, guardSlot, quietA, nilC, nilA, quietB, St.ev, St.put, St.after, Nat.reduceAdd, Nat.reduceSub, ofV, ofL, lenA, binA, intBin, fltBin, strBin, cpxBin, unA, convA, convB, convO, pickV, resL, oneA, indexA, indexS, isQuiet, loadA, loadC, storeA, fieldA, partA, sliceA, boundA, buildA, placeA, setAll, appendA, readSl, newEl, AV.cells, AV.solid, AV.one, kill, killM, killL, notInt, Int.reduceToNat, cond_true, cond_false, ↓reduceIte, reduceCtorEq, Nat.reduceLT, Nat.reduceLeDiff, Nat.reduceMul, Nat.reduceEqDiff, exists_eq', putF, implies_true, exists_true_left, tys0, tys1, tys2, tys3, und0, und1, und2, md7, Try.ntmps7, Try.results7, lstC, kndC, plcB, intB, cel, ints_len, wl, ol]
    · have u' : k = 2 := by simpa using u
      refine call_lent 2 (by rw [List.map_cons, List.map_nil, view_in (W := wtL D D.length) rfl wl]) (total_call (wtL D D.length) wb (by omega)) rfl rfl ?_
      simp only [q0, q1, q2, q3, q4, q5, q6, q7, q8, q9, zq0, zq1, zq2, zq3, zq4, guardSlot, quietA, nilC, nilA, quietB, St.ev, St.put, St.after, Nat.reduceAdd, Nat.reduceSub, ofV, ofL, lenA, binA, intBin, fltBin, strBin, cpxBin, unA, convA, convB, convO, pickV, resL, oneA, indexA, indexS, isQuiet, loadA, loadC, storeA, fieldA, partA, sliceA, boundA, buildA, placeA, setAll, appendA, readSl, newEl, AV.cells, AV.solid, AV.one, kill, killM, killL, notInt, Int.reduceToNat, cond_true, cond_false, ↓reduceIte, reduceCtorEq, Nat.reduceLT, Nat.reduceLeDiff, Nat.reduceMul, Nat.reduceEqDiff, exists_eq', putF, implies_true, exists_true_left, tys0, tys1, tys2, tys3, und0, und1, und2, md7, Try.ntmps7, Try.results7]
      refine br_intro (fun v => ?_) (fun v => ?_) <;> simp only [q0, q1, q2, q3, q4, q5, q6, q7, q8, q9, zq0, zq1, zq2, zq3, zq4, guardSlot, quietA, nilC, nilA, quietB, St.ev, St.put, St.after, Nat.reduceAdd, Nat.reduceSub, ofV, ofL, lenA, binA, intBin, fltBin, strBin, cpxBin, unA, convA, convB, convO, pickV, resL, oneA, indexA, indexS, isQuiet, loadA, loadC, storeA, fieldA, partA, sliceA, boundA, buildA, placeA, setAll, appendA, readSl, newEl, AV.cells, AV.solid, AV.one, kill, killM, killL, notInt, Int.reduceToNat, cond_true, cond_false, ↓reduceIte, reduceCtorEq, Nat.reduceLT, Nat.reduceLeDiff, Nat.reduceMul, Nat.reduceEqDiff, exists_eq', putF, implies_true, exists_true_left, tys0, tys1, tys2, tys3, und0, und1, und2, md7, Try.ntmps7, Try.results7]
      · have v' := of_decide_eq_true v
        have e1 : IntKind.i64.wrap (c - sumI (wtL D D.length)) = c - sumI (wtL D D.length) := w64 (by omega) (by omega)
        have e2 : payR D c k P = (c - sumI (wtL D D.length), wtL D D.length) := by unfold payR; rw [if_pos u', if_pos v']
        rw [e1, e2]
        exact PostR.pick (hp2 := [intB (wtL D D.length)]) (r2 := .tup [.sl 0 0 D.length, .int .i64 (c - sumI (wtL D D.length)), .bool true]) [2] (by decide) (by decide) (by decide) ⟨⟨rfl, ints_below _ _⟩, trivial⟩ rfl rfl ⟨rfl, rfl⟩
      · have v' := of_decide_eq_false v
        refine call_lent_new 2 (by rw [List.map_cons, List.map_cons, List.map_nil, view_in (W := wtL D D.length) rfl wl, view_i2]) (part u' (by omega)) rfl (by simp [cleanB, intB, ints_clean]) (fun q hq => by rw [List.mem_singleton.1 hq]; exact ints_below _ _) ?_
        simp only [q0, q1, q2, q3, q4, q5, q6, q7, q8, q9, zq0, zq1, zq2, zq3, zq4, guardSlot, quietA, nilC, nilA, quietB, St.ev, St.put, St.after, Nat.reduceAdd, Nat.reduceSub, ofV, ofL, lenA, binA, intBin, fltBin, strBin, cpxBin, unA, convA, convB, convO, pickV, resL, oneA, indexA, indexS, isQuiet, loadA, loadC, storeA, fieldA, partA, sliceA, boundA, buildA, placeA, setAll, appendA, readSl, newEl, AV.cells, AV.solid, AV.one, kill, killM, killL, notInt, Int.reduceToNat, cond_true, cond_false, ↓reduceIte, reduceCtorEq, Nat.reduceLT, Nat.reduceLeDiff, Nat.reduceMul, Nat.reduceEqDiff, exists_eq', putF, implies_true, exists_true_left, tys0, tys1, tys2, tys3, und0, und1, und2, md7, Try.ntmps7, Try.results7, ren, renM, renL]
        have e2 : payR D c k P = (0, P) := by unfold payR; rw [if_pos u', if_neg v']
        rw [e2]
        exact PostR.pick (hp2 := [intB P]) (r2 := .tup [.sl 0 0 D.length, .int .i64 0, .bool true]) [4] (by decide) (by decide) (by decide) ⟨⟨rfl, ints_below _ _⟩, trivial⟩ rfl rfl ⟨rfl, rfl⟩
    · have u' : ¬ k = 2 := by simpa using u
      have srt := paySort_call h k
      refine call_subG [3, 0, 1] srt (by decide) ⟨⟨by simp [renB, ints_ren], ints_below _ _⟩, ⟨rfl, rfl⟩, ⟨rfl, rfl⟩, trivial⟩ rfl rfl (hp2 := [lstC D, kndC k, intB (wtL D D.length), plcB (ordK (keyP D k) D.length)]) (by simp [subHp, putBack, renB, upName, payC, cel, ren, renM, renL, ints_ren, lstC, kndC, plcB, intB]) ?_
      simp only [q0, q1, q2, q3, q4, q5, q6, q7, q8, q9, zq0, zq1, zq2, zq3, zq4, guardSlot, quietA, nilC, nilA, quietB, St.ev, St.put, St.after, Nat.reduceAdd, Nat.reduceSub, ofV, ofL, lenA, binA, intBin, fltBin, strBin, cpxBin, unA, convA, convB, convO, pickV, resL, oneA, indexA, indexS, isQuiet, loadA, loadC, storeA, fieldA, partA, sliceA, boundA, buildA, placeA, setAll, appendA, readSl, newEl, AV.cells, AV.solid, AV.one, kill, killM, killL, notInt, Int.reduceToNat, cond_true, cond_false, ↓reduceIte, reduceCtorEq, Nat.reduceLT, Nat.reduceLeDiff, Nat.reduceMul, Nat.reduceEqDiff, exists_eq', putF, implies_true, exists_true_left, tys0, tys1, tys2, tys3, und0, und1, und2, md7, Try.ntmps7, Try.results7, lstC, kndC, plcB, intB, cel, ints_len, wl, ren, renM, renL, List.length_map]
      refine ⟨by omega, by omega, ?_⟩
      have ko := ordK_len (keyP D k) D.length
      have kn := ordN_len (keyP D k) D.length
      have eR : payR D c k P = payT D c k D.length := if_neg u'
      rw [eR]
      refine go_round (md := md7) mixed (by kernel_rfl) (fun j : {j : Nat // j ≤ D.length} => ⟨[.any, .int .i64 (payT D c k j.1).1, .any, .ptr 0 0 0, .any, .any, .any, .any, .any, .any, .any, .any, .any, .any, .sl 4 0 D.length, .any, .any, .any, .any, .any, .any, .any, .any, .any, .any, .any, .any, .any, .any, .any, .any, .any, .any, .any, .any, .any, .any, .any, .any, .any, .any, .any, .any, .any, .any, .any, .any, .any, .any, .any, .any, .any, .any, .any, .any, .any, .any, .any, .any, .any, .any, .any, .any, .any, .any, .any, .any, .any, .any, .sl 3 0 D.length, .int .i64 D.length, .int .i64 (j.1 : Int), .any, .any, .any, .any, .any, .any, .any, .any, .any, .any, .any, .any, .any, .any, .any, .any, .any, .any, .any, .any, .any, .any], [lstC D, kndC k, intB (wtL D D.length), plcB (ordK (keyP D k) D.length), intB (payT D c k j.1).2]⟩) (fun j => D.length - j.1) ⟨0, by omega⟩ ?_ ?_
      · have z : ints (List.replicate D.length 0) = List.replicate D.length (.int .i64 0) := by simp [ints]
        have zb : allBelow 5 (List.replicate D.length (AV.int .i64 0)) = true := by rw [← z]; exact ints_below _ _
        rw [payT_zero]
        exact weak_drop (by simp) (by simp [DropHp, ints_below, flts_below, lstC, kndC, plcB, intB, cel, z, zb, allBelow_cons, allBelow_nil, below, belowM, belowL]) (by simp [DropTm, DropV, below, belowM, belowL, lstC, kndC, plcB, intB, cel, z, zb, allBelow_cons, allBelow_nil, below, belowM, belowL])
      rintro ⟨j, hj⟩
      obtain ⟨p0, p1, pl⟩ := payT_ok h c0 k j
      simp only [q0, q1, q2, q3, q4, q5, q6, q7, q8, q9, zq0, zq1, zq2, zq3, zq4, guardSlot, quietA, nilC, nilA, quietB, St.ev, St.put, St.after, Nat.reduceAdd, Nat.reduceSub, ofV, ofL, lenA, binA, intBin, fltBin, strBin, cpxBin, unA, convA, convB, convO, pickV, resL, oneA, indexA, indexS, isQuiet, loadA, loadC, storeA, fieldA, partA, sliceA, boundA, buildA, placeA, setAll, appendA, readSl, newEl, AV.cells, AV.solid, AV.one, kill, killM, killL, notInt, Int.reduceToNat, cond_true, cond_false, ↓reduceIte, reduceCtorEq, Nat.reduceLT, Nat.reduceLeDiff, Nat.reduceMul, Nat.reduceEqDiff, exists_eq', putF, implies_true, exists_true_left, tys0, tys1, tys2, tys3, und0, und1, und2, md7, Try.ntmps7, Try.results7, lstC, kndC, plcB, intB, cel, ints_len, ko, pl, List.length_map]
      refine br_intro (fun g => ?_) (fun g => ?_) <;> simp only [q0, q1, q2, q3, q4, q5, q6, q7, q8, q9, zq0, zq1, zq2, zq3, zq4, guardSlot, quietA, nilC, nilA, quietB, St.ev, St.put, St.after, Nat.reduceAdd, Nat.reduceSub, ofV, ofL, lenA, binA, intBin, fltBin, strBin, cpxBin, unA, convA, convB, convO, pickV, resL, oneA, indexA, indexS, isQuiet, loadA, loadC, storeA, fieldA, partA, sliceA, boundA, buildA, placeA, setAll, appendA, readSl, newEl, AV.cells, AV.solid, AV.one, kill, killM, killL, notInt, Int.reduceToNat, cond_true, cond_false, ↓reduceIte, reduceCtorEq, Nat.reduceLT, Nat.reduceLeDiff, Nat.reduceMul, Nat.reduceEqDiff, exists_eq', putF, implies_true, exists_true_left, tys0, tys1, tys2, tys3, und0, und1, und2, md7, Try.ntmps7, Try.results7, lstC, kndC, plcB, intB, cel, ints_len, ko, pl, List.length_map, List.getElem_map, dbtA, minA, min_if]
      · have hj' : j < D.length := by have := of_decide_eq_true g; omega
        have hk' : j < (ordK (keyP D k) D.length).length := by omega
        have om := ordK_mem.1 (List.getElem_mem hk')
        have eN : (ordN (keyP D k) D.length)[j]'(by omega) = ((ordK (keyP D k) D.length)[j]).toNat := by simp [ordN]
        have st := payT_succ D c k j hj'
        rw [eN] at st
        have ho : ((ordK (keyP D k) D.length)[j]).toNat < D.length := by omega
        have hp : ((ordK (keyP D k) D.length)[j]).toNat < (payT D c k j).2.length := by omega
        have ec := cen_at D _ ho
        obtain ⟨_, _, b1, b2⟩ := h.ok _ (List.getElem_mem ho)
        rw [← ec] at b1 b2
        refine ⟨by omega, hj', om.1, ho, ?_⟩
        rw [← ec]
        have hq : ((ordK (keyP D k) D.length)[j]).toNat < ((ints (payT D c k j).2).set ((ordK (keyP D k) D.length)[j]).toNat (.int .i64 (min (payT D c k j).1 (cen D ((ordK (keyP D k) D.length)[j]).toNat)))).length := by simp [ints_len, pl]; omega
        refine ⟨om.1, om.2, ho, om.1, om.2, by first | exact ho | exact hq, by rw [List.getElem_set_self]; exact Nat.zero_lt_one, ?_⟩
        simp only [List.getElem_set_self]
        have e3 : IntKind.i64.wrap ((payT D c k j).1 - min (payT D c k j).1 (cen D ((ordK (keyP D k) D.length)[j]).toNat)) = (payT D c k j).1 - min (payT D c k j).1 (cen D ((ordK (keyP D k) D.length)[j]).toNat) := w64 (by omega) (by omega)
        simp only [q0, q1, q2, q3, q4, q5, q6, q7, q8, q9, zq0, zq1, zq2, zq3, zq4, guardSlot, quietA, nilC, nilA, quietB, St.ev, St.put, St.after, Nat.reduceAdd, Nat.reduceSub, ofV, ofL, lenA, binA, intBin, fltBin, strBin, cpxBin, unA, convA, convB, convO, pickV, resL, oneA, indexA, indexS, isQuiet, loadA, loadC, storeA, fieldA, partA, sliceA, boundA, buildA, placeA, setAll, appendA, readSl, newEl, AV.cells, AV.solid, AV.one, kill, killM, killL, notInt, Int.reduceToNat, cond_true, cond_false, ↓reduceIte, reduceCtorEq, Nat.reduceLT, Nat.reduceLeDiff, Nat.reduceMul, Nat.reduceEqDiff, exists_eq', putF, implies_true, exists_true_left, tys0, tys1, tys2, tys3, und0, und1, und2, md7, Try.ntmps7, Try.results7, e3]
        refine ⟨⟨j + 1, by omega⟩, by show D.length - (j + 1) < D.length - j; omega, ?_⟩
        show Weak 0 _ ⟨_, _⟩
        rw [st]
        unfold payStep
        rw [ints_set]
        exact weak_drop (by simp) (by simp [DropHp, ints_below, flts_below, w64_succ j (by omega), lstC, kndC, plcB, intB, cel, allBelow_cons, allBelow_nil, below, belowM, belowL]) (by simp [DropTm, DropV, below, belowM, belowL, w64_succ j (by omega), lstC, kndC, plcB, intB, cel, allBelow_cons, allBelow_nil, below, belowM, belowL])
      · have hj' : j = D.length := by have := of_decide_eq_false g; omega
        subst hj'
        exact PostR.tell [4] (hp2 := [intB (payT D c k D.length).2]) (by decide) (by decide) (by decide) ⟨⟨congrArg some (renB_flat (r := intB _) (ints_below _ _)).symm, ints_below _ _⟩, trivial⟩ rfl rfl ⟨rfl, rfl⟩
end Go.Proofs.Ytimnfechlomkpaa
