/- Groups as the reference tells them. -/
import Derived.Test.YtmgfghcmmbdcgaaRakeC
set_option maxRecDepth 10000
set_option maxHeartbeats 4000000
set_option linter.unusedSimpArgs false
set_option linter.unusedVariables false
namespace Go.Proofs.Ytmgfghcmmbdcgaa
open Go Go.Abs

def thereL (gs : List Int) (c i : Nat) : List AV := (List.range c).map (fun (j : Nat) => AV.bool (decide ((j : Int) ∈ gs.take i)))
theorem thereL_len (gs : List Int) (c i : Nat) : (thereL gs c i).length = c := by simp [thereL]
theorem thereL_zero (gs : List Int) (c : Nat) : thereL gs c 0 = List.replicate c (AV.bool false) := by
  apply List.ext_getElem
  · simp [thereL]
  · intro j h1 h2
    simp [thereL]
theorem thereL_get (gs : List Int) (c i j : Nat) (h : j < (thereL gs c i).length) : (thereL gs c i)[j] = AV.bool (decide ((j : Int) ∈ gs.take i)) := by simp [thereL]
theorem thereL_set (gs : List Int) (c i : Nat) (h : i < gs.length) (h1 : 0 ≤ gs[i]) : (thereL gs c i).set gs[i].toNat (AV.bool true) = thereL gs c (i + 1) := by
  apply List.ext_getElem
  · simp [thereL]
  · intro j h2 h3
    rw [List.getElem_set, thereL_get, thereL_get, take_snoc _ _ h]
    by_cases e : gs[i].toNat = j
    · have : (j : Int) = gs[i] := by omega
      rw [if_pos e, decide_eq_true (p := (j : Int) ∈ gs.take i ++ [gs[i]]) (by rw [List.mem_append, List.mem_singleton]; exact .inr this)]
    · have : ¬ (j : Int) = gs[i] := by omega
      rw [if_neg e]
      have q : ((j : Int) ∈ gs.take i) ↔ ((j : Int) ∈ gs.take i ++ [gs[i]]) := by
        rw [List.mem_append, List.mem_singleton]
        exact ⟨.inl, fun h => h.elim id (fun h => absurd h this)⟩
      rw [decide_eq_decide.2 q]
theorem bool_below (n : Nat) (l : List Bool) : allBelow n (l.map AV.bool) = true := by
  induction l with
  | nil => rfl
  | cons a l ih => exact ih
theorem rep_below (n c : Nat) : allBelow n (List.replicate c (AV.bool false)) = true := by
  rw [← List.map_replicate]; exact bool_below n _
theorem thereL_below (n : Nat) (gs : List Int) (c i : Nat) : allBelow n (thereL gs c i) = true := by
  have e : thereL gs c i = ((List.range c).map (fun (j : Nat) => decide ((j : Int) ∈ gs.take i))).map AV.bool := by rw [List.map_map]; rfl
  rw [e]; exact bool_below n _
theorem specGroups_call (gs : List Int) (c : Nat) (h1 : gs.length ≤ 64) (h2 : c ≤ 1048576) : CallA Try.prog 20 [.ro (ints gs), .int .i64 c] [] (Ret (.bool (grpB gs c gs.length)) []) := by
  have e1 : IntKind.i64.wrap ((c : Int) - 1) = (c : Int) - 1 := w64 (by omega) (by omega)
  have e2 : IntKind.i64.wrap (c : Int) = (c : Int) := w64 (by omega) (by omega)
  refine CallP.out (t := .mk) (go_in (md := md20) mixed Try.func20 rfl go20 (by kernel_rfl) ?_)
  simp only [q0, q1, q2, q3, q4, q5, q6, q7, q8, q9, zq0, zq1, zq2, zq3, zq4, guardSlot, quietA, nilC, nilA, quietB, St.ev, St.put, St.after, Nat.reduceAdd, Nat.reduceSub, ofV, ofL, lenA, binA, intBin, fltBin, strBin, cpxBin, unA, convA, convB, convO, pickV, resL, oneA, indexA, indexS, isQuiet, loadA, loadC, storeA, fieldA, partA, sliceA, boundA, buildA, placeA, setAll, appendA, readSl, newEl, AV.cells, AV.solid, AV.one, kill, killM, killL, notInt, Int.reduceToNat, cond_true, cond_false, ↓reduceIte, reduceCtorEq, Nat.reduceLT, Nat.reduceLeDiff, Nat.reduceMul, Nat.reduceEqDiff, exists_eq', putF, implies_true, exists_true_left, tys0, tys1, tys2, und0, und1, und2, md20, Try.ntmps20, Try.results20, e1, e2]
  by_cases k1 : c < 1
  · refine br_yes (by first | exact decide_eq_true (by omega) | (simp only [bne_iff_ne, beq_iff_eq, ne_eq]; omega)) ?_; simp only [q0, q1, q2, q3, q4, q5, q6, q7, q8, q9, zq0, zq1, zq2, zq3, zq4, guardSlot, quietA, nilC, nilA, quietB, St.ev, St.put, St.after, Nat.reduceAdd, Nat.reduceSub, ofV, ofL, lenA, binA, intBin, fltBin, strBin, cpxBin, unA, convA, convB, convO, pickV, resL, oneA, indexA, indexS, isQuiet, loadA, loadC, storeA, fieldA, partA, sliceA, boundA, buildA, placeA, setAll, appendA, readSl, newEl, AV.cells, AV.solid, AV.one, kill, killM, killL, notInt, Int.reduceToNat, cond_true, cond_false, ↓reduceIte, reduceCtorEq, Nat.reduceLT, Nat.reduceLeDiff, Nat.reduceMul, Nat.reduceEqDiff, exists_eq', putF, implies_true, exists_true_left, tys0, tys1, tys2, und0, und1, und2, md20, Try.ntmps20, Try.results20, e1, e2]
    exact PostR.pure ⟨by unfold grpB; rw [decide_eq_false (show ¬ (1 ≤ c ∧ c ≤ 8) by omega)]; rfl, rfl⟩ rfl
  refine br_no (by first | exact decide_eq_false (by omega) | exact beq_false_of_ne (by omega) | (simp only [bne_eq_false_iff_eq, beq_eq_false_iff_ne, ne_eq]; omega)) ?_; simp only [q0, q1, q2, q3, q4, q5, q6, q7, q8, q9, zq0, zq1, zq2, zq3, zq4, guardSlot, quietA, nilC, nilA, quietB, St.ev, St.put, St.after, Nat.reduceAdd, Nat.reduceSub, ofV, ofL, lenA, binA, intBin, fltBin, strBin, cpxBin, unA, convA, convB, convO, pickV, resL, oneA, indexA, indexS, isQuiet, loadA, loadC, storeA, fieldA, partA, sliceA, boundA, buildA, placeA, setAll, appendA, readSl, newEl, AV.cells, AV.solid, AV.one, kill, killM, killL, notInt, Int.reduceToNat, cond_true, cond_false, ↓reduceIte, reduceCtorEq, Nat.reduceLT, Nat.reduceLeDiff, Nat.reduceMul, Nat.reduceEqDiff, exists_eq', putF, implies_true, exists_true_left, tys0, tys1, tys2, und0, und1, und2, md20, Try.ntmps20, Try.results20, e1, e2]
  by_cases k2 : 8 < c
  · refine br_yes (by first | exact decide_eq_true (by omega) | (simp only [bne_iff_ne, beq_iff_eq, ne_eq]; omega)) ?_; simp only [q0, q1, q2, q3, q4, q5, q6, q7, q8, q9, zq0, zq1, zq2, zq3, zq4, guardSlot, quietA, nilC, nilA, quietB, St.ev, St.put, St.after, Nat.reduceAdd, Nat.reduceSub, ofV, ofL, lenA, binA, intBin, fltBin, strBin, cpxBin, unA, convA, convB, convO, pickV, resL, oneA, indexA, indexS, isQuiet, loadA, loadC, storeA, fieldA, partA, sliceA, boundA, buildA, placeA, setAll, appendA, readSl, newEl, AV.cells, AV.solid, AV.one, kill, killM, killL, notInt, Int.reduceToNat, cond_true, cond_false, ↓reduceIte, reduceCtorEq, Nat.reduceLT, Nat.reduceLeDiff, Nat.reduceMul, Nat.reduceEqDiff, exists_eq', putF, implies_true, exists_true_left, tys0, tys1, tys2, und0, und1, und2, md20, Try.ntmps20, Try.results20, e1, e2]
    exact PostR.pure ⟨by unfold grpB; rw [decide_eq_false (show ¬ (1 ≤ c ∧ c ≤ 8) by omega)]; rfl, rfl⟩ rfl
  refine br_no (by first | exact decide_eq_false (by omega) | exact beq_false_of_ne (by omega) | (simp only [bne_eq_false_iff_eq, beq_eq_false_iff_ne, ne_eq]; omega)) ?_; simp only [q0, q1, q2, q3, q4, q5, q6, q7, q8, q9, zq0, zq1, zq2, zq3, zq4, guardSlot, quietA, nilC, nilA, quietB, St.ev, St.put, St.after, Nat.reduceAdd, Nat.reduceSub, ofV, ofL, lenA, binA, intBin, fltBin, strBin, cpxBin, unA, convA, convB, convO, pickV, resL, oneA, indexA, indexS, isQuiet, loadA, loadC, storeA, fieldA, partA, sliceA, boundA, buildA, placeA, setAll, appendA, readSl, newEl, AV.cells, AV.solid, AV.one, kill, killM, killL, notInt, Int.reduceToNat, cond_true, cond_false, ↓reduceIte, reduceCtorEq, Nat.reduceLT, Nat.reduceLeDiff, Nat.reduceMul, Nat.reduceEqDiff, exists_eq', putF, implies_true, exists_true_left, tys0, tys1, tys2, und0, und1, und2, md20, Try.ntmps20, Try.results20, e1, e2]
  have kc : decide (1 ≤ c ∧ c ≤ 8) = true := decide_eq_true ⟨by omega, by omega⟩
  refine ⟨by omega, by omega, ?_⟩
  refine go_round (md := md20) mixed (by kernel_rfl) (fun i : {i : Nat // i ≤ gs.length ∧ pref (fun j => inR 0 ((c : Int) - 1) (gs.getD j 0)) i = true} => ⟨[.ro (ints gs), .int .i64 c, .any, .any, .any, .sl 0 0 c, .any, .any, .any, .any, .any, .any, .any, .any, .any, .any, .any, .int .i64 gs.length, .int .i64 i.1, .any, .any, .any, .any, .any, .any, .any, .any, .any, .any, .any, .any, .any, .any, .any, .any, .any, .any, .any, .any, .any, .any, .any, .any, .any, .any, .any, .any], [{ ty := 4, w := 1, els := thereL gs c i.1 }]⟩) (fun i => gs.length - i.1) ⟨0, by omega, rfl⟩ ?_ ?_
  · exact weak_drop (by simp) (by simp [DropHp, ints_below, flts_below, thereL_zero, rep_below]) (by simp [DropTm, DropV, below, belowM, belowL, thereL_zero, rep_below])
  rintro ⟨i, hi, hp⟩
  simp only [q0, q1, q2, q3, q4, q5, q6, q7, q8, q9, zq0, zq1, zq2, zq3, zq4, guardSlot, quietA, nilC, nilA, quietB, St.ev, St.put, St.after, Nat.reduceAdd, Nat.reduceSub, ofV, ofL, lenA, binA, intBin, fltBin, strBin, cpxBin, unA, convA, convB, convO, pickV, resL, oneA, indexA, indexS, isQuiet, loadA, loadC, storeA, fieldA, partA, sliceA, boundA, buildA, placeA, setAll, appendA, readSl, newEl, AV.cells, AV.solid, AV.one, kill, killM, killL, notInt, Int.reduceToNat, cond_true, cond_false, ↓reduceIte, reduceCtorEq, Nat.reduceLT, Nat.reduceLeDiff, Nat.reduceMul, Nat.reduceEqDiff, exists_eq', putF, implies_true, exists_true_left, tys0, tys1, tys2, und0, und1, und2, md20, Try.ntmps20, Try.results20, e1, e2]
  refine br_intro (fun h => ?_) (fun h => ?_) <;> simp only [q0, q1, q2, q3, q4, q5, q6, q7, q8, q9, zq0, zq1, zq2, zq3, zq4, guardSlot, quietA, nilC, nilA, quietB, St.ev, St.put, St.after, Nat.reduceAdd, Nat.reduceSub, ofV, ofL, lenA, binA, intBin, fltBin, strBin, cpxBin, unA, convA, convB, convO, pickV, resL, oneA, indexA, indexS, isQuiet, loadA, loadC, storeA, fieldA, partA, sliceA, boundA, buildA, placeA, setAll, appendA, readSl, newEl, AV.cells, AV.solid, AV.one, kill, killM, killL, notInt, Int.reduceToNat, cond_true, cond_false, ↓reduceIte, reduceCtorEq, Nat.reduceLT, Nat.reduceLeDiff, Nat.reduceMul, Nat.reduceEqDiff, exists_eq', putF, implies_true, exists_true_left, tys0, tys1, tys2, und0, und1, und2, md20, Try.ntmps20, Try.results20, e1, e2]
  · have hi' : i < gs.length := by have := of_decide_eq_true h; omega
    have hI : (i : Int) < (gs.length : Int) := by omega
    have ga := getD_at gs 0 i hi'
    simp only [q0, q1, q2, q3, q4, q5, q6, q7, q8, q9, zq0, zq1, zq2, zq3, zq4, guardSlot, quietA, nilC, nilA, quietB, St.ev, St.put, St.after, Nat.reduceAdd, Nat.reduceSub, ofV, ofL, lenA, binA, intBin, fltBin, strBin, cpxBin, unA, convA, convB, convO, pickV, resL, oneA, indexA, indexS, isQuiet, loadA, loadC, storeA, fieldA, partA, sliceA, boundA, buildA, placeA, setAll, appendA, readSl, newEl, AV.cells, AV.solid, AV.one, kill, killM, killL, notInt, Int.reduceToNat, cond_true, cond_false, ↓reduceIte, reduceCtorEq, Nat.reduceLT, Nat.reduceLeDiff, Nat.reduceMul, Nat.reduceEqDiff, exists_eq', putF, implies_true, exists_true_left, tys0, tys1, tys2, und0, und1, und2, md20, Try.ntmps20, Try.results20, e1, e2, hi', hI]
    refine call_ret (l00In_call _ _ _) rfl rfl ?_
    simp only [q0, q1, q2, q3, q4, q5, q6, q7, q8, q9, zq0, zq1, zq2, zq3, zq4, guardSlot, quietA, nilC, nilA, quietB, St.ev, St.put, St.after, Nat.reduceAdd, Nat.reduceSub, ofV, ofL, lenA, binA, intBin, fltBin, strBin, cpxBin, unA, convA, convB, convO, pickV, resL, oneA, indexA, indexS, isQuiet, loadA, loadC, storeA, fieldA, partA, sliceA, boundA, buildA, placeA, setAll, appendA, readSl, newEl, AV.cells, AV.solid, AV.one, kill, killM, killL, notInt, Int.reduceToNat, cond_true, cond_false, ↓reduceIte, reduceCtorEq, Nat.reduceLT, Nat.reduceLeDiff, Nat.reduceMul, Nat.reduceEqDiff, exists_eq', putF, implies_true, exists_true_left, tys0, tys1, tys2, und0, und1, und2, md20, Try.ntmps20, Try.results20, e1, e2]
    refine br_intro (fun u => ?_) (fun u => ?_) <;> simp only [q0, q1, q2, q3, q4, q5, q6, q7, q8, q9, zq0, zq1, zq2, zq3, zq4, guardSlot, quietA, nilC, nilA, quietB, St.ev, St.put, St.after, Nat.reduceAdd, Nat.reduceSub, ofV, ofL, lenA, binA, intBin, fltBin, strBin, cpxBin, unA, convA, convB, convO, pickV, resL, oneA, indexA, indexS, isQuiet, loadA, loadC, storeA, fieldA, partA, sliceA, boundA, buildA, placeA, setAll, appendA, readSl, newEl, AV.cells, AV.solid, AV.one, kill, killM, killL, notInt, Int.reduceToNat, cond_true, cond_false, ↓reduceIte, reduceCtorEq, Nat.reduceLT, Nat.reduceLeDiff, Nat.reduceMul, Nat.reduceEqDiff, exists_eq', putF, implies_true, exists_true_left, tys0, tys1, tys2, und0, und1, und2, md20, Try.ntmps20, Try.results20, e1, e2, hi', hI]
    · have b := inR_iff.1 u
      have b3 : gs[i].toNat < (thereL gs c i).length := by rw [thereL_len]; omega
      refine ⟨b.1, by omega, b3, ⟨i + 1, by omega, pref_go hp (by rw [ga]; exact u)⟩, by show gs.length - (i + 1) < _; omega, ?_⟩
      show Weak 0 _ ⟨_, _⟩
      rw [thereL_set gs c i hi' b.1]
      exact weak_drop (by simp) (by simp [DropHp, ints_below, flts_below, w64_succ i (by omega), thereL_below]) (by simp [DropTm, DropV, below, belowM, belowL, w64_succ i (by omega), thereL_below])
    · exact PostR.pure ⟨by unfold grpB; rw [all_pref _ 0, pref_no i hi' (by rw [ga]; exact u), Bool.and_false, Bool.false_and], rfl⟩ rfl
  · have hi' : i = gs.length := by have := of_decide_eq_false h; omega
    subst hi'
    refine go_round (md := md20) mixed (by kernel_rfl) (fun i : {i : Nat // i ≤ c ∧ pref (fun g => decide ((g : Int) ∈ gs)) i = true} => ⟨[.any, .any, .any, .any, .any, .sl 0 0 c, .any, .any, .any, .any, .any, .any, .any, .any, .any, .any, .any, .any, .any, .any, .any, .any, .any, .any, .any, .any, .any, .any, .any, .any, .any, .any, .any, .any, .any, .any, .any, .int .i64 c, .int .i64 i.1, .any, .any, .any, .any, .any, .any, .any, .any], [{ ty := 4, w := 1, els := thereL gs c gs.length }]⟩) (fun i => c - i.1) ⟨0, by omega, rfl⟩ ?_ ?_
    · exact weak_drop (by simp) (by simp [DropHp, ints_below, flts_below, thereL_below]) (by simp [DropTm, DropV, below, belowM, belowL, thereL_below])
    rintro ⟨i, hi, hq⟩
    simp only [q0, q1, q2, q3, q4, q5, q6, q7, q8, q9, zq0, zq1, zq2, zq3, zq4, guardSlot, quietA, nilC, nilA, quietB, St.ev, St.put, St.after, Nat.reduceAdd, Nat.reduceSub, ofV, ofL, lenA, binA, intBin, fltBin, strBin, cpxBin, unA, convA, convB, convO, pickV, resL, oneA, indexA, indexS, isQuiet, loadA, loadC, storeA, fieldA, partA, sliceA, boundA, buildA, placeA, setAll, appendA, readSl, newEl, AV.cells, AV.solid, AV.one, kill, killM, killL, notInt, Int.reduceToNat, cond_true, cond_false, ↓reduceIte, reduceCtorEq, Nat.reduceLT, Nat.reduceLeDiff, Nat.reduceMul, Nat.reduceEqDiff, exists_eq', putF, implies_true, exists_true_left, tys0, tys1, tys2, und0, und1, und2, md20, Try.ntmps20, Try.results20, e1, e2]
    refine br_intro (fun h => ?_) (fun h => ?_) <;> simp only [q0, q1, q2, q3, q4, q5, q6, q7, q8, q9, zq0, zq1, zq2, zq3, zq4, guardSlot, quietA, nilC, nilA, quietB, St.ev, St.put, St.after, Nat.reduceAdd, Nat.reduceSub, ofV, ofL, lenA, binA, intBin, fltBin, strBin, cpxBin, unA, convA, convB, convO, pickV, resL, oneA, indexA, indexS, isQuiet, loadA, loadC, storeA, fieldA, partA, sliceA, boundA, buildA, placeA, setAll, appendA, readSl, newEl, AV.cells, AV.solid, AV.one, kill, killM, killL, notInt, Int.reduceToNat, cond_true, cond_false, ↓reduceIte, reduceCtorEq, Nat.reduceLT, Nat.reduceLeDiff, Nat.reduceMul, Nat.reduceEqDiff, exists_eq', putF, implies_true, exists_true_left, tys0, tys1, tys2, und0, und1, und2, md20, Try.ntmps20, Try.results20, e1, e2]
    · have hi' : i < c := by have := of_decide_eq_true h; omega
      have hI : (i : Int) < (c : Int) := by omega
      have hL : i < (thereL gs c gs.length).length := by rw [thereL_len]; exact hi'
      simp only [q0, q1, q2, q3, q4, q5, q6, q7, q8, q9, zq0, zq1, zq2, zq3, zq4, guardSlot, quietA, nilC, nilA, quietB, St.ev, St.put, St.after, Nat.reduceAdd, Nat.reduceSub, ofV, ofL, lenA, binA, intBin, fltBin, strBin, cpxBin, unA, convA, convB, convO, pickV, resL, oneA, indexA, indexS, isQuiet, loadA, loadC, storeA, fieldA, partA, sliceA, boundA, buildA, placeA, setAll, appendA, readSl, newEl, AV.cells, AV.solid, AV.one, kill, killM, killL, notInt, Int.reduceToNat, cond_true, cond_false, ↓reduceIte, reduceCtorEq, Nat.reduceLT, Nat.reduceLeDiff, Nat.reduceMul, Nat.reduceEqDiff, exists_eq', putF, implies_true, exists_true_left, tys0, tys1, tys2, und0, und1, und2, md20, Try.ntmps20, Try.results20, e1, e2, hi', hI, hL, thereL_get]
      refine br_intro (fun v => ?_) (fun v => ?_) <;> simp only [q0, q1, q2, q3, q4, q5, q6, q7, q8, q9, zq0, zq1, zq2, zq3, zq4, guardSlot, quietA, nilC, nilA, quietB, St.ev, St.put, St.after, Nat.reduceAdd, Nat.reduceSub, ofV, ofL, lenA, binA, intBin, fltBin, strBin, cpxBin, unA, convA, convB, convO, pickV, resL, oneA, indexA, indexS, isQuiet, loadA, loadC, storeA, fieldA, partA, sliceA, boundA, buildA, placeA, setAll, appendA, readSl, newEl, AV.cells, AV.solid, AV.one, kill, killM, killL, notInt, Int.reduceToNat, cond_true, cond_false, ↓reduceIte, reduceCtorEq, Nat.reduceLT, Nat.reduceLeDiff, Nat.reduceMul, Nat.reduceEqDiff, exists_eq', putF, implies_true, exists_true_left, tys0, tys1, tys2, und0, und1, und2, md20, Try.ntmps20, Try.results20, e1, e2, hi', hI, hL, thereL_get]
      · refine ⟨⟨i + 1, by omega, pref_go hq (by rw [List.take_length] at v; exact v)⟩, by show c - (i + 1) < _; omega, ?_⟩
        exact weak_drop (by simp) (by simp [DropHp, ints_below, flts_below, w64_succ i (by omega), thereL_below]) (by simp [DropTm, DropV, below, belowM, belowL, w64_succ i (by omega), thereL_below])
      · exact PostR.pure ⟨by unfold grpB; rw [pref_no (p := fun g => decide ((g : Int) ∈ gs)) i hi' (by rw [List.take_length] at v; exact v), Bool.and_false], rfl⟩ rfl
    · have hi' : i = c := by have := of_decide_eq_false h; omega
      subst hi'
      exact PostR.pure ⟨by unfold grpB; rw [kc, all_pref _ 0, hp, hq, decide_eq_true rfl]; rfl, rfl⟩ rfl
end Go.Proofs.Ytmgfghcmmbdcgaa
