/- Scales that are read: the plain law, the reference. -/
import Derived.Test.YtigipcckflcilaaDoorRdL
import Derived.Test.YtigipcckflcilaaDoorRdT
set_option maxRecDepth 10000
set_option maxHeartbeats 4000000
set_option linter.unusedSimpArgs false
set_option linter.unusedVariables false
namespace Go.Proofs.YtigipcckflcilaaDoor
open Go Go.Abs

/-! ### The plain law -/
abbrev Scl := List Int × List Int
def scaleOf (t : List UInt8) : Option Scl := match cutA 59 [] t with
  | [a, b] => match listOf a, listOf b with
    | some x, some y => if scaleB x y = true then some (x, y) else none
    | _, _ => none
  | _ => none
def pairOf (a b : List UInt8) : Option Scl := match listOf a, listOf b with
  | some x, some y => if scaleB x y = true then some (x, y) else none
  | _, _ => none
theorem listOf_empty : listOf [] = none := by
  unfold listOf
  rw [if_neg (by decide), cutA_nil]
  rfl
theorem pairOf_right {a b : List UInt8} (h : listOf b = none) : pairOf a b = none := by
  unfold pairOf
  rw [h]
  cases listOf a <;> rfl
theorem scaleOf_none {t : List UInt8} (h : firstAt 59 t = none) : scaleOf t = none ∧ pairOf t [] = none := by
  refine ⟨?_, pairOf_right listOf_empty⟩
  unfold scaleOf
  rw [cutA_first, h]
theorem scaleOf_some {t a b : List UInt8} (h : firstAt 59 t = some (a, b)) : scaleOf t = pairOf a b := by
  have e : cutA 59 [] t = a :: cutA 59 [] b := by rw [cutA_first, h]; rfl
  unfold scaleOf
  rw [e]
  cases hb : firstAt 59 b with
  | none =>
    have e2 : cutA 59 [] b = [b] := by rw [cutA_first, hb]; rfl
    rw [e2]
    rfl
  | some p =>
    obtain ⟨h1, h2, h3⟩ := firstAt_some (a := p.1) (b := p.2) hb
    have e2 : cutA 59 [] b = p.1 :: cutA 59 [] p.2 := by rw [cutA_first, hb]; rfl
    have hn : listOf b = none := by
      cases hl : listOf b with
      | none => rfl
      | some xs => exact absurd (by rw [h2]; simp) (listOf_semi hl)
    rw [pairOf_right hn, e2]
    cases hc : cutA 59 [] p.2 with
    | nil => exact absurd hc (cutA_ne 59 p.2 [])
    | cons q Q => rfl
theorem scale_text {t a b : List UInt8} {x y : List Int} (h : firstAt 59 t = some (a, b)) (hx : listOf a = some x) (hy : listOf b = some y) (hs : scaleB x y = true) : txt [44] x ++ 59 :: txt [44] y = t := by
  obtain ⟨n1, n2⟩ := scaleB_ne hs
  rw [(listOf_txt hx n1).1, (listOf_txt hy n2).1]
  exact (firstAt_some h).2.1.symm
theorem scaleB_nilL (y : List Int) : scaleB [] y = false := by
  cases h : scaleB [] y with
  | false => rfl
  | true => exact absurd rfl (scaleB_ne h).1
theorem scaleB_nilR (x : List Int) : scaleB x [] = false := by
  cases h : scaleB x [] with
  | false => rfl
  | true => exact absurd rfl (scaleB_ne h).2
theorem scaleOf_le {t : List UInt8} {x y : List Int} (h : scaleOf t = some (x, y)) : x.length ≤ 64 ∧ y.length ≤ 64 ∧ (∀ z ∈ x, okI z) ∧ ∀ z ∈ y, okI z := by
  have ok : ∀ {a : List UInt8} {xs : List Int}, listOf a = some xs → ∀ z ∈ xs, okI z := fun hl z hz => by
    have := inR_iff.1 (listOf_in hl z hz)
    unfold okI; omega
  cases hf : firstAt 59 t with
  | none => rw [(scaleOf_none hf).1] at h; cases h
  | some p =>
    rw [scaleOf_some (a := p.1) (b := p.2) hf] at h
    unfold pairOf at h
    cases ha : listOf p.1 with
    | none => rw [ha] at h; cases h
    | some x' =>
      cases hb : listOf p.2 with
      | none => rw [ha, hb] at h; cases h
      | some y' =>
        rw [ha, hb] at h
        dsimp only at h
        split at h
        · cases h
          exact ⟨listOf_le ha, listOf_le hb, ok ha, ok hb⟩
        · cases h

/-! ### The reference -/
def scaleR (o : Option Scl) : AV := match o with
  | some (x, y) => .tup [.agg [.ro (ints x), .ro (ints y)], .bool true]
  | none => .tup [.agg [.nils, .nils], .bool false]
theorem scaleR_below (n : Nat) (o : Option Scl) : below n (scaleR o) = true := by cases o <;> rfl
theorem l02Give_call (x y : List Int) (h : x.length ≤ 1048576) : CallA Tryd.prog 18 [.agg [.ro (ints x), .ro (ints y)]] [] (Ret (scaleR (if scaleB x y = true then some (x, y) else none)) []) := by
  refine CallP.out (t := .mk) (go_in (md := md18) mixed Tryd.func18 rfl go18 (by kernel_rfl) ?_)
  simp only [q0, q1, q2, q3, q4, q5, q6, q7, q8, q9, guardSlot, quietA, nilC, nilA, quietB, St.ev, St.put, St.after, List.getD_cons_succ, List.getD_cons_zero, List.length_cons, List.length_nil, Nat.reduceAdd, Nat.reduceSub, List.replicate_succ, List.replicate_zero, List.cons_append, List.nil_append, List.append_nil, List.set_cons_succ, List.set_cons_zero, ofV, ofL, lenA, binA, intBin, fltBin, strBin, cpxBin, true_and, and_true, unA, convA, convB, convO, pickV, List.map_cons, List.map_nil, resL, oneA, indexA, indexS, isQuiet, loadA, loadC, storeA, fieldA, partA, sliceA, boundA, buildA, placeA, setAll, appendA, readSl, newEl, Int.toNat_natCast, AV.cells, AV.solid, AV.one, Int.natCast_nonneg, exists_prop, List.getElem_cons_zero, List.getElem_cons_succ, List.getElem?_cons_zero, List.getElem?_cons_succ, Nat.zero_lt_one, Option.bind_some, Option.map_some, Option.map_none, kill, killM, killL, Bool.not_true, Bool.not_false, List.all_cons, List.all_nil, Bool.and_true, Bool.true_and, List.take_zero, List.drop_zero, List.drop_succ_cons, List.take_succ_cons, Nat.zero_add, Nat.add_zero, notInt, List.getElem?_toArray, ge_iff_le, gt_iff_lt, Nat.le_refl, Int.reduceToNat, cond_true, cond_false, ↓reduceIte, reduceCtorEq, Bool.false_eq_true, Bool.not_eq_true, Nat.reduceLT, Nat.reduceLeDiff, Nat.reduceMul, Nat.reduceEqDiff, Nat.succ_ne_self, Option.some.injEq, exists_eq', putF, List.forall_mem_cons, List.not_mem_nil, false_implies, implies_true, exists_true_left, tys0, und0, md18, Tryd.ntmps18, Tryd.results18]
  refine call_lent 2 (by rfl) (l02Is_call x y [] h) rfl rfl ?_
  simp only [q0, q1, q2, q3, q4, q5, q6, q7, q8, q9, guardSlot, quietA, nilC, nilA, quietB, St.ev, St.put, St.after, List.getD_cons_succ, List.getD_cons_zero, List.length_cons, List.length_nil, Nat.reduceAdd, Nat.reduceSub, List.replicate_succ, List.replicate_zero, List.cons_append, List.nil_append, List.append_nil, List.set_cons_succ, List.set_cons_zero, ofV, ofL, lenA, binA, intBin, fltBin, strBin, cpxBin, true_and, and_true, unA, convA, convB, convO, pickV, List.map_cons, List.map_nil, resL, oneA, indexA, indexS, isQuiet, loadA, loadC, storeA, fieldA, partA, sliceA, boundA, buildA, placeA, setAll, appendA, readSl, newEl, Int.toNat_natCast, AV.cells, AV.solid, AV.one, Int.natCast_nonneg, exists_prop, List.getElem_cons_zero, List.getElem_cons_succ, List.getElem?_cons_zero, List.getElem?_cons_succ, Nat.zero_lt_one, Option.bind_some, Option.map_some, Option.map_none, kill, killM, killL, Bool.not_true, Bool.not_false, List.all_cons, List.all_nil, Bool.and_true, Bool.true_and, List.take_zero, List.drop_zero, List.drop_succ_cons, List.take_succ_cons, Nat.zero_add, Nat.add_zero, notInt, List.getElem?_toArray, ge_iff_le, gt_iff_lt, Nat.le_refl, Int.reduceToNat, cond_true, cond_false, ↓reduceIte, reduceCtorEq, Bool.false_eq_true, Bool.not_eq_true, Nat.reduceLT, Nat.reduceLeDiff, Nat.reduceMul, Nat.reduceEqDiff, Nat.succ_ne_self, Option.some.injEq, exists_eq', putF, List.forall_mem_cons, List.not_mem_nil, false_implies, implies_true, exists_true_left, tys0, und0, md18, Tryd.ntmps18, Tryd.results18]
  refine br_intro (fun c => ?_) (fun c => ?_) <;> simp only [q0, q1, q2, q3, q4, q5, q6, q7, q8, q9, guardSlot, quietA, nilC, nilA, quietB, St.ev, St.put, St.after, List.getD_cons_succ, List.getD_cons_zero, List.length_cons, List.length_nil, Nat.reduceAdd, Nat.reduceSub, List.replicate_succ, List.replicate_zero, List.cons_append, List.nil_append, List.append_nil, List.set_cons_succ, List.set_cons_zero, ofV, ofL, lenA, binA, intBin, fltBin, strBin, cpxBin, true_and, and_true, unA, convA, convB, convO, pickV, List.map_cons, List.map_nil, resL, oneA, indexA, indexS, isQuiet, loadA, loadC, storeA, fieldA, partA, sliceA, boundA, buildA, placeA, setAll, appendA, readSl, newEl, Int.toNat_natCast, AV.cells, AV.solid, AV.one, Int.natCast_nonneg, exists_prop, List.getElem_cons_zero, List.getElem_cons_succ, List.getElem?_cons_zero, List.getElem?_cons_succ, Nat.zero_lt_one, Option.bind_some, Option.map_some, Option.map_none, kill, killM, killL, Bool.not_true, Bool.not_false, List.all_cons, List.all_nil, Bool.and_true, Bool.true_and, List.take_zero, List.drop_zero, List.drop_succ_cons, List.take_succ_cons, Nat.zero_add, Nat.add_zero, notInt, List.getElem?_toArray, ge_iff_le, gt_iff_lt, Nat.le_refl, Int.reduceToNat, cond_true, cond_false, ↓reduceIte, reduceCtorEq, Bool.false_eq_true, Bool.not_eq_true, Nat.reduceLT, Nat.reduceLeDiff, Nat.reduceMul, Nat.reduceEqDiff, Nat.succ_ne_self, Option.some.injEq, exists_eq', putF, List.forall_mem_cons, List.not_mem_nil, false_implies, implies_true, exists_true_left, tys0, und0, md18, Tryd.ntmps18, Tryd.results18]
  · rw [if_pos c]
    exact PostR.pure ⟨rfl, rfl⟩ rfl
  · rw [if_neg (by rw [c]; decide)]
    exact PostR.pure ⟨rfl, rfl⟩ rfl
theorem l08ReadScale_call (t : List UInt8) (ht : t.length ≤ 1048576) : CallA Tryd.prog 9 [.str t] [] (Ret (scaleR (scaleOf t)) []) := by
  have so : scaleOf t = match cutA 59 [] t with
    | [a, b] => pairOf a b
    | _ => none := rfl
  have pl : ∀ p ∈ cutA 59 [] t, p.length ≤ 1048576 := by
    intro p hp
    have := cut_mem_len 59 t p hp
    omega
  refine CallP.out (t := .mk) (go_in (md := md9) mixed Tryd.func9 rfl go9 (by kernel_rfl) ?_)
  simp only [q0, q1, q2, q3, q4, q5, q6, q7, q8, q9, guardSlot, quietA, nilC, nilA, quietB, St.ev, St.put, St.after, List.getD_cons_succ, List.getD_cons_zero, List.length_cons, List.length_nil, Nat.reduceAdd, Nat.reduceSub, List.replicate_succ, List.replicate_zero, List.cons_append, List.nil_append, List.append_nil, List.set_cons_succ, List.set_cons_zero, ofV, ofL, lenA, binA, intBin, fltBin, strBin, cpxBin, true_and, and_true, unA, convA, convB, convO, pickV, List.map_cons, List.map_nil, resL, oneA, indexA, indexS, isQuiet, loadA, loadC, storeA, fieldA, partA, sliceA, boundA, buildA, placeA, setAll, appendA, readSl, newEl, Int.toNat_natCast, AV.cells, AV.solid, AV.one, Int.natCast_nonneg, exists_prop, List.getElem_cons_zero, List.getElem_cons_succ, List.getElem?_cons_zero, List.getElem?_cons_succ, Nat.zero_lt_one, Option.bind_some, Option.map_some, Option.map_none, kill, killM, killL, Bool.not_true, Bool.not_false, List.all_cons, List.all_nil, Bool.and_true, Bool.true_and, List.take_zero, List.drop_zero, List.drop_succ_cons, List.take_succ_cons, Nat.zero_add, Nat.add_zero, notInt, List.getElem?_toArray, ge_iff_le, gt_iff_lt, Nat.le_refl, Int.reduceToNat, cond_true, cond_false, ↓reduceIte, reduceCtorEq, Bool.false_eq_true, Bool.not_eq_true, Nat.reduceLT, Nat.reduceLeDiff, Nat.reduceMul, Nat.reduceEqDiff, Nat.succ_ne_self, Option.some.injEq, exists_eq', putF, List.forall_mem_cons, List.not_mem_nil, false_implies, implies_true, exists_true_left, tys0, und0, md9, Tryd.ntmps9, Tryd.results9]
  refine call_ret (cutF_call 59 t ht) rfl rfl ?_
  generalize cutA 59 [] t = P at so pl
  by_cases hP : P.length = 2
  rotate_left
  · simp only [q0, q1, q2, q3, q4, q5, q6, q7, q8, q9, guardSlot, quietA, nilC, nilA, quietB, St.ev, St.put, St.after, List.getD_cons_succ, List.getD_cons_zero, List.length_cons, List.length_nil, Nat.reduceAdd, Nat.reduceSub, List.replicate_succ, List.replicate_zero, List.cons_append, List.nil_append, List.append_nil, List.set_cons_succ, List.set_cons_zero, ofV, ofL, lenA, binA, intBin, fltBin, strBin, cpxBin, true_and, and_true, unA, convA, convB, convO, pickV, List.map_cons, List.map_nil, resL, oneA, indexA, indexS, isQuiet, loadA, loadC, storeA, fieldA, partA, sliceA, boundA, buildA, placeA, setAll, appendA, readSl, newEl, Int.toNat_natCast, AV.cells, AV.solid, AV.one, Int.natCast_nonneg, exists_prop, List.getElem_cons_zero, List.getElem_cons_succ, List.getElem?_cons_zero, List.getElem?_cons_succ, Nat.zero_lt_one, Option.bind_some, Option.map_some, Option.map_none, kill, killM, killL, Bool.not_true, Bool.not_false, List.all_cons, List.all_nil, Bool.and_true, Bool.true_and, List.take_zero, List.drop_zero, List.drop_succ_cons, List.take_succ_cons, Nat.zero_add, Nat.add_zero, notInt, List.getElem?_toArray, ge_iff_le, gt_iff_lt, Nat.le_refl, Int.reduceToNat, cond_true, cond_false, ↓reduceIte, reduceCtorEq, Bool.false_eq_true, Bool.not_eq_true, Nat.reduceLT, Nat.reduceLeDiff, Nat.reduceMul, Nat.reduceEqDiff, Nat.succ_ne_self, Option.some.injEq, exists_eq', putF, List.forall_mem_cons, List.not_mem_nil, false_implies, implies_true, exists_true_left, tys0, und0, md9, Tryd.ntmps9, Tryd.results9, strs_len]
    refine br_intro (fun c => ?_) (fun c => ?_) <;> simp only [q0, q1, q2, q3, q4, q5, q6, q7, q8, q9, guardSlot, quietA, nilC, nilA, quietB, St.ev, St.put, St.after, List.getD_cons_succ, List.getD_cons_zero, List.length_cons, List.length_nil, Nat.reduceAdd, Nat.reduceSub, List.replicate_succ, List.replicate_zero, List.cons_append, List.nil_append, List.append_nil, List.set_cons_succ, List.set_cons_zero, ofV, ofL, lenA, binA, intBin, fltBin, strBin, cpxBin, true_and, and_true, unA, convA, convB, convO, pickV, List.map_cons, List.map_nil, resL, oneA, indexA, indexS, isQuiet, loadA, loadC, storeA, fieldA, partA, sliceA, boundA, buildA, placeA, setAll, appendA, readSl, newEl, Int.toNat_natCast, AV.cells, AV.solid, AV.one, Int.natCast_nonneg, exists_prop, List.getElem_cons_zero, List.getElem_cons_succ, List.getElem?_cons_zero, List.getElem?_cons_succ, Nat.zero_lt_one, Option.bind_some, Option.map_some, Option.map_none, kill, killM, killL, Bool.not_true, Bool.not_false, List.all_cons, List.all_nil, Bool.and_true, Bool.true_and, List.take_zero, List.drop_zero, List.drop_succ_cons, List.take_succ_cons, Nat.zero_add, Nat.add_zero, notInt, List.getElem?_toArray, ge_iff_le, gt_iff_lt, Nat.le_refl, Int.reduceToNat, cond_true, cond_false, ↓reduceIte, reduceCtorEq, Bool.false_eq_true, Bool.not_eq_true, Nat.reduceLT, Nat.reduceLeDiff, Nat.reduceMul, Nat.reduceEqDiff, Nat.succ_ne_self, Option.some.injEq, exists_eq', putF, List.forall_mem_cons, List.not_mem_nil, false_implies, implies_true, exists_true_left, tys0, und0, md9, Tryd.ntmps9, Tryd.results9, strs_len]
    · have e : scaleOf t = none := by
        rw [so]
        match P, hP with
        | [], _ => rfl
        | [_], _ => rfl
        | [_, _], h => exact absurd rfl h
        | _ :: _ :: _ :: _, _ => rfl
      rw [e]
      exact PostR.pure ⟨rfl, rfl⟩ rfl
    · exact absurd (by have : ((P.length : Nat) : Int) = 2 := by simpa using c
                       omega) hP
  obtain ⟨a, b, rfl⟩ : ∃ a b, P = [a, b] := by
    match P, hP with
    | [a, b], _ => exact ⟨a, b, rfl⟩
  rw [show strs [a, b] = [AV.str a, AV.str b] from rfl]
  dsimp only at so
  rw [so]
  have na := l01Numbers_call a (pl a (by simp))
  have nb := l01Numbers_call b (pl b (by simp))
  unfold pairOf
  simp only [q0, q1, q2, q3, q4, q5, q6, q7, q8, q9, guardSlot, quietA, nilC, nilA, quietB, St.ev, St.put, St.after, List.getD_cons_succ, List.getD_cons_zero, List.length_cons, List.length_nil, Nat.reduceAdd, Nat.reduceSub, List.replicate_succ, List.replicate_zero, List.cons_append, List.nil_append, List.append_nil, List.set_cons_succ, List.set_cons_zero, ofV, ofL, lenA, binA, intBin, fltBin, strBin, cpxBin, true_and, and_true, unA, convA, convB, convO, pickV, List.map_cons, List.map_nil, resL, oneA, indexA, indexS, isQuiet, loadA, loadC, storeA, fieldA, partA, sliceA, boundA, buildA, placeA, setAll, appendA, readSl, newEl, Int.toNat_natCast, AV.cells, AV.solid, AV.one, Int.natCast_nonneg, exists_prop, List.getElem_cons_zero, List.getElem_cons_succ, List.getElem?_cons_zero, List.getElem?_cons_succ, Nat.zero_lt_one, Option.bind_some, Option.map_some, Option.map_none, kill, killM, killL, Bool.not_true, Bool.not_false, List.all_cons, List.all_nil, Bool.and_true, Bool.true_and, List.take_zero, List.drop_zero, List.drop_succ_cons, List.take_succ_cons, Nat.zero_add, Nat.add_zero, notInt, List.getElem?_toArray, ge_iff_le, gt_iff_lt, Nat.le_refl, Int.reduceToNat, cond_true, cond_false, ↓reduceIte, reduceCtorEq, Bool.false_eq_true, Bool.not_eq_true, Nat.reduceLT, Nat.reduceLeDiff, Nat.reduceMul, Nat.reduceEqDiff, Nat.succ_ne_self, Option.some.injEq, exists_eq', putF, List.forall_mem_cons, List.not_mem_nil, false_implies, implies_true, exists_true_left, tys0, und0, md9, Tryd.ntmps9, Tryd.results9, Int.reduceLT, Int.reduceLE, Int.reduceNeg, Int.reduceEq, Int.reduceGT, Int.reduceGE, decide_true, decide_false, beq_self_eq_true, bne_self_eq_false, Int.reduceBEq, Int.reduceBNe, Int.reduceAdd, Int.reduceSub]
  refine br_no (by decide) ?_
  simp only [q0, q1, q2, q3, q4, q5, q6, q7, q8, q9, guardSlot, quietA, nilC, nilA, quietB, St.ev, St.put, St.after, List.getD_cons_succ, List.getD_cons_zero, List.length_cons, List.length_nil, Nat.reduceAdd, Nat.reduceSub, List.replicate_succ, List.replicate_zero, List.cons_append, List.nil_append, List.append_nil, List.set_cons_succ, List.set_cons_zero, ofV, ofL, lenA, binA, intBin, fltBin, strBin, cpxBin, true_and, and_true, unA, convA, convB, convO, pickV, List.map_cons, List.map_nil, resL, oneA, indexA, indexS, isQuiet, loadA, loadC, storeA, fieldA, partA, sliceA, boundA, buildA, placeA, setAll, appendA, readSl, newEl, Int.toNat_natCast, AV.cells, AV.solid, AV.one, Int.natCast_nonneg, exists_prop, List.getElem_cons_zero, List.getElem_cons_succ, List.getElem?_cons_zero, List.getElem?_cons_succ, Nat.zero_lt_one, Option.bind_some, Option.map_some, Option.map_none, kill, killM, killL, Bool.not_true, Bool.not_false, List.all_cons, List.all_nil, Bool.and_true, Bool.true_and, List.take_zero, List.drop_zero, List.drop_succ_cons, List.take_succ_cons, Nat.zero_add, Nat.add_zero, notInt, List.getElem?_toArray, ge_iff_le, gt_iff_lt, Nat.le_refl, Int.reduceToNat, cond_true, cond_false, ↓reduceIte, reduceCtorEq, Bool.false_eq_true, Bool.not_eq_true, Nat.reduceLT, Nat.reduceLeDiff, Nat.reduceMul, Nat.reduceEqDiff, Nat.succ_ne_self, Option.some.injEq, exists_eq', putF, List.forall_mem_cons, List.not_mem_nil, false_implies, implies_true, exists_true_left, tys0, und0, md9, Tryd.ntmps9, Tryd.results9, Int.reduceLT, Int.reduceLE, Int.reduceNeg, Int.reduceEq, Int.reduceGT, Int.reduceGE, decide_true, decide_false, beq_self_eq_true, bne_self_eq_false, Int.reduceBEq, Int.reduceBNe, Int.reduceAdd, Int.reduceSub]
  cases ha : listOf a with
  | none =>
    rw [ha] at na
    unfold listR at na
    refine call_ret na rfl rfl ?_
    simp only [q0, q1, q2, q3, q4, q5, q6, q7, q8, q9, guardSlot, quietA, nilC, nilA, quietB, St.ev, St.put, St.after, List.getD_cons_succ, List.getD_cons_zero, List.length_cons, List.length_nil, Nat.reduceAdd, Nat.reduceSub, List.replicate_succ, List.replicate_zero, List.cons_append, List.nil_append, List.append_nil, List.set_cons_succ, List.set_cons_zero, ofV, ofL, lenA, binA, intBin, fltBin, strBin, cpxBin, true_and, and_true, unA, convA, convB, convO, pickV, List.map_cons, List.map_nil, resL, oneA, indexA, indexS, isQuiet, loadA, loadC, storeA, fieldA, partA, sliceA, boundA, buildA, placeA, setAll, appendA, readSl, newEl, Int.toNat_natCast, AV.cells, AV.solid, AV.one, Int.natCast_nonneg, exists_prop, List.getElem_cons_zero, List.getElem_cons_succ, List.getElem?_cons_zero, List.getElem?_cons_succ, Nat.zero_lt_one, Option.bind_some, Option.map_some, Option.map_none, kill, killM, killL, Bool.not_true, Bool.not_false, List.all_cons, List.all_nil, Bool.and_true, Bool.true_and, List.take_zero, List.drop_zero, List.drop_succ_cons, List.take_succ_cons, Nat.zero_add, Nat.add_zero, notInt, List.getElem?_toArray, ge_iff_le, gt_iff_lt, Nat.le_refl, Int.reduceToNat, cond_true, cond_false, ↓reduceIte, reduceCtorEq, Bool.false_eq_true, Bool.not_eq_true, Nat.reduceLT, Nat.reduceLeDiff, Nat.reduceMul, Nat.reduceEqDiff, Nat.succ_ne_self, Option.some.injEq, exists_eq', putF, List.forall_mem_cons, List.not_mem_nil, false_implies, implies_true, exists_true_left, tys0, und0, md9, Tryd.ntmps9, Tryd.results9, Int.reduceLT, Int.reduceLE, Int.reduceNeg, Int.reduceEq, Int.reduceGT, Int.reduceGE, decide_true, decide_false, beq_self_eq_true, bne_self_eq_false, Int.reduceBEq, Int.reduceBNe, Int.reduceAdd, Int.reduceSub]
    cases hb : listOf b with
    | none =>
      rw [hb] at nb
      unfold listR at nb
      refine call_ret nb rfl rfl ?_
      simp only [q0, q1, q2, q3, q4, q5, q6, q7, q8, q9, guardSlot, quietA, nilC, nilA, quietB, St.ev, St.put, St.after, List.getD_cons_succ, List.getD_cons_zero, List.length_cons, List.length_nil, Nat.reduceAdd, Nat.reduceSub, List.replicate_succ, List.replicate_zero, List.cons_append, List.nil_append, List.append_nil, List.set_cons_succ, List.set_cons_zero, ofV, ofL, lenA, binA, intBin, fltBin, strBin, cpxBin, true_and, and_true, unA, convA, convB, convO, pickV, List.map_cons, List.map_nil, resL, oneA, indexA, indexS, isQuiet, loadA, loadC, storeA, fieldA, partA, sliceA, boundA, buildA, placeA, setAll, appendA, readSl, newEl, Int.toNat_natCast, AV.cells, AV.solid, AV.one, Int.natCast_nonneg, exists_prop, List.getElem_cons_zero, List.getElem_cons_succ, List.getElem?_cons_zero, List.getElem?_cons_succ, Nat.zero_lt_one, Option.bind_some, Option.map_some, Option.map_none, kill, killM, killL, Bool.not_true, Bool.not_false, List.all_cons, List.all_nil, Bool.and_true, Bool.true_and, List.take_zero, List.drop_zero, List.drop_succ_cons, List.take_succ_cons, Nat.zero_add, Nat.add_zero, notInt, List.getElem?_toArray, ge_iff_le, gt_iff_lt, Nat.le_refl, Int.reduceToNat, cond_true, cond_false, ↓reduceIte, reduceCtorEq, Bool.false_eq_true, Bool.not_eq_true, Nat.reduceLT, Nat.reduceLeDiff, Nat.reduceMul, Nat.reduceEqDiff, Nat.succ_ne_self, Option.some.injEq, exists_eq', putF, List.forall_mem_cons, List.not_mem_nil, false_implies, implies_true, exists_true_left, tys0, und0, md9, Tryd.ntmps9, Tryd.results9, Int.reduceLT, Int.reduceLE, Int.reduceNeg, Int.reduceEq, Int.reduceGT, Int.reduceGE, decide_true, decide_false, beq_self_eq_true, bne_self_eq_false, Int.reduceBEq, Int.reduceBNe, Int.reduceAdd, Int.reduceSub]
      exact PostR.pure ⟨rfl, rfl⟩ rfl
    | some y =>
      rw [hb] at nb
      unfold listR at nb
      refine call_ret nb rfl rfl ?_
      simp only [q0, q1, q2, q3, q4, q5, q6, q7, q8, q9, guardSlot, quietA, nilC, nilA, quietB, St.ev, St.put, St.after, List.getD_cons_succ, List.getD_cons_zero, List.length_cons, List.length_nil, Nat.reduceAdd, Nat.reduceSub, List.replicate_succ, List.replicate_zero, List.cons_append, List.nil_append, List.append_nil, List.set_cons_succ, List.set_cons_zero, ofV, ofL, lenA, binA, intBin, fltBin, strBin, cpxBin, true_and, and_true, unA, convA, convB, convO, pickV, List.map_cons, List.map_nil, resL, oneA, indexA, indexS, isQuiet, loadA, loadC, storeA, fieldA, partA, sliceA, boundA, buildA, placeA, setAll, appendA, readSl, newEl, Int.toNat_natCast, AV.cells, AV.solid, AV.one, Int.natCast_nonneg, exists_prop, List.getElem_cons_zero, List.getElem_cons_succ, List.getElem?_cons_zero, List.getElem?_cons_succ, Nat.zero_lt_one, Option.bind_some, Option.map_some, Option.map_none, kill, killM, killL, Bool.not_true, Bool.not_false, List.all_cons, List.all_nil, Bool.and_true, Bool.true_and, List.take_zero, List.drop_zero, List.drop_succ_cons, List.take_succ_cons, Nat.zero_add, Nat.add_zero, notInt, List.getElem?_toArray, ge_iff_le, gt_iff_lt, Nat.le_refl, Int.reduceToNat, cond_true, cond_false, ↓reduceIte, reduceCtorEq, Bool.false_eq_true, Bool.not_eq_true, Nat.reduceLT, Nat.reduceLeDiff, Nat.reduceMul, Nat.reduceEqDiff, Nat.succ_ne_self, Option.some.injEq, exists_eq', putF, List.forall_mem_cons, List.not_mem_nil, false_implies, implies_true, exists_true_left, tys0, und0, md9, Tryd.ntmps9, Tryd.results9, Int.reduceLT, Int.reduceLE, Int.reduceNeg, Int.reduceEq, Int.reduceGT, Int.reduceGE, decide_true, decide_false, beq_self_eq_true, bne_self_eq_false, Int.reduceBEq, Int.reduceBNe, Int.reduceAdd, Int.reduceSub]
      exact PostR.pure ⟨rfl, rfl⟩ rfl
  | some x =>
    rw [ha] at na
    unfold listR at na
    refine call_ret na rfl rfl ?_
    simp only [q0, q1, q2, q3, q4, q5, q6, q7, q8, q9, guardSlot, quietA, nilC, nilA, quietB, St.ev, St.put, St.after, List.getD_cons_succ, List.getD_cons_zero, List.length_cons, List.length_nil, Nat.reduceAdd, Nat.reduceSub, List.replicate_succ, List.replicate_zero, List.cons_append, List.nil_append, List.append_nil, List.set_cons_succ, List.set_cons_zero, ofV, ofL, lenA, binA, intBin, fltBin, strBin, cpxBin, true_and, and_true, unA, convA, convB, convO, pickV, List.map_cons, List.map_nil, resL, oneA, indexA, indexS, isQuiet, loadA, loadC, storeA, fieldA, partA, sliceA, boundA, buildA, placeA, setAll, appendA, readSl, newEl, Int.toNat_natCast, AV.cells, AV.solid, AV.one, Int.natCast_nonneg, exists_prop, List.getElem_cons_zero, List.getElem_cons_succ, List.getElem?_cons_zero, List.getElem?_cons_succ, Nat.zero_lt_one, Option.bind_some, Option.map_some, Option.map_none, kill, killM, killL, Bool.not_true, Bool.not_false, List.all_cons, List.all_nil, Bool.and_true, Bool.true_and, List.take_zero, List.drop_zero, List.drop_succ_cons, List.take_succ_cons, Nat.zero_add, Nat.add_zero, notInt, List.getElem?_toArray, ge_iff_le, gt_iff_lt, Nat.le_refl, Int.reduceToNat, cond_true, cond_false, ↓reduceIte, reduceCtorEq, Bool.false_eq_true, Bool.not_eq_true, Nat.reduceLT, Nat.reduceLeDiff, Nat.reduceMul, Nat.reduceEqDiff, Nat.succ_ne_self, Option.some.injEq, exists_eq', putF, List.forall_mem_cons, List.not_mem_nil, false_implies, implies_true, exists_true_left, tys0, und0, md9, Tryd.ntmps9, Tryd.results9, Int.reduceLT, Int.reduceLE, Int.reduceNeg, Int.reduceEq, Int.reduceGT, Int.reduceGE, decide_true, decide_false, beq_self_eq_true, bne_self_eq_false, Int.reduceBEq, Int.reduceBNe, Int.reduceAdd, Int.reduceSub]
    cases hb : listOf b with
    | none =>
      rw [hb] at nb
      unfold listR at nb
      refine call_ret nb rfl rfl ?_
      simp only [q0, q1, q2, q3, q4, q5, q6, q7, q8, q9, guardSlot, quietA, nilC, nilA, quietB, St.ev, St.put, St.after, List.getD_cons_succ, List.getD_cons_zero, List.length_cons, List.length_nil, Nat.reduceAdd, Nat.reduceSub, List.replicate_succ, List.replicate_zero, List.cons_append, List.nil_append, List.append_nil, List.set_cons_succ, List.set_cons_zero, ofV, ofL, lenA, binA, intBin, fltBin, strBin, cpxBin, true_and, and_true, unA, convA, convB, convO, pickV, List.map_cons, List.map_nil, resL, oneA, indexA, indexS, isQuiet, loadA, loadC, storeA, fieldA, partA, sliceA, boundA, buildA, placeA, setAll, appendA, readSl, newEl, Int.toNat_natCast, AV.cells, AV.solid, AV.one, Int.natCast_nonneg, exists_prop, List.getElem_cons_zero, List.getElem_cons_succ, List.getElem?_cons_zero, List.getElem?_cons_succ, Nat.zero_lt_one, Option.bind_some, Option.map_some, Option.map_none, kill, killM, killL, Bool.not_true, Bool.not_false, List.all_cons, List.all_nil, Bool.and_true, Bool.true_and, List.take_zero, List.drop_zero, List.drop_succ_cons, List.take_succ_cons, Nat.zero_add, Nat.add_zero, notInt, List.getElem?_toArray, ge_iff_le, gt_iff_lt, Nat.le_refl, Int.reduceToNat, cond_true, cond_false, ↓reduceIte, reduceCtorEq, Bool.false_eq_true, Bool.not_eq_true, Nat.reduceLT, Nat.reduceLeDiff, Nat.reduceMul, Nat.reduceEqDiff, Nat.succ_ne_self, Option.some.injEq, exists_eq', putF, List.forall_mem_cons, List.not_mem_nil, false_implies, implies_true, exists_true_left, tys0, und0, md9, Tryd.ntmps9, Tryd.results9, Int.reduceLT, Int.reduceLE, Int.reduceNeg, Int.reduceEq, Int.reduceGT, Int.reduceGE, decide_true, decide_false, beq_self_eq_true, bne_self_eq_false, Int.reduceBEq, Int.reduceBNe, Int.reduceAdd, Int.reduceSub]
      exact PostR.pure ⟨rfl, rfl⟩ rfl
    | some y =>
      rw [hb] at nb
      unfold listR at nb
      refine call_ret nb rfl rfl ?_
      have lg := l02Give_call x y (by have := listOf_le ha; omega)
      dsimp only
      generalize (if scaleB x y = true then some (x, y) else none) = o at lg
      simp only [q0, q1, q2, q3, q4, q5, q6, q7, q8, q9, guardSlot, quietA, nilC, nilA, quietB, St.ev, St.put, St.after, List.getD_cons_succ, List.getD_cons_zero, List.length_cons, List.length_nil, Nat.reduceAdd, Nat.reduceSub, List.replicate_succ, List.replicate_zero, List.cons_append, List.nil_append, List.append_nil, List.set_cons_succ, List.set_cons_zero, ofV, ofL, lenA, binA, intBin, fltBin, strBin, cpxBin, true_and, and_true, unA, convA, convB, convO, pickV, List.map_cons, List.map_nil, resL, oneA, indexA, indexS, isQuiet, loadA, loadC, storeA, fieldA, partA, sliceA, boundA, buildA, placeA, setAll, appendA, readSl, newEl, Int.toNat_natCast, AV.cells, AV.solid, AV.one, Int.natCast_nonneg, exists_prop, List.getElem_cons_zero, List.getElem_cons_succ, List.getElem?_cons_zero, List.getElem?_cons_succ, Nat.zero_lt_one, Option.bind_some, Option.map_some, Option.map_none, kill, killM, killL, Bool.not_true, Bool.not_false, List.all_cons, List.all_nil, Bool.and_true, Bool.true_and, List.take_zero, List.drop_zero, List.drop_succ_cons, List.take_succ_cons, Nat.zero_add, Nat.add_zero, notInt, List.getElem?_toArray, ge_iff_le, gt_iff_lt, Nat.le_refl, Int.reduceToNat, cond_true, cond_false, ↓reduceIte, reduceCtorEq, Bool.false_eq_true, Bool.not_eq_true, Nat.reduceLT, Nat.reduceLeDiff, Nat.reduceMul, Nat.reduceEqDiff, Nat.succ_ne_self, Option.some.injEq, exists_eq', putF, List.forall_mem_cons, List.not_mem_nil, false_implies, implies_true, exists_true_left, tys0, und0, md9, Tryd.ntmps9, Tryd.results9, Int.reduceLT, Int.reduceLE, Int.reduceNeg, Int.reduceEq, Int.reduceGT, Int.reduceGE, decide_true, decide_false, beq_self_eq_true, bne_self_eq_false, Int.reduceBEq, Int.reduceBNe, Int.reduceAdd, Int.reduceSub]
      cases o with
      | none =>
        unfold scaleR at lg
        refine call_ret lg rfl rfl ?_
        simp only [q0, q1, q2, q3, q4, q5, q6, q7, q8, q9, guardSlot, quietA, nilC, nilA, quietB, St.ev, St.put, St.after, List.getD_cons_succ, List.getD_cons_zero, List.length_cons, List.length_nil, Nat.reduceAdd, Nat.reduceSub, List.replicate_succ, List.replicate_zero, List.cons_append, List.nil_append, List.append_nil, List.set_cons_succ, List.set_cons_zero, ofV, ofL, lenA, binA, intBin, fltBin, strBin, cpxBin, true_and, and_true, unA, convA, convB, convO, pickV, List.map_cons, List.map_nil, resL, oneA, indexA, indexS, isQuiet, loadA, loadC, storeA, fieldA, partA, sliceA, boundA, buildA, placeA, setAll, appendA, readSl, newEl, Int.toNat_natCast, AV.cells, AV.solid, AV.one, Int.natCast_nonneg, exists_prop, List.getElem_cons_zero, List.getElem_cons_succ, List.getElem?_cons_zero, List.getElem?_cons_succ, Nat.zero_lt_one, Option.bind_some, Option.map_some, Option.map_none, kill, killM, killL, Bool.not_true, Bool.not_false, List.all_cons, List.all_nil, Bool.and_true, Bool.true_and, List.take_zero, List.drop_zero, List.drop_succ_cons, List.take_succ_cons, Nat.zero_add, Nat.add_zero, notInt, List.getElem?_toArray, ge_iff_le, gt_iff_lt, Nat.le_refl, Int.reduceToNat, cond_true, cond_false, ↓reduceIte, reduceCtorEq, Bool.false_eq_true, Bool.not_eq_true, Nat.reduceLT, Nat.reduceLeDiff, Nat.reduceMul, Nat.reduceEqDiff, Nat.succ_ne_self, Option.some.injEq, exists_eq', putF, List.forall_mem_cons, List.not_mem_nil, false_implies, implies_true, exists_true_left, tys0, und0, md9, Tryd.ntmps9, Tryd.results9, Int.reduceLT, Int.reduceLE, Int.reduceNeg, Int.reduceEq, Int.reduceGT, Int.reduceGE, decide_true, decide_false, beq_self_eq_true, bne_self_eq_false, Int.reduceBEq, Int.reduceBNe, Int.reduceAdd, Int.reduceSub]
        exact PostR.pure ⟨rfl, rfl⟩ rfl
      | some q =>
        unfold scaleR at lg
        refine call_ret lg rfl rfl ?_
        simp only [q0, q1, q2, q3, q4, q5, q6, q7, q8, q9, guardSlot, quietA, nilC, nilA, quietB, St.ev, St.put, St.after, List.getD_cons_succ, List.getD_cons_zero, List.length_cons, List.length_nil, Nat.reduceAdd, Nat.reduceSub, List.replicate_succ, List.replicate_zero, List.cons_append, List.nil_append, List.append_nil, List.set_cons_succ, List.set_cons_zero, ofV, ofL, lenA, binA, intBin, fltBin, strBin, cpxBin, true_and, and_true, unA, convA, convB, convO, pickV, List.map_cons, List.map_nil, resL, oneA, indexA, indexS, isQuiet, loadA, loadC, storeA, fieldA, partA, sliceA, boundA, buildA, placeA, setAll, appendA, readSl, newEl, Int.toNat_natCast, AV.cells, AV.solid, AV.one, Int.natCast_nonneg, exists_prop, List.getElem_cons_zero, List.getElem_cons_succ, List.getElem?_cons_zero, List.getElem?_cons_succ, Nat.zero_lt_one, Option.bind_some, Option.map_some, Option.map_none, kill, killM, killL, Bool.not_true, Bool.not_false, List.all_cons, List.all_nil, Bool.and_true, Bool.true_and, List.take_zero, List.drop_zero, List.drop_succ_cons, List.take_succ_cons, Nat.zero_add, Nat.add_zero, notInt, List.getElem?_toArray, ge_iff_le, gt_iff_lt, Nat.le_refl, Int.reduceToNat, cond_true, cond_false, ↓reduceIte, reduceCtorEq, Bool.false_eq_true, Bool.not_eq_true, Nat.reduceLT, Nat.reduceLeDiff, Nat.reduceMul, Nat.reduceEqDiff, Nat.succ_ne_self, Option.some.injEq, exists_eq', putF, List.forall_mem_cons, List.not_mem_nil, false_implies, implies_true, exists_true_left, tys0, und0, md9, Tryd.ntmps9, Tryd.results9, Int.reduceLT, Int.reduceLE, Int.reduceNeg, Int.reduceEq, Int.reduceGT, Int.reduceGE, decide_true, decide_false, beq_self_eq_true, bne_self_eq_false, Int.reduceBEq, Int.reduceBNe, Int.reduceAdd, Int.reduceSub]
        exact PostR.pure ⟨rfl, rfl⟩ rfl
theorem specReadScale_call (t : List UInt8) (ht : t.length ≤ 1048576) : CallA Tryd.prog 4 [.str t] [] (Ret (scaleR (scaleOf t)) []) := by
  have l8 := l08ReadScale_call t ht
  refine CallP.out (t := .mk) (go_in (md := md4) mixed Tryd.func4 rfl go4 (by kernel_rfl) ?_)
  simp only [q0, q1, q2, q3, q4, q5, q6, q7, q8, q9, guardSlot, quietA, nilC, nilA, quietB, St.ev, St.put, St.after, List.getD_cons_succ, List.getD_cons_zero, List.length_cons, List.length_nil, Nat.reduceAdd, Nat.reduceSub, List.replicate_succ, List.replicate_zero, List.cons_append, List.nil_append, List.append_nil, List.set_cons_succ, List.set_cons_zero, ofV, ofL, lenA, binA, intBin, fltBin, strBin, cpxBin, true_and, and_true, unA, convA, convB, convO, pickV, List.map_cons, List.map_nil, resL, oneA, indexA, indexS, isQuiet, loadA, loadC, storeA, fieldA, partA, sliceA, boundA, buildA, placeA, setAll, appendA, readSl, newEl, Int.toNat_natCast, AV.cells, AV.solid, AV.one, Int.natCast_nonneg, exists_prop, List.getElem_cons_zero, List.getElem_cons_succ, List.getElem?_cons_zero, List.getElem?_cons_succ, Nat.zero_lt_one, Option.bind_some, Option.map_some, Option.map_none, kill, killM, killL, Bool.not_true, Bool.not_false, List.all_cons, List.all_nil, Bool.and_true, Bool.true_and, List.take_zero, List.drop_zero, List.drop_succ_cons, List.take_succ_cons, Nat.zero_add, Nat.add_zero, notInt, List.getElem?_toArray, ge_iff_le, gt_iff_lt, Nat.le_refl, Int.reduceToNat, cond_true, cond_false, ↓reduceIte, reduceCtorEq, Bool.false_eq_true, Bool.not_eq_true, Nat.reduceLT, Nat.reduceLeDiff, Nat.reduceMul, Nat.reduceEqDiff, Nat.succ_ne_self, Option.some.injEq, exists_eq', putF, List.forall_mem_cons, List.not_mem_nil, false_implies, implies_true, exists_true_left, tys0, und0, md4, Tryd.ntmps4, Tryd.results4]
  cases h : scaleOf t with
  | none =>
    rw [h] at l8
    unfold scaleR at l8
    refine call_ret l8 rfl rfl ?_
    simp only [q0, q1, q2, q3, q4, q5, q6, q7, q8, q9, guardSlot, quietA, nilC, nilA, quietB, St.ev, St.put, St.after, List.getD_cons_succ, List.getD_cons_zero, List.length_cons, List.length_nil, Nat.reduceAdd, Nat.reduceSub, List.replicate_succ, List.replicate_zero, List.cons_append, List.nil_append, List.append_nil, List.set_cons_succ, List.set_cons_zero, ofV, ofL, lenA, binA, intBin, fltBin, strBin, cpxBin, true_and, and_true, unA, convA, convB, convO, pickV, List.map_cons, List.map_nil, resL, oneA, indexA, indexS, isQuiet, loadA, loadC, storeA, fieldA, partA, sliceA, boundA, buildA, placeA, setAll, appendA, readSl, newEl, Int.toNat_natCast, AV.cells, AV.solid, AV.one, Int.natCast_nonneg, exists_prop, List.getElem_cons_zero, List.getElem_cons_succ, List.getElem?_cons_zero, List.getElem?_cons_succ, Nat.zero_lt_one, Option.bind_some, Option.map_some, Option.map_none, kill, killM, killL, Bool.not_true, Bool.not_false, List.all_cons, List.all_nil, Bool.and_true, Bool.true_and, List.take_zero, List.drop_zero, List.drop_succ_cons, List.take_succ_cons, Nat.zero_add, Nat.add_zero, notInt, List.getElem?_toArray, ge_iff_le, gt_iff_lt, Nat.le_refl, Int.reduceToNat, cond_true, cond_false, ↓reduceIte, reduceCtorEq, Bool.false_eq_true, Bool.not_eq_true, Nat.reduceLT, Nat.reduceLeDiff, Nat.reduceMul, Nat.reduceEqDiff, Nat.succ_ne_self, Option.some.injEq, exists_eq', putF, List.forall_mem_cons, List.not_mem_nil, false_implies, implies_true, exists_true_left, tys0, und0, md4, Tryd.ntmps4, Tryd.results4]
    exact PostR.pure ⟨rfl, rfl⟩ rfl
  | some q =>
    rw [h] at l8
    unfold scaleR at l8
    refine call_ret l8 rfl rfl ?_
    simp only [q0, q1, q2, q3, q4, q5, q6, q7, q8, q9, guardSlot, quietA, nilC, nilA, quietB, St.ev, St.put, St.after, List.getD_cons_succ, List.getD_cons_zero, List.length_cons, List.length_nil, Nat.reduceAdd, Nat.reduceSub, List.replicate_succ, List.replicate_zero, List.cons_append, List.nil_append, List.append_nil, List.set_cons_succ, List.set_cons_zero, ofV, ofL, lenA, binA, intBin, fltBin, strBin, cpxBin, true_and, and_true, unA, convA, convB, convO, pickV, List.map_cons, List.map_nil, resL, oneA, indexA, indexS, isQuiet, loadA, loadC, storeA, fieldA, partA, sliceA, boundA, buildA, placeA, setAll, appendA, readSl, newEl, Int.toNat_natCast, AV.cells, AV.solid, AV.one, Int.natCast_nonneg, exists_prop, List.getElem_cons_zero, List.getElem_cons_succ, List.getElem?_cons_zero, List.getElem?_cons_succ, Nat.zero_lt_one, Option.bind_some, Option.map_some, Option.map_none, kill, killM, killL, Bool.not_true, Bool.not_false, List.all_cons, List.all_nil, Bool.and_true, Bool.true_and, List.take_zero, List.drop_zero, List.drop_succ_cons, List.take_succ_cons, Nat.zero_add, Nat.add_zero, notInt, List.getElem?_toArray, ge_iff_le, gt_iff_lt, Nat.le_refl, Int.reduceToNat, cond_true, cond_false, ↓reduceIte, reduceCtorEq, Bool.false_eq_true, Bool.not_eq_true, Nat.reduceLT, Nat.reduceLeDiff, Nat.reduceMul, Nat.reduceEqDiff, Nat.succ_ne_self, Option.some.injEq, exists_eq', putF, List.forall_mem_cons, List.not_mem_nil, false_implies, implies_true, exists_true_left, tys0, und0, md4, Tryd.ntmps4, Tryd.results4]
    exact PostR.pure ⟨rfl, rfl⟩ rfl
end Go.Proofs.YtigipcckflcilaaDoor
