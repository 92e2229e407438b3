/- Scales: dues, nets, rates, as the program has them. -/
import Derived.Test.YtdlddnnnfjnabaaLibI1
set_option maxRecDepth 10000
set_option maxHeartbeats 1000000
set_option linter.unusedSimpArgs false
set_option linter.unusedVariables false
namespace Go.Proofs.Ytdlddnnnfjnabaa
open Go Go.Abs

theorem tdiv_nn {a b : Int} (ha : 0 ≤ a) : a.tdiv b = a / b := Int.tdiv_eq_ediv_of_nonneg ha
theorem tmod_nn {a b : Int} (ha : 0 ≤ a) : a.tmod b = a % b := Int.tmod_eq_emod_of_nonneg ha

theorem rounded_call (a b w : Int) (ha : 0 ≤ a) (ha2 : a ≤ 4000000000000000000) (hb : 0 < b) (hb2 : b ≤ 4000000000000000000) (h0 : 0 ≤ w) (h3 : w ≤ 3) : CallA Try.prog 47 [.int .i64 a, .int .i64 b, .int .i64 w] [] (Ret (.int .i64 (rnd a b w)) []) := by
  have m1 := Int.emod_nonneg a (show b ≠ 0 by omega)
  have m2 := Int.emod_lt_of_pos a hb
  have d1 : 0 ≤ a / b := Int.ediv_nonneg ha (by omega)
  have d2 : a / b ≤ a := Int.ediv_le_self b ha
  have e1 : IntKind.i64.wrap (a.tdiv b) = a / b := by rw [tdiv_nn ha, w64 (by omega) (by omega)]
  have e2 : a.tmod b = a % b := tmod_nn ha
  have e3 : IntKind.i64.wrap (b - a % b) = b - a % b := w64 (by omega) (by omega)
  have e4 : (a / b).tmod 2 = a / b % 2 := tmod_nn d1
  have e5 : IntKind.i64.wrap (a / b + 1) = a / b + 1 := w64 (by omega) (by omega)
  have hb' : b ≠ 0 := by omega
  rcases ways h0 h3 with rfl | rfl | rfl | rfl
  all_goals
    refine CallP.out (t := .mk) (go_in (md := md47) mixed Try.func47 rfl go47 (by kernel_rfl) ?_)
    simp only [q0, q1, q2, q3, q4, q5, q6, q7, q8, q9, zq0, zq1, zq2, zq3, zq4, guardSlot, quietA, nilC, nilA, quietB, St.ev, St.put, St.after, Nat.reduceAdd, Nat.reduceSub, ofV, ofL, lenA, binA, intBin, fltBin, strBin, cpxBin, unA, convA, convB, convO, pickV, resL, oneA, indexA, indexS, isQuiet, loadA, loadC, storeA, fieldA, partA, sliceA, boundA, buildA, placeA, setAll, appendA, readSl, newEl, AV.cells, AV.solid, AV.one, kill, killM, killL, notInt, Int.reduceToNat, cond_true, cond_false, ↓reduceIte, reduceCtorEq, Nat.reduceLT, Nat.reduceLeDiff, Nat.reduceMul, Nat.reduceEqDiff, exists_eq', putF, implies_true, exists_true_left, tys0, tys1, tys2, tys3, tys4, und0, und1, und2, und3, md47, Try.ntmps47, Try.results47, e1, e2, e3, e4, e5, Int.reduceLT, Int.reduceLE, Int.reduceNeg, Int.reduceEq, Int.reduceGT, Int.reduceGE, decide_true, decide_false, beq_self_eq_true, bne_self_eq_false, Int.reduceBEq, Int.reduceBNe, Int.reduceAdd, Int.reduceSub]
    refine ⟨hb', hb', ?_⟩
  · exact PostR.pure ⟨by rw [rnd0], rfl⟩ rfl
  · refine br_intro (fun h => ?_) (fun h => ?_) <;> simp only [q0, q1, q2, q3, q4, q5, q6, q7, q8, q9, zq0, zq1, zq2, zq3, zq4, guardSlot, quietA, nilC, nilA, quietB, St.ev, St.put, St.after, Nat.reduceAdd, Nat.reduceSub, ofV, ofL, lenA, binA, intBin, fltBin, strBin, cpxBin, unA, convA, convB, convO, pickV, resL, oneA, indexA, indexS, isQuiet, loadA, loadC, storeA, fieldA, partA, sliceA, boundA, buildA, placeA, setAll, appendA, readSl, newEl, AV.cells, AV.solid, AV.one, kill, killM, killL, notInt, Int.reduceToNat, cond_true, cond_false, ↓reduceIte, reduceCtorEq, Nat.reduceLT, Nat.reduceLeDiff, Nat.reduceMul, Nat.reduceEqDiff, exists_eq', putF, implies_true, exists_true_left, tys0, tys1, tys2, tys3, tys4, und0, und1, und2, und3, md47, Try.ntmps47, Try.results47, e5]
    · have h' := of_decide_eq_true h
      exact PostR.pure ⟨by rw [rnd1, if_pos h'], rfl⟩ rfl
    · have h' := of_decide_eq_false h
      exact PostR.pure ⟨by rw [rnd1, if_neg h']; simp, rfl⟩ rfl
  · refine br_intro (fun h => ?_) (fun h => ?_) <;> simp only [q0, q1, q2, q3, q4, q5, q6, q7, q8, q9, zq0, zq1, zq2, zq3, zq4, guardSlot, quietA, nilC, nilA, quietB, St.ev, St.put, St.after, Nat.reduceAdd, Nat.reduceSub, ofV, ofL, lenA, binA, intBin, fltBin, strBin, cpxBin, unA, convA, convB, convO, pickV, resL, oneA, indexA, indexS, isQuiet, loadA, loadC, storeA, fieldA, partA, sliceA, boundA, buildA, placeA, setAll, appendA, readSl, newEl, AV.cells, AV.solid, AV.one, kill, killM, killL, notInt, Int.reduceToNat, cond_true, cond_false, ↓reduceIte, reduceCtorEq, Nat.reduceLT, Nat.reduceLeDiff, Nat.reduceMul, Nat.reduceEqDiff, exists_eq', putF, implies_true, exists_true_left, tys0, tys1, tys2, tys3, tys4, und0, und1, und2, und3, md47, Try.ntmps47, Try.results47, e3, e4, e5, Int.reduceLT, Int.reduceLE, Int.reduceNeg, Int.reduceEq, Int.reduceGT, Int.reduceGE, decide_true, decide_false, beq_self_eq_true, bne_self_eq_false, Int.reduceBEq, Int.reduceBNe, Int.reduceAdd, Int.reduceSub]
    · have h' := of_decide_eq_true h
      exact PostR.pure ⟨by rw [rnd2, if_pos (Or.inl h')], rfl⟩ rfl
    · have h' := of_decide_eq_false h
      refine br_intro (fun g => ?_) (fun g => ?_) <;> simp only [q0, q1, q2, q3, q4, q5, q6, q7, q8, q9, zq0, zq1, zq2, zq3, zq4, guardSlot, quietA, nilC, nilA, quietB, St.ev, St.put, St.after, Nat.reduceAdd, Nat.reduceSub, ofV, ofL, lenA, binA, intBin, fltBin, strBin, cpxBin, unA, convA, convB, convO, pickV, resL, oneA, indexA, indexS, isQuiet, loadA, loadC, storeA, fieldA, partA, sliceA, boundA, buildA, placeA, setAll, appendA, readSl, newEl, AV.cells, AV.solid, AV.one, kill, killM, killL, notInt, Int.reduceToNat, cond_true, cond_false, ↓reduceIte, reduceCtorEq, Nat.reduceLT, Nat.reduceLeDiff, Nat.reduceMul, Nat.reduceEqDiff, exists_eq', putF, implies_true, exists_true_left, tys0, tys1, tys2, tys3, tys4, und0, und1, und2, und3, md47, Try.ntmps47, Try.results47, e3, e4, e5, Int.reduceLT, Int.reduceLE, Int.reduceNeg, Int.reduceEq, Int.reduceGT, Int.reduceGE, decide_true, decide_false, beq_self_eq_true, bne_self_eq_false, Int.reduceBEq, Int.reduceBNe, Int.reduceAdd, Int.reduceSub]
      · have g' := eq_of_beq g
        refine ⟨by decide, ?_⟩
        refine br_intro (fun i => ?_) (fun i => ?_) <;> simp only [q0, q1, q2, q3, q4, q5, q6, q7, q8, q9, zq0, zq1, zq2, zq3, zq4, guardSlot, quietA, nilC, nilA, quietB, St.ev, St.put, St.after, Nat.reduceAdd, Nat.reduceSub, ofV, ofL, lenA, binA, intBin, fltBin, strBin, cpxBin, unA, convA, convB, convO, pickV, resL, oneA, indexA, indexS, isQuiet, loadA, loadC, storeA, fieldA, partA, sliceA, boundA, buildA, placeA, setAll, appendA, readSl, newEl, AV.cells, AV.solid, AV.one, kill, killM, killL, notInt, Int.reduceToNat, cond_true, cond_false, ↓reduceIte, reduceCtorEq, Nat.reduceLT, Nat.reduceLeDiff, Nat.reduceMul, Nat.reduceEqDiff, exists_eq', putF, implies_true, exists_true_left, tys0, tys1, tys2, tys3, tys4, und0, und1, und2, und3, md47, Try.ntmps47, Try.results47, e3, e4, e5, Int.reduceLT, Int.reduceLE, Int.reduceNeg, Int.reduceEq, Int.reduceGT, Int.reduceGE, decide_true, decide_false, beq_self_eq_true, bne_self_eq_false, Int.reduceBEq, Int.reduceBNe, Int.reduceAdd, Int.reduceSub]
        · have i' := eq_of_beq i
          exact PostR.pure ⟨by rw [rnd2, if_pos (Or.inr ⟨g', i'⟩)], rfl⟩ rfl
        · have i' := ne_of_beq_false i
          exact PostR.pure ⟨by rw [rnd2, if_neg (by rintro (x | ⟨_, x⟩); exact h' x; exact i' x)]; simp, rfl⟩ rfl
      · have g' := ne_of_beq_false g
        exact PostR.pure ⟨by rw [rnd2, if_neg (by rintro (x | ⟨x, _⟩); exact h' x; exact g' x)]; simp, rfl⟩ rfl
  · refine br_intro (fun h => ?_) (fun h => ?_) <;> simp only [q0, q1, q2, q3, q4, q5, q6, q7, q8, q9, zq0, zq1, zq2, zq3, zq4, guardSlot, quietA, nilC, nilA, quietB, St.ev, St.put, St.after, Nat.reduceAdd, Nat.reduceSub, ofV, ofL, lenA, binA, intBin, fltBin, strBin, cpxBin, unA, convA, convB, convO, pickV, resL, oneA, indexA, indexS, isQuiet, loadA, loadC, storeA, fieldA, partA, sliceA, boundA, buildA, placeA, setAll, appendA, readSl, newEl, AV.cells, AV.solid, AV.one, kill, killM, killL, notInt, Int.reduceToNat, cond_true, cond_false, ↓reduceIte, reduceCtorEq, Nat.reduceLT, Nat.reduceLeDiff, Nat.reduceMul, Nat.reduceEqDiff, exists_eq', putF, implies_true, exists_true_left, tys0, tys1, tys2, tys3, tys4, und0, und1, und2, und3, md47, Try.ntmps47, Try.results47, e5]
    · have h' := of_decide_eq_true h
      exact PostR.pure ⟨by rw [rnd3, if_pos h'], rfl⟩ rfl
    · have h' := of_decide_eq_false h
      exact PostR.pure ⟨by rw [rnd3, if_neg h']; simp, rfl⟩ rfl

theorem Asc.tail {l : List Int} (h : Asc l) : Asc l.tail := by
  match l, h with
  | [], _ => trivial
  | [_], _ => trivial
  | _ :: _ :: _, h => exact h.2
theorem Asc.drop : ∀ (i : Nat) {l : List Int}, Asc l → Asc (l.drop i)
  | 0, l, h => by simpa using h
  | i + 1, [], h => by simp [Asc]
  | i + 1, a :: l, h => by rw [List.drop_succ_cons]; exact Asc.drop i (by simpa using h.tail)
end Go.Proofs.Ytdlddnnnfjnabaa
