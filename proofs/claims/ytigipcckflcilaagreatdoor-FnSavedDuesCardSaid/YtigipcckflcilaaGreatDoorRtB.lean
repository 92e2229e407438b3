/- Rules that are drawn. -/
import Derived.Test.YtigipcckflcilaaGreatDoorRtA
set_option maxRecDepth 10000
set_option maxHeartbeats 4000000
set_option linter.unusedSimpArgs false
set_option linter.unusedVariables false
namespace Go.Proofs.YtigipcckflcilaaGreatDoor
open Go Go.Abs

theorem drawWord_call (code : List Int) (hc : byteL code) (hl : code.length ≤ 1048576) (a : Nat) (ha : a ≤ 1000000) (sd : Int) :
    CallA Tryz.prog 70 [.ptr 0 0 0] [srcB code a sd] (fun r hp => ∃ (x : Int) (a' : Nat) (sd' : Int), (wordB x = true ∧ -6 ≤ x ∧ x ≤ 6) ∧ a' ≤ a + 4 ∧ r = .int .i64 x ∧ hp = [srcB code a' sd']) := by
  refine CallP.out (t := .mk) (go_in (md := md70) mixed Tryz.func70 rfl go70 (by kernel_rfl) ?_)
  simp only [q0, q1, q2, q3, q4, q5, q6, q7, q8, q9, zr0, zr1, zr2, zr3, zq0, zq1, zq2, zq3, zq4, Nat.reduceAdd, Nat.reduceSub, lenA, convA, indexA, indexS, Int.reduceToNat, cond_true, cond_false, ↓reduceIte, reduceCtorEq, Nat.reduceLT, Nat.reduceLeDiff, Nat.reduceMul, Nat.reduceEqDiff, exists_eq', implies_true, exists_true_left, tys0, tys1, tys2, und0, und1, md70, Tryz.ntmps70, Tryz.results70]
  refine call_by (pick_call code hc hl a (by omega) sd 6 (by omega) (by omega)) ?_
  rintro r hp' ⟨x, a', sd', hx, ha', rfl, rfl⟩
  have w1 : IntKind.i64.wrap (1 + x) = 1 + x := w64 (by omega) (by omega)
  have w2 : IntKind.i64.wrap (0 - (1 + x)) = -(1 + x) := by rw [w64 (by omega) (by omega)]; omega
  simp only [q0, q1, q2, q3, q4, q5, q6, q7, q8, q9, zr0, zr1, zr2, zr3, zq0, zq1, zq2, zq3, zq4, Nat.reduceAdd, Nat.reduceSub, lenA, convA, indexA, indexS, Int.reduceToNat, cond_true, cond_false, ↓reduceIte, reduceCtorEq, Nat.reduceLT, Nat.reduceLeDiff, Nat.reduceMul, Nat.reduceEqDiff, exists_eq', implies_true, exists_true_left, tys0, tys1, tys2, und0, und1, md70, Tryz.ntmps70, Tryz.results70, w1]
  refine call_by (one_call code hc hl a' (by omega) sd' 2 (by omega) (by omega)) ?_
  rintro r hp' ⟨b, a2, sd2, ha2, rfl, rfl⟩
  have wb : wordB (1 + x) = true ∧ wordB (-(1 + x)) = true := by
    unfold wordB
    simp only [Bool.and_eq_true, bne_iff_ne, ne_eq]
    exact ⟨⟨by omega, inR_yes (by omega) (by omega)⟩, ⟨by omega, inR_yes (by omega) (by omega)⟩⟩
  simp only [q0, q1, q2, q3, q4, q5, q6, q7, q8, q9, zr0, zr1, zr2, zr3, zq0, zq1, zq2, zq3, zq4, Nat.reduceAdd, Nat.reduceSub, lenA, convA, indexA, indexS, Int.reduceToNat, cond_true, cond_false, ↓reduceIte, reduceCtorEq, Nat.reduceLT, Nat.reduceLeDiff, Nat.reduceMul, Nat.reduceEqDiff, exists_eq', implies_true, exists_true_left, tys0, tys1, tys2, und0, und1, md70, Tryz.ntmps70, Tryz.results70, w1]
  refine br_intro (fun h => ?_) (fun h => ?_) <;> simp only [q0, q1, q2, q3, q4, q5, q6, q7, q8, q9, zr0, zr1, zr2, zr3, zq0, zq1, zq2, zq3, zq4, Nat.reduceAdd, Nat.reduceSub, lenA, convA, indexA, indexS, Int.reduceToNat, cond_true, cond_false, ↓reduceIte, reduceCtorEq, Nat.reduceLT, Nat.reduceLeDiff, Nat.reduceMul, Nat.reduceEqDiff, exists_eq', implies_true, exists_true_left, tys0, tys1, tys2, und0, und1, md70, Tryz.ntmps70, Tryz.results70, w1, w2]
  · exact PostR.tell [0] (hp2 := [srcB code a2 sd2]) (by decide) (by decide) (by decide) ⟨⟨rfl, rfl⟩, trivial⟩ rfl rfl ⟨_, a2, sd2, ⟨wb.2, by omega, by omega⟩, by omega, rfl, rfl⟩
  · exact PostR.tell [0] (hp2 := [srcB code a2 sd2]) (by decide) (by decide) (by decide) ⟨⟨rfl, rfl⟩, trivial⟩ rfl rfl ⟨_, a2, sd2, ⟨wb.1, by omega, by omega⟩, by omega, rfl, rfl⟩
structure WdOk (xs : List Int) (t : Int) : Prop where
  len : xs.length ≤ 3
  ok : wordsB xs = true
  low : ∀ x ∈ xs, 1 ≤ atomF x ∧ atomF x < t
theorem WdOk.mono {xs : List Int} {t u : Int} (h : WdOk xs t) (hu : t ≤ u) : WdOk xs u := ⟨h.len, h.ok, fun x hx => by have := h.low x hx; omega⟩
theorem wdOk_nil : WdOk [] 1 := ⟨by simp, rfl, by simp⟩
theorem WdOk.skip {xs : List Int} {t : Int} (h : WdOk xs t) : WdOk xs (t + 1) := ⟨h.len, h.ok, fun x hx => by have := h.low x hx; omega⟩
theorem WdOk.next {xs : List Int} {t x : Int} (h : WdOk xs t) (hl : xs.length < 3) (h1 : 1 ≤ t) (h2 : t ≤ 6) (hx : x = t ∨ x = -t) : WdOk (xs ++ [x]) (t + 1) := by
  have ax : atomF x = t := by unfold atomF; rcases hx with rfl | rfl <;> split <;> omega
  refine ⟨by simp; omega, ?_, fun y hy => ?_⟩
  · unfold wordsB
    rw [List.length_append]
    show pref _ (xs.length + 1) = true
    have g0 : (xs ++ [x]).getD xs.length 0 = x := by simp [List.getD_eq_getElem?_getD]
    refine pref_go ?_ ?_
    · have := h.ok
      unfold wordsB pref at this
      unfold pref
      rw [List.all_eq_true] at this ⊢
      intro j hj
      have hj' : j < xs.length := by simpa using hj
      have e : ∀ i, i < xs.length → (xs ++ [x]).getD i 0 = xs.getD i 0 := fun i hi => by simp [List.getD_eq_getElem?_getD, List.getElem?_append_left hi]
      have := this j hj
      unfold wordP at this ⊢
      rw [e j hj', e (j - 1) (by omega)]
      exact this
    · unfold wordP
      rw [g0, ax]
      have wb : wordB x = true := by
        unfold wordB
        simp only [Bool.and_eq_true, bne_iff_ne, ne_eq]
        exact ⟨by omega, inR_yes (by omega) (by omega)⟩
      rw [wb, Bool.true_and, Bool.or_eq_true]
      cases hn : xs.length with
      | zero => exact .inl rfl
      | succ k =>
        right
        have e : (xs ++ [x]).getD k 0 = xs[k]'(by omega) := by simp [List.getD_eq_getElem?_getD, List.getElem?_append_left (show k < xs.length by omega), List.getElem?_eq_getElem (show k < xs.length by omega)]
        rw [show k + 1 - 1 = k by omega, e]
        exact decide_eq_true (h.low _ (List.getElem_mem _)).2
  · rcases List.mem_append.1 hy with hy | hy
    · have := h.low y hy; omega
    · rw [List.mem_singleton.1 hy, ax]; omega
theorem drawFacts0_call (code : List Int) (hc : byteL code) (hl : code.length ≤ 1048576) (a : Nat) (ha : a ≤ 1000000) (sd : Int) :
    CallA Tryz.prog 71 [.ptr 0 0 0, .int .i64 3] [srcB code a sd] (fun r hp => ∃ (xs : List Int) (a' : Nat) (sd' : Int), WdOk xs 7 ∧ a' ≤ a + 12 ∧ r = .sl 1 0 xs.length ∧ hp = [srcB code a' sd', intB xs]) := by
  refine CallP.out (t := .mk) (go_in (md := md71) mixed Tryz.func71 rfl go71 (by kernel_rfl) ?_)
  simp only [q0, q1, q2, q3, q4, q5, q6, q7, q8, q9, zr0, zr1, zr2, zr3, zq0, zq1, zq2, zq3, zq4, Nat.reduceAdd, Nat.reduceSub, lenA, convA, indexA, indexS, Int.reduceToNat, cond_true, cond_false, ↓reduceIte, reduceCtorEq, Nat.reduceLT, Nat.reduceLeDiff, Nat.reduceMul, Nat.reduceEqDiff, exists_eq', implies_true, exists_true_left, tys0, tys1, tys2, und0, und1, md71, Tryz.ntmps71, Tryz.results71]
  refine go_round (md := md71) mixed (by kernel_rfl) (fun p : {p : List Int × Nat × Nat × Int // WdOk p.1 ((p.2.1 : Nat) : Int) ∧ 1 ≤ p.2.1 ∧ p.2.1 ≤ 7 ∧ p.2.2.1 + 2 ≤ a + 2 * p.2.1} => ⟨[.ptr 0 0 0, .int .i64 3, .any, .any, .any, .sl 1 0 p.1.1.length, .int .i64 ((p.1.2.1 : Nat) : Int), .any, .any, .any, .any, .any, .any, .any, .any, .any, .any, .any, .any, .any, .any, .any, .any, .any, .any, .any, .any, .any, .any, .any, .any, .any, .any, .any], [srcB code p.1.2.2.1 p.1.2.2.2, intB p.1.1]⟩) (fun p => 7 - p.1.2.1) ⟨([], 1, a, sd), wdOk_nil, by show 1 ≤ 1; omega, by show 1 ≤ 7; omega, by show a + 2 ≤ a + 2 * 1; omega⟩ ?_ ?_
  · exact weak_drop (by simp) (by simp [DropHp, ints_below, flts_below, srcB_below, intB, ints, allBelow_cons, allBelow_nil, below, belowM, belowL]) (by simp [DropTm, DropV, below, belowM, belowL, srcB_below, intB, ints, allBelow_cons, allBelow_nil, below, belowM, belowL])
  rintro ⟨⟨xs, t, a', sd'⟩, W, t1, t7, ha'⟩
  dsimp only at W t1 t7 ha' ⊢
  have fin : ∀ v, PostR 1 (.sl 1 0 xs.length) [srcB code a' sd', { ty := 2, w := 1, els := ints xs }] (fun r hp => ∃ (xs : List Int) (a' : Nat) (sd' : Int), WdOk xs 7 ∧ a' ≤ a + 12 ∧ r = .sl 1 0 xs.length ∧ hp = [srcB code a' sd', intB xs]) := fun v : Unit =>
    PostR.same ⟨xs, a', sd', W.mono (by omega), by omega, rfl, rfl⟩
  simp only [q0, q1, q2, q3, q4, q5, q6, q7, q8, q9, zr0, zr1, zr2, zr3, zq0, zq1, zq2, zq3, zq4, Nat.reduceAdd, Nat.reduceSub, lenA, convA, indexA, indexS, Int.reduceToNat, cond_true, cond_false, ↓reduceIte, reduceCtorEq, Nat.reduceLT, Nat.reduceLeDiff, Nat.reduceMul, Nat.reduceEqDiff, exists_eq', implies_true, exists_true_left, tys0, tys1, tys2, und0, und1, md71, Tryz.ntmps71, Tryz.results71, intB, ints_len]
  refine br_intro (fun g => ?_) (fun g => ?_) <;> simp only [q0, q1, q2, q3, q4, q5, q6, q7, q8, q9, zr0, zr1, zr2, zr3, zq0, zq1, zq2, zq3, zq4, Nat.reduceAdd, Nat.reduceSub, lenA, convA, indexA, indexS, Int.reduceToNat, cond_true, cond_false, ↓reduceIte, reduceCtorEq, Nat.reduceLT, Nat.reduceLeDiff, Nat.reduceMul, Nat.reduceEqDiff, exists_eq', implies_true, exists_true_left, tys0, tys1, tys2, und0, und1, md71, Tryz.ntmps71, Tryz.results71, intB, ints_len]
  · have g : t ≤ 6 := by have := of_decide_eq_true g; omega
    refine br_intro (fun g2 => ?_) (fun g2 => ?_) <;> simp only [q0, q1, q2, q3, q4, q5, q6, q7, q8, q9, zr0, zr1, zr2, zr3, zq0, zq1, zq2, zq3, zq4, Nat.reduceAdd, Nat.reduceSub, lenA, convA, indexA, indexS, Int.reduceToNat, cond_true, cond_false, ↓reduceIte, reduceCtorEq, Nat.reduceLT, Nat.reduceLeDiff, Nat.reduceMul, Nat.reduceEqDiff, exists_eq', implies_true, exists_true_left, tys0, tys1, tys2, und0, und1, md71, Tryz.ntmps71, Tryz.results71, intB, ints_len]
    · have g2 : xs.length < 3 := by have := of_decide_eq_true g2; omega
      refine pick_at hc hl (by omega) (by omega) (by omega) (fun x a2 sd2 hx ha2 => ?_)
      have w1 : IntKind.i64.wrap ((t : Int) + 1) = ((t + 1 : Nat) : Int) := by rw [w64 (by omega) (by omega)]; omega
      have w2 : IntKind.i64.wrap (0 - (t : Int)) = -(t : Int) := by rw [w64 (by omega) (by omega)]; omega
      have go : ∀ y : Int, (y = (t : Int) ∨ y = -(t : Int)) → WdOk (xs ++ [y]) ((t + 1 : Nat) : Int) := fun y hy => W.next g2 (by omega) (by omega) hy
      simp only [q0, q1, q2, q3, q4, q5, q6, q7, q8, q9, zr0, zr1, zr2, zr3, zq0, zq1, zq2, zq3, zq4, Nat.reduceAdd, Nat.reduceSub, lenA, convA, indexA, indexS, Int.reduceToNat, cond_true, cond_false, ↓reduceIte, reduceCtorEq, Nat.reduceLT, Nat.reduceLeDiff, Nat.reduceMul, Nat.reduceEqDiff, exists_eq', implies_true, exists_true_left, tys0, tys1, tys2, und0, und1, md71, Tryz.ntmps71, Tryz.results71, intB, ints_len]
      refine br_intro (fun g3 => ?_) (fun g3 => ?_) <;> simp only [q0, q1, q2, q3, q4, q5, q6, q7, q8, q9, zr0, zr1, zr2, zr3, zq0, zq1, zq2, zq3, zq4, Nat.reduceAdd, Nat.reduceSub, lenA, convA, indexA, indexS, Int.reduceToNat, cond_true, cond_false, ↓reduceIte, reduceCtorEq, Nat.reduceLT, Nat.reduceLeDiff, Nat.reduceMul, Nat.reduceEqDiff, exists_eq', implies_true, exists_true_left, tys0, tys1, tys2, und0, und1, md71, Tryz.ntmps71, Tryz.results71, intB, ints_len, allW_int, fits, List.isEmpty_cons, brk_false, Nat.reduceMul, srcB_kill]
      · refine ⟨by omega, ⟨(xs ++ [(t : Int)], t + 1, a2, sd2), go _ (.inl rfl), by show 1 ≤ t + 1; omega, by show t + 1 ≤ 7; omega, by show a2 + 2 ≤ a + 2 * (t + 1); omega⟩, by show 7 - (t + 1) < 7 - t; omega, ?_⟩
        rw [w1]
        show Weak 1 _ ⟨_, _⟩
        rw [show xs.length + 1 = (xs ++ [(t : Int)]).length by simp]
        dsimp only
        generalize xs ++ [(t : Int)] = ys
        exact weak_drop (by simp) (by simp [DropHp, ints_below, flts_below, srcB_below, intB, allBelow_cons, allBelow_nil, below, belowM, belowL]) (by simp [DropTm, DropV, below, belowM, belowL, srcB_below, intB, allBelow_cons, allBelow_nil, below, belowM, belowL])
      · refine br_intro (fun g4 => ?_) (fun g4 => ?_) <;> simp only [q0, q1, q2, q3, q4, q5, q6, q7, q8, q9, zr0, zr1, zr2, zr3, zq0, zq1, zq2, zq3, zq4, Nat.reduceAdd, Nat.reduceSub, lenA, convA, indexA, indexS, Int.reduceToNat, cond_true, cond_false, ↓reduceIte, reduceCtorEq, Nat.reduceLT, Nat.reduceLeDiff, Nat.reduceMul, Nat.reduceEqDiff, exists_eq', implies_true, exists_true_left, tys0, tys1, tys2, und0, und1, md71, Tryz.ntmps71, Tryz.results71, intB, ints_len, allW_int, fits, List.isEmpty_cons, brk_false, Nat.reduceMul, srcB_kill]
        · refine ⟨by omega, ⟨(xs ++ [-(t : Int)], t + 1, a2, sd2), go _ (.inr rfl), by show 1 ≤ t + 1; omega, by show t + 1 ≤ 7; omega, by show a2 + 2 ≤ a + 2 * (t + 1); omega⟩, by show 7 - (t + 1) < 7 - t; omega, ?_⟩
          rw [w1, w2]
          show Weak 1 _ ⟨_, _⟩
          rw [show xs.length + 1 = (xs ++ [-(t : Int)]).length by simp]
          dsimp only
          generalize xs ++ [-(t : Int)] = ys
          exact weak_drop (by simp) (by simp [DropHp, ints_below, flts_below, srcB_below, intB, allBelow_cons, allBelow_nil, below, belowM, belowL]) (by simp [DropTm, DropV, below, belowM, belowL, srcB_below, intB, allBelow_cons, allBelow_nil, below, belowM, belowL])
        · refine ⟨⟨(xs, t + 1, a2, sd2), (by have := W.skip; rw [show ((t + 1 : Nat) : Int) = (t : Int) + 1 by omega]; exact this), by show 1 ≤ t + 1; omega, by show t + 1 ≤ 7; omega, by show a2 + 2 ≤ a + 2 * (t + 1); omega⟩, by show 7 - (t + 1) < 7 - t; omega, ?_⟩
          rw [w1]
          show Weak 1 _ ⟨_, _⟩
          dsimp only
          exact weak_drop (by simp) (by simp [DropHp, ints_below, flts_below, srcB_below, intB, allBelow_cons, allBelow_nil, below, belowM, belowL]) (by simp [DropTm, DropV, below, belowM, belowL, srcB_below, intB, allBelow_cons, allBelow_nil, below, belowM, belowL])
    · exact fin ()
  · exact fin ()
theorem view_intB (xs : List Int) : view 2 [intB xs] (.sl 0 0 xs.length) = .ro (ints xs) := by
  rw [view_sl]
  simp [intB, ints_len, map_view_ints, take_ints]
theorem drawFacts_call (code : List Int) (hc : byteL code) (hl : code.length ≤ 1048576) (a : Nat) (ha : a ≤ 1000000) (sd : Int) :
    CallA Tryz.prog 71 [.ptr 0 0 0, .int .i64 3] [srcB code a sd] (fun r hp => ∃ (xs : List Int) (a' : Nat) (sd' : Int), WdOk xs 7 ∧ a' ≤ a + 12 ∧ r = .ro (ints xs) ∧ hp = [srcB code a' sd']) := by
  refine CallA.freezeN 2 (drawFacts0_call code hc hl a ha sd) ?_
  rintro r hp ⟨xs, a', sd', W, ha', rfl, rfl⟩
  refine ⟨[srcB code a' sd'], [intB xs], .sl 0 0 xs.length, rfl, rfl, by simp [intB, ints_below], by simp [srcB_below], rfl, rfl, xs, a', sd', W, ha', view_intB xs, rfl⟩
end Go.Proofs.YtigipcckflcilaaGreatDoor
