/- Texts of rules that are read: the program's ReadRules. -/
import Derived.Test.YtigipcckflcilaaGreatDoorRrC
set_option maxRecDepth 10000
set_option maxHeartbeats 4000000
set_option linter.unusedSimpArgs false
set_option linter.unusedVariables false
namespace Go.Proofs.YtigipcckflcilaaGreatDoor
open Go Go.Abs

theorem get_last {α : Type} (l : List α) (a : α) : (l ++ [a])[l.length]? = some a := List.getElem?_concat_length
theorem set_last {α : Type} (l : List α) (a b : α) : (l ++ [a]).set l.length b = l ++ [b] := by
  rw [List.set_append_right _ _ (Nat.le_refl _), Nat.sub_self]
  rfl
theorem implReadRules_call (s : List UInt8) (hs : s.length ≤ 1048576) : CallA Tryz.prog 19 [.str s] [] (Ret (rulesA (rulesOf s)) (rulesH (rulesOf s))) := by
  refine CallP.out (t := .mk) (go_in (md := md19) mixed Tryz.func19 rfl go19 (by kernel_rfl) ?_)
  simp only [q0, q1, q2, q3, q4, q5, q6, q7, q8, q9, zr0, zr1, zr2, zr3, zq0, zq1, zq2, zq3, zq4, Nat.reduceAdd, Nat.reduceSub, lenA, convA, indexA, indexS, sliceA, Int.reduceToNat, cond_true, cond_false, ↓reduceIte, reduceCtorEq, Nat.reduceLT, Nat.reduceLeDiff, Nat.reduceMul, Nat.reduceEqDiff, exists_eq', implies_true, exists_true_left, tys0, tys1, tys2, und0, und1, md19, Tryz.ntmps19, Tryz.results19]
  refine br_intro (fun c => ?_) (fun c => ?_) <;> simp only [q0, q1, q2, q3, q4, q5, q6, q7, q8, q9, zr0, zr1, zr2, zr3, zq0, zq1, zq2, zq3, zq4, Nat.reduceAdd, Nat.reduceSub, lenA, convA, indexA, indexS, sliceA, Int.reduceToNat, cond_true, cond_false, ↓reduceIte, reduceCtorEq, Nat.reduceLT, Nat.reduceLeDiff, Nat.reduceMul, Nat.reduceEqDiff, exists_eq', implies_true, exists_true_left, tys0, tys1, tys2, und0, und1, md19, Tryz.ntmps19, Tryz.results19]
  · rw [rulesOf_long (by have := of_decide_eq_true c; omega)]
    exact PostR.pure ⟨rfl, rfl⟩ rfl
  have hl : s.length ≤ 4800 := by have := of_decide_eq_false c; omega
  have ro : rulesOf s = match rulsOf ((words [10] s).take ((words [10] s).length - 1)) with
    | some R => if rulesB R = true ∧ rulesT R = s then some R else none
    | none => none := rfl
  refine call_ret (splitS_call s [10] (by decide) hs) rfl rfl ?_
  have wl := words_le [10] s (by decide)
  have wm := words_mem [10] s
  have wn : (words [10] s).length ≠ 0 := by rw [words_len _ _ (by decide)]; omega
  generalize words [10] s = W at ro wl wm wn
  have w1 : IntKind.i64.wrap ((W.length : Int) - 1) = ((W.length - 1 : Nat) : Int) := by rw [w64 (by omega) (by omega)]; omega
  have sw : ∀ a ∈ strs W, a.cells.length = 1 := fun a ha => by
    unfold strs at ha
    obtain ⟨x, _, rfl⟩ := List.mem_map.1 ha
    rfl
  have st : (strs W).take (W.length - 1) = strs (W.take (W.length - 1)) := by simp [strs, List.map_take]
  have lm : ∀ p ∈ W.take (W.length - 1), p.length ≤ s.length := fun p hp => wm p (List.mem_of_mem_take hp)
  have ll : (W.take (W.length - 1)).length = W.length - 1 := by rw [List.length_take]; omega
  simp only [q0, q1, q2, q3, q4, q5, q6, q7, q8, q9, zr0, zr1, zr2, zr3, zq0, zq1, zq2, zq3, zq4, Nat.reduceAdd, Nat.reduceSub, lenA, convA, indexA, indexS, sliceA, Int.reduceToNat, cond_true, cond_false, ↓reduceIte, reduceCtorEq, Nat.reduceLT, Nat.reduceLeDiff, Nat.reduceMul, Nat.reduceEqDiff, exists_eq', implies_true, exists_true_left, tys0, tys1, tys2, und0, und1, md19, Tryz.ntmps19, Tryz.results19, strs_len, w1, st]
  refine ⟨by omega, by omega, sw, ?_⟩
  generalize hL : W.take (W.length - 1) = L at ro lm ll
  rw [← ll]
  refine go_round (md := md19) mixed (by kernel_rfl) (fun p : {p : Nat × List Rul // p.1 ≤ L.length ∧ rulsOf (L.take p.1) = some p.2} => ⟨[.str s, .any, .any, .any, .any, .sl 0 0 p.1.1, .any, .any, .any, .any, .any, .any, .any, .any, .any, .any, .any, .any, .any, .any, .any, .any, .ro (strs L), .int .i64 L.length, .int .i64 p.1.1, .any, .any, .any, .any, .any, .any, .any, .any, .any, .any, .any, .any, .any, .any, .any, .any, .any, .any, .any, .any, .any, .any, .any, .any, .any, .any, .any, .any], encR 0 p.1.2⟩) (fun p => L.length - p.1.1) ⟨(0, []), by simp, rfl⟩ ?_ ?_
  · refine weak_same rfl ?_
    simp [SameTm]
  rintro ⟨⟨i, R⟩, hi, hR⟩
  dsimp only at hi hR
  have Rl : R.length = i := by rw [rulsOf_len hR, List.length_take]; omega
  simp only [q0, q1, q2, q3, q4, q5, q6, q7, q8, q9, zr0, zr1, zr2, zr3, zq0, zq1, zq2, zq3, zq4, Nat.reduceAdd, Nat.reduceSub, lenA, convA, indexA, indexS, sliceA, Int.reduceToNat, cond_true, cond_false, ↓reduceIte, reduceCtorEq, Nat.reduceLT, Nat.reduceLeDiff, Nat.reduceMul, Nat.reduceEqDiff, exists_eq', implies_true, exists_true_left, tys0, tys1, tys2, und0, und1, md19, Tryz.ntmps19, Tryz.results19, encR, rulB, strs_len]
  refine br_intro (fun g => ?_) (fun g => ?_) <;> simp only [q0, q1, q2, q3, q4, q5, q6, q7, q8, q9, zr0, zr1, zr2, zr3, zq0, zq1, zq2, zq3, zq4, Nat.reduceAdd, Nat.reduceSub, lenA, convA, indexA, indexS, sliceA, Int.reduceToNat, cond_true, cond_false, ↓reduceIte, reduceCtorEq, Nat.reduceLT, Nat.reduceLeDiff, Nat.reduceMul, Nat.reduceEqDiff, exists_eq', implies_true, exists_true_left, tys0, tys1, tys2, und0, und1, md19, Tryz.ntmps19, Tryz.results19, encR, rulB, strs_len]
  · have g := of_decide_eq_true g
    have h0 : i < L.length := by omega
    have hI : (i : Int) < (L.length : Int) := by omega
    simp only [q0, q1, q2, q3, q4, q5, q6, q7, q8, q9, zr0, zr1, zr2, zr3, zq0, zq1, zq2, zq3, zq4, Nat.reduceAdd, Nat.reduceSub, lenA, convA, indexA, indexS, sliceA, Int.reduceToNat, cond_true, cond_false, ↓reduceIte, reduceCtorEq, Nat.reduceLT, Nat.reduceLeDiff, Nat.reduceMul, Nat.reduceEqDiff, exists_eq', implies_true, exists_true_left, tys0, tys1, tys2, und0, und1, md19, Tryz.ntmps19, Tryz.results19, strs_len, strs_get, h0, hI]
    have rr := implReadRule_call L[i] (by have := lm _ (List.getElem_mem h0); omega)
    cases hr : ruleOf L[i] with
    | none =>
      rw [hr] at rr
      refine call_ret (r := .tup [rul0, .bool false]) rr rfl rfl ?_
      simp only [q0, q1, q2, q3, q4, q5, q6, q7, q8, q9, zr0, zr1, zr2, zr3, zq0, zq1, zq2, zq3, zq4, Nat.reduceAdd, Nat.reduceSub, lenA, convA, indexA, indexS, sliceA, Int.reduceToNat, cond_true, cond_false, ↓reduceIte, reduceCtorEq, Nat.reduceLT, Nat.reduceLeDiff, Nat.reduceMul, Nat.reduceEqDiff, exists_eq', implies_true, exists_true_left, tys0, tys1, tys2, und0, und1, md19, Tryz.ntmps19, Tryz.results19, rul0, get_last, set_last]
      rw [ro, rulsOf_bad h0 hr]
      exact PostR.pure ⟨rfl, rfl⟩ rfl
    | some r =>
      rw [hr] at rr
      refine call_new (r := readA (some r)) (new := [ifsB r]) rr rfl (by simp [ifsB_below]) ?_
      rw [readA_ren, List.length_cons, List.length_map, Rl]
      rcases slV_cases (i + 1) r.2.1.length with e | e
      all_goals
        rw [rulV_is e]
        simp only [q0, q1, q2, q3, q4, q5, q6, q7, q8, q9, zr0, zr1, zr2, zr3, zq0, zq1, zq2, zq3, zq4, Nat.reduceAdd, Nat.reduceSub, lenA, convA, indexA, indexS, sliceA, Int.reduceToNat, cond_true, cond_false, ↓reduceIte, reduceCtorEq, Nat.reduceLT, Nat.reduceLeDiff, Nat.reduceMul, Nat.reduceEqDiff, exists_eq', implies_true, exists_true_left, tys0, tys1, tys2, und0, und1, md19, Tryz.ntmps19, Tryz.results19, get_last, set_last, allW_int, fits, List.isEmpty_cons, brk_false, Nat.reduceMul]
        have w2 : IntKind.i64.wrap ((i : Int) + 1) = ((i + 1 : Nat) : Int) := by rw [w64 (by omega) (by omega)]; omega
        refine ⟨by rw [elsR_len, Rl], fun a ha => (by rw [List.mem_singleton.1 ha]; exact ⟨rfl, rfl⟩), by omega, ⟨(i + 1, R ++ [r]), by show i + 1 ≤ L.length; omega, by show rulsOf (L.take (i + 1)) = some (R ++ [r]); rw [take_snoc _ _ h0]; exact rulsOf_snoc hR hr⟩, by show L.length - (i + 1) < _; omega, ?_⟩
        have ek : List.map (kill 0) (elsR 1 R ++ [rulV (i + 1) r]) = elsR 1 (R ++ [r]) := by
          rw [← Rl, Nat.add_comm R.length 1, ← elsR_snoc, elsR_kill 0 1 _ (by omega)]
        rw [rulV_is e] at ek
        rw [ek, w2]
        refine weak_drop (Nat.zero_le _) ⟨⟨rfl, fun _ => ⟨rfl, rfl, rfl, elsR_below _ _ _ (by show 1 + (R ++ [r]).length ≤ (encR 0 (R ++ [r])).length; rw [encR_len]; omega)⟩⟩, ifs_drop _ R r _ _⟩ ?_
        simp [DropTm, DropV, below, belowM, belowL]
  · have g := of_decide_eq_false g
    have wlen : i = L.length := by omega
    rw [wlen, List.take_length] at hR
    obtain ⟨hm1, hm2⟩ := rulsOf_map hR
    rw [hR] at ro
    have ro : rulesOf s = if rulesB R = true ∧ rulesT R = s then some R else none := ro
    rw [← Rl]
    refine call_lentN (args' := [.ro (R.map rulA)]) 3 3 (by rw [List.map_cons, List.map_cons]; exact congrArg (· :: []) ((hasR_0 R).lent 0)) (implRulesText_call R (by omega) (fun r hr => by have := (okV_of (hm2 r hr)).n; omega)) rfl rfl ?_
    simp only [q0, q1, q2, q3, q4, q5, q6, q7, q8, q9, zr0, zr1, zr2, zr3, zq0, zq1, zq2, zq3, zq4, Nat.reduceAdd, Nat.reduceSub, lenA, convA, indexA, indexS, sliceA, Int.reduceToNat, cond_true, cond_false, ↓reduceIte, reduceCtorEq, Nat.reduceLT, Nat.reduceLeDiff, Nat.reduceMul, Nat.reduceEqDiff, exists_eq', implies_true, exists_true_left, tys0, tys1, tys2, und0, und1, md19, Tryz.ntmps19, Tryz.results19]
    refine br_intro (fun g1 => ?_) (fun g1 => ?_) <;> simp only [q0, q1, q2, q3, q4, q5, q6, q7, q8, q9, zr0, zr1, zr2, zr3, zq0, zq1, zq2, zq3, zq4, Nat.reduceAdd, Nat.reduceSub, lenA, convA, indexA, indexS, sliceA, Int.reduceToNat, cond_true, cond_false, ↓reduceIte, reduceCtorEq, Nat.reduceLT, Nat.reduceLeDiff, Nat.reduceMul, Nat.reduceEqDiff, exists_eq', implies_true, exists_true_left, tys0, tys1, tys2, und0, und1, md19, Tryz.ntmps19, Tryz.results19]
    · rw [if_pos g1]
      refine br_intro (fun g2 => ?_) (fun g2 => ?_) <;> simp only [q0, q1, q2, q3, q4, q5, q6, q7, q8, q9, zr0, zr1, zr2, zr3, zq0, zq1, zq2, zq3, zq4, Nat.reduceAdd, Nat.reduceSub, lenA, convA, indexA, indexS, sliceA, Int.reduceToNat, cond_true, cond_false, ↓reduceIte, reduceCtorEq, Nat.reduceLT, Nat.reduceLeDiff, Nat.reduceMul, Nat.reduceEqDiff, exists_eq', implies_true, exists_true_left, tys0, tys1, tys2, und0, und1, md19, Tryz.ntmps19, Tryz.results19]
      · have g2 : rulesT R = s := by simpa using g2
        rw [ro, if_pos ⟨g1, g2⟩]
        exact PostR.ret
      · have g2 : ¬ rulesT R = s := by simpa using g2
        rw [ro, if_neg (fun h => g2 h.2)]
        exact PostR.pure ⟨rfl, rfl⟩ rfl
    · rw [ro, if_neg (fun h => by rw [h.1] at g1; cases g1)]
      exact PostR.pure ⟨rfl, rfl⟩ rfl
end Go.Proofs.YtigipcckflcilaaGreatDoor
