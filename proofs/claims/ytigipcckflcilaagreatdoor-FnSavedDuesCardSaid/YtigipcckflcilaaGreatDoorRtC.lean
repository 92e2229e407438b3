/- Lists of rules that are drawn. -/
import Derived.Test.YtigipcckflcilaaGreatDoorRtB
set_option maxRecDepth 10000
set_option maxHeartbeats 4000000
set_option linter.unusedSimpArgs false
set_option linter.unusedVariables false
namespace Go.Proofs.YtigipcckflcilaaGreatDoor
open Go Go.Abs

theorem word_at {code : List Int} (hc : byteL code) (hl : code.length ≤ 1048576) {a : Nat} (ha : a ≤ 1000000) {sd : Int} {rest : List Blk} {Q : AV → List Blk → Prop} {t : Tok Q}
    (hQ : ∀ (x : Int) (a' : Nat) (sd' : Int), (wordB x = true ∧ -6 ≤ x ∧ x ≤ 6) → a' ≤ a + 4 → Q (.int .i64 x) (srcB code a' sd' :: rest)) : CallP Tryz.prog 70 [.ptr 0 0 0] (srcB code a sd :: rest) Q t := by
  refine call_handedQ [0] (drawWord_call code hc hl a ha sd) (by decide) ⟨⟨rfl, rfl⟩, trivial⟩ rfl rfl ?_
  rintro r hps' ⟨x, a', sd', hx, ha', rfl, rfl⟩
  refine ⟨by intro q hq; simp at hq; subst hq; rfl, ?_⟩
  have := hQ x a' sd' hx ha'
  simpa [putF, ren, renM, renL] using this
theorem facts_at {code : List Int} (hc : byteL code) (hl : code.length ≤ 1048576) {a : Nat} (ha : a ≤ 1000000) {sd : Int} {rest : List Blk} {Q : AV → List Blk → Prop} {t : Tok Q}
    (hQ : ∀ (xs : List Int) (a' : Nat) (sd' : Int), WdOk xs 7 → a' ≤ a + 12 → Q (.ro (ints xs)) (srcB code a' sd' :: rest)) : CallP Tryz.prog 71 [.ptr 0 0 0, .int .i64 3] (srcB code a sd :: rest) Q t := by
  refine call_handedQ [0] (drawFacts_call code hc hl a ha sd) (by decide) ⟨⟨rfl, rfl⟩, trivial⟩ rfl rfl ?_
  rintro r hps' ⟨xs, a', sd', hx, ha', rfl, rfl⟩
  refine ⟨by intro q hq; simp at hq; subst hq; rfl, ?_⟩
  have := hQ xs a' sd' hx ha'
  simpa [putF, ren, renM, renL] using this
def mdN : Nat → List Bool := fun _ => []
theorem drawOk_call (code : List Int) (hc : byteL code) (hl : code.length ≤ 1048576) (a : Nat) (ha : a ≤ 100000) (sd : Int) :
    CallA Tryz.prog 36 [.ptr 0 0 0] [srcB code a sd] (fun r hp => ∃ (q : Rul) (a' : Nat) (sd' : Int), ruleB q = true ∧ a' ≤ a + 30 ∧ r = rulA q ∧ hp = [srcB code a' sd']) := by
  refine CallP.out (t := .mk) (go_in (md := mdN) mixed Tryz.func36 rfl go36 (by kernel_rfl) ?_)
  simp only [q0, q1, q2, q3, q4, q5, q6, q7, q8, q9, zr0, zr1, zr2, zr3, zq0, zq1, zq2, zq3, zq4, Nat.reduceAdd, Nat.reduceSub, lenA, convA, indexA, indexS, Int.reduceToNat, cond_true, cond_false, ↓reduceIte, reduceCtorEq, Nat.reduceLT, Nat.reduceLeDiff, Nat.reduceMul, Nat.reduceEqDiff, exists_eq', implies_true, exists_true_left, tys0, tys1, tys2, und0, und1, md36, Tryz.ntmps36, Tryz.results36, mdN]
  refine word_at hc hl (by omega) (fun x a1 sd1 hx ha1 => ?_)
  simp only [q0, q1, q2, q3, q4, q5, q6, q7, q8, q9, zr0, zr1, zr2, zr3, zq0, zq1, zq2, zq3, zq4, Nat.reduceAdd, Nat.reduceSub, lenA, convA, indexA, indexS, Int.reduceToNat, cond_true, cond_false, ↓reduceIte, reduceCtorEq, Nat.reduceLT, Nat.reduceLeDiff, Nat.reduceMul, Nat.reduceEqDiff, exists_eq', implies_true, exists_true_left, tys0, tys1, tys2, und0, und1, md36, Tryz.ntmps36, Tryz.results36, mdN]
  refine facts_at hc hl (by omega) (fun xs a2 sd2 hw ha2 => ?_)
  simp only [q0, q1, q2, q3, q4, q5, q6, q7, q8, q9, zr0, zr1, zr2, zr3, zq0, zq1, zq2, zq3, zq4, Nat.reduceAdd, Nat.reduceSub, lenA, convA, indexA, indexS, Int.reduceToNat, cond_true, cond_false, ↓reduceIte, reduceCtorEq, Nat.reduceLT, Nat.reduceLeDiff, Nat.reduceMul, Nat.reduceEqDiff, exists_eq', implies_true, exists_true_left, tys0, tys1, tys2, und0, und1, md36, Tryz.ntmps36, Tryz.results36, srcB_kill, mdN]
  refine pick_at hc hl (by omega) (by omega) (by omega) (fun y a3 sd3 hy ha3 => ?_)
  simp only [q0, q1, q2, q3, q4, q5, q6, q7, q8, q9, zr0, zr1, zr2, zr3, zq0, zq1, zq2, zq3, zq4, Nat.reduceAdd, Nat.reduceSub, lenA, convA, indexA, indexS, Int.reduceToNat, cond_true, cond_false, ↓reduceIte, reduceCtorEq, Nat.reduceLT, Nat.reduceLeDiff, Nat.reduceMul, Nat.reduceEqDiff, exists_eq', implies_true, exists_true_left, tys0, tys1, tys2, und0, und1, md36, Tryz.ntmps36, Tryz.results36, srcB_kill, mdN]
  refine go_calls mixed (fun hp => ∃ a4 sd4, a4 ≤ a3 + 2 ∧ hp = [srcB code a4 sd4, { ty := 48, w := 5, els := [.agg [.int .i64 0, .nils, .int .i64 0, .int .i64 0, .int .i64 0]] }, { ty := 48, w := 5, els := [.agg [.int .i64 x, .ro (ints xs), .int .i64 y, .int .i64 0, .int .i64 0]] }]) [0, 1, 2, 3, 4, 5, 6] [0, 0, 0, 2, 1, 1, 1] (by kernel_rfl) ?_
  refine oh_quiet (by rfl) (by rfl) (by rfl) ⟨a3, sd3, by omega, rfl⟩ (v := .ptr 2 0 2) ?_ ?_
  · rintro hp ⟨a4, sd4, h4, rfl⟩
    simp only [q0, q1, q2, q3, q4, q5, q6, q7, q8, q9, zr0, zr1, zr2, zr3, zq0, zq1, zq2, zq3, zq4, Nat.reduceAdd, Nat.reduceSub, lenA, convA, indexA, indexS, Int.reduceToNat, cond_true, cond_false, ↓reduceIte, reduceCtorEq, Nat.reduceLT, Nat.reduceLeDiff, Nat.reduceMul, Nat.reduceEqDiff, exists_eq', implies_true, exists_true_left, tys0, tys1, tys2, und0, und1, md36, Tryz.ntmps36, Tryz.results36]
  simp only [q0, q1, q2, q3, q4, q5, q6, q7, q8, q9, zr0, zr1, zr2, zr3, zq0, zq1, zq2, zq3, zq4, Nat.reduceAdd, Nat.reduceSub, lenA, convA, indexA, indexS, Int.reduceToNat, cond_true, cond_false, ↓reduceIte, reduceCtorEq, Nat.reduceLT, Nat.reduceLeDiff, Nat.reduceMul, Nat.reduceEqDiff, exists_eq', implies_true, exists_true_left, tys0, tys1, tys2, und0, und1, md36, Tryz.ntmps36, Tryz.results36]
  refine oh_quiet (by rfl) (by rfl) (by rfl) ⟨a3, sd3, by omega, rfl⟩ (v := .int .i64 y) ?_ ?_
  · rintro hp ⟨a4, sd4, h4, rfl⟩
    simp only [q0, q1, q2, q3, q4, q5, q6, q7, q8, q9, zr0, zr1, zr2, zr3, zq0, zq1, zq2, zq3, zq4, Nat.reduceAdd, Nat.reduceSub, lenA, convA, indexA, indexS, Int.reduceToNat, cond_true, cond_false, ↓reduceIte, reduceCtorEq, Nat.reduceLT, Nat.reduceLeDiff, Nat.reduceMul, Nat.reduceEqDiff, exists_eq', implies_true, exists_true_left, tys0, tys1, tys2, und0, und1, md36, Tryz.ntmps36, Tryz.results36]
  simp only [q0, q1, q2, q3, q4, q5, q6, q7, q8, q9, zr0, zr1, zr2, zr3, zq0, zq1, zq2, zq3, zq4, Nat.reduceAdd, Nat.reduceSub, lenA, convA, indexA, indexS, Int.reduceToNat, cond_true, cond_false, ↓reduceIte, reduceCtorEq, Nat.reduceLT, Nat.reduceLeDiff, Nat.reduceMul, Nat.reduceEqDiff, exists_eq', implies_true, exists_true_left, tys0, tys1, tys2, und0, und1, md36, Tryz.ntmps36, Tryz.results36]
  refine oh_quiet (by rfl) (by rfl) (by rfl) ⟨a3, sd3, by omega, rfl⟩ (v := .ptr 0 0 0) ?_ ?_
  · rintro hp ⟨a4, sd4, h4, rfl⟩
    simp only [q0, q1, q2, q3, q4, q5, q6, q7, q8, q9, zr0, zr1, zr2, zr3, zq0, zq1, zq2, zq3, zq4, Nat.reduceAdd, Nat.reduceSub, lenA, convA, indexA, indexS, Int.reduceToNat, cond_true, cond_false, ↓reduceIte, reduceCtorEq, Nat.reduceLT, Nat.reduceLeDiff, Nat.reduceMul, Nat.reduceEqDiff, exists_eq', implies_true, exists_true_left, tys0, tys1, tys2, und0, und1, md36, Tryz.ntmps36, Tryz.results36]
  simp only [q0, q1, q2, q3, q4, q5, q6, q7, q8, q9, zr0, zr1, zr2, zr3, zq0, zq1, zq2, zq3, zq4, Nat.reduceAdd, Nat.reduceSub, lenA, convA, indexA, indexS, Int.reduceToNat, cond_true, cond_false, ↓reduceIte, reduceCtorEq, Nat.reduceLT, Nat.reduceLeDiff, Nat.reduceMul, Nat.reduceEqDiff, exists_eq', implies_true, exists_true_left, tys0, tys1, tys2, und0, und1, md36, Tryz.ntmps36, Tryz.results36]
  refine oh_call (by rfl) (by rfl) (by rfl) (by rfl) (by rfl) ?_
  simp only [q0, q1, q2, q3, q4, q5, q6, q7, q8, q9, zr0, zr1, zr2, zr3, zq0, zq1, zq2, zq3, zq4, Nat.reduceAdd, Nat.reduceSub, lenA, convA, indexA, indexS, Int.reduceToNat, cond_true, cond_false, ↓reduceIte, reduceCtorEq, Nat.reduceLT, Nat.reduceLeDiff, Nat.reduceMul, Nat.reduceEqDiff, exists_eq', implies_true, exists_true_left, tys0, tys1, tys2, und0, und1, md36, Tryz.ntmps36, Tryz.results36]
  refine pick_at hc hl (by omega) (by omega) (by omega) (fun z a4 sd4 hz ha4 => ?_)
  refine ⟨⟨a4, sd4, by omega, rfl⟩, ?_⟩
  refine oh_one (by rfl) (by rfl) (by rfl) ?_
  have w1 : IntKind.i64.wrap (y + z) = y + z := w64 (by omega) (by omega)
  simp only [q0, q1, q2, q3, q4, q5, q6, q7, q8, q9, zr0, zr1, zr2, zr3, zq0, zq1, zq2, zq3, zq4, Nat.reduceAdd, Nat.reduceSub, lenA, convA, indexA, indexS, Int.reduceToNat, cond_true, cond_false, ↓reduceIte, reduceCtorEq, Nat.reduceLT, Nat.reduceLeDiff, Nat.reduceMul, Nat.reduceEqDiff, exists_eq', implies_true, exists_true_left, tys0, tys1, tys2, und0, und1, md36, Tryz.ntmps36, Tryz.results36, srcB_kill, w1]
  refine oh_one (by rfl) (by rfl) (by rfl) ?_
  simp only [q0, q1, q2, q3, q4, q5, q6, q7, q8, q9, zr0, zr1, zr2, zr3, zq0, zq1, zq2, zq3, zq4, Nat.reduceAdd, Nat.reduceSub, lenA, convA, indexA, indexS, Int.reduceToNat, cond_true, cond_false, ↓reduceIte, reduceCtorEq, Nat.reduceLT, Nat.reduceLeDiff, Nat.reduceMul, Nat.reduceEqDiff, exists_eq', implies_true, exists_true_left, tys0, tys1, tys2, und0, und1, md36, Tryz.ntmps36, Tryz.results36, srcB_kill]
  refine oh_one (by rfl) (by rfl) (by rfl) ?_
  simp only [q0, q1, q2, q3, q4, q5, q6, q7, q8, q9, zr0, zr1, zr2, zr3, zq0, zq1, zq2, zq3, zq4, Nat.reduceAdd, Nat.reduceSub, lenA, convA, indexA, indexS, Int.reduceToNat, cond_true, cond_false, ↓reduceIte, reduceCtorEq, Nat.reduceLT, Nat.reduceLeDiff, Nat.reduceMul, Nat.reduceEqDiff, exists_eq', implies_true, exists_true_left, tys0, tys1, tys2, und0, und1, md36, Tryz.ntmps36, Tryz.results36, srcB_kill]
  refine oh_nil ?_
  simp only [q0, q1, q2, q3, q4, q5, q6, q7, q8, q9, zr0, zr1, zr2, zr3, zq0, zq1, zq2, zq3, zq4, Nat.reduceAdd, Nat.reduceSub, lenA, convA, indexA, indexS, Int.reduceToNat, cond_true, cond_false, ↓reduceIte, reduceCtorEq, Nat.reduceLT, Nat.reduceLeDiff, Nat.reduceMul, Nat.reduceEqDiff, exists_eq', implies_true, exists_true_left, tys0, tys1, tys2, und0, und1, md36, Tryz.ntmps36, Tryz.results36, srcB_kill, mdN]
  refine pick_at hc hl (by omega) (by omega) (by omega) (fun u a5 sd5 hu ha5 => ?_)
  simp only [q0, q1, q2, q3, q4, q5, q6, q7, q8, q9, zr0, zr1, zr2, zr3, zq0, zq1, zq2, zq3, zq4, Nat.reduceAdd, Nat.reduceSub, lenA, convA, indexA, indexS, Int.reduceToNat, cond_true, cond_false, ↓reduceIte, reduceCtorEq, Nat.reduceLT, Nat.reduceLeDiff, Nat.reduceMul, Nat.reduceEqDiff, exists_eq', implies_true, exists_true_left, tys0, tys1, tys2, und0, und1, md36, Tryz.ntmps36, Tryz.results36, srcB_kill, mdN]
  refine PostR.tell [0] (hp2 := [srcB code a5 sd5]) (by decide) (by decide) (by decide) ⟨⟨rfl, rfl⟩, trivial⟩ rfl rfl ⟨(x, xs, y, y + z, u), a5, sd5, ?_, by omega, rfl, rfl⟩
  unfold ruleB
  dsimp only
  rw [hx.1, hw.ok, decide_eq_true (show xs.length ≤ 6 by have := hw.len; omega), inR_yes (show 0 ≤ y by omega) (show y ≤ 100000 by omega), inR_yes (show 0 ≤ y + z by omega) (show y + z ≤ 100000 by omega), decide_eq_true (show y ≤ y + z by omega), inR_yes (show 0 ≤ u by omega) (show u ≤ 100 by omega)]
  rfl
theorem drawRule_at {code : List Int} (hc : byteL code) (hl : code.length ≤ 1048576) {a : Nat} (ha : a ≤ 100000) {sd : Int} {rest : List Blk} {Q : AV → List Blk → Prop} {t : Tok Q}
    (hQ : ∀ (q : Rul) (a' : Nat) (sd' : Int), ruleB q = true → a' ≤ a + 30 → Q (rulA q) (srcB code a' sd' :: rest)) : CallP Tryz.prog 36 [.ptr 0 0 0] (srcB code a sd :: rest) Q t := by
  refine call_handedQ [0] (drawOk_call code hc hl a ha sd) (by decide) ⟨⟨rfl, rfl⟩, trivial⟩ rfl rfl ?_
  rintro r hps' ⟨q, a', sd', hq, ha', rfl, rfl⟩
  refine ⟨by intro q hq; simp at hq; subst hq; rfl, ?_⟩
  have := hQ q a' sd' hq ha'
  simpa [putF, ren, renM, renL, rulA] using this
structure DrL (n : Nat) (L : List Rul) (a0 a : Nat) : Prop where
  len : L.length ≤ n
  ok : ∀ q ∈ L, ruleB q = true
  at_ : a ≤ a0 + 30 * L.length
theorem DrL.next {n : Nat} {L : List Rul} {a0 a a' : Nat} {q : Rul} (D : DrL n L a0 a) (hl : L.length < n) (hq : ruleB q = true) (ha : a' ≤ a + 30) : DrL n (L ++ [q]) a0 a' :=
  ⟨by simp; omega, fun x hx => by
    rcases List.mem_append.1 hx with h | h
    · exact D.ok x h
    · rw [List.mem_singleton.1 h]; exact hq, by have := D.at_; simp; omega⟩
theorem ruls_below (N : Nat) (L : List Rul) : allBelow N (L.map rulA) = true := by simp [allBelow, rulA, below, belowM, belowL]
end Go.Proofs.YtigipcckflcilaaGreatDoor
