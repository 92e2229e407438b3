/- Names, and what is saved (cut out of SavE). -/
import Derived.Test.YtigipcckflcilaaGreatDoorSavD
set_option maxRecDepth 10000
set_option maxHeartbeats 4000000
set_option linter.unusedSimpArgs false
set_option linter.unusedVariables false
namespace Go.Proofs.YtigipcckflcilaaGreatDoor
open Go Go.Abs

def lowC (c : UInt8) : Bool := decide (97 ≤ c.toNat) && decide (c.toNat ≤ 122)

def nameB (s : List UInt8) : Bool := s.all lowC && (decide (1 ≤ s.length) && decide (s.length ≤ 8))

def validB (s : Sav) : Bool := nameB s.1 && rulesB s.2.1 && incB s.2.2

theorem isName_call (s : List UInt8) (hm : s.length ≤ 1048576) : CallA Tryz.prog 39 [.str s] [] (Ret (.bool (nameB s)) []) := by
  have ap := all_pref lowC 0 s
  have e1 : decide ((1 : Int) ≤ (s.length : Int)) = decide (1 ≤ s.length) := decide_eq_decide.2 (by omega)
  have e2 : decide ((s.length : Int) ≤ 8) = decide (s.length ≤ 8) := decide_eq_decide.2 (by omega)
  refine CallP.out (t := .mk) (go_in (md := md39) mixed Tryz.func39 rfl go39 (by kernel_rfl) ?_)
  simp only [q0, q1, q2, q3, q4, q5, q6, q7, q8, q9, zr0, zr1, zr2, zr3, zq0, zq1, zq2, zq3, zq4, Nat.reduceAdd, Nat.reduceSub, lenA, convA, indexA, indexS, Int.reduceToNat, cond_true, cond_false, ↓reduceIte, reduceCtorEq, Nat.reduceLT, Nat.reduceLeDiff, Nat.reduceMul, Nat.reduceEqDiff, exists_eq', implies_true, exists_true_left, tys0, tys1, tys2, und0, und1, md39, Tryz.ntmps39, Tryz.results39]
  refine go_round (md := md39) mixed (by kernel_rfl) (fun i : {i : Nat // i ≤ s.length ∧ pref (fun j => lowC (s.getD j 0)) i = true} => ⟨[.str s, .any, .any, .any, .any, .int .i64 s.length, .int .i64 i.1, .any, .any, .any, .any, .any, .any, .any, .any, .any, .any, .any, .any, .any, .any, .any, .any, .any, .any, .any, .any, .any], []⟩) (fun i => s.length - i.1) ⟨0, by omega, rfl⟩ ?_ ?_
  · exact weak_drop (by simp) (by simp [DropHp, ints_below, flts_below]) (by simp [DropTm, DropV, below, belowM, belowL])
  rintro ⟨i, hi, hp⟩
  simp only [q0, q1, q2, q3, q4, q5, q6, q7, q8, q9, zr0, zr1, zr2, zr3, zq0, zq1, zq2, zq3, zq4, Nat.reduceAdd, Nat.reduceSub, lenA, convA, indexA, indexS, Int.reduceToNat, cond_true, cond_false, ↓reduceIte, reduceCtorEq, Nat.reduceLT, Nat.reduceLeDiff, Nat.reduceMul, Nat.reduceEqDiff, exists_eq', implies_true, exists_true_left, tys0, tys1, tys2, und0, und1, md39, Tryz.ntmps39, Tryz.results39]
  refine br_intro (fun h => ?_) (fun h => ?_) <;> simp only [q0, q1, q2, q3, q4, q5, q6, q7, q8, q9, zr0, zr1, zr2, zr3, zq0, zq1, zq2, zq3, zq4, Nat.reduceAdd, Nat.reduceSub, lenA, convA, indexA, indexS, Int.reduceToNat, cond_true, cond_false, ↓reduceIte, reduceCtorEq, Nat.reduceLT, Nat.reduceLeDiff, Nat.reduceMul, Nat.reduceEqDiff, exists_eq', implies_true, exists_true_left, tys0, tys1, tys2, und0, und1, md39, Tryz.ntmps39, Tryz.results39]
  · have hi' : i < s.length := by have := of_decide_eq_true h; omega
    have hI : (i : Int) < (s.length : Int) := by omega
    have ga := getD_at s 0 i hi'
    simp only [q0, q1, q2, q3, q4, q5, q6, q7, q8, q9, zr0, zr1, zr2, zr3, zq0, zq1, zq2, zq3, zq4, Nat.reduceAdd, Nat.reduceSub, lenA, convA, indexA, indexS, Int.reduceToNat, cond_true, cond_false, ↓reduceIte, reduceCtorEq, Nat.reduceLT, Nat.reduceLeDiff, Nat.reduceMul, Nat.reduceEqDiff, exists_eq', implies_true, exists_true_left, tys0, tys1, tys2, und0, und1, md39, Tryz.ntmps39, Tryz.results39, hi', hI]
    refine br_intro (fun u => ?_) (fun u => ?_) <;> simp only [q0, q1, q2, q3, q4, q5, q6, q7, q8, q9, zr0, zr1, zr2, zr3, zq0, zq1, zq2, zq3, zq4, Nat.reduceAdd, Nat.reduceSub, lenA, convA, indexA, indexS, Int.reduceToNat, cond_true, cond_false, ↓reduceIte, reduceCtorEq, Nat.reduceLT, Nat.reduceLeDiff, Nat.reduceMul, Nat.reduceEqDiff, exists_eq', implies_true, exists_true_left, tys0, tys1, tys2, und0, und1, md39, Tryz.ntmps39, Tryz.results39, hi', hI]
    · have u' := of_decide_eq_true u
      have no : lowC s[i] = false := by unfold lowC; rw [decide_eq_false (by omega)]; rfl
      exact PostR.pure ⟨by unfold nameB; rw [ap, pref_no i hi' (by rw [ga]; exact no)]; rfl, rfl⟩ rfl
    · have u' := of_decide_eq_false u
      refine br_intro (fun v => ?_) (fun v => ?_) <;> simp only [q0, q1, q2, q3, q4, q5, q6, q7, q8, q9, zr0, zr1, zr2, zr3, zq0, zq1, zq2, zq3, zq4, Nat.reduceAdd, Nat.reduceSub, lenA, convA, indexA, indexS, Int.reduceToNat, cond_true, cond_false, ↓reduceIte, reduceCtorEq, Nat.reduceLT, Nat.reduceLeDiff, Nat.reduceMul, Nat.reduceEqDiff, exists_eq', implies_true, exists_true_left, tys0, tys1, tys2, und0, und1, md39, Tryz.ntmps39, Tryz.results39, hi', hI]
      · have v' := of_decide_eq_true v
        have no : lowC s[i] = false := by unfold lowC; rw [decide_eq_false (show ¬ s[i].toNat ≤ 122 by omega), Bool.and_false]
        exact PostR.pure ⟨by unfold nameB; rw [ap, pref_no i hi' (by rw [ga]; exact no)]; rfl, rfl⟩ rfl
      · have v' := of_decide_eq_false v
        have yes : lowC s[i] = true := by unfold lowC; rw [decide_eq_true (show 97 ≤ s[i].toNat by omega), decide_eq_true (show s[i].toNat ≤ 122 by omega)]; rfl
        refine ⟨⟨i + 1, by omega, pref_go hp (by rw [ga]; exact yes)⟩, by show s.length - (i + 1) < _; omega, ?_⟩
        exact weak_drop (by simp) (by simp [DropHp, ints_below, flts_below, w64_succ i (by omega)]) (by simp [DropTm, DropV, below, belowM, belowL, w64_succ i (by omega)])
  · have hi' : i = s.length := by have := of_decide_eq_false h; omega
    subst hi'
    refine br_intro (fun u => ?_) (fun u => ?_) <;> simp only [q0, q1, q2, q3, q4, q5, q6, q7, q8, q9, zr0, zr1, zr2, zr3, zq0, zq1, zq2, zq3, zq4, Nat.reduceAdd, Nat.reduceSub, lenA, convA, indexA, indexS, Int.reduceToNat, cond_true, cond_false, ↓reduceIte, reduceCtorEq, Nat.reduceLT, Nat.reduceLeDiff, Nat.reduceMul, Nat.reduceEqDiff, exists_eq', implies_true, exists_true_left, tys0, tys1, tys2, und0, und1, md39, Tryz.ntmps39, Tryz.results39]
    · exact PostR.pure ⟨by unfold nameB; rw [ap, hp, ← e1, u, e2]; rfl, rfl⟩ rfl
    · exact PostR.pure ⟨by unfold nameB; rw [ap, hp, ← e1, u]; rfl, rfl⟩ rfl

theorem validSaved_call (s : Sav) (h : sizS s ≤ 1048576) : CallA Tryz.prog 11 [savA s] [] (Ret (.bool (validB s)) []) := by
  unfold sizS sizR at h
  have rl := areRules_call s.2.1 (by omega) (fun r hr => by have := sumL_mem hr; omega)
  refine CallP.out (t := .mk) (go_in (md := md11) mixed Tryz.func11 rfl go11 (by kernel_rfl) ?_)
  simp only [q0, q1, q2, q3, q4, q5, q6, q7, q8, q9, zr0, zr1, zr2, zr3, zq0, zq1, zq2, zq3, zq4, Nat.reduceAdd, Nat.reduceSub, lenA, convA, indexA, indexS, Int.reduceToNat, cond_true, cond_false, ↓reduceIte, reduceCtorEq, Nat.reduceLT, Nat.reduceLeDiff, Nat.reduceMul, Nat.reduceEqDiff, exists_eq', implies_true, exists_true_left, tys0, tys1, tys2, und0, und1, md11, Tryz.ntmps11, Tryz.results11, savA]
  refine call_ret (isName_call s.1 (by omega)) rfl rfl ?_
  simp only [q0, q1, q2, q3, q4, q5, q6, q7, q8, q9, zr0, zr1, zr2, zr3, zq0, zq1, zq2, zq3, zq4, Nat.reduceAdd, Nat.reduceSub, lenA, convA, indexA, indexS, Int.reduceToNat, cond_true, cond_false, ↓reduceIte, reduceCtorEq, Nat.reduceLT, Nat.reduceLeDiff, Nat.reduceMul, Nat.reduceEqDiff, exists_eq', implies_true, exists_true_left, tys0, tys1, tys2, und0, und1, md11, Tryz.ntmps11, Tryz.results11, savA]
  refine br_intro (fun h1 => ?_) (fun h1 => ?_) <;> simp only [q0, q1, q2, q3, q4, q5, q6, q7, q8, q9, zr0, zr1, zr2, zr3, zq0, zq1, zq2, zq3, zq4, Nat.reduceAdd, Nat.reduceSub, lenA, convA, indexA, indexS, Int.reduceToNat, cond_true, cond_false, ↓reduceIte, reduceCtorEq, Nat.reduceLT, Nat.reduceLeDiff, Nat.reduceMul, Nat.reduceEqDiff, exists_eq', implies_true, exists_true_left, tys0, tys1, tys2, und0, und1, md11, Tryz.ntmps11, Tryz.results11, savA]
  · refine call_ret rl rfl rfl ?_
    simp only [q0, q1, q2, q3, q4, q5, q6, q7, q8, q9, zr0, zr1, zr2, zr3, zq0, zq1, zq2, zq3, zq4, Nat.reduceAdd, Nat.reduceSub, lenA, convA, indexA, indexS, Int.reduceToNat, cond_true, cond_false, ↓reduceIte, reduceCtorEq, Nat.reduceLT, Nat.reduceLeDiff, Nat.reduceMul, Nat.reduceEqDiff, exists_eq', implies_true, exists_true_left, tys0, tys1, tys2, und0, und1, md11, Tryz.ntmps11, Tryz.results11, savA]
    refine br_intro (fun h2 => ?_) (fun h2 => ?_) <;> simp only [q0, q1, q2, q3, q4, q5, q6, q7, q8, q9, zr0, zr1, zr2, zr3, zq0, zq1, zq2, zq3, zq4, Nat.reduceAdd, Nat.reduceSub, lenA, convA, indexA, indexS, Int.reduceToNat, cond_true, cond_false, ↓reduceIte, reduceCtorEq, Nat.reduceLT, Nat.reduceLeDiff, Nat.reduceMul, Nat.reduceEqDiff, exists_eq', implies_true, exists_true_left, tys0, tys1, tys2, und0, und1, md11, Tryz.ntmps11, Tryz.results11, savA]
    · refine call_ret (areIncomes_call s.2.2 (by omega)) rfl rfl ?_
      simp only [q0, q1, q2, q3, q4, q5, q6, q7, q8, q9, zr0, zr1, zr2, zr3, zq0, zq1, zq2, zq3, zq4, Nat.reduceAdd, Nat.reduceSub, lenA, convA, indexA, indexS, Int.reduceToNat, cond_true, cond_false, ↓reduceIte, reduceCtorEq, Nat.reduceLT, Nat.reduceLeDiff, Nat.reduceMul, Nat.reduceEqDiff, exists_eq', implies_true, exists_true_left, tys0, tys1, tys2, und0, und1, md11, Tryz.ntmps11, Tryz.results11, savA]
      exact PostR.pure ⟨by unfold validB; rw [h1, h2]; rfl, rfl⟩ rfl
    · exact PostR.pure ⟨by unfold validB; rw [h1, h2]; rfl, rfl⟩ rfl
  · exact PostR.pure ⟨by unfold validB; rw [h1]; rfl, rfl⟩ rfl

end Go.Proofs.YtigipcckflcilaaGreatDoor
