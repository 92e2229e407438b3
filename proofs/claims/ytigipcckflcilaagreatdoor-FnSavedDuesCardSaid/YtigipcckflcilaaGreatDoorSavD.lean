/- Rules, names, what is saved: valid. -/
import Derived.Test.YtigipcckflcilaaGreatDoorSavC
set_option maxRecDepth 10000
set_option maxHeartbeats 2000000
set_option linter.unusedSimpArgs false
set_option linter.unusedVariables false
namespace Go.Proofs.YtigipcckflcilaaGreatDoor
open Go Go.Abs

def ruleB (r : Rul) : Bool := wordB r.1 && (decide (r.2.1.length ≤ 6) && wordsB r.2.1) && inR 0 100000 r.2.2.1 && inR 0 100000 r.2.2.2.1 && decide (r.2.2.1 ≤ r.2.2.2.1) && inR 0 100 r.2.2.2.2
theorem isDate_call (n : Int) : CallA Tryz.prog 58 [.int .i64 n] [] (Ret (.bool (inR 0 100000 n)) []) := by
  refine CallP.out (t := .mk) (go_in (md := md58) mixed Tryz.func58 rfl go58 (by kernel_rfl) ?_)
  simp only [q0, q1, q2, q3, q4, q5, q6, q7, q8, q9, zr0, zr1, zr2, zr3, zq0, zq1, zq2, zq3, zq4, Nat.reduceAdd, Nat.reduceSub, lenA, convA, indexA, indexS, Int.reduceToNat, cond_true, cond_false, ↓reduceIte, reduceCtorEq, Nat.reduceLT, Nat.reduceLeDiff, Nat.reduceMul, Nat.reduceEqDiff, exists_eq', implies_true, exists_true_left, tys0, tys1, tys2, und0, und1, md58, Tryz.ntmps58, Tryz.results58]
  refine call_ret (within_call _ _ _) rfl rfl ?_
  simp only [q0, q1, q2, q3, q4, q5, q6, q7, q8, q9, zr0, zr1, zr2, zr3, zq0, zq1, zq2, zq3, zq4, Nat.reduceAdd, Nat.reduceSub, lenA, convA, indexA, indexS, Int.reduceToNat, cond_true, cond_false, ↓reduceIte, reduceCtorEq, Nat.reduceLT, Nat.reduceLeDiff, Nat.reduceMul, Nat.reduceEqDiff, exists_eq', implies_true, exists_true_left, tys0, tys1, tys2, und0, und1, md58, Tryz.ntmps58, Tryz.results58]
  exact PostR.pure ⟨rfl, rfl⟩ rfl
theorem validRule_call (r : Rul) (hm : r.2.1.length ≤ 1048576) : CallA Tryz.prog 23 [rulA r] [] (Ret (.bool (ruleB r)) []) := by
  refine CallP.out (t := .mk) (go_in (md := md23) mixed Tryz.func23 rfl go23 (by kernel_rfl) ?_)
  simp only [q0, q1, q2, q3, q4, q5, q6, q7, q8, q9, zr0, zr1, zr2, zr3, zq0, zq1, zq2, zq3, zq4, Nat.reduceAdd, Nat.reduceSub, lenA, convA, indexA, indexS, Int.reduceToNat, cond_true, cond_false, ↓reduceIte, reduceCtorEq, Nat.reduceLT, Nat.reduceLeDiff, Nat.reduceMul, Nat.reduceEqDiff, exists_eq', implies_true, exists_true_left, tys0, tys1, tys2, und0, und1, md23, Tryz.ntmps23, Tryz.results23, rulA]
  refine call_ret (isWord_call _) rfl rfl ?_
  simp only [q0, q1, q2, q3, q4, q5, q6, q7, q8, q9, zr0, zr1, zr2, zr3, zq0, zq1, zq2, zq3, zq4, Nat.reduceAdd, Nat.reduceSub, lenA, convA, indexA, indexS, Int.reduceToNat, cond_true, cond_false, ↓reduceIte, reduceCtorEq, Nat.reduceLT, Nat.reduceLeDiff, Nat.reduceMul, Nat.reduceEqDiff, exists_eq', implies_true, exists_true_left, tys0, tys1, tys2, und0, und1, md23, Tryz.ntmps23, Tryz.results23, rulA]
  refine br_intro (fun h1 => ?_) (fun h1 => ?_) <;> simp only [q0, q1, q2, q3, q4, q5, q6, q7, q8, q9, zr0, zr1, zr2, zr3, zq0, zq1, zq2, zq3, zq4, Nat.reduceAdd, Nat.reduceSub, lenA, convA, indexA, indexS, Int.reduceToNat, cond_true, cond_false, ↓reduceIte, reduceCtorEq, Nat.reduceLT, Nat.reduceLeDiff, Nat.reduceMul, Nat.reduceEqDiff, exists_eq', implies_true, exists_true_left, tys0, tys1, tys2, und0, und1, md23, Tryz.ntmps23, Tryz.results23, rulA]
  · refine call_ret (areWords_call _ hm) rfl rfl ?_
    simp only [q0, q1, q2, q3, q4, q5, q6, q7, q8, q9, zr0, zr1, zr2, zr3, zq0, zq1, zq2, zq3, zq4, Nat.reduceAdd, Nat.reduceSub, lenA, convA, indexA, indexS, Int.reduceToNat, cond_true, cond_false, ↓reduceIte, reduceCtorEq, Nat.reduceLT, Nat.reduceLeDiff, Nat.reduceMul, Nat.reduceEqDiff, exists_eq', implies_true, exists_true_left, tys0, tys1, tys2, und0, und1, md23, Tryz.ntmps23, Tryz.results23, rulA]
    refine br_intro (fun h2 => ?_) (fun h2 => ?_) <;> simp only [q0, q1, q2, q3, q4, q5, q6, q7, q8, q9, zr0, zr1, zr2, zr3, zq0, zq1, zq2, zq3, zq4, Nat.reduceAdd, Nat.reduceSub, lenA, convA, indexA, indexS, Int.reduceToNat, cond_true, cond_false, ↓reduceIte, reduceCtorEq, Nat.reduceLT, Nat.reduceLeDiff, Nat.reduceMul, Nat.reduceEqDiff, exists_eq', implies_true, exists_true_left, tys0, tys1, tys2, und0, und1, md23, Tryz.ntmps23, Tryz.results23, rulA]
    · refine call_ret (isDate_call _) rfl rfl ?_
      simp only [q0, q1, q2, q3, q4, q5, q6, q7, q8, q9, zr0, zr1, zr2, zr3, zq0, zq1, zq2, zq3, zq4, Nat.reduceAdd, Nat.reduceSub, lenA, convA, indexA, indexS, Int.reduceToNat, cond_true, cond_false, ↓reduceIte, reduceCtorEq, Nat.reduceLT, Nat.reduceLeDiff, Nat.reduceMul, Nat.reduceEqDiff, exists_eq', implies_true, exists_true_left, tys0, tys1, tys2, und0, und1, md23, Tryz.ntmps23, Tryz.results23, rulA]
      refine br_intro (fun h3 => ?_) (fun h3 => ?_) <;> simp only [q0, q1, q2, q3, q4, q5, q6, q7, q8, q9, zr0, zr1, zr2, zr3, zq0, zq1, zq2, zq3, zq4, Nat.reduceAdd, Nat.reduceSub, lenA, convA, indexA, indexS, Int.reduceToNat, cond_true, cond_false, ↓reduceIte, reduceCtorEq, Nat.reduceLT, Nat.reduceLeDiff, Nat.reduceMul, Nat.reduceEqDiff, exists_eq', implies_true, exists_true_left, tys0, tys1, tys2, und0, und1, md23, Tryz.ntmps23, Tryz.results23, rulA]
      · refine call_ret (isDate_call _) rfl rfl ?_
        simp only [q0, q1, q2, q3, q4, q5, q6, q7, q8, q9, zr0, zr1, zr2, zr3, zq0, zq1, zq2, zq3, zq4, Nat.reduceAdd, Nat.reduceSub, lenA, convA, indexA, indexS, Int.reduceToNat, cond_true, cond_false, ↓reduceIte, reduceCtorEq, Nat.reduceLT, Nat.reduceLeDiff, Nat.reduceMul, Nat.reduceEqDiff, exists_eq', implies_true, exists_true_left, tys0, tys1, tys2, und0, und1, md23, Tryz.ntmps23, Tryz.results23, rulA]
        refine br_intro (fun h4 => ?_) (fun h4 => ?_) <;> simp only [q0, q1, q2, q3, q4, q5, q6, q7, q8, q9, zr0, zr1, zr2, zr3, zq0, zq1, zq2, zq3, zq4, Nat.reduceAdd, Nat.reduceSub, lenA, convA, indexA, indexS, Int.reduceToNat, cond_true, cond_false, ↓reduceIte, reduceCtorEq, Nat.reduceLT, Nat.reduceLeDiff, Nat.reduceMul, Nat.reduceEqDiff, exists_eq', implies_true, exists_true_left, tys0, tys1, tys2, und0, und1, md23, Tryz.ntmps23, Tryz.results23, rulA]
        · refine br_intro (fun h5 => ?_) (fun h5 => ?_) <;> simp only [q0, q1, q2, q3, q4, q5, q6, q7, q8, q9, zr0, zr1, zr2, zr3, zq0, zq1, zq2, zq3, zq4, Nat.reduceAdd, Nat.reduceSub, lenA, convA, indexA, indexS, Int.reduceToNat, cond_true, cond_false, ↓reduceIte, reduceCtorEq, Nat.reduceLT, Nat.reduceLeDiff, Nat.reduceMul, Nat.reduceEqDiff, exists_eq', implies_true, exists_true_left, tys0, tys1, tys2, und0, und1, md23, Tryz.ntmps23, Tryz.results23, rulA]
          · refine call_ret (within_call _ _ _) rfl rfl ?_
            simp only [q0, q1, q2, q3, q4, q5, q6, q7, q8, q9, zr0, zr1, zr2, zr3, zq0, zq1, zq2, zq3, zq4, Nat.reduceAdd, Nat.reduceSub, lenA, convA, indexA, indexS, Int.reduceToNat, cond_true, cond_false, ↓reduceIte, reduceCtorEq, Nat.reduceLT, Nat.reduceLeDiff, Nat.reduceMul, Nat.reduceEqDiff, exists_eq', implies_true, exists_true_left, tys0, tys1, tys2, und0, und1, md23, Tryz.ntmps23, Tryz.results23, rulA]
            exact PostR.pure ⟨by unfold ruleB; rw [h1, Bool.and_comm (decide _) (wordsB _), h2, h3, h4, h5]; rfl, rfl⟩ rfl
          · exact PostR.pure ⟨by unfold ruleB; rw [h1, Bool.and_comm (decide _) (wordsB _), h2, h3, h4, h5]; rfl, rfl⟩ rfl
        · exact PostR.pure ⟨by unfold ruleB; rw [h1, Bool.and_comm (decide _) (wordsB _), h2, h3, h4]; rfl, rfl⟩ rfl
      · exact PostR.pure ⟨by unfold ruleB; rw [h1, Bool.and_comm (decide _) (wordsB _), h2, h3]; rfl, rfl⟩ rfl
    · exact PostR.pure ⟨by unfold ruleB; rw [h1, Bool.and_comm (decide _) (wordsB _), h2]; rfl, rfl⟩ rfl
  · exact PostR.pure ⟨by unfold ruleB; rw [h1]; rfl, rfl⟩ rfl
def rulesB (R : List Rul) : Bool := R.all ruleB && decide (R.length ≤ 24)
theorem areRules1_call (r : Rul) (hm : r.2.1.length ≤ 1048576) : CallA Tryz.prog 77 [rulA r] [] (Ret (.bool (!ruleB r)) []) := by
  have vr := validRule_call r hm
  unfold rulA at vr
  refine CallP.out (t := .mk) (go_in (md := md77) mixed Tryz.func77 rfl go77 (by kernel_rfl) ?_)
  simp only [q0, q1, q2, q3, q4, q5, q6, q7, q8, q9, zr0, zr1, zr2, zr3, zq0, zq1, zq2, zq3, zq4, Nat.reduceAdd, Nat.reduceSub, lenA, convA, indexA, indexS, Int.reduceToNat, cond_true, cond_false, ↓reduceIte, reduceCtorEq, Nat.reduceLT, Nat.reduceLeDiff, Nat.reduceMul, Nat.reduceEqDiff, exists_eq', implies_true, exists_true_left, tys0, tys1, tys2, und0, und1, md77, Tryz.ntmps77, Tryz.results77, rulA]
  refine call_ret vr rfl rfl ?_
  simp only [q0, q1, q2, q3, q4, q5, q6, q7, q8, q9, zr0, zr1, zr2, zr3, zq0, zq1, zq2, zq3, zq4, Nat.reduceAdd, Nat.reduceSub, lenA, convA, indexA, indexS, Int.reduceToNat, cond_true, cond_false, ↓reduceIte, reduceCtorEq, Nat.reduceLT, Nat.reduceLeDiff, Nat.reduceMul, Nat.reduceEqDiff, exists_eq', implies_true, exists_true_left, tys0, tys1, tys2, und0, und1, md77, Tryz.ntmps77, Tryz.results77]
  exact PostR.pure ⟨rfl, rfl⟩ rfl
theorem indexFuncU_call (fid : FuncId) (q : Rul → Bool) (R : List Rul) (hq : ∀ x ∈ R, CallA Tryz.prog fid [rulA x] [] (Ret (.bool (q x)) [])) (hm : R.length ≤ 9223372036854775807) :
    CallA Tryz.prog 96 [.ro (R.map rulA), .fn fid []] [] (Ret (.int .i64 (findI q R 0)) []) := by
  refine CallP.out (t := .mk) (go_in (md := md96) mixed Tryz.func96 rfl go96 (by kernel_rfl) ?_)
  simp only [q0, q1, q2, q3, q4, q5, q6, q7, q8, q9, zr0, zr1, zr2, zr3, zq0, zq1, zq2, zq3, zq4, Nat.reduceAdd, Nat.reduceSub, lenA, convA, indexA, indexS, Int.reduceToNat, cond_true, cond_false, ↓reduceIte, reduceCtorEq, Nat.reduceLT, Nat.reduceLeDiff, Nat.reduceMul, Nat.reduceEqDiff, exists_eq', implies_true, exists_true_left, tys0, tys1, tys2, und0, und1, md96, Tryz.ntmps96, Tryz.results96, List.length_map]
  have hb : below 0 (.fn fid []) = true := rfl
  have hb2 : ∀ l, below 0 (.ro l) = true := fun _ => rfl
  have hb3 : ∀ k n, below 0 (.int k n) = true := fun _ _ => rfl
  have hb4 : below 0 .any = true := rfl
  refine go_round (md := md96) mixed (by kernel_rfl) (fun i : {i : Nat // i ≤ R.length ∧ findI q R 0 = findI q (R.drop i) i} => ⟨[.ro (R.map rulA), .fn fid [], .any, .any, .any, .any, .any, .int .i64 R.length, .int .i64 i.1, .any, .any, .any, .any, .any, .any, .any, .any, .any, .any], []⟩) (fun i => R.length - i.1) ⟨0, by simp⟩ ?_ ?_
  · exact weak_drop (by simp) (by simp [DropHp]) (by simp [DropTm, DropV, hb, hb2, hb3, hb4])
  · intro ⟨i, hi, he⟩
    simp only [q0, q1, q2, q3, q4, q5, q6, q7, q8, q9, zr0, zr1, zr2, zr3, zq0, zq1, zq2, zq3, zq4, Nat.reduceAdd, Nat.reduceSub, lenA, convA, indexA, indexS, Int.reduceToNat, cond_true, cond_false, ↓reduceIte, reduceCtorEq, Nat.reduceLT, Nat.reduceLeDiff, Nat.reduceMul, Nat.reduceEqDiff, exists_eq', implies_true, exists_true_left, tys0, tys1, tys2, und0, und1, md96, Tryz.ntmps96, Tryz.results96, List.length_map, List.getElem_map]
    refine br_intro (fun h => ?_) (fun h => ?_) <;> simp only [q0, q1, q2, q3, q4, q5, q6, q7, q8, q9, zr0, zr1, zr2, zr3, zq0, zq1, zq2, zq3, zq4, Nat.reduceAdd, Nat.reduceSub, lenA, convA, indexA, indexS, Int.reduceToNat, cond_true, cond_false, ↓reduceIte, reduceCtorEq, Nat.reduceLT, Nat.reduceLeDiff, Nat.reduceMul, Nat.reduceEqDiff, exists_eq', implies_true, exists_true_left, tys0, tys1, tys2, und0, und1, md96, Tryz.ntmps96, Tryz.results96, List.length_map, List.getElem_map]
    · have hi' : i < R.length := by have := of_decide_eq_true h; omega
      have hI : (i : Int) < (R.length : Int) := by omega
      have hqi := hq R[i] (List.getElem_mem hi')
      rw [findI_step q R i hi'] at he
      unfold rulA at hqi
      simp only [q0, q1, q2, q3, q4, q5, q6, q7, q8, q9, zr0, zr1, zr2, zr3, zq0, zq1, zq2, zq3, zq4, Nat.reduceAdd, Nat.reduceSub, lenA, convA, indexA, indexS, Int.reduceToNat, cond_true, cond_false, ↓reduceIte, reduceCtorEq, Nat.reduceLT, Nat.reduceLeDiff, Nat.reduceMul, Nat.reduceEqDiff, exists_eq', implies_true, exists_true_left, tys0, tys1, tys2, und0, und1, md96, Tryz.ntmps96, Tryz.results96, List.length_map, List.getElem_map, rulA, hi', hI]
      refine call_ret hqi rfl rfl ?_
      simp only [q0, q1, q2, q3, q4, q5, q6, q7, q8, q9, zr0, zr1, zr2, zr3, zq0, zq1, zq2, zq3, zq4, Nat.reduceAdd, Nat.reduceSub, lenA, convA, indexA, indexS, Int.reduceToNat, cond_true, cond_false, ↓reduceIte, reduceCtorEq, Nat.reduceLT, Nat.reduceLeDiff, Nat.reduceMul, Nat.reduceEqDiff, exists_eq', implies_true, exists_true_left, tys0, tys1, tys2, und0, und1, md96, Tryz.ntmps96, Tryz.results96]
      refine br_intro (fun h2 => ?_) (fun h2 => ?_) <;> simp only [q0, q1, q2, q3, q4, q5, q6, q7, q8, q9, zr0, zr1, zr2, zr3, zq0, zq1, zq2, zq3, zq4, Nat.reduceAdd, Nat.reduceSub, lenA, convA, indexA, indexS, Int.reduceToNat, cond_true, cond_false, ↓reduceIte, reduceCtorEq, Nat.reduceLT, Nat.reduceLeDiff, Nat.reduceMul, Nat.reduceEqDiff, exists_eq', implies_true, exists_true_left, tys0, tys1, tys2, und0, und1, md96, Tryz.ntmps96, Tryz.results96]
      · rw [h2] at he
        exact PostR.pure ⟨by rw [he]; rfl, rfl⟩ rfl
      · rw [h2] at he
        refine ⟨⟨i + 1, by omega, he⟩, by show R.length - (i + 1) < _; omega, ?_⟩
        exact weak_drop (by simp) (by simp [DropHp]) (by simp [DropTm, DropV, hb, hb2, hb3, hb4, w64_succ i (by omega)])
    · have hi' : i = R.length := by simp at h; omega
      subst hi'
      rw [List.drop_length] at he
      exact PostR.pure ⟨by rw [he]; rfl, rfl⟩ rfl
theorem containsFuncU_call (fid : FuncId) (q : Rul → Bool) (R : List Rul) (hq : ∀ x ∈ R, CallA Tryz.prog fid [rulA x] [] (Ret (.bool (q x)) [])) (hm : R.length ≤ 9223372036854775807) :
    CallA Tryz.prog 76 [.ro (R.map rulA), .fn fid []] [] (Ret (.bool (R.any q)) []) := by
  refine CallP.out (t := .mk) (go_in (md := md76) mixed Tryz.func76 rfl go76 (by kernel_rfl) ?_)
  simp only [q0, q1, q2, q3, q4, q5, q6, q7, q8, q9, zr0, zr1, zr2, zr3, zq0, zq1, zq2, zq3, zq4, Nat.reduceAdd, Nat.reduceSub, lenA, convA, indexA, indexS, Int.reduceToNat, cond_true, cond_false, ↓reduceIte, reduceCtorEq, Nat.reduceLT, Nat.reduceLeDiff, Nat.reduceMul, Nat.reduceEqDiff, exists_eq', implies_true, exists_true_left, tys0, tys1, tys2, und0, und1, md76, Tryz.ntmps76, Tryz.results76]
  refine call_ret (indexFuncU_call fid q R hq hm) rfl rfl ?_
  simp only [q0, q1, q2, q3, q4, q5, q6, q7, q8, q9, zr0, zr1, zr2, zr3, zq0, zq1, zq2, zq3, zq4, Nat.reduceAdd, Nat.reduceSub, lenA, convA, indexA, indexS, Int.reduceToNat, cond_true, cond_false, ↓reduceIte, reduceCtorEq, Nat.reduceLT, Nat.reduceLeDiff, Nat.reduceMul, Nat.reduceEqDiff, exists_eq', implies_true, exists_true_left, tys0, tys1, tys2, und0, und1, md76, Tryz.ntmps76, Tryz.results76]
  exact PostR.pure ⟨by rw [← findI_any q R 0], rfl⟩ rfl
theorem areRules_call (R : List Rul) (hm : R.length ≤ 1048576) (hr : ∀ r ∈ R, r.2.1.length ≤ 1048576) : CallA Tryz.prog 40 [.ro (R.map rulA)] [] (Ret (.bool (rulesB R)) []) := by
  have cf := containsFuncU_call 77 (fun r => !ruleB r) R (fun r h => areRules1_call r (hr r h)) (by omega)
  refine CallP.out (t := .mk) (go_in (md := md40) mixed Tryz.func40 rfl go40 (by kernel_rfl) ?_)
  simp only [q0, q1, q2, q3, q4, q5, q6, q7, q8, q9, zr0, zr1, zr2, zr3, zq0, zq1, zq2, zq3, zq4, Nat.reduceAdd, Nat.reduceSub, lenA, convA, indexA, indexS, Int.reduceToNat, cond_true, cond_false, ↓reduceIte, reduceCtorEq, Nat.reduceLT, Nat.reduceLeDiff, Nat.reduceMul, Nat.reduceEqDiff, exists_eq', implies_true, exists_true_left, tys0, tys1, tys2, und0, und1, md40, Tryz.ntmps40, Tryz.results40, List.length_map]
  refine br_intro (fun h => ?_) (fun h => ?_) <;> simp only [q0, q1, q2, q3, q4, q5, q6, q7, q8, q9, zr0, zr1, zr2, zr3, zq0, zq1, zq2, zq3, zq4, Nat.reduceAdd, Nat.reduceSub, lenA, convA, indexA, indexS, Int.reduceToNat, cond_true, cond_false, ↓reduceIte, reduceCtorEq, Nat.reduceLT, Nat.reduceLeDiff, Nat.reduceMul, Nat.reduceEqDiff, exists_eq', implies_true, exists_true_left, tys0, tys1, tys2, und0, und1, md40, Tryz.ntmps40, Tryz.results40, List.length_map]
  · have h' := of_decide_eq_true h
    refine call_ret cf rfl rfl ?_
    simp only [q0, q1, q2, q3, q4, q5, q6, q7, q8, q9, zr0, zr1, zr2, zr3, zq0, zq1, zq2, zq3, zq4, Nat.reduceAdd, Nat.reduceSub, lenA, convA, indexA, indexS, Int.reduceToNat, cond_true, cond_false, ↓reduceIte, reduceCtorEq, Nat.reduceLT, Nat.reduceLeDiff, Nat.reduceMul, Nat.reduceEqDiff, exists_eq', implies_true, exists_true_left, tys0, tys1, tys2, und0, und1, md40, Tryz.ntmps40, Tryz.results40]
    exact PostR.pure ⟨by unfold rulesB; rw [decide_eq_true (show R.length ≤ 24 by omega), Bool.and_true, any_not], rfl⟩ rfl
  · have h' := of_decide_eq_false h
    exact PostR.pure ⟨by unfold rulesB; rw [decide_eq_false (show ¬ R.length ≤ 24 by omega), Bool.and_false], rfl⟩ rfl
end Go.Proofs.YtigipcckflcilaaGreatDoor
