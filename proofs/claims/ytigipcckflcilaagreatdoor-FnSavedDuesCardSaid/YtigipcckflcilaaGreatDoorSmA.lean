/- Equality of rules and of what is saved, as the program and the reference tell it. -/
import Derived.Test.YtigipcckflcilaaGreatDoorSavC
set_option maxRecDepth 10000
set_option maxHeartbeats 4000000
set_option linter.unusedSimpArgs false
set_option linter.unusedVariables false
namespace Go.Proofs.YtigipcckflcilaaGreatDoor
open Go Go.Abs

instance rulDec : DecidableEq Rul := inferInstance
instance rulsDec : DecidableEq (List Rul) := inferInstance
instance namesDec : DecidableEq (List UInt8) := inferInstance
instance savDec : DecidableEq Sav := @instDecidableEqProd _ _ namesDec (@instDecidableEqProd _ _ rulsDec inferInstance)
theorem decEq_len {α : Type} [DecidableEq α] {xs ys : List α} (h : xs.length ≠ ys.length) : decide (xs = ys) = false := decide_eq_false (fun e => h (by rw [e]))
theorem dec_at {α : Type} [DecidableEq α] {xs ys : List α} {i : Nat} {h1 : i < xs.length} {h2 : i < ys.length} (h : xs[i] ≠ ys[i]) : decide (xs = ys) = false := decide_eq_false (fun e => h (by subst e; rfl))
theorem dec_all {α : Type} [DecidableEq α] {xs ys : List α} (hl : xs.length = ys.length) (h : xs.take xs.length = ys.take xs.length) : decide (xs = ys) = true := decide_eq_true (by
  rw [List.take_length, hl, List.take_length] at h
  exact h)
theorem take_next {α : Type} {xs ys : List α} {k : Nat} (h1 : k < xs.length) (h2 : k < ys.length) (h : xs.take k = ys.take k) (he : xs[k] = ys[k]) : xs.take (k + 1) = ys.take (k + 1) := by
  rw [take_snoc _ _ h1, take_snoc _ _ h2, h, he]

theorem slicesEqual_call (xs ys : List Int) (hm : xs.length ≤ 9223372036854775807) : CallA Tryz.prog 45 [.ro (ints xs), .ro (ints ys)] [] (Ret (.bool (xs == ys)) []) := by
  refine CallP.out (t := .mk) (go_in (md := md45) mixed Tryz.func45 rfl go45 (by kernel_rfl) ?_)
  simp only [q0, q1, q2, q3, q4, q5, q6, q7, q8, q9, zr0, zr1, zr2, zr3, zq0, zq1, zq2, zq3, zq4, Nat.reduceAdd, Nat.reduceSub, lenA, convA, indexA, indexS, Int.reduceToNat, cond_true, cond_false, ↓reduceIte, reduceCtorEq, Nat.reduceLT, Nat.reduceLeDiff, Nat.reduceMul, Nat.reduceEqDiff, exists_eq', implies_true, exists_true_left, tys0, tys1, tys2, und0, und1, md45, Tryz.ntmps45, Tryz.results45]
  refine br_intro (fun h => ?_) (fun h => ?_) <;> simp only [q0, q1, q2, q3, q4, q5, q6, q7, q8, q9, zr0, zr1, zr2, zr3, zq0, zq1, zq2, zq3, zq4, Nat.reduceAdd, Nat.reduceSub, lenA, convA, indexA, indexS, Int.reduceToNat, cond_true, cond_false, ↓reduceIte, reduceCtorEq, Nat.reduceLT, Nat.reduceLeDiff, Nat.reduceMul, Nat.reduceEqDiff, exists_eq', implies_true, exists_true_left, tys0, tys1, tys2, und0, und1, md45, Tryz.ntmps45, Tryz.results45]
  · have : (xs == ys) = false := by
      rw [beq_eq_false_iff_ne]; intro e; subst e; simp at h
    exact PostR.pure ⟨by rw [this], rfl⟩ rfl
  · have hl : xs.length = ys.length := by simp at h; omega
    refine go_round (md := md45) mixed (by kernel_rfl) (fun k : {k : Nat // k ≤ xs.length ∧ xs.take k = ys.take k} => ⟨[.ro (ints xs), .ro (ints ys), .any, .any, .any, .any, .any, .any, .any, .any, .any, .any, .int .i64 xs.length, .int .i64 k.1, .any, .any, .any, .any, .any, .any, .any, .any, .any, .any, .any, .any], []⟩) (fun k => xs.length - k.1) ⟨0, by simp⟩ ?_ ?_
    · exact weak_drop (by simp) (by simp [DropHp, ints_below, flts_below]) (by simp [DropTm, DropV, below, belowM, belowL])
    · intro ⟨k, hk, he⟩
      simp only [q0, q1, q2, q3, q4, q5, q6, q7, q8, q9, zr0, zr1, zr2, zr3, zq0, zq1, zq2, zq3, zq4, Nat.reduceAdd, Nat.reduceSub, lenA, convA, indexA, indexS, Int.reduceToNat, cond_true, cond_false, ↓reduceIte, reduceCtorEq, Nat.reduceLT, Nat.reduceLeDiff, Nat.reduceMul, Nat.reduceEqDiff, exists_eq', implies_true, exists_true_left, tys0, tys1, tys2, und0, und1, md45, Tryz.ntmps45, Tryz.results45]
      refine br_intro (fun h => ?_) (fun h => ?_) <;> simp only [q0, q1, q2, q3, q4, q5, q6, q7, q8, q9, zr0, zr1, zr2, zr3, zq0, zq1, zq2, zq3, zq4, Nat.reduceAdd, Nat.reduceSub, lenA, convA, indexA, indexS, Int.reduceToNat, cond_true, cond_false, ↓reduceIte, reduceCtorEq, Nat.reduceLT, Nat.reduceLeDiff, Nat.reduceMul, Nat.reduceEqDiff, exists_eq', implies_true, exists_true_left, tys0, tys1, tys2, und0, und1, md45, Tryz.ntmps45, Tryz.results45]
      · have hk' : k < xs.length := by simpa using h
        refine ⟨hk', by omega, ?_⟩
        refine br_intro (fun hne => ?_) (fun hne => ?_) <;> simp only [q0, q1, q2, q3, q4, q5, q6, q7, q8, q9, zr0, zr1, zr2, zr3, zq0, zq1, zq2, zq3, zq4, Nat.reduceAdd, Nat.reduceSub, lenA, convA, indexA, indexS, Int.reduceToNat, cond_true, cond_false, ↓reduceIte, reduceCtorEq, Nat.reduceLT, Nat.reduceLeDiff, Nat.reduceMul, Nat.reduceEqDiff, exists_eq', implies_true, exists_true_left, tys0, tys1, tys2, und0, und1, md45, Tryz.ntmps45, Tryz.results45]
        · have : (xs == ys) = false := by
            rw [beq_eq_false_iff_ne]; intro e; subst e; simp at hne
          exact PostR.pure ⟨by rw [this], rfl⟩ rfl
        · have heq' : xs[k] = ys[k] := by simpa using hne
          refine ⟨⟨k + 1, by omega, by rw [take_snoc _ _ hk', take_snoc _ _ (by omega), he, heq']⟩, by show xs.length - (k + 1) < xs.length - k; omega, ?_⟩
          exact weak_drop (by simp) (by simp [DropHp, ints_below, flts_below, w64_succ k (by omega)]) (by simp [DropTm, DropV, below, belowM, belowL, w64_succ k (by omega)])
      · have hk' : k = xs.length := by simp at h; omega
        have : (xs == ys) = true := by
          rw [beq_iff_eq]
          have h1 : xs.take xs.length = xs := List.take_length
          have h2 : ys.take xs.length = ys := by rw [hl]; exact List.take_length
          rw [hk'] at he; rw [← h1, ← h2, he]
        exact PostR.pure ⟨by rw [this], rfl⟩ rfl


theorem rul_dec (r s : Rul) : decide (r = s) = ((r.1 == s.1) && (r.2.1 == s.2.1) && (r.2.2.1 == s.2.2.1) && (r.2.2.2.1 == s.2.2.2.1) && (r.2.2.2.2 == s.2.2.2.2)) := by
  obtain ⟨a, b, c, d, e⟩ := r
  obtain ⟨a', b', c', d', e'⟩ := s
  rw [Bool.eq_iff_iff]
  simp only [decide_eq_true_eq, Prod.mk.injEq, Bool.and_eq_true, beq_iff_eq, and_assoc]
theorem sav_dec (r s : Sav) : decide (r = s) = ((r.1 == s.1) && decide (r.2.1 = s.2.1) && (r.2.2 == s.2.2)) := by
  obtain ⟨a, b, c⟩ := r
  obtain ⟨a', b', c'⟩ := s
  rw [Bool.eq_iff_iff]
  simp only [decide_eq_true_eq, Prod.mk.injEq, Bool.and_eq_true, beq_iff_eq, and_assoc]
theorem sameRule_call (r s : Rul) (hm : r.2.1.length ≤ 1048576) : CallA Tryz.prog 80 [rulA r, rulA s] [] (Ret (.bool (decide (r = s))) []) := by
  rw [rul_dec]
  refine CallP.out (t := .mk) (go_in (md := md80) mixed Tryz.func80 rfl go80 (by kernel_rfl) ?_)
  simp only [q0, q1, q2, q3, q4, q5, q6, q7, q8, q9, zr0, zr1, zr2, zr3, zq0, zq1, zq2, zq3, zq4, Nat.reduceAdd, Nat.reduceSub, lenA, convA, indexA, indexS, Int.reduceToNat, cond_true, cond_false, ↓reduceIte, reduceCtorEq, Nat.reduceLT, Nat.reduceLeDiff, Nat.reduceMul, Nat.reduceEqDiff, exists_eq', implies_true, exists_true_left, tys0, tys1, tys2, und0, und1, md80, Tryz.ntmps80, Tryz.results80, rulA]
  refine br_intro (fun h1 => ?_) (fun h1 => ?_) <;> simp only [q0, q1, q2, q3, q4, q5, q6, q7, q8, q9, zr0, zr1, zr2, zr3, zq0, zq1, zq2, zq3, zq4, Nat.reduceAdd, Nat.reduceSub, lenA, convA, indexA, indexS, Int.reduceToNat, cond_true, cond_false, ↓reduceIte, reduceCtorEq, Nat.reduceLT, Nat.reduceLeDiff, Nat.reduceMul, Nat.reduceEqDiff, exists_eq', implies_true, exists_true_left, tys0, tys1, tys2, und0, und1, md80, Tryz.ntmps80, Tryz.results80, rulA]
  · refine call_ret (slicesEqual_call r.2.1 s.2.1 (by omega)) rfl rfl ?_
    simp only [q0, q1, q2, q3, q4, q5, q6, q7, q8, q9, zr0, zr1, zr2, zr3, zq0, zq1, zq2, zq3, zq4, Nat.reduceAdd, Nat.reduceSub, lenA, convA, indexA, indexS, Int.reduceToNat, cond_true, cond_false, ↓reduceIte, reduceCtorEq, Nat.reduceLT, Nat.reduceLeDiff, Nat.reduceMul, Nat.reduceEqDiff, exists_eq', implies_true, exists_true_left, tys0, tys1, tys2, und0, und1, md80, Tryz.ntmps80, Tryz.results80, rulA]
    refine br_intro (fun h2 => ?_) (fun h2 => ?_) <;> simp only [q0, q1, q2, q3, q4, q5, q6, q7, q8, q9, zr0, zr1, zr2, zr3, zq0, zq1, zq2, zq3, zq4, Nat.reduceAdd, Nat.reduceSub, lenA, convA, indexA, indexS, Int.reduceToNat, cond_true, cond_false, ↓reduceIte, reduceCtorEq, Nat.reduceLT, Nat.reduceLeDiff, Nat.reduceMul, Nat.reduceEqDiff, exists_eq', implies_true, exists_true_left, tys0, tys1, tys2, und0, und1, md80, Tryz.ntmps80, Tryz.results80, rulA]
    · refine br_intro (fun h3 => ?_) (fun h3 => ?_) <;> simp only [q0, q1, q2, q3, q4, q5, q6, q7, q8, q9, zr0, zr1, zr2, zr3, zq0, zq1, zq2, zq3, zq4, Nat.reduceAdd, Nat.reduceSub, lenA, convA, indexA, indexS, Int.reduceToNat, cond_true, cond_false, ↓reduceIte, reduceCtorEq, Nat.reduceLT, Nat.reduceLeDiff, Nat.reduceMul, Nat.reduceEqDiff, exists_eq', implies_true, exists_true_left, tys0, tys1, tys2, und0, und1, md80, Tryz.ntmps80, Tryz.results80, rulA]
      · refine br_intro (fun h4 => ?_) (fun h4 => ?_) <;> simp only [q0, q1, q2, q3, q4, q5, q6, q7, q8, q9, zr0, zr1, zr2, zr3, zq0, zq1, zq2, zq3, zq4, Nat.reduceAdd, Nat.reduceSub, lenA, convA, indexA, indexS, Int.reduceToNat, cond_true, cond_false, ↓reduceIte, reduceCtorEq, Nat.reduceLT, Nat.reduceLeDiff, Nat.reduceMul, Nat.reduceEqDiff, exists_eq', implies_true, exists_true_left, tys0, tys1, tys2, und0, und1, md80, Tryz.ntmps80, Tryz.results80, rulA]
        · exact PostR.pure ⟨by rw [h1, h2, h3, h4]; rfl, rfl⟩ rfl
        · exact PostR.pure ⟨by rw [h1, h2, h3, h4]; rfl, rfl⟩ rfl
      · exact PostR.pure ⟨by rw [h1, h2, h3]; rfl, rfl⟩ rfl
    · exact PostR.pure ⟨by rw [h1, h2]; rfl, rfl⟩ rfl
  · exact PostR.pure ⟨by rw [h1]; rfl, rfl⟩ rfl

theorem equalFuncRule_call (xs ys : List Rul) (hm : xs.length ≤ 1048576) (hr : ∀ r ∈ xs, r.2.1.length ≤ 1048576) (hm2 : ys.length ≤ 1048576) : CallA Tryz.prog 79 [.ro (xs.map rulA), .ro (ys.map rulA), .fn 80 []] [] (Ret (.bool (decide (xs = ys))) []) := by
  refine CallP.out (t := .mk) (go_in (md := md79) mixed Tryz.func79 rfl go79 (by kernel_rfl) ?_)
  simp only [q0, q1, q2, q3, q4, q5, q6, q7, q8, q9, zr0, zr1, zr2, zr3, zq0, zq1, zq2, zq3, zq4, Nat.reduceAdd, Nat.reduceSub, lenA, convA, indexA, indexS, Int.reduceToNat, cond_true, cond_false, ↓reduceIte, reduceCtorEq, Nat.reduceLT, Nat.reduceLeDiff, Nat.reduceMul, Nat.reduceEqDiff, exists_eq', implies_true, exists_true_left, tys0, tys1, tys2, und0, und1, md79, Tryz.ntmps79, Tryz.results79, List.length_map]
  refine br_intro (fun h => ?_) (fun h => ?_) <;> simp only [q0, q1, q2, q3, q4, q5, q6, q7, q8, q9, zr0, zr1, zr2, zr3, zq0, zq1, zq2, zq3, zq4, Nat.reduceAdd, Nat.reduceSub, lenA, convA, indexA, indexS, Int.reduceToNat, cond_true, cond_false, ↓reduceIte, reduceCtorEq, Nat.reduceLT, Nat.reduceLeDiff, Nat.reduceMul, Nat.reduceEqDiff, exists_eq', implies_true, exists_true_left, tys0, tys1, tys2, und0, und1, md79, Tryz.ntmps79, Tryz.results79, List.length_map]
  · have : ¬ xs.length = ys.length := by simp at h; omega
    exact PostR.pure ⟨by rw [decEq_len this], rfl⟩ rfl
  · have hl : xs.length = ys.length := by simp at h; omega
    refine go_round (md := md79) mixed (by kernel_rfl) (fun k : {k : Nat // k ≤ xs.length ∧ xs.take k = ys.take k} => ⟨[.any, .ro (ys.map rulA), .fn 80 [], .any, .any, .any, .any, .any, .any, .any, .any, .any, .any, .any, .any, .ro (xs.map rulA), .int .i64 xs.length, .int .i64 k.1, .any, .any, .any, .any, .any, .any, .any, .any, .any, .any, .any, .any, .any, .any], []⟩) (fun k => xs.length - k.1) ⟨0, by simp⟩ ?_ ?_
    · exact weak_drop (by simp) (by simp [DropHp, ints_below, flts_below]) (by simp [DropTm, DropV, below, belowM, belowL])
    · intro ⟨k, hk, he⟩
      simp only [q0, q1, q2, q3, q4, q5, q6, q7, q8, q9, zr0, zr1, zr2, zr3, zq0, zq1, zq2, zq3, zq4, Nat.reduceAdd, Nat.reduceSub, lenA, convA, indexA, indexS, Int.reduceToNat, cond_true, cond_false, ↓reduceIte, reduceCtorEq, Nat.reduceLT, Nat.reduceLeDiff, Nat.reduceMul, Nat.reduceEqDiff, exists_eq', implies_true, exists_true_left, tys0, tys1, tys2, und0, und1, md79, Tryz.ntmps79, Tryz.results79, List.length_map, List.getElem_map]
      refine br_intro (fun h => ?_) (fun h => ?_) <;> simp only [q0, q1, q2, q3, q4, q5, q6, q7, q8, q9, zr0, zr1, zr2, zr3, zq0, zq1, zq2, zq3, zq4, Nat.reduceAdd, Nat.reduceSub, lenA, convA, indexA, indexS, Int.reduceToNat, cond_true, cond_false, ↓reduceIte, reduceCtorEq, Nat.reduceLT, Nat.reduceLeDiff, Nat.reduceMul, Nat.reduceEqDiff, exists_eq', implies_true, exists_true_left, tys0, tys1, tys2, und0, und1, md79, Tryz.ntmps79, Tryz.results79, List.length_map, List.getElem_map]
      · have hk' : k < xs.length := by have := of_decide_eq_true h; omega
        have hI : (k : Int) < (xs.length : Int) := by omega
        have hk2 : k < ys.length := by omega
        have hI2 : (k : Int) < (ys.length : Int) := by omega
        have el := sameRule_call xs[k] ys[k] (hr _ (List.getElem_mem hk'))
        unfold rulA at el
        simp only [q0, q1, q2, q3, q4, q5, q6, q7, q8, q9, zr0, zr1, zr2, zr3, zq0, zq1, zq2, zq3, zq4, Nat.reduceAdd, Nat.reduceSub, lenA, convA, indexA, indexS, Int.reduceToNat, cond_true, cond_false, ↓reduceIte, reduceCtorEq, Nat.reduceLT, Nat.reduceLeDiff, Nat.reduceMul, Nat.reduceEqDiff, exists_eq', implies_true, exists_true_left, tys0, tys1, tys2, und0, und1, md79, Tryz.ntmps79, Tryz.results79, List.length_map, List.getElem_map, rulA, hk', hI, hk2, hI2]
        refine call_ret el rfl rfl ?_
        simp only [q0, q1, q2, q3, q4, q5, q6, q7, q8, q9, zr0, zr1, zr2, zr3, zq0, zq1, zq2, zq3, zq4, Nat.reduceAdd, Nat.reduceSub, lenA, convA, indexA, indexS, Int.reduceToNat, cond_true, cond_false, ↓reduceIte, reduceCtorEq, Nat.reduceLT, Nat.reduceLeDiff, Nat.reduceMul, Nat.reduceEqDiff, exists_eq', implies_true, exists_true_left, tys0, tys1, tys2, und0, und1, md79, Tryz.ntmps79, Tryz.results79]
        refine br_intro (fun c => ?_) (fun c => ?_) <;> simp only [q0, q1, q2, q3, q4, q5, q6, q7, q8, q9, zr0, zr1, zr2, zr3, zq0, zq1, zq2, zq3, zq4, Nat.reduceAdd, Nat.reduceSub, lenA, convA, indexA, indexS, Int.reduceToNat, cond_true, cond_false, ↓reduceIte, reduceCtorEq, Nat.reduceLT, Nat.reduceLeDiff, Nat.reduceMul, Nat.reduceEqDiff, exists_eq', implies_true, exists_true_left, tys0, tys1, tys2, und0, und1, md79, Tryz.ntmps79, Tryz.results79]
        · refine ⟨⟨k + 1, by omega, take_next hk' hk2 he (of_decide_eq_true c)⟩, by show xs.length - (k + 1) < xs.length - k; omega, ?_⟩
          exact weak_drop (by simp) (by simp [DropHp, ints_below, flts_below, w64_succ k (by omega)]) (by simp [DropTm, DropV, below, belowM, belowL, w64_succ k (by omega)])
        · exact PostR.pure ⟨by rw [dec_at (h1 := hk') (h2 := hk2) (of_decide_eq_false c)], rfl⟩ rfl
      · have hk' : k = xs.length := by have := of_decide_eq_false h; omega
        subst hk'
        exact PostR.pure ⟨by rw [dec_all hl he], rfl⟩ rfl

theorem sameRules_call (xs ys : List Rul) (hm : xs.length ≤ 1048576) (hr : ∀ r ∈ xs, r.2.1.length ≤ 1048576) (hm2 : ys.length ≤ 1048576) : CallA Tryz.prog 44 [.ro (xs.map rulA), .ro (ys.map rulA)] [] (Ret (.bool (decide (xs = ys))) []) := by
  refine CallP.out (t := .mk) (go_in (md := md44) mixed Tryz.func44 rfl go44 (by kernel_rfl) ?_)
  simp only [q0, q1, q2, q3, q4, q5, q6, q7, q8, q9, zr0, zr1, zr2, zr3, zq0, zq1, zq2, zq3, zq4, Nat.reduceAdd, Nat.reduceSub, lenA, convA, indexA, indexS, Int.reduceToNat, cond_true, cond_false, ↓reduceIte, reduceCtorEq, Nat.reduceLT, Nat.reduceLeDiff, Nat.reduceMul, Nat.reduceEqDiff, exists_eq', implies_true, exists_true_left, tys0, tys1, tys2, und0, und1, md44, Tryz.ntmps44, Tryz.results44]
  refine call_ret (equalFuncRule_call xs ys hm hr hm2) rfl rfl ?_
  simp only [q0, q1, q2, q3, q4, q5, q6, q7, q8, q9, zr0, zr1, zr2, zr3, zq0, zq1, zq2, zq3, zq4, Nat.reduceAdd, Nat.reduceSub, lenA, convA, indexA, indexS, Int.reduceToNat, cond_true, cond_false, ↓reduceIte, reduceCtorEq, Nat.reduceLT, Nat.reduceLeDiff, Nat.reduceMul, Nat.reduceEqDiff, exists_eq', implies_true, exists_true_left, tys0, tys1, tys2, und0, und1, md44, Tryz.ntmps44, Tryz.results44]
  exact PostR.pure ⟨rfl, rfl⟩ rfl
structure SavS (s : Sav) : Prop where
  n : s.1.length ≤ 1048576
  r : s.2.1.length ≤ 1048576
  f : ∀ r ∈ s.2.1, r.2.1.length ≤ 1048576
  i : s.2.2.length ≤ 1048576
theorem sameSaved1_call (r s : Sav) (R : SavS r) (S : SavS s) : CallA Tryz.prog 43 [savA r, savA s] [] (Ret (.bool (decide (r = s))) []) := by
  obtain ⟨n1, r1, f1, i1⟩ := R
  obtain ⟨n2, r2, f2, i2⟩ := S
  rw [sav_dec]
  refine CallP.out (t := .mk) (go_in (md := md43) mixed Tryz.func43 rfl go43 (by kernel_rfl) ?_)
  simp only [q0, q1, q2, q3, q4, q5, q6, q7, q8, q9, zr0, zr1, zr2, zr3, zq0, zq1, zq2, zq3, zq4, Nat.reduceAdd, Nat.reduceSub, lenA, convA, indexA, indexS, Int.reduceToNat, cond_true, cond_false, ↓reduceIte, reduceCtorEq, Nat.reduceLT, Nat.reduceLeDiff, Nat.reduceMul, Nat.reduceEqDiff, exists_eq', implies_true, exists_true_left, tys0, tys1, tys2, und0, und1, md43, Tryz.ntmps43, Tryz.results43, savA]
  refine br_intro (fun h1 => ?_) (fun h1 => ?_) <;> simp only [q0, q1, q2, q3, q4, q5, q6, q7, q8, q9, zr0, zr1, zr2, zr3, zq0, zq1, zq2, zq3, zq4, Nat.reduceAdd, Nat.reduceSub, lenA, convA, indexA, indexS, Int.reduceToNat, cond_true, cond_false, ↓reduceIte, reduceCtorEq, Nat.reduceLT, Nat.reduceLeDiff, Nat.reduceMul, Nat.reduceEqDiff, exists_eq', implies_true, exists_true_left, tys0, tys1, tys2, und0, und1, md43, Tryz.ntmps43, Tryz.results43, savA]
  · refine call_ret (sameRules_call r.2.1 s.2.1 r1 f1 r2) rfl rfl ?_
    simp only [q0, q1, q2, q3, q4, q5, q6, q7, q8, q9, zr0, zr1, zr2, zr3, zq0, zq1, zq2, zq3, zq4, Nat.reduceAdd, Nat.reduceSub, lenA, convA, indexA, indexS, Int.reduceToNat, cond_true, cond_false, ↓reduceIte, reduceCtorEq, Nat.reduceLT, Nat.reduceLeDiff, Nat.reduceMul, Nat.reduceEqDiff, exists_eq', implies_true, exists_true_left, tys0, tys1, tys2, und0, und1, md43, Tryz.ntmps43, Tryz.results43, savA]
    refine br_intro (fun h2 => ?_) (fun h2 => ?_) <;> simp only [q0, q1, q2, q3, q4, q5, q6, q7, q8, q9, zr0, zr1, zr2, zr3, zq0, zq1, zq2, zq3, zq4, Nat.reduceAdd, Nat.reduceSub, lenA, convA, indexA, indexS, Int.reduceToNat, cond_true, cond_false, ↓reduceIte, reduceCtorEq, Nat.reduceLT, Nat.reduceLeDiff, Nat.reduceMul, Nat.reduceEqDiff, exists_eq', implies_true, exists_true_left, tys0, tys1, tys2, und0, und1, md43, Tryz.ntmps43, Tryz.results43, savA]
    · refine call_ret (slicesEqual_call r.2.2 s.2.2 (by omega)) rfl rfl ?_
      simp only [q0, q1, q2, q3, q4, q5, q6, q7, q8, q9, zr0, zr1, zr2, zr3, zq0, zq1, zq2, zq3, zq4, Nat.reduceAdd, Nat.reduceSub, lenA, convA, indexA, indexS, Int.reduceToNat, cond_true, cond_false, ↓reduceIte, reduceCtorEq, Nat.reduceLT, Nat.reduceLeDiff, Nat.reduceMul, Nat.reduceEqDiff, exists_eq', implies_true, exists_true_left, tys0, tys1, tys2, und0, und1, md43, Tryz.ntmps43, Tryz.results43, savA]
      exact PostR.pure ⟨by rw [h1, h2]; rfl, rfl⟩ rfl
    · exact PostR.pure ⟨by rw [h1, h2]; rfl, rfl⟩ rfl
  · exact PostR.pure ⟨by rw [h1]; rfl, rfl⟩ rfl

theorem equalFuncSaved_call (xs ys : List Sav) (hm : xs.length ≤ 1048576) (hr : ∀ r ∈ xs, SavS r) (hs : ∀ r ∈ ys, SavS r) (hm2 : ys.length ≤ 1048576) : CallA Tryz.prog 42 [.ro (xs.map savA), .ro (ys.map savA), .fn 43 []] [] (Ret (.bool (decide (xs = ys))) []) := by
  refine CallP.out (t := .mk) (go_in (md := md42) mixed Tryz.func42 rfl go42 (by kernel_rfl) ?_)
  simp only [q0, q1, q2, q3, q4, q5, q6, q7, q8, q9, zr0, zr1, zr2, zr3, zq0, zq1, zq2, zq3, zq4, Nat.reduceAdd, Nat.reduceSub, lenA, convA, indexA, indexS, Int.reduceToNat, cond_true, cond_false, ↓reduceIte, reduceCtorEq, Nat.reduceLT, Nat.reduceLeDiff, Nat.reduceMul, Nat.reduceEqDiff, exists_eq', implies_true, exists_true_left, tys0, tys1, tys2, und0, und1, md42, Tryz.ntmps42, Tryz.results42, List.length_map]
  refine br_intro (fun h => ?_) (fun h => ?_) <;> simp only [q0, q1, q2, q3, q4, q5, q6, q7, q8, q9, zr0, zr1, zr2, zr3, zq0, zq1, zq2, zq3, zq4, Nat.reduceAdd, Nat.reduceSub, lenA, convA, indexA, indexS, Int.reduceToNat, cond_true, cond_false, ↓reduceIte, reduceCtorEq, Nat.reduceLT, Nat.reduceLeDiff, Nat.reduceMul, Nat.reduceEqDiff, exists_eq', implies_true, exists_true_left, tys0, tys1, tys2, und0, und1, md42, Tryz.ntmps42, Tryz.results42, List.length_map]
  · have : ¬ xs.length = ys.length := by simp at h; omega
    exact PostR.pure ⟨by rw [decEq_len this], rfl⟩ rfl
  · have hl : xs.length = ys.length := by simp at h; omega
    refine go_round (md := md42) mixed (by kernel_rfl) (fun k : {k : Nat // k ≤ xs.length ∧ xs.take k = ys.take k} => ⟨[.any, .ro (ys.map savA), .fn 43 [], .any, .any, .any, .any, .any, .any, .any, .any, .any, .any, .any, .any, .ro (xs.map savA), .int .i64 xs.length, .int .i64 k.1, .any, .any, .any, .any, .any, .any, .any, .any, .any, .any, .any, .any, .any, .any], []⟩) (fun k => xs.length - k.1) ⟨0, by simp⟩ ?_ ?_
    · exact weak_drop (by simp) (by simp [DropHp, ints_below, flts_below]) (by simp [DropTm, DropV, below, belowM, belowL])
    · intro ⟨k, hk, he⟩
      simp only [q0, q1, q2, q3, q4, q5, q6, q7, q8, q9, zr0, zr1, zr2, zr3, zq0, zq1, zq2, zq3, zq4, Nat.reduceAdd, Nat.reduceSub, lenA, convA, indexA, indexS, Int.reduceToNat, cond_true, cond_false, ↓reduceIte, reduceCtorEq, Nat.reduceLT, Nat.reduceLeDiff, Nat.reduceMul, Nat.reduceEqDiff, exists_eq', implies_true, exists_true_left, tys0, tys1, tys2, und0, und1, md42, Tryz.ntmps42, Tryz.results42, List.length_map, List.getElem_map]
      refine br_intro (fun h => ?_) (fun h => ?_) <;> simp only [q0, q1, q2, q3, q4, q5, q6, q7, q8, q9, zr0, zr1, zr2, zr3, zq0, zq1, zq2, zq3, zq4, Nat.reduceAdd, Nat.reduceSub, lenA, convA, indexA, indexS, Int.reduceToNat, cond_true, cond_false, ↓reduceIte, reduceCtorEq, Nat.reduceLT, Nat.reduceLeDiff, Nat.reduceMul, Nat.reduceEqDiff, exists_eq', implies_true, exists_true_left, tys0, tys1, tys2, und0, und1, md42, Tryz.ntmps42, Tryz.results42, List.length_map, List.getElem_map]
      · have hk' : k < xs.length := by have := of_decide_eq_true h; omega
        have hI : (k : Int) < (xs.length : Int) := by omega
        have hk2 : k < ys.length := by omega
        have hI2 : (k : Int) < (ys.length : Int) := by omega
        have el := sameSaved1_call xs[k] ys[k] (hr _ (List.getElem_mem hk')) (hs _ (List.getElem_mem hk2))
        unfold savA at el
        simp only [q0, q1, q2, q3, q4, q5, q6, q7, q8, q9, zr0, zr1, zr2, zr3, zq0, zq1, zq2, zq3, zq4, Nat.reduceAdd, Nat.reduceSub, lenA, convA, indexA, indexS, Int.reduceToNat, cond_true, cond_false, ↓reduceIte, reduceCtorEq, Nat.reduceLT, Nat.reduceLeDiff, Nat.reduceMul, Nat.reduceEqDiff, exists_eq', implies_true, exists_true_left, tys0, tys1, tys2, und0, und1, md42, Tryz.ntmps42, Tryz.results42, List.length_map, List.getElem_map, savA, hk', hI, hk2, hI2]
        refine call_ret el rfl rfl ?_
        simp only [q0, q1, q2, q3, q4, q5, q6, q7, q8, q9, zr0, zr1, zr2, zr3, zq0, zq1, zq2, zq3, zq4, Nat.reduceAdd, Nat.reduceSub, lenA, convA, indexA, indexS, Int.reduceToNat, cond_true, cond_false, ↓reduceIte, reduceCtorEq, Nat.reduceLT, Nat.reduceLeDiff, Nat.reduceMul, Nat.reduceEqDiff, exists_eq', implies_true, exists_true_left, tys0, tys1, tys2, und0, und1, md42, Tryz.ntmps42, Tryz.results42]
        refine br_intro (fun c => ?_) (fun c => ?_) <;> simp only [q0, q1, q2, q3, q4, q5, q6, q7, q8, q9, zr0, zr1, zr2, zr3, zq0, zq1, zq2, zq3, zq4, Nat.reduceAdd, Nat.reduceSub, lenA, convA, indexA, indexS, Int.reduceToNat, cond_true, cond_false, ↓reduceIte, reduceCtorEq, Nat.reduceLT, Nat.reduceLeDiff, Nat.reduceMul, Nat.reduceEqDiff, exists_eq', implies_true, exists_true_left, tys0, tys1, tys2, und0, und1, md42, Tryz.ntmps42, Tryz.results42]
        · refine ⟨⟨k + 1, by omega, take_next hk' hk2 he (of_decide_eq_true c)⟩, by show xs.length - (k + 1) < xs.length - k; omega, ?_⟩
          exact weak_drop (by simp) (by simp [DropHp, ints_below, flts_below, w64_succ k (by omega)]) (by simp [DropTm, DropV, below, belowM, belowL, w64_succ k (by omega)])
        · exact PostR.pure ⟨by rw [dec_at (h1 := hk') (h2 := hk2) (of_decide_eq_false c)], rfl⟩ rfl
      · have hk' : k = xs.length := by have := of_decide_eq_false h; omega
        subst hk'
        exact PostR.pure ⟨by rw [dec_all hl he], rfl⟩ rfl

theorem sameSaved_call (xs ys : List Sav) (hm : xs.length ≤ 1048576) (hr : ∀ r ∈ xs, SavS r) (hs : ∀ r ∈ ys, SavS r) (hm2 : ys.length ≤ 1048576) : CallA Tryz.prog 12 [.ro (xs.map savA), .ro (ys.map savA)] [] (Ret (.bool (decide (xs = ys))) []) := by
  refine CallP.out (t := .mk) (go_in (md := md12) mixed Tryz.func12 rfl go12 (by kernel_rfl) ?_)
  simp only [q0, q1, q2, q3, q4, q5, q6, q7, q8, q9, zr0, zr1, zr2, zr3, zq0, zq1, zq2, zq3, zq4, Nat.reduceAdd, Nat.reduceSub, lenA, convA, indexA, indexS, Int.reduceToNat, cond_true, cond_false, ↓reduceIte, reduceCtorEq, Nat.reduceLT, Nat.reduceLeDiff, Nat.reduceMul, Nat.reduceEqDiff, exists_eq', implies_true, exists_true_left, tys0, tys1, tys2, und0, und1, md12, Tryz.ntmps12, Tryz.results12]
  refine call_ret (equalFuncSaved_call xs ys hm hr hs hm2) rfl rfl ?_
  simp only [q0, q1, q2, q3, q4, q5, q6, q7, q8, q9, zr0, zr1, zr2, zr3, zq0, zq1, zq2, zq3, zq4, Nat.reduceAdd, Nat.reduceSub, lenA, convA, indexA, indexS, Int.reduceToNat, cond_true, cond_false, ↓reduceIte, reduceCtorEq, Nat.reduceLT, Nat.reduceLeDiff, Nat.reduceMul, Nat.reduceEqDiff, exists_eq', implies_true, exists_true_left, tys0, tys1, tys2, und0, und1, md12, Tryz.ntmps12, Tryz.results12]
  exact PostR.pure ⟨rfl, rfl⟩ rfl
end Go.Proofs.YtigipcckflcilaaGreatDoor
