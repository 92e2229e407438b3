/- The text of a rule: both sides. -/
import Derived.Test.YtigipcckflcilaaGreatDoorStG
set_option maxRecDepth 10000
set_option maxHeartbeats 4000000
set_option linter.unusedSimpArgs false
set_option linter.unusedVariables false
namespace Go.Proofs.YtigipcckflcilaaGreatDoor
open Go Go.Abs

theorem sep3 : ([32, 38, 32] : List UInt8).length ≤ 3 := by decide
theorem ruleT_len {r : Rul} (h : OkR r) : (ruleT r).length ≤ 240 := by
  have h1 := itoa_len h.h.i
  have h2 := itoa_len h.a.i
  have h3 := itoa_len h.b.i
  have h4 := itoa_len h.c.i
  have h5 := txt_len sep3 r.2.1 (fun x hx => (h.i x hx).i)
  have h6 := h.n
  unfold ruleT ifsT
  split
  · simp only [List.length_append, List.length_cons, List.length_nil]; omega
  · simp only [List.length_append, List.length_cons, List.length_nil]; omega
theorem txt_zero (sep : List UInt8) : txt sep [] = [] := by simp [txt, Lib.join_nil]
theorem dec_ne (n : Nat) : Lib.decDigits n ≠ [] := by
  unfold Lib.decDigits
  split
  · simp
  · simp
theorem itoa_ne (x : Int) : Lib.itoa x ≠ [] := by
  rw [itoa_abs]
  split
  · simp
  · exact dec_ne _
theorem txt_ne {sep : List UInt8} {xs : List Int} (h : xs ≠ []) : txt sep xs ≠ [] := by
  cases xs with
  | nil => exact absurd rfl h
  | cons x r =>
    intro e
    have := congrArg List.length e
    unfold txt at this
    rw [List.map_cons, Lib.join_cons, List.length_append] at this
    have h2 := List.length_pos_iff.2 (itoa_ne x)
    rw [List.length_nil] at this
    omega
theorem ruleText_call (r : Rul) (h : OkR r) : CallA Tryz.prog 52 [rulA r] [] (Ret (.str (ruleT r)) []) := by
  obtain ⟨hd, ifs, a, b, c⟩ := r
  have h1 := itoa_len h.h.i
  have h2 := itoa_len h.a.i
  have h3 := itoa_len h.b.i
  have h4 := itoa_len h.c.i
  have hi := h.i
  have hn := h.n
  have hh := h.h.i
  have ha := h.a.i
  have hb := h.b.i
  have hc := h.c.i
  dsimp only at h1 h2 h3 h4 hi hn hh ha hb hc ⊢
  have tl := txt_len sep3 ifs (fun x hx => (hi x hx).i)
  unfold rulA
  refine CallP.out (t := .mk) (go_in (md := md52) mixed Tryz.func52 rfl go52 (by kernel_rfl) ?_)
  simp only [q0, q1, q2, q3, q4, q5, q6, q7, q8, q9, zr0, zr1, zr2, zr3, zq0, zq1, zq2, zq3, zq4, Nat.reduceAdd, Nat.reduceSub, lenA, convA, indexA, indexS, Int.reduceToNat, cond_true, cond_false, ↓reduceIte, reduceCtorEq, Nat.reduceLT, Nat.reduceLeDiff, Nat.reduceMul, Nat.reduceEqDiff, exists_eq', implies_true, exists_true_left, tys0, tys1, tys2, und0, und1, md52, Tryz.ntmps52, Tryz.results52]
  refine call_ret (decimals_call [32, 38, 32] sep3 ifs (by omega) (fun x hx => (hi x hx).i)) rfl rfl ?_
  simp only [q0, q1, q2, q3, q4, q5, q6, q7, q8, q9, zr0, zr1, zr2, zr3, zq0, zq1, zq2, zq3, zq4, Nat.reduceAdd, Nat.reduceSub, lenA, convA, indexA, indexS, Int.reduceToNat, cond_true, cond_false, ↓reduceIte, reduceCtorEq, Nat.reduceLT, Nat.reduceLeDiff, Nat.reduceMul, Nat.reduceEqDiff, exists_eq', implies_true, exists_true_left, tys0, tys1, tys2, und0, und1, md52, Tryz.ntmps52, Tryz.results52]
  refine br_intro (fun z => ?_) (fun z => ?_) <;> simp only [q0, q1, q2, q3, q4, q5, q6, q7, q8, q9, zr0, zr1, zr2, zr3, zq0, zq1, zq2, zq3, zq4, Nat.reduceAdd, Nat.reduceSub, lenA, convA, indexA, indexS, Int.reduceToNat, cond_true, cond_false, ↓reduceIte, reduceCtorEq, Nat.reduceLT, Nat.reduceLeDiff, Nat.reduceMul, Nat.reduceEqDiff, exists_eq', implies_true, exists_true_left, tys0, tys1, tys2, und0, und1, md52, Tryz.ntmps52, Tryz.results52]
  · have z' : ifs = [] := by
      apply Classical.byContradiction
      intro e
      exact txt_ne e (beq_iff_eq.1 z)
    rw [z', txt_zero] at *
    refine callr_ret (decimal_call a ha.1 ha.2) rfl rfl ?_
    simp only [q0, q1, q2, q3, q4, q5, q6, q7, q8, q9, zr0, zr1, zr2, zr3, zq0, zq1, zq2, zq3, zq4, Nat.reduceAdd, Nat.reduceSub, lenA, convA, indexA, indexS, Int.reduceToNat, cond_true, cond_false, ↓reduceIte, reduceCtorEq, Nat.reduceLT, Nat.reduceLeDiff, Nat.reduceMul, Nat.reduceEqDiff, exists_eq', implies_true, exists_true_left, tys0, tys1, tys2, und0, und1, md52, Tryz.ntmps52, Tryz.results52]
    refine ⟨by first | omega | (simp only [List.length_append, List.length_cons, List.length_nil, List.length_map, List.length_take]; omega), ?_⟩
    refine callr_ret (decimal_call b hb.1 hb.2) rfl rfl ?_
    simp only [q0, q1, q2, q3, q4, q5, q6, q7, q8, q9, zr0, zr1, zr2, zr3, zq0, zq1, zq2, zq3, zq4, Nat.reduceAdd, Nat.reduceSub, lenA, convA, indexA, indexS, Int.reduceToNat, cond_true, cond_false, ↓reduceIte, reduceCtorEq, Nat.reduceLT, Nat.reduceLeDiff, Nat.reduceMul, Nat.reduceEqDiff, exists_eq', implies_true, exists_true_left, tys0, tys1, tys2, und0, und1, md52, Tryz.ntmps52, Tryz.results52]
    refine ⟨by first | omega | (simp only [List.length_append, List.length_cons, List.length_nil, List.length_map, List.length_take]; omega), by first | omega | (simp only [List.length_append, List.length_cons, List.length_nil, List.length_map, List.length_take]; omega), ?_⟩
    refine callr_ret (decimal_call c hc.1 hc.2) rfl rfl ?_
    simp only [q0, q1, q2, q3, q4, q5, q6, q7, q8, q9, zr0, zr1, zr2, zr3, zq0, zq1, zq2, zq3, zq4, Nat.reduceAdd, Nat.reduceSub, lenA, convA, indexA, indexS, Int.reduceToNat, cond_true, cond_false, ↓reduceIte, reduceCtorEq, Nat.reduceLT, Nat.reduceLeDiff, Nat.reduceMul, Nat.reduceEqDiff, exists_eq', implies_true, exists_true_left, tys0, tys1, tys2, und0, und1, md52, Tryz.ntmps52, Tryz.results52]
    refine ⟨by first | omega | (simp only [List.length_append, List.length_cons, List.length_nil, List.length_map, List.length_take]; omega), by first | omega | (simp only [List.length_append, List.length_cons, List.length_nil, List.length_map, List.length_take]; omega), by first | omega | (simp only [List.length_append, List.length_cons, List.length_nil, List.length_map, List.length_take]; omega), by first | omega | (simp only [List.length_append, List.length_cons, List.length_nil, List.length_map, List.length_take]; omega), ?_⟩
    refine callr_ret (decimal_call hd hh.1 hh.2) rfl rfl ?_
    simp only [q0, q1, q2, q3, q4, q5, q6, q7, q8, q9, zr0, zr1, zr2, zr3, zq0, zq1, zq2, zq3, zq4, Nat.reduceAdd, Nat.reduceSub, lenA, convA, indexA, indexS, Int.reduceToNat, cond_true, cond_false, ↓reduceIte, reduceCtorEq, Nat.reduceLT, Nat.reduceLeDiff, Nat.reduceMul, Nat.reduceEqDiff, exists_eq', implies_true, exists_true_left, tys0, tys1, tys2, und0, und1, md52, Tryz.ntmps52, Tryz.results52]
    refine ⟨by first | omega | (simp only [List.length_append, List.length_cons, List.length_nil, List.length_map, List.length_take]; omega), PostR.pure ⟨?_, rfl⟩ rfl⟩
    unfold ruleT ifsT
    rw [if_pos rfl, List.append_nil]
  · have z' : ifs ≠ [] := fun e => by rw [e, txt_zero] at z; cases z
    refine ⟨by first | omega | (simp only [List.length_append, List.length_cons, List.length_nil, List.length_map, List.length_take]; omega), ?_⟩
    refine callr_ret (decimal_call a ha.1 ha.2) rfl rfl ?_
    simp only [q0, q1, q2, q3, q4, q5, q6, q7, q8, q9, zr0, zr1, zr2, zr3, zq0, zq1, zq2, zq3, zq4, Nat.reduceAdd, Nat.reduceSub, lenA, convA, indexA, indexS, Int.reduceToNat, cond_true, cond_false, ↓reduceIte, reduceCtorEq, Nat.reduceLT, Nat.reduceLeDiff, Nat.reduceMul, Nat.reduceEqDiff, exists_eq', implies_true, exists_true_left, tys0, tys1, tys2, und0, und1, md52, Tryz.ntmps52, Tryz.results52]
    refine ⟨by first | omega | (simp only [List.length_append, List.length_cons, List.length_nil, List.length_map, List.length_take]; omega), ?_⟩
    refine callr_ret (decimal_call b hb.1 hb.2) rfl rfl ?_
    simp only [q0, q1, q2, q3, q4, q5, q6, q7, q8, q9, zr0, zr1, zr2, zr3, zq0, zq1, zq2, zq3, zq4, Nat.reduceAdd, Nat.reduceSub, lenA, convA, indexA, indexS, Int.reduceToNat, cond_true, cond_false, ↓reduceIte, reduceCtorEq, Nat.reduceLT, Nat.reduceLeDiff, Nat.reduceMul, Nat.reduceEqDiff, exists_eq', implies_true, exists_true_left, tys0, tys1, tys2, und0, und1, md52, Tryz.ntmps52, Tryz.results52]
    refine ⟨by first | omega | (simp only [List.length_append, List.length_cons, List.length_nil, List.length_map, List.length_take]; omega), by first | omega | (simp only [List.length_append, List.length_cons, List.length_nil, List.length_map, List.length_take]; omega), ?_⟩
    refine callr_ret (decimal_call c hc.1 hc.2) rfl rfl ?_
    simp only [q0, q1, q2, q3, q4, q5, q6, q7, q8, q9, zr0, zr1, zr2, zr3, zq0, zq1, zq2, zq3, zq4, Nat.reduceAdd, Nat.reduceSub, lenA, convA, indexA, indexS, Int.reduceToNat, cond_true, cond_false, ↓reduceIte, reduceCtorEq, Nat.reduceLT, Nat.reduceLeDiff, Nat.reduceMul, Nat.reduceEqDiff, exists_eq', implies_true, exists_true_left, tys0, tys1, tys2, und0, und1, md52, Tryz.ntmps52, Tryz.results52]
    refine ⟨by first | omega | (simp only [List.length_append, List.length_cons, List.length_nil, List.length_map, List.length_take]; omega), by first | omega | (simp only [List.length_append, List.length_cons, List.length_nil, List.length_map, List.length_take]; omega), by first | omega | (simp only [List.length_append, List.length_cons, List.length_nil, List.length_map, List.length_take]; omega), by first | omega | (simp only [List.length_append, List.length_cons, List.length_nil, List.length_map, List.length_take]; omega), ?_⟩
    refine callr_ret (decimal_call hd hh.1 hh.2) rfl rfl ?_
    simp only [q0, q1, q2, q3, q4, q5, q6, q7, q8, q9, zr0, zr1, zr2, zr3, zq0, zq1, zq2, zq3, zq4, Nat.reduceAdd, Nat.reduceSub, lenA, convA, indexA, indexS, Int.reduceToNat, cond_true, cond_false, ↓reduceIte, reduceCtorEq, Nat.reduceLT, Nat.reduceLeDiff, Nat.reduceMul, Nat.reduceEqDiff, exists_eq', implies_true, exists_true_left, tys0, tys1, tys2, und0, und1, md52, Tryz.ntmps52, Tryz.results52]
    refine ⟨by first | omega | (simp only [List.length_append, List.length_cons, List.length_nil, List.length_map, List.length_take]; omega), PostR.pure ⟨?_, rfl⟩ rfl⟩
    unfold ruleT ifsT
    rw [if_neg z']
    try simp only [List.append_assoc]
end Go.Proofs.YtigipcckflcilaaGreatDoor
