/- Complex numbers: the program and the reference. -/
import Derived.Test.YtkjabkgmkkcpdaaGreatDoorNmR
set_option maxRecDepth 10000
set_option maxHeartbeats 4000000
set_option linter.unusedSimpArgs false
set_option linter.unusedVariables false
namespace Go.Proofs.YtkjabkgmkkcpdaaGreatDoor
open Go Go.Abs
def wid (x : Nat) : Nat := fconv .f64 .f32 x
def nrw (x : Nat) : Nat := fconv .f32 .f64 x
def wmR (a b c d : Nat) : Nat := fsub .f64 (fmul .f64 a c) (fmul .f64 b d)
def wmI (a b c d : Nat) : Nat := fadd .f64 (fmul .f64 a d) (fmul .f64 b c)
def powW (a b : Nat) : Nat := fadd .f64 (fmul .f64 (wid a) (wid a)) (fmul .f64 (wid b) (wid b))
def mulP (x y : Nat × Nat) : Nat × Nat := (nrw (wmR (wid x.1) (wid x.2) (wid y.1) (wid y.2)), nrw (wmI (wid x.1) (wid x.2) (wid y.1) (wid y.2)))
def quoP (x y : Nat × Nat) : Nat × Nat := (nrw (fdiv .f64 (wmR (wid x.1) (wid x.2) (wid y.1) (fneg .f64 (wid y.2))) (powW y.1 y.2)), nrw (fdiv .f64 (wmI (wid x.1) (wid x.2) (wid y.1) (fneg .f64 (wid y.2))) (powW y.1 y.2)))
def cpx (x : Nat × Nat) : AV := .cpx .f32 x.1 x.2
theorem isFiniteC_call (a b : Nat) : CallA Tryz.prog 26 [.cpx .f32 a b] [] (Ret (.bool (finB .f32 a && finB .f32 b)) []) := by
  refine CallP.out (t := .mk) (go_in (md := md26) mixed Tryz.func26 rfl go26 (by kernel_rfl) ?_)
  simp only [q0, q1, q2, q3, q4, q5, q6, q7, q8, q9, zr0, zr1, zr2, zr3, zq0, zq1, zq2, zq3, zq4, Nat.reduceAdd, Nat.reduceSub, lenA, convA, indexA, flatP, nilI, ifaA, indexS, Int.reduceToNat, cond_true, cond_false, ↓reduceIte, reduceCtorEq, Nat.reduceLT, Nat.reduceLeDiff, Nat.reduceMul, Nat.reduceEqDiff, exists_eq', implies_true, exists_true_left, tys0, tys1, und0, und1, md26, Tryz.ntmps26, Tryz.results26]
  refine call_ret (isFinite_call a) rfl rfl ?_
  simp only [q0, q1, q2, q3, q4, q5, q6, q7, q8, q9, zr0, zr1, zr2, zr3, zq0, zq1, zq2, zq3, zq4, Nat.reduceAdd, Nat.reduceSub, lenA, convA, indexA, flatP, nilI, ifaA, indexS, Int.reduceToNat, cond_true, cond_false, ↓reduceIte, reduceCtorEq, Nat.reduceLT, Nat.reduceLeDiff, Nat.reduceMul, Nat.reduceEqDiff, exists_eq', implies_true, exists_true_left, tys0, tys1, und0, und1, md26, Tryz.ntmps26, Tryz.results26]
  refine br_intro (fun h => ?_) (fun h => ?_) <;> simp only [q0, q1, q2, q3, q4, q5, q6, q7, q8, q9, zr0, zr1, zr2, zr3, zq0, zq1, zq2, zq3, zq4, Nat.reduceAdd, Nat.reduceSub, lenA, convA, indexA, flatP, nilI, ifaA, indexS, Int.reduceToNat, cond_true, cond_false, ↓reduceIte, reduceCtorEq, Nat.reduceLT, Nat.reduceLeDiff, Nat.reduceMul, Nat.reduceEqDiff, exists_eq', implies_true, exists_true_left, tys0, tys1, und0, und1, md26, Tryz.ntmps26, Tryz.results26]
  · refine call_ret (isFinite_call b) rfl rfl ?_
    simp only [q0, q1, q2, q3, q4, q5, q6, q7, q8, q9, zr0, zr1, zr2, zr3, zq0, zq1, zq2, zq3, zq4, Nat.reduceAdd, Nat.reduceSub, lenA, convA, indexA, flatP, nilI, ifaA, indexS, Int.reduceToNat, cond_true, cond_false, ↓reduceIte, reduceCtorEq, Nat.reduceLT, Nat.reduceLeDiff, Nat.reduceMul, Nat.reduceEqDiff, exists_eq', implies_true, exists_true_left, tys0, tys1, und0, und1, md26, Tryz.ntmps26, Tryz.results26]
    exact PostR.pure ⟨by rw [h, Bool.true_and], rfl⟩ rfl
  · exact PostR.pure ⟨by rw [h, Bool.false_and], rfl⟩ rfl
theorem parts_call (a b : Nat) : CallA Tryz.prog 40 [.cpx .f32 a b] [] (Ret (.tup [.flt .f64 (wid a), .flt .f64 (wid b)]) []) := by
  refine CallP.out (t := .mk) (go_in (md := md40) mixed Tryz.func40 rfl go40 (by kernel_rfl) ?_)
  simp only [q0, q1, q2, q3, q4, q5, q6, q7, q8, q9, zr0, zr1, zr2, zr3, zq0, zq1, zq2, zq3, zq4, Nat.reduceAdd, Nat.reduceSub, lenA, convA, indexA, flatP, nilI, ifaA, indexS, Int.reduceToNat, cond_true, cond_false, ↓reduceIte, reduceCtorEq, Nat.reduceLT, Nat.reduceLeDiff, Nat.reduceMul, Nat.reduceEqDiff, exists_eq', implies_true, exists_true_left, tys0, tys1, und0, und1, md40, Tryz.ntmps40, Tryz.results40]
  exact PostR.pure ⟨rfl, rfl⟩ rfl
theorem multiplied_call (a b c d : Nat) : CallA Tryz.prog 41 [.flt .f64 a, .flt .f64 b, .flt .f64 c, .flt .f64 d] [] (Ret (.tup [.flt .f64 (wmR a b c d), .flt .f64 (wmI a b c d)]) []) := by
  refine CallP.out (t := .mk) (go_in (md := md41) mixed Tryz.func41 rfl go41 (by kernel_rfl) ?_)
  simp only [q0, q1, q2, q3, q4, q5, q6, q7, q8, q9, zr0, zr1, zr2, zr3, zq0, zq1, zq2, zq3, zq4, Nat.reduceAdd, Nat.reduceSub, lenA, convA, indexA, flatP, nilI, ifaA, indexS, Int.reduceToNat, cond_true, cond_false, ↓reduceIte, reduceCtorEq, Nat.reduceLT, Nat.reduceLeDiff, Nat.reduceMul, Nat.reduceEqDiff, exists_eq', implies_true, exists_true_left, tys0, tys1, und0, und1, md41, Tryz.ntmps41, Tryz.results41]
  exact PostR.pure ⟨rfl, rfl⟩ rfl
theorem power_call (a b : Nat) : CallA Tryz.prog 42 [.cpx .f32 a b] [] (Ret (.flt .f64 (powW a b)) []) := by
  refine CallP.out (t := .mk) (go_in (md := md42) mixed Tryz.func42 rfl go42 (by kernel_rfl) ?_)
  simp only [q0, q1, q2, q3, q4, q5, q6, q7, q8, q9, zr0, zr1, zr2, zr3, zq0, zq1, zq2, zq3, zq4, Nat.reduceAdd, Nat.reduceSub, lenA, convA, indexA, flatP, nilI, ifaA, indexS, Int.reduceToNat, cond_true, cond_false, ↓reduceIte, reduceCtorEq, Nat.reduceLT, Nat.reduceLeDiff, Nat.reduceMul, Nat.reduceEqDiff, exists_eq', implies_true, exists_true_left, tys0, tys1, und0, und1, md42, Tryz.ntmps42, Tryz.results42]
  refine call_ret (parts_call a b) rfl rfl ?_
  simp only [q0, q1, q2, q3, q4, q5, q6, q7, q8, q9, zr0, zr1, zr2, zr3, zq0, zq1, zq2, zq3, zq4, Nat.reduceAdd, Nat.reduceSub, lenA, convA, indexA, flatP, nilI, ifaA, indexS, Int.reduceToNat, cond_true, cond_false, ↓reduceIte, reduceCtorEq, Nat.reduceLT, Nat.reduceLeDiff, Nat.reduceMul, Nat.reduceEqDiff, exists_eq', implies_true, exists_true_left, tys0, tys1, und0, und1, md42, Tryz.ntmps42, Tryz.results42]
  exact PostR.pure ⟨rfl, rfl⟩ rfl
theorem scale_call (a b y : Nat) : CallA Tryz.prog 14 [.cpx .f32 a b, .flt .f32 y] [] (Ret (.cpx .f32 (fmul .f32 a y) (fmul .f32 b y)) []) := by
  refine CallP.out (t := .mk) (go_in (md := md14) mixed Tryz.func14 rfl go14 (by kernel_rfl) ?_)
  simp only [q0, q1, q2, q3, q4, q5, q6, q7, q8, q9, zr0, zr1, zr2, zr3, zq0, zq1, zq2, zq3, zq4, Nat.reduceAdd, Nat.reduceSub, lenA, convA, indexA, flatP, nilI, ifaA, indexS, Int.reduceToNat, cond_true, cond_false, ↓reduceIte, reduceCtorEq, Nat.reduceLT, Nat.reduceLeDiff, Nat.reduceMul, Nat.reduceEqDiff, exists_eq', implies_true, exists_true_left, tys0, tys1, und0, und1, md14, Tryz.ntmps14, Tryz.results14]
  exact PostR.pure ⟨rfl, rfl⟩ rfl
def nok (x : Nat) : Prop := fconvOk .f32 .f64 x
def mulOk (x y : Nat × Nat) : Prop := nok (wmR (wid x.1) (wid x.2) (wid y.1) (wid y.2)) ∧ nok (wmI (wid x.1) (wid x.2) (wid y.1) (wid y.2))
def quoOk (x y : Nat × Nat) : Prop := nok (fdiv .f64 (wmR (wid x.1) (wid x.2) (wid y.1) (fneg .f64 (wid y.2))) (powW y.1 y.2)) ∧ nok (fdiv .f64 (wmI (wid x.1) (wid x.2) (wid y.1) (fneg .f64 (wid y.2))) (powW y.1 y.2))
theorem quotientOf_call (a b c d : Nat) (h : quoOk (a, b) (c, d)) : CallA Tryz.prog 13 [.cpx .f32 a b, .cpx .f32 c d] [] (Ret (cpx (quoP (a, b) (c, d))) []) := by
  refine CallP.out (t := .mk) (go_in (md := md13) mixed Tryz.func13 rfl go13 (by kernel_rfl) ?_)
  simp only [q0, q1, q2, q3, q4, q5, q6, q7, q8, q9, zr0, zr1, zr2, zr3, zq0, zq1, zq2, zq3, zq4, Nat.reduceAdd, Nat.reduceSub, lenA, convA, indexA, flatP, nilI, ifaA, indexS, Int.reduceToNat, cond_true, cond_false, ↓reduceIte, reduceCtorEq, Nat.reduceLT, Nat.reduceLeDiff, Nat.reduceMul, Nat.reduceEqDiff, exists_eq', implies_true, exists_true_left, tys0, tys1, und0, und1, md13, Tryz.ntmps13, Tryz.results13]
  refine call_ret (parts_call a b) rfl rfl ?_
  simp only [q0, q1, q2, q3, q4, q5, q6, q7, q8, q9, zr0, zr1, zr2, zr3, zq0, zq1, zq2, zq3, zq4, Nat.reduceAdd, Nat.reduceSub, lenA, convA, indexA, flatP, nilI, ifaA, indexS, Int.reduceToNat, cond_true, cond_false, ↓reduceIte, reduceCtorEq, Nat.reduceLT, Nat.reduceLeDiff, Nat.reduceMul, Nat.reduceEqDiff, exists_eq', implies_true, exists_true_left, tys0, tys1, und0, und1, md13, Tryz.ntmps13, Tryz.results13]
  refine call_ret (parts_call c d) rfl rfl ?_
  simp only [q0, q1, q2, q3, q4, q5, q6, q7, q8, q9, zr0, zr1, zr2, zr3, zq0, zq1, zq2, zq3, zq4, Nat.reduceAdd, Nat.reduceSub, lenA, convA, indexA, flatP, nilI, ifaA, indexS, Int.reduceToNat, cond_true, cond_false, ↓reduceIte, reduceCtorEq, Nat.reduceLT, Nat.reduceLeDiff, Nat.reduceMul, Nat.reduceEqDiff, exists_eq', implies_true, exists_true_left, tys0, tys1, und0, und1, md13, Tryz.ntmps13, Tryz.results13]
  refine call_ret (multiplied_call _ _ _ _) rfl rfl ?_
  simp only [q0, q1, q2, q3, q4, q5, q6, q7, q8, q9, zr0, zr1, zr2, zr3, zq0, zq1, zq2, zq3, zq4, Nat.reduceAdd, Nat.reduceSub, lenA, convA, indexA, flatP, nilI, ifaA, indexS, Int.reduceToNat, cond_true, cond_false, ↓reduceIte, reduceCtorEq, Nat.reduceLT, Nat.reduceLeDiff, Nat.reduceMul, Nat.reduceEqDiff, exists_eq', implies_true, exists_true_left, tys0, tys1, und0, und1, md13, Tryz.ntmps13, Tryz.results13]
  refine call_ret (power_call c d) rfl rfl ?_
  simp only [q0, q1, q2, q3, q4, q5, q6, q7, q8, q9, zr0, zr1, zr2, zr3, zq0, zq1, zq2, zq3, zq4, Nat.reduceAdd, Nat.reduceSub, lenA, convA, indexA, flatP, nilI, ifaA, indexS, Int.reduceToNat, cond_true, cond_false, ↓reduceIte, reduceCtorEq, Nat.reduceLT, Nat.reduceLeDiff, Nat.reduceMul, Nat.reduceEqDiff, exists_eq', implies_true, exists_true_left, tys0, tys1, und0, und1, md13, Tryz.ntmps13, Tryz.results13]
  refine ⟨h.1, ?_⟩
  refine call_ret (power_call c d) rfl rfl ?_
  simp only [q0, q1, q2, q3, q4, q5, q6, q7, q8, q9, zr0, zr1, zr2, zr3, zq0, zq1, zq2, zq3, zq4, Nat.reduceAdd, Nat.reduceSub, lenA, convA, indexA, flatP, nilI, ifaA, indexS, Int.reduceToNat, cond_true, cond_false, ↓reduceIte, reduceCtorEq, Nat.reduceLT, Nat.reduceLeDiff, Nat.reduceMul, Nat.reduceEqDiff, exists_eq', implies_true, exists_true_left, tys0, tys1, und0, und1, md13, Tryz.ntmps13, Tryz.results13]
  refine ⟨h.2, ?_⟩
  exact PostR.pure ⟨rfl, rfl⟩ rfl
theorem mulComplex_call (a b c d : Nat) (h : mulOk (a, b) (c, d)) : CallA Tryz.prog 7 [.cpx .f32 a b, .cpx .f32 c d] [] (Ret (cpx (mulP (a, b) (c, d))) []) := by
  refine CallP.out (t := .mk) (go_in (md := md7) mixed Tryz.func7 rfl go7 (by kernel_rfl) ?_)
  simp only [q0, q1, q2, q3, q4, q5, q6, q7, q8, q9, zr0, zr1, zr2, zr3, zq0, zq1, zq2, zq3, zq4, Nat.reduceAdd, Nat.reduceSub, lenA, convA, indexA, flatP, nilI, ifaA, indexS, Int.reduceToNat, cond_true, cond_false, ↓reduceIte, reduceCtorEq, Nat.reduceLT, Nat.reduceLeDiff, Nat.reduceMul, Nat.reduceEqDiff, exists_eq', implies_true, exists_true_left, tys0, tys1, und0, und1, md7, Tryz.ntmps7, Tryz.results7]
  refine call_ret (parts_call a b) rfl rfl ?_
  simp only [q0, q1, q2, q3, q4, q5, q6, q7, q8, q9, zr0, zr1, zr2, zr3, zq0, zq1, zq2, zq3, zq4, Nat.reduceAdd, Nat.reduceSub, lenA, convA, indexA, flatP, nilI, ifaA, indexS, Int.reduceToNat, cond_true, cond_false, ↓reduceIte, reduceCtorEq, Nat.reduceLT, Nat.reduceLeDiff, Nat.reduceMul, Nat.reduceEqDiff, exists_eq', implies_true, exists_true_left, tys0, tys1, und0, und1, md7, Tryz.ntmps7, Tryz.results7]
  refine call_ret (parts_call c d) rfl rfl ?_
  simp only [q0, q1, q2, q3, q4, q5, q6, q7, q8, q9, zr0, zr1, zr2, zr3, zq0, zq1, zq2, zq3, zq4, Nat.reduceAdd, Nat.reduceSub, lenA, convA, indexA, flatP, nilI, ifaA, indexS, Int.reduceToNat, cond_true, cond_false, ↓reduceIte, reduceCtorEq, Nat.reduceLT, Nat.reduceLeDiff, Nat.reduceMul, Nat.reduceEqDiff, exists_eq', implies_true, exists_true_left, tys0, tys1, und0, und1, md7, Tryz.ntmps7, Tryz.results7]
  refine call_ret (multiplied_call _ _ _ _) rfl rfl ?_
  simp only [q0, q1, q2, q3, q4, q5, q6, q7, q8, q9, zr0, zr1, zr2, zr3, zq0, zq1, zq2, zq3, zq4, Nat.reduceAdd, Nat.reduceSub, lenA, convA, indexA, flatP, nilI, ifaA, indexS, Int.reduceToNat, cond_true, cond_false, ↓reduceIte, reduceCtorEq, Nat.reduceLT, Nat.reduceLeDiff, Nat.reduceMul, Nat.reduceEqDiff, exists_eq', implies_true, exists_true_left, tys0, tys1, und0, und1, md7, Tryz.ntmps7, Tryz.results7]
  refine ⟨h.1, h.2, ?_⟩
  exact PostR.pure ⟨rfl, rfl⟩ rfl
theorem l01Narrow_call (x : Nat) (h : nok x) : CallA Tryz.prog 72 [.flt .f64 x] [] (Ret (.flt .f32 (nrw x)) []) := by
  refine CallP.out (t := .mk) (go_in (md := md72) mixed Tryz.func72 rfl go72 (by kernel_rfl) ?_)
  simp only [q0, q1, q2, q3, q4, q5, q6, q7, q8, q9, zr0, zr1, zr2, zr3, zq0, zq1, zq2, zq3, zq4, Nat.reduceAdd, Nat.reduceSub, lenA, convA, indexA, flatP, nilI, ifaA, indexS, Int.reduceToNat, cond_true, cond_false, ↓reduceIte, reduceCtorEq, Nat.reduceLT, Nat.reduceLeDiff, Nat.reduceMul, Nat.reduceEqDiff, exists_eq', implies_true, exists_true_left, tys0, tys1, und0, und1, md72, Tryz.ntmps72, Tryz.results72]
  refine ⟨h, ?_⟩
  exact PostR.pure ⟨rfl, rfl⟩ rfl
theorem powerOf_call (a b : Nat) (h : nok (powW a b)) : CallA Tryz.prog 8 [.cpx .f32 a b] [] (Ret (.flt .f32 (nrw (powW a b))) []) := by
  refine CallP.out (t := .mk) (go_in (md := md8) mixed Tryz.func8 rfl go8 (by kernel_rfl) ?_)
  simp only [q0, q1, q2, q3, q4, q5, q6, q7, q8, q9, zr0, zr1, zr2, zr3, zq0, zq1, zq2, zq3, zq4, Nat.reduceAdd, Nat.reduceSub, lenA, convA, indexA, flatP, nilI, ifaA, indexS, Int.reduceToNat, cond_true, cond_false, ↓reduceIte, reduceCtorEq, Nat.reduceLT, Nat.reduceLeDiff, Nat.reduceMul, Nat.reduceEqDiff, exists_eq', implies_true, exists_true_left, tys0, tys1, und0, und1, md8, Tryz.ntmps8, Tryz.results8]
  refine call_ret (power_call a b) rfl rfl ?_
  simp only [q0, q1, q2, q3, q4, q5, q6, q7, q8, q9, zr0, zr1, zr2, zr3, zq0, zq1, zq2, zq3, zq4, Nat.reduceAdd, Nat.reduceSub, lenA, convA, indexA, flatP, nilI, ifaA, indexS, Int.reduceToNat, cond_true, cond_false, ↓reduceIte, reduceCtorEq, Nat.reduceLT, Nat.reduceLeDiff, Nat.reduceMul, Nat.reduceEqDiff, exists_eq', implies_true, exists_true_left, tys0, tys1, und0, und1, md8, Tryz.ntmps8, Tryz.results8]
  refine ⟨h, ?_⟩
  exact PostR.pure ⟨rfl, rfl⟩ rfl
theorem conj_call (a b : Nat) : CallA Tryz.prog 9 [.cpx .f32 a b] [] (Ret (.cpx .f32 a (fneg .f32 b)) []) := by
  refine CallP.out (t := .mk) (go_in (md := md9) mixed Tryz.func9 rfl go9 (by kernel_rfl) ?_)
  simp only [q0, q1, q2, q3, q4, q5, q6, q7, q8, q9, zr0, zr1, zr2, zr3, zq0, zq1, zq2, zq3, zq4, Nat.reduceAdd, Nat.reduceSub, lenA, convA, indexA, flatP, nilI, ifaA, indexS, Int.reduceToNat, cond_true, cond_false, ↓reduceIte, reduceCtorEq, Nat.reduceLT, Nat.reduceLeDiff, Nat.reduceMul, Nat.reduceEqDiff, exists_eq', implies_true, exists_true_left, tys0, tys1, und0, und1, md9, Tryz.ntmps9, Tryz.results9]
  exact PostR.pure ⟨rfl, rfl⟩ rfl
def rootOk (x : Nat) : Prop := finB .f64 x = true ∧ 0 ≤ fval .f64 x ∧ fval .f64 x ≤ p2 20
theorem root_nok {x : Nat} (h : rootOk x) : nok (sqF x) := by
  obtain ⟨v, r, v0, v1⟩ := sqF_rn h.1 h.2.1 h.2.2
  refine (narrow_rn r.fin ?_).1
  have hB : ab (fval .f64 (sqF x)) ≤ p2 120 := r.bound (rep_p2 .f64 (by decide)) (by rw [ab_of v0]; exact v1)
  have h6 : p2 121 = p2 120 * 2 := p2_add 120 1
  have h7 := p2_pos 120
  have h8 := p2_mono (show (121 : Int) ≤ 127 by decide)
  grind
theorem longOf_call (a b : Nat) (h : rootOk (powW a b)) : CallA Tryz.prog 11 [.cpx .f32 a b] [] (Ret (.flt .f32 (nrw (sqF (powW a b)))) []) := by
  refine CallP.out (t := .mk) (go_in (md := md11) mixed Tryz.func11 rfl go11 (by kernel_rfl) ?_)
  simp only [q0, q1, q2, q3, q4, q5, q6, q7, q8, q9, zr0, zr1, zr2, zr3, zq0, zq1, zq2, zq3, zq4, Nat.reduceAdd, Nat.reduceSub, lenA, convA, indexA, flatP, nilI, ifaA, indexS, Int.reduceToNat, cond_true, cond_false, ↓reduceIte, reduceCtorEq, Nat.reduceLT, Nat.reduceLeDiff, Nat.reduceMul, Nat.reduceEqDiff, exists_eq', implies_true, exists_true_left, tys0, tys1, und0, und1, md11, Tryz.ntmps11, Tryz.results11]
  refine call_ret (power_call a b) rfl rfl ?_
  simp only [q0, q1, q2, q3, q4, q5, q6, q7, q8, q9, zr0, zr1, zr2, zr3, zq0, zq1, zq2, zq3, zq4, Nat.reduceAdd, Nat.reduceSub, lenA, convA, indexA, flatP, nilI, ifaA, indexS, Int.reduceToNat, cond_true, cond_false, ↓reduceIte, reduceCtorEq, Nat.reduceLT, Nat.reduceLeDiff, Nat.reduceMul, Nat.reduceEqDiff, exists_eq', implies_true, exists_true_left, tys0, tys1, und0, und1, md11, Tryz.ntmps11, Tryz.results11]
  refine call_ret (sqrt_call _ h.1 h.2.1 h.2.2) rfl rfl ?_
  simp only [q0, q1, q2, q3, q4, q5, q6, q7, q8, q9, zr0, zr1, zr2, zr3, zq0, zq1, zq2, zq3, zq4, Nat.reduceAdd, Nat.reduceSub, lenA, convA, indexA, flatP, nilI, ifaA, indexS, Int.reduceToNat, cond_true, cond_false, ↓reduceIte, reduceCtorEq, Nat.reduceLT, Nat.reduceLeDiff, Nat.reduceMul, Nat.reduceEqDiff, exists_eq', implies_true, exists_true_left, tys0, tys1, und0, und1, md11, Tryz.ntmps11, Tryz.results11]
  refine ⟨root_nok h, ?_⟩
  exact PostR.pure ⟨rfl, rfl⟩ rfl
theorem rootNumber_call (a : Nat) (h : rootOk (wid a)) : CallA Tryz.prog 12 [.flt .f32 a] [] (Ret (.flt .f32 (nrw (sqF (wid a)))) []) := by
  refine CallP.out (t := .mk) (go_in (md := md12) mixed Tryz.func12 rfl go12 (by kernel_rfl) ?_)
  simp only [q0, q1, q2, q3, q4, q5, q6, q7, q8, q9, zr0, zr1, zr2, zr3, zq0, zq1, zq2, zq3, zq4, Nat.reduceAdd, Nat.reduceSub, lenA, convA, indexA, flatP, nilI, ifaA, indexS, Int.reduceToNat, cond_true, cond_false, ↓reduceIte, reduceCtorEq, Nat.reduceLT, Nat.reduceLeDiff, Nat.reduceMul, Nat.reduceEqDiff, exists_eq', implies_true, exists_true_left, tys0, tys1, und0, und1, md12, Tryz.ntmps12, Tryz.results12]
  refine call_ret (?_ : CallA Tryz.prog 45 [.flt .f32 a] [] (Ret (.flt .f32 (nrw (sqF (wid a)))) [])) rfl rfl ?_
  · refine CallP.out (t := .mk) (go_in (md := md45) mixed Tryz.func45 rfl go45 (by kernel_rfl) ?_)
    simp only [q0, q1, q2, q3, q4, q5, q6, q7, q8, q9, zr0, zr1, zr2, zr3, zq0, zq1, zq2, zq3, zq4, Nat.reduceAdd, Nat.reduceSub, lenA, convA, indexA, flatP, nilI, ifaA, indexS, Int.reduceToNat, cond_true, cond_false, ↓reduceIte, reduceCtorEq, Nat.reduceLT, Nat.reduceLeDiff, Nat.reduceMul, Nat.reduceEqDiff, exists_eq', implies_true, exists_true_left, tys0, tys1, und0, und1, md45, Tryz.ntmps45, Tryz.results45]
    refine call_ret (sqrt_call (wid a) h.1 h.2.1 h.2.2) rfl rfl ?_
    simp only [q0, q1, q2, q3, q4, q5, q6, q7, q8, q9, zr0, zr1, zr2, zr3, zq0, zq1, zq2, zq3, zq4, Nat.reduceAdd, Nat.reduceSub, lenA, convA, indexA, flatP, nilI, ifaA, indexS, Int.reduceToNat, cond_true, cond_false, ↓reduceIte, reduceCtorEq, Nat.reduceLT, Nat.reduceLeDiff, Nat.reduceMul, Nat.reduceEqDiff, exists_eq', implies_true, exists_true_left, tys0, tys1, und0, und1, md45, Tryz.ntmps45, Tryz.results45]
    refine call_ret (l01Narrow_call _ (root_nok h)) rfl rfl ?_
    simp only [q0, q1, q2, q3, q4, q5, q6, q7, q8, q9, zr0, zr1, zr2, zr3, zq0, zq1, zq2, zq3, zq4, Nat.reduceAdd, Nat.reduceSub, lenA, convA, indexA, flatP, nilI, ifaA, indexS, Int.reduceToNat, cond_true, cond_false, ↓reduceIte, reduceCtorEq, Nat.reduceLT, Nat.reduceLeDiff, Nat.reduceMul, Nat.reduceEqDiff, exists_eq', implies_true, exists_true_left, tys0, tys1, und0, und1, md45, Tryz.ntmps45, Tryz.results45]
    exact PostR.pure ⟨rfl, rfl⟩ rfl
  simp only [q0, q1, q2, q3, q4, q5, q6, q7, q8, q9, zr0, zr1, zr2, zr3, zq0, zq1, zq2, zq3, zq4, Nat.reduceAdd, Nat.reduceSub, lenA, convA, indexA, flatP, nilI, ifaA, indexS, Int.reduceToNat, cond_true, cond_false, ↓reduceIte, reduceCtorEq, Nat.reduceLT, Nat.reduceLeDiff, Nat.reduceMul, Nat.reduceEqDiff, exists_eq', implies_true, exists_true_left, tys0, tys1, und0, und1, md12, Tryz.ntmps12, Tryz.results12]
  exact PostR.pure ⟨rfl, rfl⟩ rfl
theorem implCSame_call (a b : Nat) : CallA Tryz.prog 24 [.cpx .f32 a b, .cpx .f32 a b] [] (Ret (.bool true) []) := by
  refine CallP.out (t := .mk) (go_in (md := md24) mixed Tryz.func24 rfl go24 (by kernel_rfl) ?_)
  simp only [q0, q1, q2, q3, q4, q5, q6, q7, q8, q9, zr0, zr1, zr2, zr3, zq0, zq1, zq2, zq3, zq4, Nat.reduceAdd, Nat.reduceSub, lenA, convA, indexA, flatP, nilI, ifaA, indexS, Int.reduceToNat, cond_true, cond_false, ↓reduceIte, reduceCtorEq, Nat.reduceLT, Nat.reduceLeDiff, Nat.reduceMul, Nat.reduceEqDiff, exists_eq', implies_true, exists_true_left, tys0, tys1, und0, und1, md24, Tryz.ntmps24, Tryz.results24]
  refine call_ret (sameNumber_call a a) rfl rfl ?_
  rw [beq_self_eq_true]
  simp only [q0, q1, q2, q3, q4, q5, q6, q7, q8, q9, zr0, zr1, zr2, zr3, zq0, zq1, zq2, zq3, zq4, Nat.reduceAdd, Nat.reduceSub, lenA, convA, indexA, flatP, nilI, ifaA, indexS, Int.reduceToNat, cond_true, cond_false, ↓reduceIte, reduceCtorEq, Nat.reduceLT, Nat.reduceLeDiff, Nat.reduceMul, Nat.reduceEqDiff, exists_eq', implies_true, exists_true_left, tys0, tys1, und0, und1, md24, Tryz.ntmps24, Tryz.results24]
  refine call_ret (sameNumber_call b b) rfl rfl ?_
  rw [beq_self_eq_true]
  simp only [q0, q1, q2, q3, q4, q5, q6, q7, q8, q9, zr0, zr1, zr2, zr3, zq0, zq1, zq2, zq3, zq4, Nat.reduceAdd, Nat.reduceSub, lenA, convA, indexA, flatP, nilI, ifaA, indexS, Int.reduceToNat, cond_true, cond_false, ↓reduceIte, reduceCtorEq, Nat.reduceLT, Nat.reduceLeDiff, Nat.reduceMul, Nat.reduceEqDiff, exists_eq', implies_true, exists_true_left, tys0, tys1, und0, und1, md24, Tryz.ntmps24, Tryz.results24]
  exact PostR.pure ⟨rfl, rfl⟩ rfl
theorem specCSame_call (a b : Nat) : CallA Tryz.prog 59 [.cpx .f32 a b, .cpx .f32 a b] [] (Ret (.bool true) []) := by
  refine CallP.out (t := .mk) (go_in (md := md59) mixed Tryz.func59 rfl go59 (by kernel_rfl) ?_)
  simp only [q0, q1, q2, q3, q4, q5, q6, q7, q8, q9, zr0, zr1, zr2, zr3, zq0, zq1, zq2, zq3, zq4, Nat.reduceAdd, Nat.reduceSub, lenA, convA, indexA, flatP, nilI, ifaA, indexS, Int.reduceToNat, cond_true, cond_false, ↓reduceIte, reduceCtorEq, Nat.reduceLT, Nat.reduceLeDiff, Nat.reduceMul, Nat.reduceEqDiff, exists_eq', implies_true, exists_true_left, tys0, tys1, und0, und1, md59, Tryz.ntmps59, Tryz.results59]
  refine call_ret (?_ : CallA Tryz.prog 80 [.cpx .f32 a b, .cpx .f32 a b] [] (Ret (.bool true) [])) rfl rfl ?_
  · refine CallP.out (t := .mk) (go_in (md := md80) mixed Tryz.func80 rfl go80 (by kernel_rfl) ?_)
    simp only [q0, q1, q2, q3, q4, q5, q6, q7, q8, q9, zr0, zr1, zr2, zr3, zq0, zq1, zq2, zq3, zq4, Nat.reduceAdd, Nat.reduceSub, lenA, convA, indexA, flatP, nilI, ifaA, indexS, Int.reduceToNat, cond_true, cond_false, ↓reduceIte, reduceCtorEq, Nat.reduceLT, Nat.reduceLeDiff, Nat.reduceMul, Nat.reduceEqDiff, exists_eq', implies_true, exists_true_left, tys0, tys1, und0, und1, md80, Tryz.ntmps80, Tryz.results80]
    refine call_ret (l01Same_call a a) rfl rfl ?_
    rw [beq_self_eq_true]
    simp only [q0, q1, q2, q3, q4, q5, q6, q7, q8, q9, zr0, zr1, zr2, zr3, zq0, zq1, zq2, zq3, zq4, Nat.reduceAdd, Nat.reduceSub, lenA, convA, indexA, flatP, nilI, ifaA, indexS, Int.reduceToNat, cond_true, cond_false, ↓reduceIte, reduceCtorEq, Nat.reduceLT, Nat.reduceLeDiff, Nat.reduceMul, Nat.reduceEqDiff, exists_eq', implies_true, exists_true_left, tys0, tys1, und0, und1, md80, Tryz.ntmps80, Tryz.results80]
    refine call_ret (l01Same_call b b) rfl rfl ?_
    rw [beq_self_eq_true]
    simp only [q0, q1, q2, q3, q4, q5, q6, q7, q8, q9, zr0, zr1, zr2, zr3, zq0, zq1, zq2, zq3, zq4, Nat.reduceAdd, Nat.reduceSub, lenA, convA, indexA, flatP, nilI, ifaA, indexS, Int.reduceToNat, cond_true, cond_false, ↓reduceIte, reduceCtorEq, Nat.reduceLT, Nat.reduceLeDiff, Nat.reduceMul, Nat.reduceEqDiff, exists_eq', implies_true, exists_true_left, tys0, tys1, und0, und1, md80, Tryz.ntmps80, Tryz.results80]
    exact PostR.pure ⟨rfl, rfl⟩ rfl
  simp only [q0, q1, q2, q3, q4, q5, q6, q7, q8, q9, zr0, zr1, zr2, zr3, zq0, zq1, zq2, zq3, zq4, Nat.reduceAdd, Nat.reduceSub, lenA, convA, indexA, flatP, nilI, ifaA, indexS, Int.reduceToNat, cond_true, cond_false, ↓reduceIte, reduceCtorEq, Nat.reduceLT, Nat.reduceLeDiff, Nat.reduceMul, Nat.reduceEqDiff, exists_eq', implies_true, exists_true_left, tys0, tys1, und0, und1, md59, Tryz.ntmps59, Tryz.results59]
  exact PostR.pure ⟨rfl, rfl⟩ rfl
theorem narrowC_call (a b : Nat) (h : nok a) (h2 : nok b) : CallA Tryz.prog 25 [.cpx .f64 a b] [] (Ret (.cpx .f32 (nrw a) (nrw b)) []) := by
  refine CallP.out (t := .mk) (go_in (md := md25) mixed Tryz.func25 rfl go25 (by kernel_rfl) ?_)
  simp only [q0, q1, q2, q3, q4, q5, q6, q7, q8, q9, zr0, zr1, zr2, zr3, zq0, zq1, zq2, zq3, zq4, Nat.reduceAdd, Nat.reduceSub, lenA, convA, indexA, flatP, nilI, ifaA, indexS, Int.reduceToNat, cond_true, cond_false, ↓reduceIte, reduceCtorEq, Nat.reduceLT, Nat.reduceLeDiff, Nat.reduceMul, Nat.reduceEqDiff, exists_eq', implies_true, exists_true_left, tys0, tys1, und0, und1, md25, Tryz.ntmps25, Tryz.results25]
  refine ⟨h, h2, ?_⟩
  exact PostR.pure ⟨rfl, rfl⟩ rfl
theorem b10Same_call (l : List (Nat × Nat)) (hl : l.length ≤ 1000) : CallA Tryz.prog 23 [.ro (cpxs l), .ro (cpxs l)] [] (Ret (.bool true) []) := by
  refine CallP.out (t := .mk) (go_in (md := md23) mixed Tryz.func23 rfl go23 (by kernel_rfl) ?_)
  simp only [q0, q1, q2, q3, q4, q5, q6, q7, q8, q9, zr0, zr1, zr2, zr3, zq0, zq1, zq2, zq3, zq4, Nat.reduceAdd, Nat.reduceSub, lenA, convA, indexA, flatP, nilI, ifaA, indexS, Int.reduceToNat, cond_true, cond_false, ↓reduceIte, reduceCtorEq, Nat.reduceLT, Nat.reduceLeDiff, Nat.reduceMul, Nat.reduceEqDiff, exists_eq', implies_true, exists_true_left, tys0, tys1, und0, und1, md23, Tryz.ntmps23, Tryz.results23, cpxs_len, bne_self_eq_false]
  refine go_round (md := md23) mixed (by kernel_rfl) (fun k : {k : Nat // k ≤ l.length} => ⟨[.ro (cpxs l), .ro (cpxs l), .any, .any, .any, .any, .any, .any, .any, .any, .any, .any, .int .i64 l.length, .int .i64 k.1, .any, .any, .any, .any, .any, .any, .any, .any, .any, .any, .any, .any, .any], []⟩) (fun k => l.length - k.1) ⟨0, Nat.zero_le _⟩ ?_ ?_
  · exact weak_drop (by simp) (by simp [DropHp, ints_below, flts_below]) (by simp [DropTm, DropV, below, belowM, belowL])
  rintro ⟨k, hk⟩
  simp only [q0, q1, q2, q3, q4, q5, q6, q7, q8, q9, zr0, zr1, zr2, zr3, zq0, zq1, zq2, zq3, zq4, Nat.reduceAdd, Nat.reduceSub, lenA, convA, indexA, flatP, nilI, ifaA, indexS, Int.reduceToNat, cond_true, cond_false, ↓reduceIte, reduceCtorEq, Nat.reduceLT, Nat.reduceLeDiff, Nat.reduceMul, Nat.reduceEqDiff, exists_eq', implies_true, exists_true_left, tys0, tys1, und0, und1, md23, Tryz.ntmps23, Tryz.results23, cpxs_len]
  refine br_intro (fun h => ?_) (fun h => ?_) <;> simp only [q0, q1, q2, q3, q4, q5, q6, q7, q8, q9, zr0, zr1, zr2, zr3, zq0, zq1, zq2, zq3, zq4, Nat.reduceAdd, Nat.reduceSub, lenA, convA, indexA, flatP, nilI, ifaA, indexS, Int.reduceToNat, cond_true, cond_false, ↓reduceIte, reduceCtorEq, Nat.reduceLT, Nat.reduceLeDiff, Nat.reduceMul, Nat.reduceEqDiff, exists_eq', implies_true, exists_true_left, tys0, tys1, und0, und1, md23, Tryz.ntmps23, Tryz.results23, cpxs_len]
  · have hk' : k < l.length := by have := of_decide_eq_true h; omega
    have hc : k < (cpxs l).length := by rw [cpxs_len]; exact hk'
    have hI : (k : Int) < (l.length : Int) := by omega
    simp only [q0, q1, q2, q3, q4, q5, q6, q7, q8, q9, zr0, zr1, zr2, zr3, zq0, zq1, zq2, zq3, zq4, Nat.reduceAdd, Nat.reduceSub, lenA, convA, indexA, flatP, nilI, ifaA, indexS, Int.reduceToNat, cond_true, cond_false, ↓reduceIte, reduceCtorEq, Nat.reduceLT, Nat.reduceLeDiff, Nat.reduceMul, Nat.reduceEqDiff, exists_eq', implies_true, exists_true_left, tys0, tys1, und0, und1, md23, Tryz.ntmps23, Tryz.results23, cpxs_len, hk', hI, hc, cpxs_get]
    refine callr_ret (specCSame_call _ _) rfl rfl ?_
    simp only [q0, q1, q2, q3, q4, q5, q6, q7, q8, q9, zr0, zr1, zr2, zr3, zq0, zq1, zq2, zq3, zq4, Nat.reduceAdd, Nat.reduceSub, lenA, convA, indexA, flatP, nilI, ifaA, indexS, Int.reduceToNat, cond_true, cond_false, ↓reduceIte, reduceCtorEq, Nat.reduceLT, Nat.reduceLeDiff, Nat.reduceMul, Nat.reduceEqDiff, exists_eq', implies_true, exists_true_left, tys0, tys1, und0, und1, md23, Tryz.ntmps23, Tryz.results23, cpxs_len]
    refine ⟨⟨k + 1, by omega⟩, by show l.length - (k + 1) < l.length - k; omega, ?_⟩
    exact weak_drop (by simp) (by simp [DropHp, ints_below, flts_below, w64_succ k (by omega)]) (by simp [DropTm, DropV, below, belowM, belowL, w64_succ k (by omega)])
  · exact PostR.pure ⟨rfl, rfl⟩ rfl
theorem l01Finite_call (x : Nat) : CallA Tryz.prog 62 [.flt .f32 x] [] (Ret (.bool (finB .f32 x)) []) := by
  refine CallP.out (t := .mk) (go_in (md := md62) mixed Tryz.func62 rfl go62 (by kernel_rfl) ?_)
  simp only [q0, q1, q2, q3, q4, q5, q6, q7, q8, q9, zr0, zr1, zr2, zr3, zq0, zq1, zq2, zq3, zq4, Nat.reduceAdd, Nat.reduceSub, lenA, convA, indexA, flatP, nilI, ifaA, indexS, Int.reduceToNat, cond_true, cond_false, ↓reduceIte, reduceCtorEq, Nat.reduceLT, Nat.reduceLeDiff, Nat.reduceMul, Nat.reduceEqDiff, exists_eq', implies_true, exists_true_left, tys0, tys1, und0, und1, md62, Tryz.ntmps62, Tryz.results62, canon_zero, feq_sub_self]
  exact PostR.pure ⟨rfl, rfl⟩ rfl
theorem specFinite_call (x : Nat) : CallA Tryz.prog 27 [.flt .f32 x] [] (Ret (.bool (finB .f32 x)) []) := by
  refine CallP.out (t := .mk) (go_in (md := md27) mixed Tryz.func27 rfl go27 (by kernel_rfl) ?_)
  simp only [q0, q1, q2, q3, q4, q5, q6, q7, q8, q9, zr0, zr1, zr2, zr3, zq0, zq1, zq2, zq3, zq4, Nat.reduceAdd, Nat.reduceSub, lenA, convA, indexA, flatP, nilI, ifaA, indexS, Int.reduceToNat, cond_true, cond_false, ↓reduceIte, reduceCtorEq, Nat.reduceLT, Nat.reduceLeDiff, Nat.reduceMul, Nat.reduceEqDiff, exists_eq', implies_true, exists_true_left, tys0, tys1, und0, und1, md27, Tryz.ntmps27, Tryz.results27]
  refine call_ret (l01Finite_call x) rfl rfl ?_
  simp only [q0, q1, q2, q3, q4, q5, q6, q7, q8, q9, zr0, zr1, zr2, zr3, zq0, zq1, zq2, zq3, zq4, Nat.reduceAdd, Nat.reduceSub, lenA, convA, indexA, flatP, nilI, ifaA, indexS, Int.reduceToNat, cond_true, cond_false, ↓reduceIte, reduceCtorEq, Nat.reduceLT, Nat.reduceLeDiff, Nat.reduceMul, Nat.reduceEqDiff, exists_eq', implies_true, exists_true_left, tys0, tys1, und0, und1, md27, Tryz.ntmps27, Tryz.results27]
  exact PostR.pure ⟨rfl, rfl⟩ rfl
theorem mul_exact {a b c d : Int} {x1 x2 y1 y2 : Nat} (ha : Ex .f32 a x1) (hb : Ex .f32 b x2) (hc : Ex .f32 c y1) (hd : Ex .f32 d y2) (h1 : (a * c).natAbs ≤ 8388607) (h2 : (b * d).natAbs ≤ 8388607) (h3 : (a * d).natAbs ≤ 8388607) (h4 : (b * c).natAbs ≤ 8388607) :
    mulOk (x1, x2) (y1, y2) ∧ Ex .f32 (a * c - b * d) (mulP (x1, x2) (y1, y2)).1 ∧ Ex .f32 (a * d + b * c) (mulP (x1, x2) (y1, y2)).2 := by
  have f53 : (2 : Nat) ^ (fb .f64 + 1) = 9007199254740992 := by decide
  have f24 : (2 : Nat) ^ 24 = 16777216 := by decide
  have A := ex_mul (ex_wide ha) (ex_wide hc) (by rw [f53]; omega)
  have B := ex_mul (ex_wide hb) (ex_wide hd) (by rw [f53]; omega)
  have C := ex_mul (ex_wide ha) (ex_wide hd) (by rw [f53]; omega)
  have D := ex_mul (ex_wide hb) (ex_wide hc) (by rw [f53]; omega)
  have R := ex_sub A B (by rw [f53]; omega)
  have I := ex_add C D (by rw [f53]; omega)
  have r := ex_narrow R (by rw [f24]; omega)
  have i := ex_narrow I (by rw [f24]; omega)
  exact ⟨⟨r.1, i.1⟩, r.2, i.2⟩
theorem pow_exact {a b : Int} {x y : Nat} (ha : Ex .f32 a x) (hb : Ex .f32 b y) (h1 : (a * a).natAbs ≤ 8388607) (h2 : (b * b).natAbs ≤ 8388607) : Ex .f64 (a * a + b * b) (powW x y) := by
  have f53 : (2 : Nat) ^ (fb .f64 + 1) = 9007199254740992 := by decide
  exact ex_add (ex_mul (ex_wide ha) (ex_wide ha) (by rw [f53]; omega)) (ex_mul (ex_wide hb) (ex_wide hb) (by rw [f53]; omega)) (by rw [f53]; omega)
theorem quo_exact {P Q a b c d N : Int} {p1 p2 y1 y2 : Nat} (hp : Ex .f32 P p1) (hq : Ex .f32 Q p2) (hc : Ex .f32 c y1) (hd : Ex .f32 d y2) (hN : N = c * c + d * d) (n0 : N ≠ 0) (e1 : P * c + Q * d = a * N) (e2 : Q * c - P * d = b * N)
    (h1 : (P * c).natAbs ≤ 1073741824) (h2 : (Q * d).natAbs ≤ 1073741824) (h3 : (P * d).natAbs ≤ 1073741824) (h4 : (Q * c).natAbs ≤ 1073741824) (h5 : (c * c).natAbs ≤ 8388607) (h6 : (d * d).natAbs ≤ 8388607) (ba : a.natAbs ≤ 1000000) (bb : b.natAbs ≤ 1000000) :
    quoOk (p1, p2) (y1, y2) ∧ Ex .f32 a (quoP (p1, p2) (y1, y2)).1 ∧ Ex .f32 b (quoP (p1, p2) (y1, y2)).2 := by
  have f53 : (2 : Nat) ^ (fb .f64 + 1) = 9007199254740992 := by decide
  have f24 : (2 : Nat) ^ 24 = 16777216 := by decide
  have W := pow_exact hc hd h5 h6
  rw [← hN] at W
  have nd := ex_neg (ex_wide hd)
  have A := ex_mul (ex_wide hp) (ex_wide hc) (by rw [f53]; omega)
  have B := ex_mul (ex_wide hq) nd (by rw [f53, Int.mul_neg]; omega)
  have C := ex_mul (ex_wide hp) nd (by rw [f53, Int.mul_neg]; omega)
  have D := ex_mul (ex_wide hq) (ex_wide hc) (by rw [f53]; omega)
  have R := ex_sub A B (by rw [f53, Int.mul_neg]; omega)
  have I := ex_add C D (by rw [f53, Int.mul_neg]; omega)
  rw [show P * c - Q * -d = a * N by rw [← e1, Int.mul_neg]; omega] at R
  rw [show P * -d + Q * c = b * N by rw [← e2, Int.mul_neg]; omega] at I
  have r := ex_narrow (ex_div R W n0 (by rw [f53]; omega)) (by rw [f24]; omega)
  have i := ex_narrow (ex_div I W n0 (by rw [f53]; omega)) (by rw [f24]; omega)
  exact ⟨⟨r.1, i.1⟩, r.2, i.2⟩
end Go.Proofs.YtkjabkgmkkcpdaaGreatDoor
