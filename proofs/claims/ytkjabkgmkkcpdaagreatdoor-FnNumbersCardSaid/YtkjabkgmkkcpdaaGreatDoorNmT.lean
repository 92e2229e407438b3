/- Complex numbers: the program and the reference. -/
import Derived.Test.YtkjabkgmkkcpdaaGreatDoorNmR
set_option maxRecDepth 10000
set_option maxHeartbeats 4000000
set_option linter.unusedSimpArgs false
set_option linter.unusedVariables false
namespace Go.Proofs.YtkjabkgmkkcpdaaGreatDoor
open Go Go.Abs
def wid (x : Nat) : Nat := fconv .f64 .f32 x
def nrw (x : Nat) : Nat := fconv .f32 .f64 x
def cpx (x : Nat × Nat) : AV := .cpx .f32 x.1 x.2
def nok (x : Nat) : Prop := fconvOk .f32 .f64 x
theorem specSame_call (x y : Nat) : CallA Tryz.prog 10 [.flt .f32 x, .flt .f32 y] [] (Ret (.bool (bitsI x == bitsI y)) []) := by
  refine CallP.out (t := .mk) (go_in (md := md10) mixed Tryz.func10 rfl go10 (by kernel_rfl) ?_)
  simp only [q0, q1, q2, q3, q4, q5, q6, q7, q8, q9, zr0, zr1, zr2, zr3, zq0, zq1, zq2, zq3, zq4, Nat.reduceAdd, Nat.reduceSub, lenA, convA, indexA, flatP, nilI, ifaA, indexS, Int.reduceToNat, cond_true, cond_false, ↓reduceIte, reduceCtorEq, Nat.reduceLT, Nat.reduceLeDiff, Nat.reduceMul, Nat.reduceEqDiff, exists_eq', implies_true, exists_true_left, tys0, tys1, und0, und1, md10, Tryz.ntmps10, Tryz.results10]
  refine call_ret (l01Same_call x y) rfl rfl ?_
  simp only [q0, q1, q2, q3, q4, q5, q6, q7, q8, q9, zr0, zr1, zr2, zr3, zq0, zq1, zq2, zq3, zq4, Nat.reduceAdd, Nat.reduceSub, lenA, convA, indexA, flatP, nilI, ifaA, indexS, Int.reduceToNat, cond_true, cond_false, ↓reduceIte, reduceCtorEq, Nat.reduceLT, Nat.reduceLeDiff, Nat.reduceMul, Nat.reduceEqDiff, exists_eq', implies_true, exists_true_left, tys0, tys1, und0, und1, md10, Tryz.ntmps10, Tryz.results10]
  exact PostR.pure ⟨rfl, rfl⟩ rfl
end Go.Proofs.YtkjabkgmkkcpdaaGreatDoor
