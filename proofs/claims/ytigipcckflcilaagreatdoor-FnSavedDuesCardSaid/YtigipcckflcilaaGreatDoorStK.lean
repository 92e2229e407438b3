/- Storing one and storing all: both sides, the laws. -/
import Derived.Test.YtigipcckflcilaaGreatDoorStJ
import Derived.Test.YtigipcckflcilaaGreatDoorSavH
set_option maxRecDepth 10000
set_option maxHeartbeats 4000000
set_option linter.unusedSimpArgs false
set_option linter.unusedVariables false
namespace Go.Proofs.YtigipcckflcilaaGreatDoor
open Go Go.Abs

def outS (s : Sav) : List UInt8 := if validB s = true then storeT s else []
theorem outS_yes {s : Sav} (h : validB s = true) : outS s = storeT s := by unfold outS; rw [if_pos h]
theorem outS_no {s : Sav} (h : validB s = false) : outS s = [] := by unfold outS; rw [if_neg (by simp [h])]
theorem implStore_call (s : Sav) (h : sizS s ≤ 1048576) : CallA Tryz.prog 9 [savA s] [] (Ret (.tup [.str (outS s), .bool (validB s)]) []) := by
  have vv := validSaved_call s h
  have st := fun v => stored_call s (okS_of v)
  unfold savA at vv st ⊢
  refine CallP.out (t := .mk) (go_in (md := md9) mixed Tryz.func9 rfl go9 (by kernel_rfl) ?_)
  simp only [q0, q1, q2, q3, q4, q5, q6, q7, q8, q9, zr0, zr1, zr2, zr3, zq0, zq1, zq2, zq3, zq4, Nat.reduceAdd, Nat.reduceSub, lenA, convA, indexA, indexS, Int.reduceToNat, cond_true, cond_false, ↓reduceIte, reduceCtorEq, Nat.reduceLT, Nat.reduceLeDiff, Nat.reduceMul, Nat.reduceEqDiff, exists_eq', implies_true, exists_true_left, tys0, tys1, tys2, und0, und1, md9, Tryz.ntmps9, Tryz.results9]
  refine call_ret vv rfl rfl ?_
  simp only [q0, q1, q2, q3, q4, q5, q6, q7, q8, q9, zr0, zr1, zr2, zr3, zq0, zq1, zq2, zq3, zq4, Nat.reduceAdd, Nat.reduceSub, lenA, convA, indexA, indexS, Int.reduceToNat, cond_true, cond_false, ↓reduceIte, reduceCtorEq, Nat.reduceLT, Nat.reduceLeDiff, Nat.reduceMul, Nat.reduceEqDiff, exists_eq', implies_true, exists_true_left, tys0, tys1, tys2, und0, und1, md9, Tryz.ntmps9, Tryz.results9]
  refine br_intro (fun v => ?_) (fun v => ?_) <;> simp only [q0, q1, q2, q3, q4, q5, q6, q7, q8, q9, zr0, zr1, zr2, zr3, zq0, zq1, zq2, zq3, zq4, Nat.reduceAdd, Nat.reduceSub, lenA, convA, indexA, indexS, Int.reduceToNat, cond_true, cond_false, ↓reduceIte, reduceCtorEq, Nat.reduceLT, Nat.reduceLeDiff, Nat.reduceMul, Nat.reduceEqDiff, exists_eq', implies_true, exists_true_left, tys0, tys1, tys2, und0, und1, md9, Tryz.ntmps9, Tryz.results9]
  · refine call_ret (st v) rfl rfl ?_
    simp only [q0, q1, q2, q3, q4, q5, q6, q7, q8, q9, zr0, zr1, zr2, zr3, zq0, zq1, zq2, zq3, zq4, Nat.reduceAdd, Nat.reduceSub, lenA, convA, indexA, indexS, Int.reduceToNat, cond_true, cond_false, ↓reduceIte, reduceCtorEq, Nat.reduceLT, Nat.reduceLeDiff, Nat.reduceMul, Nat.reduceEqDiff, exists_eq', implies_true, exists_true_left, tys0, tys1, tys2, und0, und1, md9, Tryz.ntmps9, Tryz.results9]
    exact PostR.pure ⟨by rw [outS_yes v, v], rfl⟩ rfl
  · exact PostR.pure ⟨by rw [outS_no v, v], rfl⟩ rfl
end Go.Proofs.YtigipcckflcilaaGreatDoor
