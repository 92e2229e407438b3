/- What the laws draw. -/
import Derived.Test.YtkjabkgmkkcpdaaGreatDoorNmO
import Derived.Test.YtkjabkgmkkcpdaaGreatDoorAbsM5
set_option maxRecDepth 10000
set_option maxHeartbeats 4000000
set_option linter.unusedSimpArgs false
set_option linter.unusedVariables false
namespace Go.Proofs.YtkjabkgmkkcpdaaGreatDoor
open Go Go.Abs
theorem number_call (code : List Int) (hc : byteL code) (hl : code.length ≤ 1048576) : CallA Tryz.prog 19 [.ro (kint .u8 code)] [] (fun r hp => ∃ x, okW x ∧ r = .flt .f32 x ∧ hp = []) := by
  refine CallP.out (t := .mk) (go_in (md := md19) mixed Tryz.func19 rfl go19 (by kernel_rfl) ?_)
  simp only [q0, q1, q2, q3, q4, q5, q6, q7, q8, q9, zr0, zr1, zr2, zr3, zq0, zq1, zq2, zq3, zq4, Nat.reduceAdd, Nat.reduceSub, lenA, convA, indexA, flatP, nilI, ifaA, indexS, Int.reduceToNat, cond_true, cond_false, ↓reduceIte, reduceCtorEq, Nat.reduceLT, Nat.reduceLeDiff, Nat.reduceMul, Nat.reduceEqDiff, exists_eq', implies_true, exists_true_left, tys0, tys1, und0, und1, md19, Tryz.ntmps19, Tryz.results19]
  refine call_new (l00From_call code) rfl (by intro q hq; rw [List.mem_singleton.1 hq]; rfl) ?_
  simp only [q0, q1, q2, q3, q4, q5, q6, q7, q8, q9, zr0, zr1, zr2, zr3, zq0, zq1, zq2, zq3, zq4, Nat.reduceAdd, Nat.reduceSub, lenA, convA, indexA, flatP, nilI, ifaA, indexS, Int.reduceToNat, cond_true, cond_false, ↓reduceIte, reduceCtorEq, Nat.reduceLT, Nat.reduceLeDiff, Nat.reduceMul, Nat.reduceEqDiff, exists_eq', implies_true, exists_true_left, tys0, tys1, und0, und1, md19, Tryz.ntmps19, Tryz.results19, ren, renM, renL]
  refine one_at hc hl (by omega) (by omega) (by omega) fun b a1 sd1 ha1 => ?_
  cases b
  · simp only [q0, q1, q2, q3, q4, q5, q6, q7, q8, q9, zr0, zr1, zr2, zr3, zq0, zq1, zq2, zq3, zq4, Nat.reduceAdd, Nat.reduceSub, lenA, convA, indexA, flatP, nilI, ifaA, indexS, Int.reduceToNat, cond_true, cond_false, ↓reduceIte, reduceCtorEq, Nat.reduceLT, Nat.reduceLeDiff, Nat.reduceMul, Nat.reduceEqDiff, exists_eq', implies_true, exists_true_left, tys0, tys1, und0, und1, md19, Tryz.ntmps19, Tryz.results19]
    refine float_at hc hl (by omega) fun x a2 sd2 hx ha2 => ?_
    simp only [q0, q1, q2, q3, q4, q5, q6, q7, q8, q9, zr0, zr1, zr2, zr3, zq0, zq1, zq2, zq3, zq4, Nat.reduceAdd, Nat.reduceSub, lenA, convA, indexA, flatP, nilI, ifaA, indexS, Int.reduceToNat, cond_true, cond_false, ↓reduceIte, reduceCtorEq, Nat.reduceLT, Nat.reduceLeDiff, Nat.reduceMul, Nat.reduceEqDiff, exists_eq', implies_true, exists_true_left, tys0, tys1, und0, und1, md19, Tryz.ntmps19, Tryz.results19]
    exact PostR.pure ⟨x, hx, rfl, rfl⟩ rfl
  · simp only [q0, q1, q2, q3, q4, q5, q6, q7, q8, q9, zr0, zr1, zr2, zr3, zq0, zq1, zq2, zq3, zq4, Nat.reduceAdd, Nat.reduceSub, lenA, convA, indexA, flatP, nilI, ifaA, indexS, Int.reduceToNat, cond_true, cond_false, ↓reduceIte, reduceCtorEq, Nat.reduceLT, Nat.reduceLeDiff, Nat.reduceMul, Nat.reduceEqDiff, exists_eq', implies_true, exists_true_left, tys0, tys1, und0, und1, md19, Tryz.ntmps19, Tryz.results19]
    refine pick_at hc hl (by omega) (by omega) (by omega) fun x a3 sd3 hx ha3 => ?_
    simp only [q0, q1, q2, q3, q4, q5, q6, q7, q8, q9, zr0, zr1, zr2, zr3, zq0, zq1, zq2, zq3, zq4, Nat.reduceAdd, Nat.reduceSub, lenA, convA, indexA, flatP, nilI, ifaA, indexS, Int.reduceToNat, cond_true, cond_false, ↓reduceIte, reduceCtorEq, Nat.reduceLT, Nat.reduceLeDiff, Nat.reduceMul, Nat.reduceEqDiff, exists_eq', implies_true, exists_true_left, tys0, tys1, und0, und1, md19, Tryz.ntmps19, Tryz.results19]
    refine pick_at hc hl (by omega) (by omega) (by omega) fun y a4 sd4 hy ha4 => ?_
    have w1 : IntKind.i64.wrap (x * 65536) = x * 65536 := w64 (by omega) (by omega)
    have w2 : IntKind.i64.wrap (x * 65536 + y) = x * 65536 + y := w64 (by omega) (by omega)
    simp only [q0, q1, q2, q3, q4, q5, q6, q7, q8, q9, zr0, zr1, zr2, zr3, zq0, zq1, zq2, zq3, zq4, Nat.reduceAdd, Nat.reduceSub, lenA, convA, indexA, flatP, nilI, ifaA, indexS, Int.reduceToNat, cond_true, cond_false, ↓reduceIte, reduceCtorEq, Nat.reduceLT, Nat.reduceLeDiff, Nat.reduceMul, Nat.reduceEqDiff, exists_eq', implies_true, exists_true_left, tys0, tys1, und0, und1, md19, Tryz.ntmps19, Tryz.results19, w1, w2]
    refine from_at (by omega) (by omega) fun z hz => ?_
    simp only [q0, q1, q2, q3, q4, q5, q6, q7, q8, q9, zr0, zr1, zr2, zr3, zq0, zq1, zq2, zq3, zq4, Nat.reduceAdd, Nat.reduceSub, lenA, convA, indexA, flatP, nilI, ifaA, indexS, Int.reduceToNat, cond_true, cond_false, ↓reduceIte, reduceCtorEq, Nat.reduceLT, Nat.reduceLeDiff, Nat.reduceMul, Nat.reduceEqDiff, exists_eq', implies_true, exists_true_left, tys0, tys1, und0, und1, md19, Tryz.ntmps19, Tryz.results19]
    exact PostR.pure ⟨z, hz, rfl, rfl⟩ rfl
theorem numbers0_call (code : List Int) (hc : byteL code) (hl : code.length ≤ 1048576) (n : Nat) (hn : n ≤ 300) : CallA Tryz.prog 29 [.ro (kint .u8 code), .int .i64 n] [] (fun r hp => ∃ L : List Nat, L.length = n ∧ (∀ x ∈ L, okW x) ∧ r = .sl 0 0 n ∧ hp = [fltB L]) := by
  refine CallP.out (t := .mk) (go_in (md := md29) mixed Tryz.func29 rfl go29 (by kernel_rfl) ?_)
  simp only [q0, q1, q2, q3, q4, q5, q6, q7, q8, q9, zr0, zr1, zr2, zr3, zq0, zq1, zq2, zq3, zq4, Nat.reduceAdd, Nat.reduceSub, lenA, convA, indexA, flatP, nilI, ifaA, indexS, Int.reduceToNat, cond_true, cond_false, ↓reduceIte, reduceCtorEq, Nat.reduceLT, Nat.reduceLeDiff, Nat.reduceMul, Nat.reduceEqDiff, exists_eq', implies_true, exists_true_left, tys0, tys1, und0, und1, md29, Tryz.ntmps29, Tryz.results29]
  refine call_new (l00From_call code) rfl (by intro q hq; rw [List.mem_singleton.1 hq]; rfl) ?_
  simp only [q0, q1, q2, q3, q4, q5, q6, q7, q8, q9, zr0, zr1, zr2, zr3, zq0, zq1, zq2, zq3, zq4, Nat.reduceAdd, Nat.reduceSub, lenA, convA, indexA, flatP, nilI, ifaA, indexS, Int.reduceToNat, cond_true, cond_false, ↓reduceIte, reduceCtorEq, Nat.reduceLT, Nat.reduceLeDiff, Nat.reduceMul, Nat.reduceEqDiff, exists_eq', implies_true, exists_true_left, tys0, tys1, und0, und1, md29, Tryz.ntmps29, Tryz.results29, ren, renM, renL]
  refine call_handedQ [0] (floats_call code hc hl 0 (by omega) 0 n hn) (by decide) ⟨⟨rfl, rfl⟩, trivial⟩ rfl rfl ?_
  rintro r hps' ⟨L, a', sd', h1, h2, rfl, rfl⟩
  refine ⟨by intro q hq; simp at hq; rcases hq with rfl | rfl <;> first | rfl | exact flts_below _ _, ?_⟩
  simp only [q0, q1, q2, q3, q4, q5, q6, q7, q8, q9, zr0, zr1, zr2, zr3, zq0, zq1, zq2, zq3, zq4, Nat.reduceAdd, Nat.reduceSub, lenA, convA, indexA, flatP, nilI, ifaA, indexS, Int.reduceToNat, cond_true, cond_false, ↓reduceIte, reduceCtorEq, Nat.reduceLT, Nat.reduceLeDiff, Nat.reduceMul, Nat.reduceEqDiff, exists_eq', implies_true, exists_true_left, tys0, tys1, und0, und1, md29, Tryz.ntmps29, Tryz.results29, ren, renM, renL, upName, fltB, flts_ren]
  exact PostR.tell [1] (hp2 := [fltB L]) (by decide) (by decide) (by decide) (by simp [SubG, renB, flts_ren, flts_below, fltB]) rfl rfl ⟨L, h1, h2, rfl, rfl⟩
theorem numbers_call (code : List Int) (hc : byteL code) (hl : code.length ≤ 1048576) (n : Nat) (hn : n ≤ 300) : CallA Tryz.prog 29 [.ro (kint .u8 code), .int .i64 n] [] (fun r hp => ∃ L : List Nat, L.length = n ∧ (∀ x ∈ L, okW x) ∧ r = .ro (flts L) ∧ hp = []) := by
  refine (CallA.freezeQ 2 (numbers0_call code hc hl n hn)).mono ?_
  rintro r hp ⟨r0, new, ⟨q, h1, h2, rfl, rfl⟩, rfl, rfl⟩
  refine ⟨q, h1, h2, ?_, rfl⟩
  subst h1
  simp [view_sl, fltB, map_view_flts, List.take_of_length_le, flts_len]
end Go.Proofs.YtkjabkgmkkcpdaaGreatDoor
