/- Lists of numbers that are drawn. -/
import Derived.Test.YtkjabkgmkkcpdaaGreatDoorNmN
set_option maxRecDepth 10000
set_option maxHeartbeats 4000000
set_option linter.unusedSimpArgs false
set_option linter.unusedVariables false
namespace Go.Proofs.YtkjabkgmkkcpdaaGreatDoor
open Go Go.Abs
theorem float_at {code : List Int} (hc : byteL code) (hl : code.length ≤ 1048576) {a : Nat} (ha : a ≤ 10000000) {sd : Int} {rest : List Blk} {Q : AV → List Blk → Prop} {t : Tok Q}
    (hQ : ∀ (x a' : Nat) (sd' : Int), okW x → a' ≤ a + 12 → Q (.flt .f32 x) (srcB code a' sd' :: rest)) : CallP Tryz.prog 53 [.ptr 0 0 0] (srcB code a sd :: rest) Q t := by
  refine call_handedQ [0] (float_call code hc hl a ha sd) (by decide) ⟨⟨rfl, rfl⟩, trivial⟩ rfl rfl ?_
  rintro r hps' ⟨x, a', sd', hx, ha', rfl, rfl⟩
  refine ⟨by intro q hq; simp at hq; subst hq; rfl, ?_⟩
  have := hQ x a' sd' hx ha'
  simpa [putF, ren, renM, renL] using this
theorem floats_call (code : List Int) (hc : byteL code) (hl : code.length ≤ 1048576) (a : Nat) (ha : a ≤ 100) (sd : Int) (n : Nat) (hn : n ≤ 300) :
    CallA Tryz.prog 64 [.ptr 0 0 0, .int .i64 n] [srcB code a sd] (fun r hp => ∃ (L : List Nat) (a' : Nat) (sd' : Int), L.length = n ∧ (∀ x ∈ L, okW x) ∧ r = .sl 1 0 n ∧ hp = [srcB code a' sd', fltB L]) := by
  refine CallP.out (t := .mk) (go_in (md := md64) mixed Tryz.func64 rfl go64 (by kernel_rfl) ?_)
  simp only [q0, q1, q2, q3, q4, q5, q6, q7, q8, q9, zr0, zr1, zr2, zr3, zq0, zq1, zq2, zq3, zq4, Nat.reduceAdd, Nat.reduceSub, lenA, convA, indexA, flatP, nilI, ifaA, indexS, Int.reduceToNat, cond_true, cond_false, ↓reduceIte, reduceCtorEq, Nat.reduceLT, Nat.reduceLeDiff, Nat.reduceMul, Nat.reduceEqDiff, exists_eq', implies_true, exists_true_left, tys0, tys1, und0, und1, md64, Tryz.ntmps64, Tryz.results64]
  refine one_at hc hl (by omega) (by omega) (by omega) fun b a1 sd1 ha1 => ?_
  simp only [q0, q1, q2, q3, q4, q5, q6, q7, q8, q9, zr0, zr1, zr2, zr3, zq0, zq1, zq2, zq3, zq4, Nat.reduceAdd, Nat.reduceSub, lenA, convA, indexA, flatP, nilI, ifaA, indexS, Int.reduceToNat, cond_true, cond_false, ↓reduceIte, reduceCtorEq, Nat.reduceLT, Nat.reduceLeDiff, Nat.reduceMul, Nat.reduceEqDiff, exists_eq', implies_true, exists_true_left, tys0, tys1, und0, und1, md64, Tryz.ntmps64, Tryz.results64]
  refine go_round (md := md64) mixed (by kernel_rfl) (fun p : {p : List Nat × Nat × Int // p.1.length ≤ n ∧ (∀ x ∈ p.1, okW x) ∧ p.2.1 ≤ 1000 + 24 * p.1.length} => ⟨[.ptr 0 0 0, .int .i64 ((n - p.1.1.length : Nat) : Int), .any, .any, .any, .sl 1 0 p.1.1.length, .bool b, .any, .any, .any, .any, .any, .any, .any, .any, .any, .any, .any, .any, .any, .any, .any, .any, .any, .any, .any], [srcB code p.1.2.1 p.1.2.2, fltB p.1.1]⟩) (fun p => n - p.1.1.length) ⟨([], a1, sd1), by simp, by simp, by simp; omega⟩ ?_ ?_
  · exact weak_drop (by simp) (by simp [DropHp, ints_below, flts_below, fltB, flts, srcB_below, allBelow_cons, allBelow_nil, below, belowM, belowL]) (by simp [DropTm, DropV, below, belowM, belowL, fltB, flts, srcB_below, allBelow_cons, allBelow_nil, below, belowM, belowL])
  rintro ⟨⟨L, a2, sd2⟩, hL, ok, ha2⟩
  dsimp only at hL ok ha2
  have ll : (flts L).length = L.length := flts_len L
  have hd : IntKind.i64.wrap (((n - L.length : Nat) : Int) - 1) = ((n - (L.length + 1) : Nat) : Int) ∨ n = L.length := by
    by_cases e : n = L.length
    · exact .inr e
    · exact .inl (by rw [w64 (by omega) (by omega)]; omega)
  simp only [q0, q1, q2, q3, q4, q5, q6, q7, q8, q9, zr0, zr1, zr2, zr3, zq0, zq1, zq2, zq3, zq4, Nat.reduceAdd, Nat.reduceSub, lenA, convA, indexA, flatP, nilI, ifaA, indexS, Int.reduceToNat, cond_true, cond_false, ↓reduceIte, reduceCtorEq, Nat.reduceLT, Nat.reduceLeDiff, Nat.reduceMul, Nat.reduceEqDiff, exists_eq', implies_true, exists_true_left, tys0, tys1, und0, und1, md64, Tryz.ntmps64, Tryz.results64, fltB]
  refine br_intro (fun h => ?_) (fun h => ?_) <;> simp only [q0, q1, q2, q3, q4, q5, q6, q7, q8, q9, zr0, zr1, zr2, zr3, zq0, zq1, zq2, zq3, zq4, Nat.reduceAdd, Nat.reduceSub, lenA, convA, indexA, flatP, nilI, ifaA, indexS, Int.reduceToNat, cond_true, cond_false, ↓reduceIte, reduceCtorEq, Nat.reduceLT, Nat.reduceLeDiff, Nat.reduceMul, Nat.reduceEqDiff, exists_eq', implies_true, exists_true_left, tys0, tys1, und0, und1, md64, Tryz.ntmps64, Tryz.results64, fltB]
  · have h' := of_decide_eq_true h
    have hlt : L.length < n := by omega
    have hd := hd.resolve_right (by omega)
    cases b
    · simp only [q0, q1, q2, q3, q4, q5, q6, q7, q8, q9, zr0, zr1, zr2, zr3, zq0, zq1, zq2, zq3, zq4, Nat.reduceAdd, Nat.reduceSub, lenA, convA, indexA, flatP, nilI, ifaA, indexS, Int.reduceToNat, cond_true, cond_false, ↓reduceIte, reduceCtorEq, Nat.reduceLT, Nat.reduceLeDiff, Nat.reduceMul, Nat.reduceEqDiff, exists_eq', implies_true, exists_true_left, tys0, tys1, und0, und1, md64, Tryz.ntmps64, Tryz.results64, fltB]
      refine plain_at hc hl (by omega) fun x a3 sd3 hx ha3 => ?_
      simp only [q0, q1, q2, q3, q4, q5, q6, q7, q8, q9, zr0, zr1, zr2, zr3, zq0, zq1, zq2, zq3, zq4, Nat.reduceAdd, Nat.reduceSub, lenA, convA, indexA, flatP, nilI, ifaA, indexS, Int.reduceToNat, cond_true, cond_false, ↓reduceIte, reduceCtorEq, Nat.reduceLT, Nat.reduceLeDiff, Nat.reduceMul, Nat.reduceEqDiff, exists_eq', implies_true, exists_true_left, tys0, tys1, und0, und1, md64, Tryz.ntmps64, Tryz.results64, fltB, allW_int, fits, List.isEmpty_cons, brk_false, Nat.reduceMul, ll, hd, srcB_kill]
      refine ⟨allW_flt _, by omega, ⟨(L ++ [x], a3, sd3), by rw [List.length_append]; exact hlt, ?_, by rw [List.length_append]; simp; omega⟩, by show n - (L ++ [x]).length < _; rw [List.length_append]; simp; omega, ?_⟩
      · intro y hy
        rcases List.mem_append.1 hy with m | m
        · exact ok y m
        · rw [List.mem_singleton.1 m]; exact hx
      show Weak 1 _ ⟨_, _⟩
      skip
      simp only [List.length_append, List.length_cons, List.length_nil, Nat.zero_add]
      exact weak_drop (by simp) (by simp [DropHp, ints_below, flts_below, fltB, flts_below, srcB_below, allBelow_cons, allBelow_nil, below, belowM, belowL]) (by simp [DropTm, DropV, below, belowM, belowL, fltB, flts_below, srcB_below, allBelow_cons, allBelow_nil, below, belowM, belowL])
    · simp only [q0, q1, q2, q3, q4, q5, q6, q7, q8, q9, zr0, zr1, zr2, zr3, zq0, zq1, zq2, zq3, zq4, Nat.reduceAdd, Nat.reduceSub, lenA, convA, indexA, flatP, nilI, ifaA, indexS, Int.reduceToNat, cond_true, cond_false, ↓reduceIte, reduceCtorEq, Nat.reduceLT, Nat.reduceLeDiff, Nat.reduceMul, Nat.reduceEqDiff, exists_eq', implies_true, exists_true_left, tys0, tys1, und0, und1, md64, Tryz.ntmps64, Tryz.results64, fltB]
      refine float_at hc hl (by omega) fun x a3 sd3 hx ha3 => ?_
      simp only [q0, q1, q2, q3, q4, q5, q6, q7, q8, q9, zr0, zr1, zr2, zr3, zq0, zq1, zq2, zq3, zq4, Nat.reduceAdd, Nat.reduceSub, lenA, convA, indexA, flatP, nilI, ifaA, indexS, Int.reduceToNat, cond_true, cond_false, ↓reduceIte, reduceCtorEq, Nat.reduceLT, Nat.reduceLeDiff, Nat.reduceMul, Nat.reduceEqDiff, exists_eq', implies_true, exists_true_left, tys0, tys1, und0, und1, md64, Tryz.ntmps64, Tryz.results64, fltB, allW_int, fits, List.isEmpty_cons, brk_false, Nat.reduceMul, ll, hd, srcB_kill]
      refine ⟨allW_flt _, by omega, ⟨(L ++ [x], a3, sd3), by rw [List.length_append]; exact hlt, ?_, by rw [List.length_append]; simp; omega⟩, by show n - (L ++ [x]).length < _; rw [List.length_append]; simp; omega, ?_⟩
      · intro y hy
        rcases List.mem_append.1 hy with m | m
        · exact ok y m
        · rw [List.mem_singleton.1 m]; exact hx
      show Weak 1 _ ⟨_, _⟩
      skip
      simp only [List.length_append, List.length_cons, List.length_nil, Nat.zero_add]
      exact weak_drop (by simp) (by simp [DropHp, ints_below, flts_below, fltB, flts_below, srcB_below, allBelow_cons, allBelow_nil, below, belowM, belowL]) (by simp [DropTm, DropV, below, belowM, belowL, fltB, flts_below, srcB_below, allBelow_cons, allBelow_nil, below, belowM, belowL])
  · have h' := of_decide_eq_false h
    have e : L.length = n := by omega
    exact PostR.same ⟨L, a2, sd2, e, ok, by rw [e], rfl⟩
end Go.Proofs.YtkjabkgmkkcpdaaGreatDoor
