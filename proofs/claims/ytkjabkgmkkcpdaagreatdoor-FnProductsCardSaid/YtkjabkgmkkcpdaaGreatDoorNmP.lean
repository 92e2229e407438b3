/- What the laws draw. -/
import Derived.Test.YtkjabkgmkkcpdaaGreatDoorNmO
import Derived.Test.YtkjabkgmkkcpdaaGreatDoorAbsM5
set_option maxRecDepth 10000
set_option maxHeartbeats 4000000
set_option linter.unusedSimpArgs false
set_option linter.unusedVariables false
namespace Go.Proofs.YtkjabkgmkkcpdaaGreatDoor
open Go Go.Abs
theorem cpxs_ren (f : Nat → Nat) (l : List (Nat × Nat)) : (cpxs l).map (ren f) = cpxs l := by
  unfold cpxs
  rw [List.map_map]
  exact List.map_congr_left fun x _ => rfl
theorem number_call (code : List Int) (hc : byteL code) (hl : code.length ≤ 1048576) : CallA Tryz.prog 19 [.ro (kint .u8 code)] [] (fun r hp => ∃ x, okW x ∧ r = .flt .f32 x ∧ hp = []) := by
  refine CallP.out (t := .mk) (go_in (md := md19) mixed Tryz.func19 rfl go19 (by kernel_rfl) ?_)
  simp only [q0, q1, q2, q3, q4, q5, q6, q7, q8, q9, zr0, zr1, zr2, zr3, zq0, zq1, zq2, zq3, zq4, Nat.reduceAdd, Nat.reduceSub, lenA, convA, indexA, flatP, nilI, ifaA, indexS, Int.reduceToNat, cond_true, cond_false, ↓reduceIte, reduceCtorEq, Nat.reduceLT, Nat.reduceLeDiff, Nat.reduceMul, Nat.reduceEqDiff, exists_eq', implies_true, exists_true_left, tys0, tys1, und0, und1, md19, Tryz.ntmps19, Tryz.results19]
  refine call_new (l00From_call code) rfl (by intro q hq; rw [List.mem_singleton.1 hq]; rfl) ?_
  simp only [q0, q1, q2, q3, q4, q5, q6, q7, q8, q9, zr0, zr1, zr2, zr3, zq0, zq1, zq2, zq3, zq4, Nat.reduceAdd, Nat.reduceSub, lenA, convA, indexA, flatP, nilI, ifaA, indexS, Int.reduceToNat, cond_true, cond_false, ↓reduceIte, reduceCtorEq, Nat.reduceLT, Nat.reduceLeDiff, Nat.reduceMul, Nat.reduceEqDiff, exists_eq', implies_true, exists_true_left, tys0, tys1, und0, und1, md19, Tryz.ntmps19, Tryz.results19, ren, renM, renL]
  refine one_at hc hl (by omega) (by omega) (by omega) fun b a1 sd1 ha1 => ?_
  cases b
  · simp only [q0, q1, q2, q3, q4, q5, q6, q7, q8, q9, zr0, zr1, zr2, zr3, zq0, zq1, zq2, zq3, zq4, Nat.reduceAdd, Nat.reduceSub, lenA, convA, indexA, flatP, nilI, ifaA, indexS, Int.reduceToNat, cond_true, cond_false, ↓reduceIte, reduceCtorEq, Nat.reduceLT, Nat.reduceLeDiff, Nat.reduceMul, Nat.reduceEqDiff, exists_eq', implies_true, exists_true_left, tys0, tys1, und0, und1, md19, Tryz.ntmps19, Tryz.results19]
    refine float_at hc hl (by omega) fun x a2 sd2 hx ha2 => ?_
    simp only [q0, q1, q2, q3, q4, q5, q6, q7, q8, q9, zr0, zr1, zr2, zr3, zq0, zq1, zq2, zq3, zq4, Nat.reduceAdd, Nat.reduceSub, lenA, convA, indexA, flatP, nilI, ifaA, indexS, Int.reduceToNat, cond_true, cond_false, ↓reduceIte, reduceCtorEq, Nat.reduceLT, Nat.reduceLeDiff, Nat.reduceMul, Nat.reduceEqDiff, exists_eq', implies_true, exists_true_left, tys0, tys1, und0, und1, md19, Tryz.ntmps19, Tryz.results19]
    exact PostR.pure ⟨x, hx, rfl, rfl⟩ rfl
  · simp only [q0, q1, q2, q3, q4, q5, q6, q7, q8, q9, zr0, zr1, zr2, zr3, zq0, zq1, zq2, zq3, zq4, Nat.reduceAdd, Nat.reduceSub, lenA, convA, indexA, flatP, nilI, ifaA, indexS, Int.reduceToNat, cond_true, cond_false, ↓reduceIte, reduceCtorEq, Nat.reduceLT, Nat.reduceLeDiff, Nat.reduceMul, Nat.reduceEqDiff, exists_eq', implies_true, exists_true_left, tys0, tys1, und0, und1, md19, Tryz.ntmps19, Tryz.results19]
    refine pick_at hc hl (by omega) (by omega) (by omega) fun x a3 sd3 hx ha3 => ?_
    simp only [q0, q1, q2, q3, q4, q5, q6, q7, q8, q9, zr0, zr1, zr2, zr3, zq0, zq1, zq2, zq3, zq4, Nat.reduceAdd, Nat.reduceSub, lenA, convA, indexA, flatP, nilI, ifaA, indexS, Int.reduceToNat, cond_true, cond_false, ↓reduceIte, reduceCtorEq, Nat.reduceLT, Nat.reduceLeDiff, Nat.reduceMul, Nat.reduceEqDiff, exists_eq', implies_true, exists_true_left, tys0, tys1, und0, und1, md19, Tryz.ntmps19, Tryz.results19]
    refine pick_at hc hl (by omega) (by omega) (by omega) fun y a4 sd4 hy ha4 => ?_
    have w1 : IntKind.i64.wrap (x * 65536) = x * 65536 := w64 (by omega) (by omega)
    have w2 : IntKind.i64.wrap (x * 65536 + y) = x * 65536 + y := w64 (by omega) (by omega)
    simp only [q0, q1, q2, q3, q4, q5, q6, q7, q8, q9, zr0, zr1, zr2, zr3, zq0, zq1, zq2, zq3, zq4, Nat.reduceAdd, Nat.reduceSub, lenA, convA, indexA, flatP, nilI, ifaA, indexS, Int.reduceToNat, cond_true, cond_false, ↓reduceIte, reduceCtorEq, Nat.reduceLT, Nat.reduceLeDiff, Nat.reduceMul, Nat.reduceEqDiff, exists_eq', implies_true, exists_true_left, tys0, tys1, und0, und1, md19, Tryz.ntmps19, Tryz.results19, w1, w2]
    refine from_at (by omega) (by omega) fun z hz => ?_
    simp only [q0, q1, q2, q3, q4, q5, q6, q7, q8, q9, zr0, zr1, zr2, zr3, zq0, zq1, zq2, zq3, zq4, Nat.reduceAdd, Nat.reduceSub, lenA, convA, indexA, flatP, nilI, ifaA, indexS, Int.reduceToNat, cond_true, cond_false, ↓reduceIte, reduceCtorEq, Nat.reduceLT, Nat.reduceLeDiff, Nat.reduceMul, Nat.reduceEqDiff, exists_eq', implies_true, exists_true_left, tys0, tys1, und0, und1, md19, Tryz.ntmps19, Tryz.results19]
    exact PostR.pure ⟨z, hz, rfl, rfl⟩ rfl
theorem complex1_call (code : List Int) (hc : byteL code) (hl : code.length ≤ 1048576) : CallA Tryz.prog 22 [.ro (kint .u8 code)] [] (fun r hp => ∃ x : Nat × Nat, (okW x.1 ∧ okW x.2) ∧ r = .cpx .f32 x.1 x.2 ∧ hp = []) := by
  refine CallP.out (t := .mk) (go_in (md := md22) mixed Tryz.func22 rfl go22 (by kernel_rfl) ?_)
  simp only [q0, q1, q2, q3, q4, q5, q6, q7, q8, q9, zr0, zr1, zr2, zr3, zq0, zq1, zq2, zq3, zq4, Nat.reduceAdd, Nat.reduceSub, lenA, convA, indexA, flatP, nilI, ifaA, indexS, Int.reduceToNat, cond_true, cond_false, ↓reduceIte, reduceCtorEq, Nat.reduceLT, Nat.reduceLeDiff, Nat.reduceMul, Nat.reduceEqDiff, exists_eq', implies_true, exists_true_left, tys0, tys1, und0, und1, md22, Tryz.ntmps22, Tryz.results22]
  refine call_new (l00From_call code) rfl (by intro q hq; rw [List.mem_singleton.1 hq]; rfl) ?_
  simp only [q0, q1, q2, q3, q4, q5, q6, q7, q8, q9, zr0, zr1, zr2, zr3, zq0, zq1, zq2, zq3, zq4, Nat.reduceAdd, Nat.reduceSub, lenA, convA, indexA, flatP, nilI, ifaA, indexS, Int.reduceToNat, cond_true, cond_false, ↓reduceIte, reduceCtorEq, Nat.reduceLT, Nat.reduceLeDiff, Nat.reduceMul, Nat.reduceEqDiff, exists_eq', implies_true, exists_true_left, tys0, tys1, und0, und1, md22, Tryz.ntmps22, Tryz.results22, ren, renM, renL]
  refine one_at hc hl (by omega) (by omega) (by omega) fun b a1 sd1 ha1 => ?_
  cases b
  · simp only [q0, q1, q2, q3, q4, q5, q6, q7, q8, q9, zr0, zr1, zr2, zr3, zq0, zq1, zq2, zq3, zq4, Nat.reduceAdd, Nat.reduceSub, lenA, convA, indexA, flatP, nilI, ifaA, indexS, Int.reduceToNat, cond_true, cond_false, ↓reduceIte, reduceCtorEq, Nat.reduceLT, Nat.reduceLeDiff, Nat.reduceMul, Nat.reduceEqDiff, exists_eq', implies_true, exists_true_left, tys0, tys1, und0, und1, md22, Tryz.ntmps22, Tryz.results22]
    refine fine_at hc hl (by omega) fun x a2 sd2 hx ha2 => ?_
    simp only [q0, q1, q2, q3, q4, q5, q6, q7, q8, q9, zr0, zr1, zr2, zr3, zq0, zq1, zq2, zq3, zq4, Nat.reduceAdd, Nat.reduceSub, lenA, convA, indexA, flatP, nilI, ifaA, indexS, Int.reduceToNat, cond_true, cond_false, ↓reduceIte, reduceCtorEq, Nat.reduceLT, Nat.reduceLeDiff, Nat.reduceMul, Nat.reduceEqDiff, exists_eq', implies_true, exists_true_left, tys0, tys1, und0, und1, md22, Tryz.ntmps22, Tryz.results22]
    exact PostR.pure ⟨x, hx, rfl, rfl⟩ rfl
  · simp only [q0, q1, q2, q3, q4, q5, q6, q7, q8, q9, zr0, zr1, zr2, zr3, zq0, zq1, zq2, zq3, zq4, Nat.reduceAdd, Nat.reduceSub, lenA, convA, indexA, flatP, nilI, ifaA, indexS, Int.reduceToNat, cond_true, cond_false, ↓reduceIte, reduceCtorEq, Nat.reduceLT, Nat.reduceLeDiff, Nat.reduceMul, Nat.reduceEqDiff, exists_eq', implies_true, exists_true_left, tys0, tys1, und0, und1, md22, Tryz.ntmps22, Tryz.results22]
    refine complex_at hc hl (by omega) fun x a2 sd2 hx ha2 => ?_
    simp only [q0, q1, q2, q3, q4, q5, q6, q7, q8, q9, zr0, zr1, zr2, zr3, zq0, zq1, zq2, zq3, zq4, Nat.reduceAdd, Nat.reduceSub, lenA, convA, indexA, flatP, nilI, ifaA, indexS, Int.reduceToNat, cond_true, cond_false, ↓reduceIte, reduceCtorEq, Nat.reduceLT, Nat.reduceLeDiff, Nat.reduceMul, Nat.reduceEqDiff, exists_eq', implies_true, exists_true_left, tys0, tys1, und0, und1, md22, Tryz.ntmps22, Tryz.results22]
    exact PostR.pure ⟨x, hx, rfl, rfl⟩ rfl
theorem anys0_call (code : List Int) (hc : byteL code) (hl : code.length ≤ 1048576) (n : Nat) (hn : n ≤ 300) : CallA Tryz.prog 15 [.ro (kint .u8 code), .int .i64 n] [] (fun r hp => ∃ L : List (Nat × Nat), L.length = n ∧ (∀ x ∈ L, okW x.1 ∧ okW x.2) ∧ r = .sl 0 0 n ∧ hp = [cpxB L]) := by
  refine CallP.out (t := .mk) (go_in (md := md15) mixed Tryz.func15 rfl go15 (by kernel_rfl) ?_)
  simp only [q0, q1, q2, q3, q4, q5, q6, q7, q8, q9, zr0, zr1, zr2, zr3, zq0, zq1, zq2, zq3, zq4, Nat.reduceAdd, Nat.reduceSub, lenA, convA, indexA, flatP, nilI, ifaA, indexS, Int.reduceToNat, cond_true, cond_false, ↓reduceIte, reduceCtorEq, Nat.reduceLT, Nat.reduceLeDiff, Nat.reduceMul, Nat.reduceEqDiff, exists_eq', implies_true, exists_true_left, tys0, tys1, und0, und1, md15, Tryz.ntmps15, Tryz.results15]
  refine call_new (l00From_call code) rfl (by intro q hq; rw [List.mem_singleton.1 hq]; rfl) ?_
  simp only [q0, q1, q2, q3, q4, q5, q6, q7, q8, q9, zr0, zr1, zr2, zr3, zq0, zq1, zq2, zq3, zq4, Nat.reduceAdd, Nat.reduceSub, lenA, convA, indexA, flatP, nilI, ifaA, indexS, Int.reduceToNat, cond_true, cond_false, ↓reduceIte, reduceCtorEq, Nat.reduceLT, Nat.reduceLeDiff, Nat.reduceMul, Nat.reduceEqDiff, exists_eq', implies_true, exists_true_left, tys0, tys1, und0, und1, md15, Tryz.ntmps15, Tryz.results15, ren, renM, renL]
  refine call_handedQ [0] (complexes_call code hc hl 0 (by omega) 0 n hn) (by decide) ⟨⟨rfl, rfl⟩, trivial⟩ rfl rfl ?_
  rintro r hps' ⟨L, a', sd', h1, h2, rfl, rfl⟩
  refine ⟨by intro q hq; simp at hq; rcases hq with rfl | rfl <;> first | rfl | exact cpxs_below _ _, ?_⟩
  simp only [q0, q1, q2, q3, q4, q5, q6, q7, q8, q9, zr0, zr1, zr2, zr3, zq0, zq1, zq2, zq3, zq4, Nat.reduceAdd, Nat.reduceSub, lenA, convA, indexA, flatP, nilI, ifaA, indexS, Int.reduceToNat, cond_true, cond_false, ↓reduceIte, reduceCtorEq, Nat.reduceLT, Nat.reduceLeDiff, Nat.reduceMul, Nat.reduceEqDiff, exists_eq', implies_true, exists_true_left, tys0, tys1, und0, und1, md15, Tryz.ntmps15, Tryz.results15, ren, renM, renL, upName, cpxB]
  exact PostR.tell [1] (hp2 := [cpxB L]) (by decide) (by decide) (by decide) (by simp [SubG, renB, cpxs_ren, cpxs_below, cpxB]) rfl rfl ⟨L, h1, h2, rfl, rfl⟩
theorem map_view_cpxs (d : Nat) (hp : List Blk) (l : List (Nat × Nat)) : (cpxs l).map (view d hp) = cpxs l := by
  unfold cpxs
  rw [List.map_map]
  exact List.map_congr_left fun x _ => by cases d <;> rfl
theorem anys_call (code : List Int) (hc : byteL code) (hl : code.length ≤ 1048576) (n : Nat) (hn : n ≤ 300) : CallA Tryz.prog 15 [.ro (kint .u8 code), .int .i64 n] [] (fun r hp => ∃ L : List (Nat × Nat), L.length = n ∧ (∀ x ∈ L, okW x.1 ∧ okW x.2) ∧ r = .ro (cpxs L) ∧ hp = []) := by
  refine (CallA.freezeQ 2 (anys0_call code hc hl n hn)).mono ?_
  rintro r hp ⟨r0, new, ⟨q, h1, h2, rfl, rfl⟩, rfl, rfl⟩
  refine ⟨q, h1, h2, ?_, rfl⟩
  subst h1
  simp [view_sl, cpxB, map_view_cpxs, List.take_of_length_le, cpxs_len]
theorem whole_call (code : List Int) (hc : byteL code) (hl : code.length ≤ 1048576) : CallA Tryz.prog 6 [.ro (kint .u8 code), .int .i64 1, .int .i64 200] [] (fun r hp => ∃ x y : Int, (-200 ≤ x ∧ x ≤ 200) ∧ (-200 ≤ y ∧ y ≤ 200) ∧ r = .sl 0 0 1 ∧ hp = [cpxB [(iF x, iF y)]]) := by
  have w1 : IntKind.i64.wrap (IntKind.i64.wrap (2 * 200) + 1) = 401 := by decide
  refine CallP.out (t := .mk) (go_in (md := md6) mixed Tryz.func6 rfl go6 (by kernel_rfl) ?_)
  simp only [q0, q1, q2, q3, q4, q5, q6, q7, q8, q9, zr0, zr1, zr2, zr3, zq0, zq1, zq2, zq3, zq4, Nat.reduceAdd, Nat.reduceSub, lenA, convA, indexA, flatP, nilI, ifaA, indexS, Int.reduceToNat, cond_true, cond_false, ↓reduceIte, reduceCtorEq, Nat.reduceLT, Nat.reduceLeDiff, Nat.reduceMul, Nat.reduceEqDiff, exists_eq', implies_true, exists_true_left, tys0, tys1, und0, und1, md6, Tryz.ntmps6, Tryz.results6]
  refine call_new (l00From_call code) rfl (by intro q hq; rw [List.mem_singleton.1 hq]; rfl) ?_
  simp only [q0, q1, q2, q3, q4, q5, q6, q7, q8, q9, zr0, zr1, zr2, zr3, zq0, zq1, zq2, zq3, zq4, Nat.reduceAdd, Nat.reduceSub, lenA, convA, indexA, flatP, nilI, ifaA, indexS, Int.reduceToNat, cond_true, cond_false, ↓reduceIte, reduceCtorEq, Nat.reduceLT, Nat.reduceLeDiff, Nat.reduceMul, Nat.reduceEqDiff, exists_eq', implies_true, exists_true_left, tys0, tys1, und0, und1, md6, Tryz.ntmps6, Tryz.results6, ren, renM, renL]
  refine go_round (md := md6) mixed (by kernel_rfl) (fun p : {p : Option (Int × Int) × Nat × Int // (p.1 = none → p.2.1 = 0) ∧ ∀ z, p.1 = some z → (-200 ≤ z.1 ∧ z.1 ≤ 200) ∧ (-200 ≤ z.2 ∧ z.2 ≤ 200)} => ⟨[.any, .int .i64 (if p.1.1.isSome then 0 else 1), .int .i64 200, .any, .any, .any, .any, .ptr 0 0 0, .sl 1 0 (if p.1.1.isSome then 1 else 0), .any, .any, .any, .any, .any, .any, .any, .any, .any, .any, .any, .any, .any, .any, .any, .any, .any, .any, .any, .any, .any, .any, .any, .any, .any, .any, .any, .any, .any, .any], [srcB code p.1.2.1 p.1.2.2, cpxB (match p.1.1 with | some z => [(iF z.1, iF z.2)] | none => [])]⟩) (fun p => if p.1.1.isSome then 0 else 1) ⟨(none, 0, 0), fun _ => rfl, fun z h => by cases h⟩ ?_ ?_
  · exact weak_drop (by simp) (by simp [DropHp, ints_below, flts_below, cpxB, cpxs, srcB_below, allBelow_cons, allBelow_nil, below, belowM, belowL]) (by simp [DropTm, DropV, below, belowM, belowL, cpxB, cpxs, srcB_below, allBelow_cons, allBelow_nil, below, belowM, belowL])
  rintro ⟨⟨o, a, sd⟩, h0, hz⟩
  cases o with
  | none =>
    have ha : a = 0 := h0 rfl
    subst ha
    simp only [q0, q1, q2, q3, q4, q5, q6, q7, q8, q9, zr0, zr1, zr2, zr3, zq0, zq1, zq2, zq3, zq4, Nat.reduceAdd, Nat.reduceSub, lenA, convA, indexA, flatP, nilI, ifaA, indexS, Int.reduceToNat, cond_true, cond_false, ↓reduceIte, reduceCtorEq, Nat.reduceLT, Nat.reduceLeDiff, Nat.reduceMul, Nat.reduceEqDiff, exists_eq', implies_true, exists_true_left, tys0, tys1, und0, und1, md6, Tryz.ntmps6, Tryz.results6, cpxB, cpxs, Int.reduceLT, Int.reduceLE, Int.reduceNeg, Int.reduceEq, Int.reduceGT, Int.reduceGE, decide_true, decide_false, beq_self_eq_true, bne_self_eq_false, Int.reduceBEq, Int.reduceBNe, Int.reduceAdd, Int.reduceSub, w1, Option.isSome_none]
    refine pick_at hc hl (by omega) (by omega) (by omega) fun x a1 sd1 hx ha1 => ?_
    simp only [q0, q1, q2, q3, q4, q5, q6, q7, q8, q9, zr0, zr1, zr2, zr3, zq0, zq1, zq2, zq3, zq4, Nat.reduceAdd, Nat.reduceSub, lenA, convA, indexA, flatP, nilI, ifaA, indexS, Int.reduceToNat, cond_true, cond_false, ↓reduceIte, reduceCtorEq, Nat.reduceLT, Nat.reduceLeDiff, Nat.reduceMul, Nat.reduceEqDiff, exists_eq', implies_true, exists_true_left, tys0, tys1, und0, und1, md6, Tryz.ntmps6, Tryz.results6, cpxB, cpxs, w1]
    refine pick_at hc hl (by omega) (by omega) (by omega) fun y a2 sd2 hy ha2 => ?_
    have wx : IntKind.i64.wrap (x - 200) = x - 200 := w64 (by omega) (by omega)
    have wy : IntKind.i64.wrap (y - 200) = y - 200 := w64 (by omega) (by omega)
    simp only [q0, q1, q2, q3, q4, q5, q6, q7, q8, q9, zr0, zr1, zr2, zr3, zq0, zq1, zq2, zq3, zq4, Nat.reduceAdd, Nat.reduceSub, lenA, convA, indexA, flatP, nilI, ifaA, indexS, Int.reduceToNat, cond_true, cond_false, ↓reduceIte, reduceCtorEq, Nat.reduceLT, Nat.reduceLeDiff, Nat.reduceMul, Nat.reduceEqDiff, exists_eq', implies_true, exists_true_left, tys0, tys1, und0, und1, md6, Tryz.ntmps6, Tryz.results6, cpxB, cpxs, w1, wx, wy, allW_int, fits, List.isEmpty_cons, brk_false, Nat.reduceMul, Int.reduceLT, Int.reduceLE, Int.reduceNeg, Int.reduceEq, Int.reduceGT, Int.reduceGE, decide_true, decide_false, beq_self_eq_true, bne_self_eq_false, Int.reduceBEq, Int.reduceBNe, Int.reduceAdd, Int.reduceSub]
    refine ⟨allW_cpx _ _, ⟨(some (x - 200, y - 200), a2, sd2), ⟨(fun h => absurd h (by simp)), (fun z h => by have e : (x - 200, y - 200) = z := Option.some.inj h; subst e; dsimp only; omega)⟩⟩, Nat.zero_lt_one, ?_⟩
    rw [srcB_kill]
    have w0 : IntKind.i64.wrap 0 = 0 := by decide
    simp only [w0, Option.isSome_some, if_true]
    show Weak 0 _ ⟨_, [srcB code a2 sd2, cpxB [(iF (x - 200), iF (y - 200))]]⟩
    exact weak_drop (by simp) (by simp [DropHp, ints_below, flts_below, cpxB, cpxs, iF, srcB_below, allBelow_cons, allBelow_nil, below, belowM, belowL]) (by simp [DropTm, DropV, below, belowM, belowL, cpxB, cpxs, iF, srcB_below, allBelow_cons, allBelow_nil, below, belowM, belowL])
  | some z =>
    simp only [q0, q1, q2, q3, q4, q5, q6, q7, q8, q9, zr0, zr1, zr2, zr3, zq0, zq1, zq2, zq3, zq4, Nat.reduceAdd, Nat.reduceSub, lenA, convA, indexA, flatP, nilI, ifaA, indexS, Int.reduceToNat, cond_true, cond_false, ↓reduceIte, reduceCtorEq, Nat.reduceLT, Nat.reduceLeDiff, Nat.reduceMul, Nat.reduceEqDiff, exists_eq', implies_true, exists_true_left, tys0, tys1, und0, und1, md6, Tryz.ntmps6, Tryz.results6, cpxB, cpxs, Int.reduceLT, Int.reduceLE, Int.reduceNeg, Int.reduceEq, Int.reduceGT, Int.reduceGE, decide_true, decide_false, beq_self_eq_true, bne_self_eq_false, Int.reduceBEq, Int.reduceBNe, Int.reduceAdd, Int.reduceSub, Option.isSome_some]
    obtain ⟨h1, h2⟩ := hz z rfl
    exact PostR.tell [1] (hp2 := [cpxB [(iF z.1, iF z.2)]]) (by decide) (by decide) (by decide) (by simp [SubG, renB, cpxs_ren, cpxs_below, cpxB, cpxs]; exact ⟨rfl, rfl⟩) rfl rfl ⟨z.1, z.2, h1, h2, rfl, rfl⟩
end Go.Proofs.YtkjabkgmkkcpdaaGreatDoor
