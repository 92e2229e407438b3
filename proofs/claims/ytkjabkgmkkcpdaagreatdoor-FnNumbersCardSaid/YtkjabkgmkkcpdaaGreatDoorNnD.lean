/- The angle of a point is told by a number. -/
import Derived.Test.YtkjabkgmkkcpdaaGreatDoorNnC
set_option maxRecDepth 10000
set_option maxHeartbeats 4000000
set_option linter.unusedSimpArgs false
set_option linter.unusedVariables false
namespace Go.Proofs.YtkjabkgmkkcpdaaGreatDoor
open Go Go.Abs
theorem nan_call : ∃ z, (FloatKind.f64.decode z).isNaN = true ∧ CallA Tryz.prog 66 [] [] (Ret (.flt .f64 z) []) := by
  refine ⟨nanOf .f64, by decide +kernel, ?_⟩
  refine CallP.out (t := .mk) (go_in (md := md66) mixed Tryz.func66 rfl go66 (by kernel_rfl) ?_)
  simp only [q0, q1, q2, q3, q4, q5, q6, q7, q8, q9, zr0, zr1, zr2, zr3, zq0, zq1, zq2, zq3, zq4, Nat.reduceAdd, Nat.reduceSub, lenA, convA, indexA, flatP, nilI, ifaA, indexS, Int.reduceToNat, cond_true, cond_false, ↓reduceIte, reduceCtorEq, Nat.reduceLT, Nat.reduceLeDiff, Nat.reduceMul, Nat.reduceEqDiff, exists_eq', implies_true, exists_true_left, tys0, tys1, und0, und1, md66, Tryz.ntmps66, Tryz.results66]
  refine call_ret (f64frombits_call _) rfl rfl ?_
  simp only [q0, q1, q2, q3, q4, q5, q6, q7, q8, q9, zr0, zr1, zr2, zr3, zq0, zq1, zq2, zq3, zq4, Nat.reduceAdd, Nat.reduceSub, lenA, convA, indexA, flatP, nilI, ifaA, indexS, Int.reduceToNat, cond_true, cond_false, ↓reduceIte, reduceCtorEq, Nat.reduceLT, Nat.reduceLeDiff, Nat.reduceMul, Nat.reduceEqDiff, exists_eq', implies_true, exists_true_left, tys0, tys1, und0, und1, md66, Tryz.ntmps66, Tryz.results66]
  exact PostR.pure ⟨by congr 1, rfl⟩ rfl
theorem absF_call (y : Nat) (h : (FloatKind.f64.decode (wid y)).isNaN = false) : CallA Tryz.prog 65 [.flt .f64 (fconv .f64 .f32 y)] [] (Ret (.flt .f64 (aF y)) []) := abs_call (wid y) h (wide_lt y)
theorem angle_ok (y x : Nat) : ∃ z, CallA Tryz.prog 34 [.flt .f32 y, .flt .f32 x] [] (Ret (.flt .f32 z) []) := by
  obtain ⟨nn, hn, ncall⟩ := nan_call
  cases hx : finB .f32 x with
  | false =>
    refine ⟨nrw nn, ?_⟩
    refine CallP.out (t := .mk) (go_in (md := md34) mixed Tryz.func34 rfl go34 (by kernel_rfl) ?_)
    simp only [q0, q1, q2, q3, q4, q5, q6, q7, q8, q9, zr0, zr1, zr2, zr3, zq0, zq1, zq2, zq3, zq4, Nat.reduceAdd, Nat.reduceSub, lenA, convA, indexA, flatP, nilI, ifaA, indexS, Int.reduceToNat, cond_true, cond_false, ↓reduceIte, reduceCtorEq, Nat.reduceLT, Nat.reduceLeDiff, Nat.reduceMul, Nat.reduceEqDiff, exists_eq', implies_true, exists_true_left, tys0, tys1, und0, und1, md34, Tryz.ntmps34, Tryz.results34]
    refine call_ret (isFinite_call x) rfl rfl ?_
    rw [hx]
    simp only [q0, q1, q2, q3, q4, q5, q6, q7, q8, q9, zr0, zr1, zr2, zr3, zq0, zq1, zq2, zq3, zq4, Nat.reduceAdd, Nat.reduceSub, lenA, convA, indexA, flatP, nilI, ifaA, indexS, Int.reduceToNat, cond_true, cond_false, ↓reduceIte, reduceCtorEq, Nat.reduceLT, Nat.reduceLeDiff, Nat.reduceMul, Nat.reduceEqDiff, exists_eq', implies_true, exists_true_left, tys0, tys1, und0, und1, md34, Tryz.ntmps34, Tryz.results34]
    refine call_ret ncall rfl rfl ?_
    simp only [q0, q1, q2, q3, q4, q5, q6, q7, q8, q9, zr0, zr1, zr2, zr3, zq0, zq1, zq2, zq3, zq4, Nat.reduceAdd, Nat.reduceSub, lenA, convA, indexA, flatP, nilI, ifaA, indexS, Int.reduceToNat, cond_true, cond_false, ↓reduceIte, reduceCtorEq, Nat.reduceLT, Nat.reduceLeDiff, Nat.reduceMul, Nat.reduceEqDiff, exists_eq', implies_true, exists_true_left, tys0, tys1, und0, und1, md34, Tryz.ntmps34, Tryz.results34]
    refine ⟨nok_not (.inl hn), ?_⟩
    exact PostR.pure ⟨rfl, rfl⟩ rfl
  | true =>
    cases hy : finB .f32 y with
    | false =>
      refine ⟨nrw nn, ?_⟩
      refine CallP.out (t := .mk) (go_in (md := md34) mixed Tryz.func34 rfl go34 (by kernel_rfl) ?_)
      simp only [q0, q1, q2, q3, q4, q5, q6, q7, q8, q9, zr0, zr1, zr2, zr3, zq0, zq1, zq2, zq3, zq4, Nat.reduceAdd, Nat.reduceSub, lenA, convA, indexA, flatP, nilI, ifaA, indexS, Int.reduceToNat, cond_true, cond_false, ↓reduceIte, reduceCtorEq, Nat.reduceLT, Nat.reduceLeDiff, Nat.reduceMul, Nat.reduceEqDiff, exists_eq', implies_true, exists_true_left, tys0, tys1, und0, und1, md34, Tryz.ntmps34, Tryz.results34]
      refine call_ret (isFinite_call x) rfl rfl ?_
      rw [hx]
      simp only [q0, q1, q2, q3, q4, q5, q6, q7, q8, q9, zr0, zr1, zr2, zr3, zq0, zq1, zq2, zq3, zq4, Nat.reduceAdd, Nat.reduceSub, lenA, convA, indexA, flatP, nilI, ifaA, indexS, Int.reduceToNat, cond_true, cond_false, ↓reduceIte, reduceCtorEq, Nat.reduceLT, Nat.reduceLeDiff, Nat.reduceMul, Nat.reduceEqDiff, exists_eq', implies_true, exists_true_left, tys0, tys1, und0, und1, md34, Tryz.ntmps34, Tryz.results34]
      refine call_ret (isFinite_call y) rfl rfl ?_
      rw [hy]
      simp only [q0, q1, q2, q3, q4, q5, q6, q7, q8, q9, zr0, zr1, zr2, zr3, zq0, zq1, zq2, zq3, zq4, Nat.reduceAdd, Nat.reduceSub, lenA, convA, indexA, flatP, nilI, ifaA, indexS, Int.reduceToNat, cond_true, cond_false, ↓reduceIte, reduceCtorEq, Nat.reduceLT, Nat.reduceLeDiff, Nat.reduceMul, Nat.reduceEqDiff, exists_eq', implies_true, exists_true_left, tys0, tys1, und0, und1, md34, Tryz.ntmps34, Tryz.results34]
      refine call_ret ncall rfl rfl ?_
      simp only [q0, q1, q2, q3, q4, q5, q6, q7, q8, q9, zr0, zr1, zr2, zr3, zq0, zq1, zq2, zq3, zq4, Nat.reduceAdd, Nat.reduceSub, lenA, convA, indexA, flatP, nilI, ifaA, indexS, Int.reduceToNat, cond_true, cond_false, ↓reduceIte, reduceCtorEq, Nat.reduceLT, Nat.reduceLeDiff, Nat.reduceMul, Nat.reduceEqDiff, exists_eq', implies_true, exists_true_left, tys0, tys1, und0, und1, md34, Tryz.ntmps34, Tryz.results34]
      refine ⟨nok_not (.inl hn), ?_⟩
      exact PostR.pure ⟨rfl, rfl⟩ rfl
    | true =>
      cases hz : (feq .f32 x (canon .f32 0) && feq .f32 y (canon .f32 0)) with
      | true =>
        rw [Bool.and_eq_true] at hz
        refine ⟨canon .f32 0, ?_⟩
        refine CallP.out (t := .mk) (go_in (md := md34) mixed Tryz.func34 rfl go34 (by kernel_rfl) ?_)
        simp only [q0, q1, q2, q3, q4, q5, q6, q7, q8, q9, zr0, zr1, zr2, zr3, zq0, zq1, zq2, zq3, zq4, Nat.reduceAdd, Nat.reduceSub, lenA, convA, indexA, flatP, nilI, ifaA, indexS, Int.reduceToNat, cond_true, cond_false, ↓reduceIte, reduceCtorEq, Nat.reduceLT, Nat.reduceLeDiff, Nat.reduceMul, Nat.reduceEqDiff, exists_eq', implies_true, exists_true_left, tys0, tys1, und0, und1, md34, Tryz.ntmps34, Tryz.results34]
        refine call_ret (isFinite_call x) rfl rfl ?_
        rw [hx]
        simp only [q0, q1, q2, q3, q4, q5, q6, q7, q8, q9, zr0, zr1, zr2, zr3, zq0, zq1, zq2, zq3, zq4, Nat.reduceAdd, Nat.reduceSub, lenA, convA, indexA, flatP, nilI, ifaA, indexS, Int.reduceToNat, cond_true, cond_false, ↓reduceIte, reduceCtorEq, Nat.reduceLT, Nat.reduceLeDiff, Nat.reduceMul, Nat.reduceEqDiff, exists_eq', implies_true, exists_true_left, tys0, tys1, und0, und1, md34, Tryz.ntmps34, Tryz.results34]
        refine call_ret (isFinite_call y) rfl rfl ?_
        rw [hy]
        simp only [q0, q1, q2, q3, q4, q5, q6, q7, q8, q9, zr0, zr1, zr2, zr3, zq0, zq1, zq2, zq3, zq4, Nat.reduceAdd, Nat.reduceSub, lenA, convA, indexA, flatP, nilI, ifaA, indexS, Int.reduceToNat, cond_true, cond_false, ↓reduceIte, reduceCtorEq, Nat.reduceLT, Nat.reduceLeDiff, Nat.reduceMul, Nat.reduceEqDiff, exists_eq', implies_true, exists_true_left, tys0, tys1, und0, und1, md34, Tryz.ntmps34, Tryz.results34, hz.1, hz.2]
        exact PostR.pure ⟨rfl, rfl⟩ rfl
      | false =>
        have ta := t0_u1 hy hx hz
        have tb := tF_u1 ta 3
        have wxn := fin_notnan (wide_rn hx).1.fin
        have wyn := fin_notnan (wide_rn hy).1.fin
        have gb := g3_bd (fgt .f64 (aF y) (aF x)) (flt .f32 x (canon .f32 0)) (flt .f32 y (canon .f32 0)) tb
        have gk := bd_nok gb (by decide)
        have e1 : feq .f32 x (canon .f32 0) = true → feq .f32 y (canon .f32 0) = false := fun h => by rw [h, Bool.true_and] at hz; exact hz
        have et : t0F y x = if fgt .f64 (aF y) (aF x) = true then fdiv .f64 (aF x) (aF y) else fdiv .f64 (aF y) (aF x) := rfl
        refine ⟨nrw (g3F (fgt .f64 (aF y) (aF x)) (flt .f32 x (canon .f32 0)) (flt .f32 y (canon .f32 0)) (tF (t0F y x) 3)), ?_⟩
        have kge : ∀ i : Nat, i ≤ 8 → fge .f64 (kF i) (canon .f64 4607182418800017408) = decide (i < 8) := fun i hi => kF_ge hi
        refine CallP.out (t := .mk) (go_in (md := md34) mixed Tryz.func34 rfl go34 (by kernel_rfl) ?_)
        simp only [q0, q1, q2, q3, q4, q5, q6, q7, q8, q9, zr0, zr1, zr2, zr3, zq0, zq1, zq2, zq3, zq4, Nat.reduceAdd, Nat.reduceSub, lenA, convA, indexA, flatP, nilI, ifaA, indexS, Int.reduceToNat, cond_true, cond_false, ↓reduceIte, reduceCtorEq, Nat.reduceLT, Nat.reduceLeDiff, Nat.reduceMul, Nat.reduceEqDiff, exists_eq', implies_true, exists_true_left, tys0, tys1, und0, und1, md34, Tryz.ntmps34, Tryz.results34]
        refine call_ret (isFinite_call x) rfl rfl ?_
        rw [hx]
        simp only [q0, q1, q2, q3, q4, q5, q6, q7, q8, q9, zr0, zr1, zr2, zr3, zq0, zq1, zq2, zq3, zq4, Nat.reduceAdd, Nat.reduceSub, lenA, convA, indexA, flatP, nilI, ifaA, indexS, Int.reduceToNat, cond_true, cond_false, ↓reduceIte, reduceCtorEq, Nat.reduceLT, Nat.reduceLeDiff, Nat.reduceMul, Nat.reduceEqDiff, exists_eq', implies_true, exists_true_left, tys0, tys1, und0, und1, md34, Tryz.ntmps34, Tryz.results34]
        refine call_ret (isFinite_call y) rfl rfl ?_
        rw [hy]
        cases hb1 : feq .f32 x (canon .f32 0) <;> cases c1 : fgt .f64 (aF y) (aF x) <;> cases c2 : flt .f32 x (canon .f32 0) <;> cases c3 : flt .f32 y (canon .f32 0)
        all_goals
          rw [c1, c2, c3] at gk
          rw [c1] at et
          simp only [if_true, Bool.false_eq_true, if_false] at et
          simp only [q0, q1, q2, q3, q4, q5, q6, q7, q8, q9, zr0, zr1, zr2, zr3, zq0, zq1, zq2, zq3, zq4, Nat.reduceAdd, Nat.reduceSub, lenA, convA, indexA, flatP, nilI, ifaA, indexS, Int.reduceToNat, cond_true, cond_false, ↓reduceIte, reduceCtorEq, Nat.reduceLT, Nat.reduceLeDiff, Nat.reduceMul, Nat.reduceEqDiff, exists_eq', implies_true, exists_true_left, tys0, tys1, und0, und1, md34, Tryz.ntmps34, Tryz.results34, hb1, e1]
          refine call_ret (absF_call y wyn) rfl rfl ?_
          simp only [q0, q1, q2, q3, q4, q5, q6, q7, q8, q9, zr0, zr1, zr2, zr3, zq0, zq1, zq2, zq3, zq4, Nat.reduceAdd, Nat.reduceSub, lenA, convA, indexA, flatP, nilI, ifaA, indexS, Int.reduceToNat, cond_true, cond_false, ↓reduceIte, reduceCtorEq, Nat.reduceLT, Nat.reduceLeDiff, Nat.reduceMul, Nat.reduceEqDiff, exists_eq', implies_true, exists_true_left, tys0, tys1, und0, und1, md34, Tryz.ntmps34, Tryz.results34]
          refine call_ret (absF_call x wxn) rfl rfl ?_
          simp only [q0, q1, q2, q3, q4, q5, q6, q7, q8, q9, zr0, zr1, zr2, zr3, zq0, zq1, zq2, zq3, zq4, Nat.reduceAdd, Nat.reduceSub, lenA, convA, indexA, flatP, nilI, ifaA, indexS, Int.reduceToNat, cond_true, cond_false, ↓reduceIte, reduceCtorEq, Nat.reduceLT, Nat.reduceLeDiff, Nat.reduceMul, Nat.reduceEqDiff, exists_eq', implies_true, exists_true_left, tys0, tys1, und0, und1, md34, Tryz.ntmps34, Tryz.results34, c1]
          rw [← et]
          refine go_round (md := md34) mixed (by kernel_rfl) (fun j : {j : Nat // j ≤ 3} => ⟨((.flt .f32 y) :: (.flt .f32 x) :: .any :: .any :: .any :: (.flt .f64 (aF y)) :: (.flt .f64 (aF x)) :: (.flt .f64 (tF (t0F y x) j.1)) :: .any :: .any :: .any :: .any :: .any :: .any :: .any :: .any :: .any :: .any :: .any :: .any :: .any :: .any :: .any :: .any :: .any :: .any :: .any :: .any :: .any :: .any :: .any :: .any :: .any :: .any :: .any :: .any :: .any :: .any :: .any :: .any :: .any :: .any :: .any :: .any :: .any :: (.int .i64 j.1) :: .any :: .any :: .any :: .any :: .any :: .any :: .any :: .any :: .any :: .any :: .any :: .any :: .any :: .any :: .any :: .any :: .any :: .any :: .any :: .any :: .any :: .any :: .any :: .any :: .any :: .any :: .any :: .any :: .any :: .any :: .any :: .any :: .any :: .any :: .any :: .any :: .any :: .any :: .any :: .any :: .any :: .any :: .any :: []), []⟩) (fun j => 3 - j.1) ⟨0, Nat.zero_le _⟩ ?_ ?_
          · exact weak_drop (by simp) (by simp [DropHp, ints_below, flts_below, tF]) (by simp [DropTm, DropV, below, belowM, belowL, tF])
          rintro ⟨j, hj⟩
          dsimp only
          have tj := tF_u1 ta j
          obtain ⟨s1', s2', s3'⟩ := one_sq tj
          simp only [q0, q1, q2, q3, q4, q5, q6, q7, q8, q9, zr0, zr1, zr2, zr3, zq0, zq1, zq2, zq3, zq4, Nat.reduceAdd, Nat.reduceSub, lenA, convA, indexA, flatP, nilI, ifaA, indexS, Int.reduceToNat, cond_true, cond_false, ↓reduceIte, reduceCtorEq, Nat.reduceLT, Nat.reduceLeDiff, Nat.reduceMul, Nat.reduceEqDiff, exists_eq', implies_true, exists_true_left, tys0, tys1, und0, und1, md34, Tryz.ntmps34, Tryz.results34]
          refine br_intro (fun hl => ?_) (fun hl => ?_) <;> simp only [q0, q1, q2, q3, q4, q5, q6, q7, q8, q9, zr0, zr1, zr2, zr3, zq0, zq1, zq2, zq3, zq4, Nat.reduceAdd, Nat.reduceSub, lenA, convA, indexA, flatP, nilI, ifaA, indexS, Int.reduceToNat, cond_true, cond_false, ↓reduceIte, reduceCtorEq, Nat.reduceLT, Nat.reduceLeDiff, Nat.reduceMul, Nat.reduceEqDiff, exists_eq', implies_true, exists_true_left, tys0, tys1, und0, und1, md34, Tryz.ntmps34, Tryz.results34]
          · have hl' : j < 3 := by have := of_decide_eq_true hl; omega
            refine call_ret (sqrt_call _ s1' s2' s3') rfl rfl ?_
            simp only [q0, q1, q2, q3, q4, q5, q6, q7, q8, q9, zr0, zr1, zr2, zr3, zq0, zq1, zq2, zq3, zq4, Nat.reduceAdd, Nat.reduceSub, lenA, convA, indexA, flatP, nilI, ifaA, indexS, Int.reduceToNat, cond_true, cond_false, ↓reduceIte, reduceCtorEq, Nat.reduceLT, Nat.reduceLeDiff, Nat.reduceMul, Nat.reduceEqDiff, exists_eq', implies_true, exists_true_left, tys0, tys1, und0, und1, md34, Tryz.ntmps34, Tryz.results34]
            refine ⟨⟨j + 1, by omega⟩, by show 3 - (j + 1) < 3 - j; omega, ?_⟩
            exact weak_drop (by simp) (by simp [DropHp, ints_below, flts_below, tF, halfF, one64, w64_succ j (by omega)]) (by simp [DropTm, DropV, below, belowM, belowL, tF, halfF, one64, w64_succ j (by omega)])
          have hj3 : j = 3 := by have := of_decide_eq_false hl; omega
          subst hj3
          clear s1' s2' s3'
          generalize tF (t0F y x) 3 = t at tb gk
          refine go_round (md := md34) mixed (by kernel_rfl) (fun i : {i : Nat // i ≤ 8} => ⟨((.flt .f32 y) :: (.flt .f32 x) :: .any :: .any :: .any :: (.flt .f64 (aF y)) :: (.flt .f64 (aF x)) :: (.flt .f64 t) :: (.flt .f64 (fmul .f64 t t)) :: (.flt .f64 (pF (fmul .f64 t t) i.1)) :: (.flt .f64 (kF i.1)) :: .any :: .any :: .any :: .any :: .any :: .any :: .any :: .any :: .any :: .any :: .any :: .any :: .any :: .any :: .any :: .any :: .any :: .any :: .any :: .any :: .any :: .any :: .any :: .any :: .any :: .any :: .any :: .any :: .any :: .any :: .any :: .any :: .any :: .any :: .any :: .any :: .any :: .any :: .any :: .any :: .any :: .any :: .any :: .any :: .any :: .any :: .any :: .any :: .any :: .any :: .any :: .any :: .any :: .any :: .any :: .any :: .any :: .any :: .any :: .any :: .any :: .any :: .any :: .any :: .any :: .any :: .any :: .any :: .any :: .any :: .any :: .any :: .any :: .any :: .any :: .any :: .any :: .any :: []), []⟩) (fun i => 8 - i.1) ⟨0, Nat.zero_le _⟩ ?_ ?_
          · exact weak_drop (by simp) (by simp [DropHp, ints_below, flts_below, pF, kF]) (by simp [DropTm, DropV, below, belowM, belowL, pF, kF])
          rintro ⟨i, hi⟩
          dsimp only
          simp only [q0, q1, q2, q3, q4, q5, q6, q7, q8, q9, zr0, zr1, zr2, zr3, zq0, zq1, zq2, zq3, zq4, Nat.reduceAdd, Nat.reduceSub, lenA, convA, indexA, flatP, nilI, ifaA, indexS, Int.reduceToNat, cond_true, cond_false, ↓reduceIte, reduceCtorEq, Nat.reduceLT, Nat.reduceLeDiff, Nat.reduceMul, Nat.reduceEqDiff, exists_eq', implies_true, exists_true_left, tys0, tys1, und0, und1, md34, Tryz.ntmps34, Tryz.results34, kge i hi]
          refine br_intro (fun hk => ?_) (fun hk => ?_) <;> simp only [q0, q1, q2, q3, q4, q5, q6, q7, q8, q9, zr0, zr1, zr2, zr3, zq0, zq1, zq2, zq3, zq4, Nat.reduceAdd, Nat.reduceSub, lenA, convA, indexA, flatP, nilI, ifaA, indexS, Int.reduceToNat, cond_true, cond_false, ↓reduceIte, reduceCtorEq, Nat.reduceLT, Nat.reduceLeDiff, Nat.reduceMul, Nat.reduceEqDiff, exists_eq', implies_true, exists_true_left, tys0, tys1, und0, und1, md34, Tryz.ntmps34, Tryz.results34]
          · have hk' : i < 8 := of_decide_eq_true hk
            refine ⟨⟨i + 1, by omega⟩, by show 8 - (i + 1) < 8 - i; omega, ?_⟩
            exact weak_drop (by simp) (by simp [DropHp, ints_below, flts_below, pF, kF, one64]) (by simp [DropTm, DropV, below, belowM, belowL, pF, kF, one64])
          have hi8 : i = 8 := by have := of_decide_eq_false hk; omega
          subst hi8
          simp only [q0, q1, q2, q3, q4, q5, q6, q7, q8, q9, zr0, zr1, zr2, zr3, zq0, zq1, zq2, zq3, zq4, Nat.reduceAdd, Nat.reduceSub, lenA, convA, indexA, flatP, nilI, ifaA, indexS, Int.reduceToNat, cond_true, cond_false, ↓reduceIte, reduceCtorEq, Nat.reduceLT, Nat.reduceLeDiff, Nat.reduceMul, Nat.reduceEqDiff, exists_eq', implies_true, exists_true_left, tys0, tys1, und0, und1, md34, Tryz.ntmps34, Tryz.results34, c1, c2, c3]
          exact ⟨gk, PostR.pure ⟨rfl, rfl⟩ rfl⟩
end Go.Proofs.YtkjabkgmkkcpdaaGreatDoor
