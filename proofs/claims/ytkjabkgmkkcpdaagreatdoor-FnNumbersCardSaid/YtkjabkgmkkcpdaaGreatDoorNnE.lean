/- Sums of lists, the sine of a quarter. -/
import Derived.Test.YtkjabkgmkkcpdaaGreatDoorNnD
set_option maxRecDepth 10000
set_option maxHeartbeats 4000000
set_option linter.unusedSimpArgs false
set_option linter.unusedVariables false
namespace Go.Proofs.YtkjabkgmkkcpdaaGreatDoor
open Go Go.Abs
theorem angleOf_call {y x z : Nat} (h : CallA Tryz.prog 34 [.flt .f32 y, .flt .f32 x] [] (Ret (.flt .f32 z) [])) : CallA Tryz.prog 35 [.cpx .f32 x y] [] (Ret (.flt .f32 z) []) := by
  refine CallP.out (t := .mk) (go_in (md := md35) mixed Tryz.func35 rfl go35 (by kernel_rfl) ?_)
  simp only [q0, q1, q2, q3, q4, q5, q6, q7, q8, q9, zr0, zr1, zr2, zr3, zq0, zq1, zq2, zq3, zq4, Nat.reduceAdd, Nat.reduceSub, lenA, convA, indexA, flatP, nilI, ifaA, indexS, Int.reduceToNat, cond_true, cond_false, ↓reduceIte, reduceCtorEq, Nat.reduceLT, Nat.reduceLeDiff, Nat.reduceMul, Nat.reduceEqDiff, exists_eq', implies_true, exists_true_left, tys0, tys1, und0, und1, md35, Tryz.ntmps35, Tryz.results35]
  refine call_ret h rfl rfl ?_
  simp only [q0, q1, q2, q3, q4, q5, q6, q7, q8, q9, zr0, zr1, zr2, zr3, zq0, zq1, zq2, zq3, zq4, Nat.reduceAdd, Nat.reduceSub, lenA, convA, indexA, flatP, nilI, ifaA, indexS, Int.reduceToNat, cond_true, cond_false, ↓reduceIte, reduceCtorEq, Nat.reduceLT, Nat.reduceLeDiff, Nat.reduceMul, Nat.reduceEqDiff, exists_eq', implies_true, exists_true_left, tys0, tys1, und0, und1, md35, Tryz.ntmps35, Tryz.results35]
  exact PostR.pure ⟨rfl, rfl⟩ rfl
theorem narrowN_call (x : Nat) (h : okW x) : CallA Tryz.prog 36 [.flt .f64 (wid x)] [] (Ret (.flt .f32 x) []) := by
  obtain ⟨h1, h2⟩ := narrow_wide h
  refine CallP.out (t := .mk) (go_in (md := md36) mixed Tryz.func36 rfl go36 (by kernel_rfl) ?_)
  simp only [q0, q1, q2, q3, q4, q5, q6, q7, q8, q9, zr0, zr1, zr2, zr3, zq0, zq1, zq2, zq3, zq4, Nat.reduceAdd, Nat.reduceSub, lenA, convA, indexA, flatP, nilI, ifaA, indexS, Int.reduceToNat, cond_true, cond_false, ↓reduceIte, reduceCtorEq, Nat.reduceLT, Nat.reduceLeDiff, Nat.reduceMul, Nat.reduceEqDiff, exists_eq', implies_true, exists_true_left, tys0, tys1, und0, und1, md36, Tryz.ntmps36, Tryz.results36]
  refine ⟨h1, PostR.pure ⟨?_, rfl⟩ rfl⟩
  show AV.flt .f32 (nrw (wid x)) = _
  rw [h2]
def sumF (L : List Nat) : Nat → Nat
  | 0 => canon .f32 0
  | i + 1 => fadd .f32 (sumF L i) (L.getD i 0)
theorem sumNumbers_call (L : List Nat) (hl : L.length ≤ 256) : CallA Tryz.prog 30 [.ro (flts L)] [] (Ret (.tup [.flt .f32 (sumF L L.length), .bool true]) []) := by
  have fl : (flts L).length = L.length := flts_len _
  refine CallP.out (t := .mk) (go_in (md := md30) mixed Tryz.func30 rfl go30 (by kernel_rfl) ?_)
  simp only [q0, q1, q2, q3, q4, q5, q6, q7, q8, q9, zr0, zr1, zr2, zr3, zq0, zq1, zq2, zq3, zq4, Nat.reduceAdd, Nat.reduceSub, lenA, convA, indexA, flatP, nilI, ifaA, indexS, Int.reduceToNat, cond_true, cond_false, ↓reduceIte, reduceCtorEq, Nat.reduceLT, Nat.reduceLeDiff, Nat.reduceMul, Nat.reduceEqDiff, exists_eq', implies_true, exists_true_left, tys0, tys1, und0, und1, md30, Tryz.ntmps30, Tryz.results30, fl]
  refine br_no (by first | exact decide_eq_false (by omega) | exact beq_false_of_ne (by omega) | (simp only [bne_eq_false_iff_eq, beq_eq_false_iff_ne, ne_eq]; omega)) ?_; simp only [q0, q1, q2, q3, q4, q5, q6, q7, q8, q9, zr0, zr1, zr2, zr3, zq0, zq1, zq2, zq3, zq4, Nat.reduceAdd, Nat.reduceSub, lenA, convA, indexA, flatP, nilI, ifaA, indexS, Int.reduceToNat, cond_true, cond_false, ↓reduceIte, reduceCtorEq, Nat.reduceLT, Nat.reduceLeDiff, Nat.reduceMul, Nat.reduceEqDiff, exists_eq', implies_true, exists_true_left, tys0, tys1, und0, und1, md30, Tryz.ntmps30, Tryz.results30, fl]
  refine go_round (md := md30) mixed (by kernel_rfl) (fun i : {i : Nat // i ≤ L.length} => ⟨[.any, .any, .any, .any, .flt .f32 (sumF L i.1), .any, .any, .any, .any, .any, .ro (flts L), .int .i64 L.length, .int .i64 i.1, .any, .any, .any, .any, .any, .any, .any, .any], []⟩) (fun i => L.length - i.1) ⟨0, Nat.zero_le _⟩ ?_ ?_
  · exact weak_drop (by simp) (by simp [DropHp, ints_below, flts_below, sumF]) (by simp [DropTm, DropV, below, belowM, belowL, sumF])
  rintro ⟨i, hi⟩
  dsimp only
  simp only [q0, q1, q2, q3, q4, q5, q6, q7, q8, q9, zr0, zr1, zr2, zr3, zq0, zq1, zq2, zq3, zq4, Nat.reduceAdd, Nat.reduceSub, lenA, convA, indexA, flatP, nilI, ifaA, indexS, Int.reduceToNat, cond_true, cond_false, ↓reduceIte, reduceCtorEq, Nat.reduceLT, Nat.reduceLeDiff, Nat.reduceMul, Nat.reduceEqDiff, exists_eq', implies_true, exists_true_left, tys0, tys1, und0, und1, md30, Tryz.ntmps30, Tryz.results30, fl]
  refine br_intro (fun h => ?_) (fun h => ?_) <;> simp only [q0, q1, q2, q3, q4, q5, q6, q7, q8, q9, zr0, zr1, zr2, zr3, zq0, zq1, zq2, zq3, zq4, Nat.reduceAdd, Nat.reduceSub, lenA, convA, indexA, flatP, nilI, ifaA, indexS, Int.reduceToNat, cond_true, cond_false, ↓reduceIte, reduceCtorEq, Nat.reduceLT, Nat.reduceLeDiff, Nat.reduceMul, Nat.reduceEqDiff, exists_eq', implies_true, exists_true_left, tys0, tys1, und0, und1, md30, Tryz.ntmps30, Tryz.results30, fl]
  · have hi' : i < L.length := by have := of_decide_eq_true h; omega
    have hI : (i : Int) < (L.length : Int) := by omega
    have w1 : IntKind.i64.wrap ((i : Int) + 1) = ((i + 1 : Nat) : Int) := w64_succ i (by omega)
    have gd : L.getD i 0 = L[i] := getD_at L 0 i hi'
    simp only [q0, q1, q2, q3, q4, q5, q6, q7, q8, q9, zr0, zr1, zr2, zr3, zq0, zq1, zq2, zq3, zq4, Nat.reduceAdd, Nat.reduceSub, lenA, convA, indexA, flatP, nilI, ifaA, indexS, Int.reduceToNat, cond_true, cond_false, ↓reduceIte, reduceCtorEq, Nat.reduceLT, Nat.reduceLeDiff, Nat.reduceMul, Nat.reduceEqDiff, exists_eq', implies_true, exists_true_left, tys0, tys1, und0, und1, md30, Tryz.ntmps30, Tryz.results30, hi', hI, fl, flts_get, w1]
    refine ⟨⟨i + 1, by omega⟩, by show L.length - (i + 1) < L.length - i; omega, ?_⟩
    exact weak_drop (by simp) (by simp [DropHp, ints_below, flts_below, sumF, List.getElem?_eq_getElem hi', Option.getD_some]) (by simp [DropTm, DropV, below, belowM, belowL, sumF, List.getElem?_eq_getElem hi', Option.getD_some])
  · have e : i = L.length := by have := of_decide_eq_false h; omega
    subst e
    exact PostR.pure ⟨rfl, rfl⟩ rfl
def q64 : Nat := 4598175219545276416
def kS : Nat → Nat
  | 0 => canon .f64 4620693217682128896
  | j + 1 => fsub .f64 (kS j) (canon .f64 4607182418800017408)
def zS : Nat := fmul .f64 q64 (canon .f64 4618760256179416344)
def pS : Nat → Nat
  | 0 => canon .f64 4607182418800017408
  | j + 1 => fsub .f64 (canon .f64 4607182418800017408) (fdiv .f64 (fmul .f64 (fmul .f64 zS zS) (pS j)) (fmul .f64 (fmul .f64 (canon .f64 4611686018427387904) (kS j)) (fadd .f64 (fmul .f64 (canon .f64 4611686018427387904) (kS j)) (canon .f64 4607182418800017408))))
theorem kS_ge : ∀ j : Nat, j < 9 → fge .f64 (kS j) (canon .f64 4607182418800017408) = decide (j < 8) := by decide +kernel
theorem fraction_call : CallA Tryz.prog 84 [.flt .f64 q64] [] (Ret (.flt .f64 q64) []) := by
  have h1 : (FloatKind.f64.decode q64).toInt .zero = some 0 := by decide +kernel
  have h2 : fsub .f64 q64 (canon .f64 (FloatKind.f64.nearest 0)) = q64 := by decide +kernel
  have h3 : flt .f64 q64 (canon .f64 0) = false := by decide +kernel
  have h4 : IntKind.i64.min ≤ 0 := by decide
  have h5 : 0 ≤ IntKind.i64.max := by decide
  refine CallP.out (t := .mk) (go_in (md := md84) mixed Tryz.func84 rfl go84 (by kernel_rfl) ?_)
  simp only [q0, q1, q2, q3, q4, q5, q6, q7, q8, q9, zr0, zr1, zr2, zr3, zq0, zq1, zq2, zq3, zq4, Nat.reduceAdd, Nat.reduceSub, lenA, convA, indexA, flatP, nilI, ifaA, indexS, Int.reduceToNat, cond_true, cond_false, ↓reduceIte, reduceCtorEq, Nat.reduceLT, Nat.reduceLeDiff, Nat.reduceMul, Nat.reduceEqDiff, exists_eq', implies_true, exists_true_left, tys0, tys1, und0, und1, md84, Tryz.ntmps84, Tryz.results84, h1, h2, h3, h4, h5, exists_eq_left']
  exact PostR.pure ⟨rfl, rfl⟩ rfl
theorem sine_call : CallA Tryz.prog 68 [.flt .f64 q64] [] (Ret (.flt .f64 (fmul .f64 zS (pS 8))) []) := by
  have h1 : fge .f64 q64 (canon .f64 4602678819172646912) = false := by decide +kernel
  have h2 : fgt .f64 q64 (canon .f64 4598175219545276416) = false := by decide +kernel
  have kg : ∀ j : Nat, j ≤ 8 → fge .f64 (kS j) (canon .f64 4607182418800017408) = decide (j < 8) := fun j hj => kS_ge j (by omega)
  have hz : fmul .f64 q64 (canon .f64 4618760256179416344) = zS := rfl
  refine CallP.out (t := .mk) (go_in (md := md68) mixed Tryz.func68 rfl go68 (by kernel_rfl) ?_)
  simp only [q0, q1, q2, q3, q4, q5, q6, q7, q8, q9, zr0, zr1, zr2, zr3, zq0, zq1, zq2, zq3, zq4, Nat.reduceAdd, Nat.reduceSub, lenA, convA, indexA, flatP, nilI, ifaA, indexS, Int.reduceToNat, cond_true, cond_false, ↓reduceIte, reduceCtorEq, Nat.reduceLT, Nat.reduceLeDiff, Nat.reduceMul, Nat.reduceEqDiff, exists_eq', implies_true, exists_true_left, tys0, tys1, und0, und1, md68, Tryz.ntmps68, Tryz.results68]
  refine call_ret fraction_call rfl rfl ?_
  simp only [q0, q1, q2, q3, q4, q5, q6, q7, q8, q9, zr0, zr1, zr2, zr3, zq0, zq1, zq2, zq3, zq4, Nat.reduceAdd, Nat.reduceSub, lenA, convA, indexA, flatP, nilI, ifaA, indexS, Int.reduceToNat, cond_true, cond_false, ↓reduceIte, reduceCtorEq, Nat.reduceLT, Nat.reduceLeDiff, Nat.reduceMul, Nat.reduceEqDiff, exists_eq', implies_true, exists_true_left, tys0, tys1, und0, und1, md68, Tryz.ntmps68, Tryz.results68, h1, h2, hz]
  refine go_round (md := md68) mixed (by kernel_rfl) (fun j : {j : Nat // j ≤ 8} => ⟨[.any, .any, .any, .any, .bool false, .flt .f64 zS, .flt .f64 (fmul .f64 zS zS), .flt .f64 (pS j.1), .flt .f64 (kS j.1), .any, .any, .any, .any, .any, .any, .any, .any, .any, .any, .any, .any, .any, .any, .any, .any, .any, .any, .any, .any, .any, .any, .any, .any, .any, .any, .any, .any, .any, .any, .any, .any, .any, .any, .any, .any, .any, .any, .any, .any, .any, .any], []⟩) (fun j => 8 - j.1) ⟨0, Nat.zero_le _⟩ ?_ ?_
  · exact weak_drop (by simp) (by simp [DropHp, ints_below, flts_below, pS, kS]) (by simp [DropTm, DropV, below, belowM, belowL, pS, kS])
  rintro ⟨j, hj⟩
  dsimp only
  simp only [q0, q1, q2, q3, q4, q5, q6, q7, q8, q9, zr0, zr1, zr2, zr3, zq0, zq1, zq2, zq3, zq4, Nat.reduceAdd, Nat.reduceSub, lenA, convA, indexA, flatP, nilI, ifaA, indexS, Int.reduceToNat, cond_true, cond_false, ↓reduceIte, reduceCtorEq, Nat.reduceLT, Nat.reduceLeDiff, Nat.reduceMul, Nat.reduceEqDiff, exists_eq', implies_true, exists_true_left, tys0, tys1, und0, und1, md68, Tryz.ntmps68, Tryz.results68, kg j hj]
  refine br_intro (fun h => ?_) (fun h => ?_) <;> simp only [q0, q1, q2, q3, q4, q5, q6, q7, q8, q9, zr0, zr1, zr2, zr3, zq0, zq1, zq2, zq3, zq4, Nat.reduceAdd, Nat.reduceSub, lenA, convA, indexA, flatP, nilI, ifaA, indexS, Int.reduceToNat, cond_true, cond_false, ↓reduceIte, reduceCtorEq, Nat.reduceLT, Nat.reduceLeDiff, Nat.reduceMul, Nat.reduceEqDiff, exists_eq', implies_true, exists_true_left, tys0, tys1, und0, und1, md68, Tryz.ntmps68, Tryz.results68]
  · have h' : j < 8 := of_decide_eq_true h
    refine ⟨⟨j + 1, by omega⟩, by show 8 - (j + 1) < 8 - j; omega, ?_⟩
    exact weak_drop (by simp) (by simp [DropHp, ints_below, flts_below, pS, kS]) (by simp [DropTm, DropV, below, belowM, belowL, pS, kS])
  · have e : j = 8 := by have := of_decide_eq_false h; omega
    subst e
    exact PostR.pure ⟨rfl, rfl⟩ rfl
def nokB (x : Nat) : Bool := match FloatKind.f64.decode x with
  | .number n m e => !(FloatKind.f32.decode (FloatKind.f32.encode (.number n m e))).isInfinity
  | _ => true
theorem nok_of {x : Nat} (h : nokB x = true) : nok x := by
  right
  unfold nokB at h
  split at h
  · rename_i n m e hd
    rw [hd]
    simpa using h
  · rename_i hd
    split
    · rename_i n m e he
      exact absurd he (hd n m e)
    · trivial
theorem sineTurns_call : CallA Tryz.prog 37 [.flt .f32 (canon .f32 1048576000)] [] (Ret (.flt .f32 1065353216) []) := by
  have h1 : finB .f32 (canon .f32 1048576000) = true := by decide +kernel
  have h2 : fconv .f64 .f32 (canon .f32 1048576000) = q64 := by decide +kernel
  have h3 : fge .f64 (q64 % 9223372036854775808) (canon .f64 4841369599423283200) = false := by decide +kernel
  have h4 : fconv .f32 .f64 (fmul .f64 zS (pS 8)) = 1065353216 := by decide +kernel
  have gr : CallA Tryz.prog 67 [.flt .f64 q64] [] (Ret (.bool false) []) := by
    refine CallP.out (t := .mk) (go_in (md := md67) mixed Tryz.func67 rfl go67 (by kernel_rfl) ?_)
    simp only [q0, q1, q2, q3, q4, q5, q6, q7, q8, q9, zr0, zr1, zr2, zr3, zq0, zq1, zq2, zq3, zq4, Nat.reduceAdd, Nat.reduceSub, lenA, convA, indexA, flatP, nilI, ifaA, indexS, Int.reduceToNat, cond_true, cond_false, ↓reduceIte, reduceCtorEq, Nat.reduceLT, Nat.reduceLeDiff, Nat.reduceMul, Nat.reduceEqDiff, exists_eq', implies_true, exists_true_left, tys0, tys1, und0, und1, md67, Tryz.ntmps67, Tryz.results67]
    refine call_ret (abs_call q64 (by decide +kernel) (by decide +kernel)) rfl rfl ?_
    simp only [q0, q1, q2, q3, q4, q5, q6, q7, q8, q9, zr0, zr1, zr2, zr3, zq0, zq1, zq2, zq3, zq4, Nat.reduceAdd, Nat.reduceSub, lenA, convA, indexA, flatP, nilI, ifaA, indexS, Int.reduceToNat, cond_true, cond_false, ↓reduceIte, reduceCtorEq, Nat.reduceLT, Nat.reduceLeDiff, Nat.reduceMul, Nat.reduceEqDiff, exists_eq', implies_true, exists_true_left, tys0, tys1, und0, und1, md67, Tryz.ntmps67, Tryz.results67, h3]
    exact PostR.pure ⟨rfl, rfl⟩ rfl
  refine CallP.out (t := .mk) (go_in (md := md37) mixed Tryz.func37 rfl go37 (by kernel_rfl) ?_)
  simp only [q0, q1, q2, q3, q4, q5, q6, q7, q8, q9, zr0, zr1, zr2, zr3, zq0, zq1, zq2, zq3, zq4, Nat.reduceAdd, Nat.reduceSub, lenA, convA, indexA, flatP, nilI, ifaA, indexS, Int.reduceToNat, cond_true, cond_false, ↓reduceIte, reduceCtorEq, Nat.reduceLT, Nat.reduceLeDiff, Nat.reduceMul, Nat.reduceEqDiff, exists_eq', implies_true, exists_true_left, tys0, tys1, und0, und1, md37, Tryz.ntmps37, Tryz.results37]
  refine call_ret (isFinite_call _) rfl rfl ?_
  rw [h1]
  simp only [q0, q1, q2, q3, q4, q5, q6, q7, q8, q9, zr0, zr1, zr2, zr3, zq0, zq1, zq2, zq3, zq4, Nat.reduceAdd, Nat.reduceSub, lenA, convA, indexA, flatP, nilI, ifaA, indexS, Int.reduceToNat, cond_true, cond_false, ↓reduceIte, reduceCtorEq, Nat.reduceLT, Nat.reduceLeDiff, Nat.reduceMul, Nat.reduceEqDiff, exists_eq', implies_true, exists_true_left, tys0, tys1, und0, und1, md37, Tryz.ntmps37, Tryz.results37, h2]
  refine call_ret gr rfl rfl ?_
  simp only [q0, q1, q2, q3, q4, q5, q6, q7, q8, q9, zr0, zr1, zr2, zr3, zq0, zq1, zq2, zq3, zq4, Nat.reduceAdd, Nat.reduceSub, lenA, convA, indexA, flatP, nilI, ifaA, indexS, Int.reduceToNat, cond_true, cond_false, ↓reduceIte, reduceCtorEq, Nat.reduceLT, Nat.reduceLeDiff, Nat.reduceMul, Nat.reduceEqDiff, exists_eq', implies_true, exists_true_left, tys0, tys1, und0, und1, md37, Tryz.ntmps37, Tryz.results37, h2]
  refine call_ret sine_call rfl rfl ?_
  simp only [q0, q1, q2, q3, q4, q5, q6, q7, q8, q9, zr0, zr1, zr2, zr3, zq0, zq1, zq2, zq3, zq4, Nat.reduceAdd, Nat.reduceSub, lenA, convA, indexA, flatP, nilI, ifaA, indexS, Int.reduceToNat, cond_true, cond_false, ↓reduceIte, reduceCtorEq, Nat.reduceLT, Nat.reduceLeDiff, Nat.reduceMul, Nat.reduceEqDiff, exists_eq', implies_true, exists_true_left, tys0, tys1, und0, und1, md37, Tryz.ntmps37, Tryz.results37]
  refine ⟨nok_of (by decide +kernel), ?_⟩
  rw [h4]
  exact PostR.pure ⟨rfl, rfl⟩ rfl
end Go.Proofs.YtkjabkgmkkcpdaaGreatDoor
