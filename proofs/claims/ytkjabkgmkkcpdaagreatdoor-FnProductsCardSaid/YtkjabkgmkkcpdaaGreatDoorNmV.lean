/- The law of products. -/
import Derived.Test.YtkjabkgmkkcpdaaGreatDoorNmU
set_option maxRecDepth 10000
set_option maxHeartbeats 8000000
set_option linter.unusedSimpArgs false
set_option linter.unusedVariables false
namespace Go.Proofs.YtkjabkgmkkcpdaaGreatDoor
open Go Go.Abs
theorem whole2_call (code : List Int) (hc : byteL code) (hl : code.length ≤ 1048576) : CallA Tryz.prog 6 [.ro (kint .u8 code), .int .i64 1, .int .i64 200] [] (fun r hp => ∃ x y : Int, (-200 ≤ x ∧ x ≤ 200) ∧ (-200 ≤ y ∧ y ≤ 200) ∧ r = .ro [.cpx .f32 (iF x) (iF y)] ∧ hp = []) := by
  refine (CallA.freezeQ 2 (whole_call code hc hl)).mono ?_
  rintro r hp ⟨r0, new, ⟨x, y, h1, h2, rfl, rfl⟩, rfl, rfl⟩
  refine ⟨x, y, h1, h2, ?_, rfl⟩
  simp [view_sl, cpxB, cpxs]
  rfl
theorem to_int_all : ∀ n : Nat, n < 401 → (FloatKind.f32.decode (iF ((n : Int) - 200))).toInt .zero = some ((n : Int) - 200) := by decide +kernel
theorem to_int {z : Int} (h : -200 ≤ z ∧ z ≤ 200) : (FloatKind.f32.decode (iF z)).toInt .zero = some z := by
  have := to_int_all (z + 200).toNat (by omega)
  rw [show (((z + 200).toNat : Nat) : Int) - 200 = z by omega] at this
  exact this
theorem i64_in {z : Int} (h : -200 ≤ z ∧ z ≤ 200) : IntKind.i64.min ≤ z ∧ z ≤ IntKind.i64.max := by
  have e1 : IntKind.i64.min = -9223372036854775808 := by decide
  have e2 : IntKind.i64.max = 9223372036854775807 := by decide
  rw [e1, e2]
  omega
theorem prod_in {x y : Int} (hx : -200 ≤ x ∧ x ≤ 200) (hy : -200 ≤ y ∧ y ≤ 200) : -40000 ≤ x * y ∧ x * y ≤ 40000 := by
  have h1 : x.natAbs ≤ 200 := by omega
  have h2 : y.natAbs ≤ 200 := by omega
  have h3 : (x * y).natAbs ≤ 200 * 200 := by rw [Int.natAbs_mul]; exact Nat.mul_le_mul h1 h2
  omega
theorem pow_word {x y : Int} (hx : -200 ≤ x ∧ x ≤ 200) (hy : -200 ≤ y ∧ y ≤ 200) : powW (iF x) (iF y) = wid (iF (x * x + y * y)) := by
  have pxx := prod_in hx hx
  have pyy := prod_in hy hy
  have f53 : (2 : Nat) ^ (fb .f64 + 1) = 9007199254740992 := by decide
  have A := ex_mul (ex_wide (ex_iF (z := x) (by omega))) (ex_wide (ex_iF (z := x) (by omega))) (by rw [f53]; omega)
  have B := ex_mul (ex_wide (ex_iF (z := y) (by omega))) (ex_wide (ex_iF (z := y) (by omega))) (by rw [f53]; omega)
  have sx : 0 ≤ x * x := by rcases Int.le_total 0 x with h | h; exact Int.mul_nonneg h h; exact Int.mul_nonneg_of_nonpos_of_nonpos h h
  have sy : 0 ≤ y * y := by rcases Int.le_total 0 y with h | h; exact Int.mul_nonneg h h; exact Int.mul_nonneg_of_nonpos_of_nonpos h h
  obtain ⟨a, ha⟩ := Int.eq_ofNat_of_zero_le sx
  obtain ⟨b, hb⟩ := Int.eq_ofNat_of_zero_le sy
  by_cases c : 0 < a + b
  · have h1 := wide_int (n := a + b) (by omega)
    rw [ha] at A
    rw [hb] at B
    have h2 := add_int A B c
    rw [ha, hb, show ((a : Int) + (b : Int)) = ((a + b : Nat) : Int) by omega]
    exact h2.trans h1.symm
  · have x0 : x = 0 := by
      have : x * x = 0 := by omega
      rcases Int.mul_eq_zero.1 this with h | h <;> exact h
    have y0 : y = 0 := by
      have : y * y = 0 := by omega
      rcases Int.mul_eq_zero.1 this with h | h <;> exact h
    subst x0 y0
    decide +kernel
theorem pow_root {x y : Int} (hx : -200 ≤ x ∧ x ≤ 200) (hy : -200 ≤ y ∧ y ≤ 200) : rootOk (powW (iF x) (iF y)) := by
  have pxx := prod_in hx hx
  have pyy := prod_in hy hy
  have sx : 0 ≤ x * x := by rcases Int.le_total 0 x with h | h; exact Int.mul_nonneg h h; exact Int.mul_nonneg_of_nonpos_of_nonpos h h
  have sy : 0 ≤ y * y := by rcases Int.le_total 0 y with h | h; exact Int.mul_nonneg h h; exact Int.mul_nonneg_of_nonpos_of_nonpos h h
  have W := pow_exact (ex_iF (z := x) (by omega)) (ex_iF (z := y) (by omega)) (by omega) (by omega)
  have h1 := int_cast_le (show 0 ≤ x * x + y * y by omega)
  have h2 := int_cast_le (show x * x + y * y ≤ 1048576 by omega)
  have e : p2 20 = (1048576 : Rat) := p2_nat 20
  refine ⟨W.fin, ?_, ?_⟩
  · rw [W.val]
    exact h1
  · rw [W.val, e]
    exact h2
theorem readComplexF_call (xs : List (Nat × Nat)) (hl : xs.length ≤ 256) (ok : ∀ x ∈ xs, okW x.1 ∧ okW x.2) : CallA Tryz.prog 18 [.str (wdsT (hexC2 xs))] [] (Ret (.tup [.ro (cpxs xs), .bool true]) []) :=
  (readComplex_call xs hl ok).frozen 2 (by simp [view_tup, view_sl, view_bool, cpxB, map_view_cpxs, List.take_of_length_le, cpxs_len])
theorem products_call (code more : List Int) (hc : byteL code) (hm : byteL more) : CallA Tryz.prog 3 [.ro (kint .u8 code), .ro (kint .u8 more)] [] (Ret (.bool true) []) := by
  refine CallP.out (t := .mk) (go_in (md := md3) mixed Tryz.func3 rfl go3 (by kernel_rfl) ?_)
  simp only [q0, q1, q2, q3, q4, q5, q6, q7, q8, q9, zr0, zr1, zr2, zr3, zq0, zq1, zq2, zq3, zq4, Nat.reduceAdd, Nat.reduceSub, lenA, convA, indexA, flatP, nilI, ifaA, indexS, Int.reduceToNat, cond_true, cond_false, ↓reduceIte, reduceCtorEq, Nat.reduceLT, Nat.reduceLeDiff, Nat.reduceMul, Nat.reduceEqDiff, exists_eq', implies_true, exists_true_left, tys0, tys1, und0, und1, md3, Tryz.ntmps3, Tryz.results3]
  refine call_ret (b10Long_call code more) rfl rfl ?_
  simp only [q0, q1, q2, q3, q4, q5, q6, q7, q8, q9, zr0, zr1, zr2, zr3, zq0, zq1, zq2, zq3, zq4, Nat.reduceAdd, Nat.reduceSub, lenA, convA, indexA, flatP, nilI, ifaA, indexS, Int.reduceToNat, cond_true, cond_false, ↓reduceIte, reduceCtorEq, Nat.reduceLT, Nat.reduceLeDiff, Nat.reduceMul, Nat.reduceEqDiff, exists_eq', implies_true, exists_true_left, tys0, tys1, und0, und1, md3, Tryz.ntmps3, Tryz.results3]
  refine br_intro (fun hlong => ?_) (fun hlong => ?_) <;> simp only [q0, q1, q2, q3, q4, q5, q6, q7, q8, q9, zr0, zr1, zr2, zr3, zq0, zq1, zq2, zq3, zq4, Nat.reduceAdd, Nat.reduceSub, lenA, convA, indexA, flatP, nilI, ifaA, indexS, Int.reduceToNat, cond_true, cond_false, ↓reduceIte, reduceCtorEq, Nat.reduceLT, Nat.reduceLeDiff, Nat.reduceMul, Nat.reduceEqDiff, exists_eq', implies_true, exists_true_left, tys0, tys1, und0, und1, md3, Tryz.ntmps3, Tryz.results3]
  · exact PostR.pure ⟨rfl, rfl⟩ rfl
  have hlc : code.length ≤ 1048576 := by simp at hlong; omega
  have hlm : more.length ≤ 1048576 := by simp at hlong; omega
  refine call_by (whole2_call code hc hlc) ?_
  rintro r hp' ⟨x, y, hx, hy, rfl, rfl⟩
  simp only [q0, q1, q2, q3, q4, q5, q6, q7, q8, q9, zr0, zr1, zr2, zr3, zq0, zq1, zq2, zq3, zq4, Nat.reduceAdd, Nat.reduceSub, lenA, convA, indexA, flatP, nilI, ifaA, indexS, Int.reduceToNat, cond_true, cond_false, ↓reduceIte, reduceCtorEq, Nat.reduceLT, Nat.reduceLeDiff, Nat.reduceMul, Nat.reduceEqDiff, exists_eq', implies_true, exists_true_left, tys0, tys1, und0, und1, md3, Tryz.ntmps3, Tryz.results3]
  refine ⟨Int.le_refl _, ?_⟩
  refine call_by (whole2_call more hm hlm) ?_
  rintro r hp' ⟨u, v, hu, hv, rfl, rfl⟩
  simp only [q0, q1, q2, q3, q4, q5, q6, q7, q8, q9, zr0, zr1, zr2, zr3, zq0, zq1, zq2, zq3, zq4, Nat.reduceAdd, Nat.reduceSub, lenA, convA, indexA, flatP, nilI, ifaA, indexS, Int.reduceToNat, cond_true, cond_false, ↓reduceIte, reduceCtorEq, Nat.reduceLT, Nat.reduceLeDiff, Nat.reduceMul, Nat.reduceEqDiff, exists_eq', implies_true, exists_true_left, tys0, tys1, und0, und1, md3, Tryz.ntmps3, Tryz.results3]
  refine ⟨Int.le_refl _, ?_⟩
  have pxu := prod_in hx hu
  have pyv := prod_in hy hv
  have pxv := prod_in hx hv
  have pyu := prod_in hy hu
  have pxx := prod_in hx hx
  have pyy := prod_in hy hy
  have puu := prod_in hu hu
  have pvv := prod_in hv hv
  have Ex' := ex_iF (z := x) (by omega)
  have Ey := ex_iF (z := y) (by omega)
  have Eu := ex_iF (z := u) (by omega)
  have Ev := ex_iF (z := v) (by omega)
  obtain ⟨M1, P1, P2⟩ := mul_exact Ex' Ey Eu Ev (by omega) (by omega) (by omega) (by omega)
  have Mp := mulComplex_call _ _ _ _ M1
  unfold cpx at Mp
  generalize mulP (iF x, iF y) (iF u, iF v) = p at Mp P1 P2
  refine call_ret Mp rfl rfl ?_
  have tx := to_int hx
  have ty := to_int hy
  have tu := to_int hu
  have tv := to_int hv
  have ix := i64_in hx
  have iy := i64_in hy
  have iu := i64_in hu
  have iv := i64_in hv
  have wxu : IntKind.i64.wrap (x * u) = x * u := w64 (by omega) (by omega)
  have wyv : IntKind.i64.wrap (y * v) = y * v := w64 (by omega) (by omega)
  have wxv : IntKind.i64.wrap (x * v) = x * v := w64 (by omega) (by omega)
  have wyu : IntKind.i64.wrap (y * u) = y * u := w64 (by omega) (by omega)
  have wxx : IntKind.i64.wrap (x * x) = x * x := w64 (by omega) (by omega)
  have wyy : IntKind.i64.wrap (y * y) = y * y := w64 (by omega) (by omega)
  have w1 : IntKind.i64.wrap (x * u - y * v) = x * u - y * v := w64 (by omega) (by omega)
  have w2 : IntKind.i64.wrap (x * v + y * u) = x * v + y * u := w64 (by omega) (by omega)
  have w3 : IntKind.i64.wrap (x * x + y * y) = x * x + y * y := w64 (by omega) (by omega)
  have g1 : Ex .f32 (x * u - y * v) (canon .f32 (FloatKind.f32.nearest (x * u - y * v))) := ex_iF (by omega)
  have g2 : Ex .f32 (x * v + y * u) (canon .f32 (FloatKind.f32.nearest (x * v + y * u))) := ex_iF (by omega)
  have g3 : Ex .f32 (x * x + y * y) (canon .f32 (FloatKind.f32.nearest (x * x + y * y))) := ex_iF (by omega)
  have f1 : feq .f32 p.1 (canon .f32 (FloatKind.f32.nearest (x * u - y * v))) = true := by rw [ex_feq P1 g1]; exact decide_eq_true rfl
  have f2 : feq .f32 p.2 (canon .f32 (FloatKind.f32.nearest (x * v + y * u))) = true := by rw [ex_feq P2 g2]; exact decide_eq_true rfl
  simp only [q0, q1, q2, q3, q4, q5, q6, q7, q8, q9, zr0, zr1, zr2, zr3, zq0, zq1, zq2, zq3, zq4, Nat.reduceAdd, Nat.reduceSub, lenA, convA, indexA, flatP, nilI, ifaA, indexS, Int.reduceToNat, cond_true, cond_false, ↓reduceIte, reduceCtorEq, Nat.reduceLT, Nat.reduceLeDiff, Nat.reduceMul, Nat.reduceEqDiff, exists_eq', implies_true, exists_true_left, tys0, tys1, und0, und1, md3, Tryz.ntmps3, Tryz.results3, tx, ty, tu, tv, ix.1, ix.2, iy.1, iy.2, iu.1, iu.2, iv.1, iv.2, exists_eq_left', wxu, wyv, wxv, wyu, wxx, wyy, w1, w2, w3, f1, f2, Bool.and_self]
  obtain ⟨M2, R1, R2⟩ := mul_exact Eu Ev Ex' Ey (by rw [Int.mul_comm]; omega) (by rw [Int.mul_comm]; omega) (by rw [Int.mul_comm]; omega) (by rw [Int.mul_comm]; omega)
  have Mr := mulComplex_call _ _ _ _ M2
  unfold cpx at Mr
  generalize mulP (iF u, iF v) (iF x, iF y) = q' at Mr R1 R2
  refine call_ret Mr rfl rfl ?_
  have f3 : feq .f32 q'.1 p.1 = true := by rw [ex_feq R1 P1]; exact decide_eq_true (by rw [Int.mul_comm u x, Int.mul_comm v y])
  have f4 : feq .f32 q'.2 p.2 = true := by rw [ex_feq R2 P2]; exact decide_eq_true (by rw [Int.mul_comm u y, Int.mul_comm v x, Int.add_comm])
  simp only [q0, q1, q2, q3, q4, q5, q6, q7, q8, q9, zr0, zr1, zr2, zr3, zq0, zq1, zq2, zq3, zq4, Nat.reduceAdd, Nat.reduceSub, lenA, convA, indexA, flatP, nilI, ifaA, indexS, Int.reduceToNat, cond_true, cond_false, ↓reduceIte, reduceCtorEq, Nat.reduceLT, Nat.reduceLeDiff, Nat.reduceMul, Nat.reduceEqDiff, exists_eq', implies_true, exists_true_left, tys0, tys1, und0, und1, md3, Tryz.ntmps3, Tryz.results3, f3, f4, Bool.and_self]
  have W := pow_exact Ex' Ey (by omega) (by omega)
  obtain ⟨N1, N2⟩ := ex_narrow W (by omega)
  refine call_ret (powerOf_call _ _ N1) rfl rfl ?_
  have f5 : feq .f32 (nrw (powW (iF x) (iF y))) (canon .f32 (FloatKind.f32.nearest (x * x + y * y))) = true := by rw [show nrw (powW (iF x) (iF y)) = fconv .f32 .f64 (powW (iF x) (iF y)) from rfl, ex_feq N2 g3]; exact decide_eq_true rfl
  simp only [q0, q1, q2, q3, q4, q5, q6, q7, q8, q9, zr0, zr1, zr2, zr3, zq0, zq1, zq2, zq3, zq4, Nat.reduceAdd, Nat.reduceSub, lenA, convA, indexA, flatP, nilI, ifaA, indexS, Int.reduceToNat, cond_true, cond_false, ↓reduceIte, reduceCtorEq, Nat.reduceLT, Nat.reduceLeDiff, Nat.reduceMul, Nat.reduceEqDiff, exists_eq', implies_true, exists_true_left, tys0, tys1, und0, und1, md3, Tryz.ntmps3, Tryz.results3, f5]
  refine call_ret (conj_call _ _) rfl rfl ?_
  simp only [q0, q1, q2, q3, q4, q5, q6, q7, q8, q9, zr0, zr1, zr2, zr3, zq0, zq1, zq2, zq3, zq4, Nat.reduceAdd, Nat.reduceSub, lenA, convA, indexA, flatP, nilI, ifaA, indexS, Int.reduceToNat, cond_true, cond_false, ↓reduceIte, reduceCtorEq, Nat.reduceLT, Nat.reduceLeDiff, Nat.reduceMul, Nat.reduceEqDiff, exists_eq', implies_true, exists_true_left, tys0, tys1, und0, und1, md3, Tryz.ntmps3, Tryz.results3]
  have En := ex_neg Ey
  obtain ⟨M3, S1, S2⟩ := mul_exact Ex' Ey Ex' En (by omega) (by rw [Int.mul_neg]; omega) (by rw [Int.mul_neg]; have := prod_in hx hy; omega) (by have := prod_in hy hx; omega)
  have Ms := mulComplex_call _ _ _ _ M3
  unfold cpx at Ms
  generalize mulP (iF x, iF y) (iF x, fneg .f32 (iF y)) = t' at Ms S1 S2
  refine call_ret Ms rfl rfl ?_
  have z0 : Ex .f32 0 (canon .f32 0) := ex_iF (z := 0) (by decide)
  have f6 : feq .f32 t'.1 (canon .f32 (FloatKind.f32.nearest (x * x + y * y))) = true := by rw [ex_feq S1 g3]; exact decide_eq_true (by rw [Int.mul_neg]; omega)
  have f7 : feq .f32 t'.2 (canon .f32 0) = true := by rw [ex_feq S2 z0]; exact decide_eq_true (by rw [Int.mul_neg, Int.mul_comm y x]; omega)
  simp only [q0, q1, q2, q3, q4, q5, q6, q7, q8, q9, zr0, zr1, zr2, zr3, zq0, zq1, zq2, zq3, zq4, Nat.reduceAdd, Nat.reduceSub, lenA, convA, indexA, flatP, nilI, ifaA, indexS, Int.reduceToNat, cond_true, cond_false, ↓reduceIte, reduceCtorEq, Nat.reduceLT, Nat.reduceLeDiff, Nat.reduceMul, Nat.reduceEqDiff, exists_eq', implies_true, exists_true_left, tys0, tys1, und0, und1, md3, Tryz.ntmps3, Tryz.results3, f6, f7, Bool.and_self]
  have rt := pow_root hx hy
  have pw := pow_word hx hy
  refine call_ret (longOf_call _ _ rt) rfl rfl ?_
  simp only [q0, q1, q2, q3, q4, q5, q6, q7, q8, q9, zr0, zr1, zr2, zr3, zq0, zq1, zq2, zq3, zq4, Nat.reduceAdd, Nat.reduceSub, lenA, convA, indexA, flatP, nilI, ifaA, indexS, Int.reduceToNat, cond_true, cond_false, ↓reduceIte, reduceCtorEq, Nat.reduceLT, Nat.reduceLeDiff, Nat.reduceMul, Nat.reduceEqDiff, exists_eq', implies_true, exists_true_left, tys0, tys1, und0, und1, md3, Tryz.ntmps3, Tryz.results3]
  refine call_ret (rootNumber_call (iF (x * x + y * y)) (by rw [← pw]; exact rt)) rfl rfl ?_
  rw [← pw]
  simp only [q0, q1, q2, q3, q4, q5, q6, q7, q8, q9, zr0, zr1, zr2, zr3, zq0, zq1, zq2, zq3, zq4, Nat.reduceAdd, Nat.reduceSub, lenA, convA, indexA, flatP, nilI, ifaA, indexS, Int.reduceToNat, cond_true, cond_false, ↓reduceIte, reduceCtorEq, Nat.reduceLT, Nat.reduceLeDiff, Nat.reduceMul, Nat.reduceEqDiff, exists_eq', implies_true, exists_true_left, tys0, tys1, und0, und1, md3, Tryz.ntmps3, Tryz.results3]
  refine call_ret (sameNum_call _) rfl rfl ?_
  simp only [q0, q1, q2, q3, q4, q5, q6, q7, q8, q9, zr0, zr1, zr2, zr3, zq0, zq1, zq2, zq3, zq4, Nat.reduceAdd, Nat.reduceSub, lenA, convA, indexA, flatP, nilI, ifaA, indexS, Int.reduceToNat, cond_true, cond_false, ↓reduceIte, reduceCtorEq, Nat.reduceLT, Nat.reduceLeDiff, Nat.reduceMul, Nat.reduceEqDiff, exists_eq', implies_true, exists_true_left, tys0, tys1, und0, und1, md3, Tryz.ntmps3, Tryz.results3]
  have z2 : Ex .f32 2 (canon .f32 1073741824) := by
    have h := ex_iF (z := 2) (by decide)
    rw [show iF 2 = canon .f32 1073741824 by decide +kernel] at h
    exact h
  have f24 : (2 : Nat) ^ (fb .f32 + 1) = 16777216 := by decide
  have f8 : feq .f32 (fmul .f32 (iF x) (canon .f32 1073741824)) (fadd .f32 (iF x) (iF x)) = true := by rw [ex_feq (ex_mul Ex' z2 (by rw [f24]; omega)) (ex_add Ex' Ex' (by rw [f24]; omega))]; exact decide_eq_true (by omega)
  have f9 : feq .f32 (fmul .f32 (iF y) (canon .f32 1073741824)) (fadd .f32 (iF y) (iF y)) = true := by rw [ex_feq (ex_mul Ey z2 (by rw [f24]; omega)) (ex_add Ey Ey (by rw [f24]; omega))]; exact decide_eq_true (by omega)
  obtain ⟨k, hk⟩ := Int.eq_ofNat_of_zero_le (at10_low (l := code) (k := 0) (n := 9) (by decide)).1
  have hk9 := (at10_low (l := code) (k := 0) (n := 9) (by decide)).2
  refine br_intro (fun hz => ?_) (fun hz => ?_) <;> simp only [q0, q1, q2, q3, q4, q5, q6, q7, q8, q9, zr0, zr1, zr2, zr3, zq0, zq1, zq2, zq3, zq4, Nat.reduceAdd, Nat.reduceSub, lenA, convA, indexA, flatP, nilI, ifaA, indexS, Int.reduceToNat, cond_true, cond_false, ↓reduceIte, reduceCtorEq, Nat.reduceLT, Nat.reduceLeDiff, Nat.reduceMul, Nat.reduceEqDiff, exists_eq', implies_true, exists_true_left, tys0, tys1, und0, und1, md3, Tryz.ntmps3, Tryz.results3]
  rotate_left
  have n0 : u * u + v * v ≠ 0 := by
    intro e
    have su : 0 ≤ u * u := by rcases Int.le_total 0 u with h | h; exact Int.mul_nonneg h h; exact Int.mul_nonneg_of_nonpos_of_nonpos h h
    have sv : 0 ≤ v * v := by rcases Int.le_total 0 v with h | h; exact Int.mul_nonneg h h; exact Int.mul_nonneg_of_nonpos_of_nonpos h h
    have u0 : u = 0 := by
      have : u * u = 0 := by omega
      rcases Int.mul_eq_zero.1 this with h | h <;> exact h
    have v0 : v = 0 := by
      have : v * v = 0 := by omega
      rcases Int.mul_eq_zero.1 this with h | h <;> exact h
    subst u0 v0
    rw [ex_feq Eu z0] at hz
    exact absurd hz (by decide)
  have hmul : ∀ {A B : Int}, A.natAbs ≤ 80000 → B.natAbs ≤ 200 → (A * B).natAbs ≤ 1073741824 := by
    intro A B hA hB
    have := Nat.mul_le_mul hA hB
    rw [Int.natAbs_mul]
    omega
  obtain ⟨Q0, Q1, Q2⟩ := quo_exact (a := x) (b := y) P1 P2 Eu Ev rfl n0 (by grind) (by grind) (hmul (by omega) (by omega)) (hmul (by omega) (by omega)) (hmul (by omega) (by omega)) (hmul (by omega) (by omega)) (by omega) (by omega) (by omega) (by omega)
  have Mq := quotientOf_call _ _ _ _ Q0
  unfold cpx at Mq
  generalize quoP (p.1, p.2) (iF u, iF v) = s' at Mq Q1 Q2
  refine call_ret Mq rfl rfl ?_
  have fa : feq .f32 s'.1 (iF x) = true := by rw [ex_feq Q1 Ex']; exact decide_eq_true rfl
  have fb' : feq .f32 s'.2 (iF y) = true := by rw [ex_feq Q2 Ey]; exact decide_eq_true rfl
  simp only [q0, q1, q2, q3, q4, q5, q6, q7, q8, q9, zr0, zr1, zr2, zr3, zq0, zq1, zq2, zq3, zq4, Nat.reduceAdd, Nat.reduceSub, lenA, convA, indexA, flatP, nilI, ifaA, indexS, Int.reduceToNat, cond_true, cond_false, ↓reduceIte, reduceCtorEq, Nat.reduceLT, Nat.reduceLeDiff, Nat.reduceMul, Nat.reduceEqDiff, exists_eq', implies_true, exists_true_left, tys0, tys1, und0, und1, md3, Tryz.ntmps3, Tryz.results3, fa, fb', Bool.and_self]
  all_goals
    refine call_ret (scale_call _ _ _) rfl rfl ?_
    simp only [q0, q1, q2, q3, q4, q5, q6, q7, q8, q9, zr0, zr1, zr2, zr3, zq0, zq1, zq2, zq3, zq4, Nat.reduceAdd, Nat.reduceSub, lenA, convA, indexA, flatP, nilI, ifaA, indexS, Int.reduceToNat, cond_true, cond_false, ↓reduceIte, reduceCtorEq, Nat.reduceLT, Nat.reduceLeDiff, Nat.reduceMul, Nat.reduceEqDiff, exists_eq', implies_true, exists_true_left, tys0, tys1, und0, und1, md3, Tryz.ntmps3, Tryz.results3, f8, f9, Bool.and_self]
    refine call_ret (at10_call code hc hlc 0 9 (by decide) (by decide) (by decide) (by decide)) rfl rfl ?_
    simp only [q0, q1, q2, q3, q4, q5, q6, q7, q8, q9, zr0, zr1, zr2, zr3, zq0, zq1, zq2, zq3, zq4, Nat.reduceAdd, Nat.reduceSub, lenA, convA, indexA, flatP, nilI, ifaA, indexS, Int.reduceToNat, cond_true, cond_false, ↓reduceIte, reduceCtorEq, Nat.reduceLT, Nat.reduceLeDiff, Nat.reduceMul, Nat.reduceEqDiff, exists_eq', implies_true, exists_true_left, tys0, tys1, und0, und1, md3, Tryz.ntmps3, Tryz.results3, hk]
    refine call_by (anys_call more hm hlm k (by omega)) ?_
    rintro r hp' ⟨L, hL, okL, rfl, rfl⟩
    simp only [q0, q1, q2, q3, q4, q5, q6, q7, q8, q9, zr0, zr1, zr2, zr3, zq0, zq1, zq2, zq3, zq4, Nat.reduceAdd, Nat.reduceSub, lenA, convA, indexA, flatP, nilI, ifaA, indexS, Int.reduceToNat, cond_true, cond_false, ↓reduceIte, reduceCtorEq, Nat.reduceLT, Nat.reduceLeDiff, Nat.reduceMul, Nat.reduceEqDiff, exists_eq', implies_true, exists_true_left, tys0, tys1, und0, und1, md3, Tryz.ntmps3, Tryz.results3]
    refine call_ret (complexText_call L (by omega) okL) rfl rfl ?_
    simp only [q0, q1, q2, q3, q4, q5, q6, q7, q8, q9, zr0, zr1, zr2, zr3, zq0, zq1, zq2, zq3, zq4, Nat.reduceAdd, Nat.reduceSub, lenA, convA, indexA, flatP, nilI, ifaA, indexS, Int.reduceToNat, cond_true, cond_false, ↓reduceIte, reduceCtorEq, Nat.reduceLT, Nat.reduceLeDiff, Nat.reduceMul, Nat.reduceEqDiff, exists_eq', implies_true, exists_true_left, tys0, tys1, und0, und1, md3, Tryz.ntmps3, Tryz.results3]
    refine call_ret (readComplexF_call L (by omega) okL) rfl rfl ?_
    simp only [q0, q1, q2, q3, q4, q5, q6, q7, q8, q9, zr0, zr1, zr2, zr3, zq0, zq1, zq2, zq3, zq4, Nat.reduceAdd, Nat.reduceSub, lenA, convA, indexA, flatP, nilI, ifaA, indexS, Int.reduceToNat, cond_true, cond_false, ↓reduceIte, reduceCtorEq, Nat.reduceLT, Nat.reduceLeDiff, Nat.reduceMul, Nat.reduceEqDiff, exists_eq', implies_true, exists_true_left, tys0, tys1, und0, und1, md3, Tryz.ntmps3, Tryz.results3]
    refine call_by (number_call code hc hlc) ?_
    rintro r hp' ⟨zz, okz, rfl, rfl⟩
    simp only [q0, q1, q2, q3, q4, q5, q6, q7, q8, q9, zr0, zr1, zr2, zr3, zq0, zq1, zq2, zq3, zq4, Nat.reduceAdd, Nat.reduceSub, lenA, convA, indexA, flatP, nilI, ifaA, indexS, Int.reduceToNat, cond_true, cond_false, ↓reduceIte, reduceCtorEq, Nat.reduceLT, Nat.reduceLeDiff, Nat.reduceMul, Nat.reduceEqDiff, exists_eq', implies_true, exists_true_left, tys0, tys1, und0, und1, md3, Tryz.ntmps3, Tryz.results3]
    refine call_ret (implBits_call zz) rfl rfl ?_
    simp only [q0, q1, q2, q3, q4, q5, q6, q7, q8, q9, zr0, zr1, zr2, zr3, zq0, zq1, zq2, zq3, zq4, Nat.reduceAdd, Nat.reduceSub, lenA, convA, indexA, flatP, nilI, ifaA, indexS, Int.reduceToNat, cond_true, cond_false, ↓reduceIte, reduceCtorEq, Nat.reduceLT, Nat.reduceLeDiff, Nat.reduceMul, Nat.reduceEqDiff, exists_eq', implies_true, exists_true_left, tys0, tys1, und0, und1, md3, Tryz.ntmps3, Tryz.results3, bitsI_ok okz]
    refine call_ret (fromBits_call zz okz) rfl rfl ?_
    simp only [q0, q1, q2, q3, q4, q5, q6, q7, q8, q9, zr0, zr1, zr2, zr3, zq0, zq1, zq2, zq3, zq4, Nat.reduceAdd, Nat.reduceSub, lenA, convA, indexA, flatP, nilI, ifaA, indexS, Int.reduceToNat, cond_true, cond_false, ↓reduceIte, reduceCtorEq, Nat.reduceLT, Nat.reduceLeDiff, Nat.reduceMul, Nat.reduceEqDiff, exists_eq', implies_true, exists_true_left, tys0, tys1, und0, und1, md3, Tryz.ntmps3, Tryz.results3]
    refine call_by (complex1_call code hc hlc) ?_
    rintro r hp' ⟨w, okw, rfl, rfl⟩
    simp only [q0, q1, q2, q3, q4, q5, q6, q7, q8, q9, zr0, zr1, zr2, zr3, zq0, zq1, zq2, zq3, zq4, Nat.reduceAdd, Nat.reduceSub, lenA, convA, indexA, flatP, nilI, ifaA, indexS, Int.reduceToNat, cond_true, cond_false, ↓reduceIte, reduceCtorEq, Nat.reduceLT, Nat.reduceLeDiff, Nat.reduceMul, Nat.reduceEqDiff, exists_eq', implies_true, exists_true_left, tys0, tys1, und0, und1, md3, Tryz.ntmps3, Tryz.results3]
    have nw1 := narrow_wide okw.1
    have nw2 := narrow_wide okw.2
    refine call_ret (b10Same_call L (by omega)) rfl rfl ?_
    simp only [q0, q1, q2, q3, q4, q5, q6, q7, q8, q9, zr0, zr1, zr2, zr3, zq0, zq1, zq2, zq3, zq4, Nat.reduceAdd, Nat.reduceSub, lenA, convA, indexA, flatP, nilI, ifaA, indexS, Int.reduceToNat, cond_true, cond_false, ↓reduceIte, reduceCtorEq, Nat.reduceLT, Nat.reduceLeDiff, Nat.reduceMul, Nat.reduceEqDiff, exists_eq', implies_true, exists_true_left, tys0, tys1, und0, und1, md3, Tryz.ntmps3, Tryz.results3]
    refine call_ret (sameNum_call zz) rfl rfl ?_
    simp only [q0, q1, q2, q3, q4, q5, q6, q7, q8, q9, zr0, zr1, zr2, zr3, zq0, zq1, zq2, zq3, zq4, Nat.reduceAdd, Nat.reduceSub, lenA, convA, indexA, flatP, nilI, ifaA, indexS, Int.reduceToNat, cond_true, cond_false, ↓reduceIte, reduceCtorEq, Nat.reduceLT, Nat.reduceLeDiff, Nat.reduceMul, Nat.reduceEqDiff, exists_eq', implies_true, exists_true_left, tys0, tys1, und0, und1, md3, Tryz.ntmps3, Tryz.results3]
    refine call_ret (narrowC_call (wid w.1) (wid w.2) nw1.1 nw2.1) rfl rfl ?_
    rw [nw1.2, nw2.2]
    simp only [q0, q1, q2, q3, q4, q5, q6, q7, q8, q9, zr0, zr1, zr2, zr3, zq0, zq1, zq2, zq3, zq4, Nat.reduceAdd, Nat.reduceSub, lenA, convA, indexA, flatP, nilI, ifaA, indexS, Int.reduceToNat, cond_true, cond_false, ↓reduceIte, reduceCtorEq, Nat.reduceLT, Nat.reduceLeDiff, Nat.reduceMul, Nat.reduceEqDiff, exists_eq', implies_true, exists_true_left, tys0, tys1, und0, und1, md3, Tryz.ntmps3, Tryz.results3]
    refine call_ret (implCSame_call _ _) rfl rfl ?_
    simp only [q0, q1, q2, q3, q4, q5, q6, q7, q8, q9, zr0, zr1, zr2, zr3, zq0, zq1, zq2, zq3, zq4, Nat.reduceAdd, Nat.reduceSub, lenA, convA, indexA, flatP, nilI, ifaA, indexS, Int.reduceToNat, cond_true, cond_false, ↓reduceIte, reduceCtorEq, Nat.reduceLT, Nat.reduceLeDiff, Nat.reduceMul, Nat.reduceEqDiff, exists_eq', implies_true, exists_true_left, tys0, tys1, und0, und1, md3, Tryz.ntmps3, Tryz.results3]
    refine call_ret (conj_call _ _) rfl rfl ?_
    simp only [q0, q1, q2, q3, q4, q5, q6, q7, q8, q9, zr0, zr1, zr2, zr3, zq0, zq1, zq2, zq3, zq4, Nat.reduceAdd, Nat.reduceSub, lenA, convA, indexA, flatP, nilI, ifaA, indexS, Int.reduceToNat, cond_true, cond_false, ↓reduceIte, reduceCtorEq, Nat.reduceLT, Nat.reduceLeDiff, Nat.reduceMul, Nat.reduceEqDiff, exists_eq', implies_true, exists_true_left, tys0, tys1, und0, und1, md3, Tryz.ntmps3, Tryz.results3]
    refine call_ret (conj_call _ _) rfl rfl ?_
    rw [neg_twice okw.2]
    simp only [q0, q1, q2, q3, q4, q5, q6, q7, q8, q9, zr0, zr1, zr2, zr3, zq0, zq1, zq2, zq3, zq4, Nat.reduceAdd, Nat.reduceSub, lenA, convA, indexA, flatP, nilI, ifaA, indexS, Int.reduceToNat, cond_true, cond_false, ↓reduceIte, reduceCtorEq, Nat.reduceLT, Nat.reduceLeDiff, Nat.reduceMul, Nat.reduceEqDiff, exists_eq', implies_true, exists_true_left, tys0, tys1, und0, und1, md3, Tryz.ntmps3, Tryz.results3]
    refine call_ret (implCSame_call _ _) rfl rfl ?_
    simp only [q0, q1, q2, q3, q4, q5, q6, q7, q8, q9, zr0, zr1, zr2, zr3, zq0, zq1, zq2, zq3, zq4, Nat.reduceAdd, Nat.reduceSub, lenA, convA, indexA, flatP, nilI, ifaA, indexS, Int.reduceToNat, cond_true, cond_false, ↓reduceIte, reduceCtorEq, Nat.reduceLT, Nat.reduceLeDiff, Nat.reduceMul, Nat.reduceEqDiff, exists_eq', implies_true, exists_true_left, tys0, tys1, und0, und1, md3, Tryz.ntmps3, Tryz.results3]
    refine call_ret (isFiniteC_call _ _) rfl rfl ?_
    simp only [q0, q1, q2, q3, q4, q5, q6, q7, q8, q9, zr0, zr1, zr2, zr3, zq0, zq1, zq2, zq3, zq4, Nat.reduceAdd, Nat.reduceSub, lenA, convA, indexA, flatP, nilI, ifaA, indexS, Int.reduceToNat, cond_true, cond_false, ↓reduceIte, reduceCtorEq, Nat.reduceLT, Nat.reduceLeDiff, Nat.reduceMul, Nat.reduceEqDiff, exists_eq', implies_true, exists_true_left, tys0, tys1, und0, und1, md3, Tryz.ntmps3, Tryz.results3]
    refine call_ret (specFinite_call _) rfl rfl ?_
    simp only [q0, q1, q2, q3, q4, q5, q6, q7, q8, q9, zr0, zr1, zr2, zr3, zq0, zq1, zq2, zq3, zq4, Nat.reduceAdd, Nat.reduceSub, lenA, convA, indexA, flatP, nilI, ifaA, indexS, Int.reduceToNat, cond_true, cond_false, ↓reduceIte, reduceCtorEq, Nat.reduceLT, Nat.reduceLeDiff, Nat.reduceMul, Nat.reduceEqDiff, exists_eq', implies_true, exists_true_left, tys0, tys1, und0, und1, md3, Tryz.ntmps3, Tryz.results3]
    refine br_intro (fun hq => ?_) (fun hq => ?_) <;> simp only [q0, q1, q2, q3, q4, q5, q6, q7, q8, q9, zr0, zr1, zr2, zr3, zq0, zq1, zq2, zq3, zq4, Nat.reduceAdd, Nat.reduceSub, lenA, convA, indexA, flatP, nilI, ifaA, indexS, Int.reduceToNat, cond_true, cond_false, ↓reduceIte, reduceCtorEq, Nat.reduceLT, Nat.reduceLeDiff, Nat.reduceMul, Nat.reduceEqDiff, exists_eq', implies_true, exists_true_left, tys0, tys1, und0, und1, md3, Tryz.ntmps3, Tryz.results3]
    · refine call_ret (specFinite_call _) rfl rfl ?_
      simp only [q0, q1, q2, q3, q4, q5, q6, q7, q8, q9, zr0, zr1, zr2, zr3, zq0, zq1, zq2, zq3, zq4, Nat.reduceAdd, Nat.reduceSub, lenA, convA, indexA, flatP, nilI, ifaA, indexS, Int.reduceToNat, cond_true, cond_false, ↓reduceIte, reduceCtorEq, Nat.reduceLT, Nat.reduceLeDiff, Nat.reduceMul, Nat.reduceEqDiff, exists_eq', implies_true, exists_true_left, tys0, tys1, und0, und1, md3, Tryz.ntmps3, Tryz.results3, hq, Bool.true_and, beq_self_eq_true]
      exact PostR.ret
    · simp only [q0, q1, q2, q3, q4, q5, q6, q7, q8, q9, zr0, zr1, zr2, zr3, zq0, zq1, zq2, zq3, zq4, Nat.reduceAdd, Nat.reduceSub, lenA, convA, indexA, flatP, nilI, ifaA, indexS, Int.reduceToNat, cond_true, cond_false, ↓reduceIte, reduceCtorEq, Nat.reduceLT, Nat.reduceLeDiff, Nat.reduceMul, Nat.reduceEqDiff, exists_eq', implies_true, exists_true_left, tys0, tys1, und0, und1, md3, Tryz.ntmps3, Tryz.results3, hq, Bool.false_and, beq_self_eq_true]
      exact PostR.ret
end Go.Proofs.YtkjabkgmkkcpdaaGreatDoor
