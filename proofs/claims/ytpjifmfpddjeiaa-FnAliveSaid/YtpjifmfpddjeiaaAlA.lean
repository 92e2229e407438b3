/- Helpers of the law on lives. -/
import Derived.Test.YtpjifmfpddjeiaaLibV
import Derived.Test.YtpjifmfpddjeiaaAbsM4
set_option maxRecDepth 10000
set_option maxHeartbeats 4000000
set_option linter.unusedSimpArgs false
set_option linter.unusedVariables false
namespace Go.Proofs.Ytpjifmfpddjeiaa
open Go Go.Abs

theorem f64bits_call (x : Nat) (hx : (FloatKind.f64.decode x).isNaN = false) : CallA Try.prog 40 [.flt .f64 x] [] (Ret (.int .u64 x) []) :=
  bits_call (e := Extern.MathFloatBits.float64bits) Try.func40 (by kernel_rfl) (by kernel_rfl) (by kernel_rfl) (by kernel_rfl) (fun _ _ => rfl) x hx
theorem f64frombits_call (n : Int) : CallA Try.prog 39 [.int .u64 n] [] (Ret (.flt .f64 (canon .f64 n.toNat)) []) :=
  frombits_call (e := Extern.MathFloatBits.float64frombits) Try.func39 (by kernel_rfl) (by kernel_rfl) (by kernel_rfl) (by kernel_rfl) (fun _ _ => rfl) n
theorem abs_call (x : Nat) (hx : (FloatKind.f64.decode x).isNaN = false) (hl : x < 18446744073709551616) : CallA Try.prog 36 [.flt .f64 x] [] (Ret (.flt .f64 (x % 9223372036854775808)) []) := by
  refine CallP.out (t := .mk) (go_in (md := md36) mixed Try.func36 rfl go36 (by kernel_rfl) ?_)
  simp only [q0, q1, q2, q3, q4, q5, q6, q7, q8, q9, zq0, zq1, zq2, zq3, zq4, guardSlot, quietA, nilC, nilA, quietB, St.ev, St.put, St.after, Nat.reduceAdd, Nat.reduceSub, ofV, ofL, lenA, binA, intBin, fltBin, strBin, cpxBin, unA, convA, convB, convO, pickV, resL, oneA, indexA, indexS, isQuiet, loadA, loadC, storeA, fieldA, partA, sliceA, boundA, buildA, placeA, setAll, appendA, readSl, newEl, AV.cells, AV.solid, AV.one, kill, killM, killL, notInt, Int.reduceToNat, cond_true, cond_false, ↓reduceIte, reduceCtorEq, Nat.reduceLT, Nat.reduceLeDiff, Nat.reduceMul, Nat.reduceEqDiff, exists_eq', putF, implies_true, exists_true_left, tys0, tys1, tys2, und0, und1, und2, md36, Try.ntmps36, Try.results36]
  refine call_ret (f64bits_call x hx) rfl rfl ?_
  simp only [q0, q1, q2, q3, q4, q5, q6, q7, q8, q9, zq0, zq1, zq2, zq3, zq4, guardSlot, quietA, nilC, nilA, quietB, St.ev, St.put, St.after, Nat.reduceAdd, Nat.reduceSub, ofV, ofL, lenA, binA, intBin, fltBin, strBin, cpxBin, unA, convA, convB, convO, pickV, resL, oneA, indexA, indexS, isQuiet, loadA, loadC, storeA, fieldA, partA, sliceA, boundA, buildA, placeA, setAll, appendA, readSl, newEl, AV.cells, AV.solid, AV.one, kill, killM, killL, notInt, Int.reduceToNat, cond_true, cond_false, ↓reduceIte, reduceCtorEq, Nat.reduceLT, Nat.reduceLeDiff, Nat.reduceMul, Nat.reduceEqDiff, exists_eq', putF, implies_true, exists_true_left, tys0, tys1, tys2, und0, und1, und2, md36, Try.ntmps36, Try.results36]
  refine call_ret (f64frombits_call _) rfl rfl ?_
  simp only [q0, q1, q2, q3, q4, q5, q6, q7, q8, q9, zq0, zq1, zq2, zq3, zq4, guardSlot, quietA, nilC, nilA, quietB, St.ev, St.put, St.after, Nat.reduceAdd, Nat.reduceSub, ofV, ofL, lenA, binA, intBin, fltBin, strBin, cpxBin, unA, convA, convB, convO, pickV, resL, oneA, indexA, indexS, isQuiet, loadA, loadC, storeA, fieldA, partA, sliceA, boundA, buildA, placeA, setAll, appendA, readSl, newEl, AV.cells, AV.solid, AV.one, kill, killM, killL, notInt, Int.reduceToNat, cond_true, cond_false, ↓reduceIte, reduceCtorEq, Nat.reduceLT, Nat.reduceLeDiff, Nat.reduceMul, Nat.reduceEqDiff, exists_eq', putF, implies_true, exists_true_left, tys0, tys1, tys2, und0, und1, und2, md36, Try.ntmps36, Try.results36, bits_abs x hl, abs_nan x hx]
  exact PostR.ret
theorem isInf_call (x : Nat) (hx : (FloatKind.f64.decode x).isNaN = false) (hl : x < 18446744073709551616) : CallA Try.prog 33 [.flt .f64 x, .int .i64 0] [] (Ret (.bool (infB .f64 x)) []) := by
  refine CallP.out (t := .mk) (go_in (md := md33) mixed Try.func33 rfl go33 (by kernel_rfl) ?_)
  simp only [q0, q1, q2, q3, q4, q5, q6, q7, q8, q9, zq0, zq1, zq2, zq3, zq4, guardSlot, quietA, nilC, nilA, quietB, St.ev, St.put, St.after, Nat.reduceAdd, Nat.reduceSub, ofV, ofL, lenA, binA, intBin, fltBin, strBin, cpxBin, unA, convA, convB, convO, pickV, resL, oneA, indexA, indexS, isQuiet, loadA, loadC, storeA, fieldA, partA, sliceA, boundA, buildA, placeA, setAll, appendA, readSl, newEl, AV.cells, AV.solid, AV.one, kill, killM, killL, notInt, Int.reduceToNat, cond_true, cond_false, ↓reduceIte, reduceCtorEq, Nat.reduceLT, Nat.reduceLeDiff, Nat.reduceMul, Nat.reduceEqDiff, exists_eq', putF, implies_true, exists_true_left, tys0, tys1, tys2, und0, und1, und2, md33, Try.ntmps33, Try.results33, beq_self_eq_true]
  refine call_ret (abs_call x hx hl) rfl rfl ?_
  simp only [q0, q1, q2, q3, q4, q5, q6, q7, q8, q9, zq0, zq1, zq2, zq3, zq4, guardSlot, quietA, nilC, nilA, quietB, St.ev, St.put, St.after, Nat.reduceAdd, Nat.reduceSub, ofV, ofL, lenA, binA, intBin, fltBin, strBin, cpxBin, unA, convA, convB, convO, pickV, resL, oneA, indexA, indexS, isQuiet, loadA, loadC, storeA, fieldA, partA, sliceA, boundA, buildA, placeA, setAll, appendA, readSl, newEl, AV.cells, AV.solid, AV.one, kill, killM, killL, notInt, Int.reduceToNat, cond_true, cond_false, ↓reduceIte, reduceCtorEq, Nat.reduceLT, Nat.reduceLeDiff, Nat.reduceMul, Nat.reduceEqDiff, exists_eq', putF, implies_true, exists_true_left, tys0, tys1, tys2, und0, und1, und2, md33, Try.ntmps33, Try.results33, canon_max, fgt_max]
  exact PostR.ret
theorem isNone_call (x : Nat) : CallA Try.prog 35 [.flt .f64 x] [] (Ret (.bool (FloatKind.f64.decode x).isNaN) []) := by
  refine CallP.out (t := .mk) (go_in (md := md35) mixed Try.func35 rfl go35 (by kernel_rfl) ?_)
  simp only [q0, q1, q2, q3, q4, q5, q6, q7, q8, q9, zq0, zq1, zq2, zq3, zq4, guardSlot, quietA, nilC, nilA, quietB, St.ev, St.put, St.after, Nat.reduceAdd, Nat.reduceSub, ofV, ofL, lenA, binA, intBin, fltBin, strBin, cpxBin, unA, convA, convB, convO, pickV, resL, oneA, indexA, indexS, isQuiet, loadA, loadC, storeA, fieldA, partA, sliceA, boundA, buildA, placeA, setAll, appendA, readSl, newEl, AV.cells, AV.solid, AV.one, kill, killM, killL, notInt, Int.reduceToNat, cond_true, cond_false, ↓reduceIte, reduceCtorEq, Nat.reduceLT, Nat.reduceLeDiff, Nat.reduceMul, Nat.reduceEqDiff, exists_eq', putF, implies_true, exists_true_left, tys0, tys1, tys2, und0, und1, und2, md35, Try.ntmps35, Try.results35, feq_same, Bool.not_not]
  exact PostR.ret
theorem isEnded_call (x : Nat) (hl : x < 18446744073709551616) : CallA Try.prog 31 [.flt .f64 x] [] (Ret (.bool (finB .f64 x)) []) := by
  refine CallP.out (t := .mk) (go_in (md := md31) mixed Try.func31 rfl go31 (by kernel_rfl) ?_)
  simp only [q0, q1, q2, q3, q4, q5, q6, q7, q8, q9, zq0, zq1, zq2, zq3, zq4, guardSlot, quietA, nilC, nilA, quietB, St.ev, St.put, St.after, Nat.reduceAdd, Nat.reduceSub, ofV, ofL, lenA, binA, intBin, fltBin, strBin, cpxBin, unA, convA, convB, convO, pickV, resL, oneA, indexA, indexS, isQuiet, loadA, loadC, storeA, fieldA, partA, sliceA, boundA, buildA, placeA, setAll, appendA, readSl, newEl, AV.cells, AV.solid, AV.one, kill, killM, killL, notInt, Int.reduceToNat, cond_true, cond_false, ↓reduceIte, reduceCtorEq, Nat.reduceLT, Nat.reduceLeDiff, Nat.reduceMul, Nat.reduceEqDiff, exists_eq', putF, implies_true, exists_true_left, tys0, tys1, tys2, und0, und1, und2, md31, Try.ntmps31, Try.results31]
  refine call_ret (isNone_call x) rfl rfl ?_
  simp only [q0, q1, q2, q3, q4, q5, q6, q7, q8, q9, zq0, zq1, zq2, zq3, zq4, guardSlot, quietA, nilC, nilA, quietB, St.ev, St.put, St.after, Nat.reduceAdd, Nat.reduceSub, ofV, ofL, lenA, binA, intBin, fltBin, strBin, cpxBin, unA, convA, convB, convO, pickV, resL, oneA, indexA, indexS, isQuiet, loadA, loadC, storeA, fieldA, partA, sliceA, boundA, buildA, placeA, setAll, appendA, readSl, newEl, AV.cells, AV.solid, AV.one, kill, killM, killL, notInt, Int.reduceToNat, cond_true, cond_false, ↓reduceIte, reduceCtorEq, Nat.reduceLT, Nat.reduceLeDiff, Nat.reduceMul, Nat.reduceEqDiff, exists_eq', putF, implies_true, exists_true_left, tys0, tys1, tys2, und0, und1, und2, md31, Try.ntmps31, Try.results31]
  refine br_intro (fun h => ?_) (fun h => ?_) <;> simp only [q0, q1, q2, q3, q4, q5, q6, q7, q8, q9, zq0, zq1, zq2, zq3, zq4, guardSlot, quietA, nilC, nilA, quietB, St.ev, St.put, St.after, Nat.reduceAdd, Nat.reduceSub, ofV, ofL, lenA, binA, intBin, fltBin, strBin, cpxBin, unA, convA, convB, convO, pickV, resL, oneA, indexA, indexS, isQuiet, loadA, loadC, storeA, fieldA, partA, sliceA, boundA, buildA, placeA, setAll, appendA, readSl, newEl, AV.cells, AV.solid, AV.one, kill, killM, killL, notInt, Int.reduceToNat, cond_true, cond_false, ↓reduceIte, reduceCtorEq, Nat.reduceLT, Nat.reduceLeDiff, Nat.reduceMul, Nat.reduceEqDiff, exists_eq', putF, implies_true, exists_true_left, tys0, tys1, tys2, und0, und1, und2, md31, Try.ntmps31, Try.results31]
  · exact PostR.pure ⟨by simp [fin_of, h], rfl⟩ rfl
  · refine call_ret (isInf_call x h hl) rfl rfl ?_
    simp only [q0, q1, q2, q3, q4, q5, q6, q7, q8, q9, zq0, zq1, zq2, zq3, zq4, guardSlot, quietA, nilC, nilA, quietB, St.ev, St.put, St.after, Nat.reduceAdd, Nat.reduceSub, ofV, ofL, lenA, binA, intBin, fltBin, strBin, cpxBin, unA, convA, convB, convO, pickV, resL, oneA, indexA, indexS, isQuiet, loadA, loadC, storeA, fieldA, partA, sliceA, boundA, buildA, placeA, setAll, appendA, readSl, newEl, AV.cells, AV.solid, AV.one, kill, killM, killL, notInt, Int.reduceToNat, cond_true, cond_false, ↓reduceIte, reduceCtorEq, Nat.reduceLT, Nat.reduceLeDiff, Nat.reduceMul, Nat.reduceEqDiff, exists_eq', putF, implies_true, exists_true_left, tys0, tys1, tys2, und0, und1, und2, md31, Try.ntmps31, Try.results31]
    exact PostR.pure ⟨by simp [fin_of, h], rfl⟩ rfl
theorem isFinite_call (x : Nat) : CallA Try.prog 26 [.flt .f32 x] [] (Ret (.bool (finB .f32 x)) []) := by
  refine CallP.out (t := .mk) (go_in (md := md26) mixed Try.func26 rfl go26 (by kernel_rfl) ?_)
  simp only [q0, q1, q2, q3, q4, q5, q6, q7, q8, q9, zq0, zq1, zq2, zq3, zq4, guardSlot, quietA, nilC, nilA, quietB, St.ev, St.put, St.after, Nat.reduceAdd, Nat.reduceSub, ofV, ofL, lenA, binA, intBin, fltBin, strBin, cpxBin, unA, convA, convB, convO, pickV, resL, oneA, indexA, indexS, isQuiet, loadA, loadC, storeA, fieldA, partA, sliceA, boundA, buildA, placeA, setAll, appendA, readSl, newEl, AV.cells, AV.solid, AV.one, kill, killM, killL, notInt, Int.reduceToNat, cond_true, cond_false, ↓reduceIte, reduceCtorEq, Nat.reduceLT, Nat.reduceLeDiff, Nat.reduceMul, Nat.reduceEqDiff, exists_eq', putF, implies_true, exists_true_left, tys0, tys1, tys2, und0, und1, und2, md26, Try.ntmps26, Try.results26]
  refine call_ret (isEnded_call _ (wide_lt x)) rfl rfl ?_
  simp only [q0, q1, q2, q3, q4, q5, q6, q7, q8, q9, zq0, zq1, zq2, zq3, zq4, guardSlot, quietA, nilC, nilA, quietB, St.ev, St.put, St.after, Nat.reduceAdd, Nat.reduceSub, ofV, ofL, lenA, binA, intBin, fltBin, strBin, cpxBin, unA, convA, convB, convO, pickV, resL, oneA, indexA, indexS, isQuiet, loadA, loadC, storeA, fieldA, partA, sliceA, boundA, buildA, placeA, setAll, appendA, readSl, newEl, AV.cells, AV.solid, AV.one, kill, killM, killL, notInt, Int.reduceToNat, cond_true, cond_false, ↓reduceIte, reduceCtorEq, Nat.reduceLT, Nat.reduceLeDiff, Nat.reduceMul, Nat.reduceEqDiff, exists_eq', putF, implies_true, exists_true_left, tys0, tys1, tys2, und0, und1, und2, md26, Try.ntmps26, Try.results26, wide_fin]
  exact PostR.ret
theorem finite_call (x : Nat) : CallA Try.prog 19 [.flt .f32 x] [] (Ret (.tup [.flt .f32 (if finB .f32 x then x else 0), .bool (finB .f32 x)]) []) := by
  refine CallP.out (t := .mk) (go_in (md := md19) mixed Try.func19 rfl go19 (by kernel_rfl) ?_)
  simp only [q0, q1, q2, q3, q4, q5, q6, q7, q8, q9, zq0, zq1, zq2, zq3, zq4, guardSlot, quietA, nilC, nilA, quietB, St.ev, St.put, St.after, Nat.reduceAdd, Nat.reduceSub, ofV, ofL, lenA, binA, intBin, fltBin, strBin, cpxBin, unA, convA, convB, convO, pickV, resL, oneA, indexA, indexS, isQuiet, loadA, loadC, storeA, fieldA, partA, sliceA, boundA, buildA, placeA, setAll, appendA, readSl, newEl, AV.cells, AV.solid, AV.one, kill, killM, killL, notInt, Int.reduceToNat, cond_true, cond_false, ↓reduceIte, reduceCtorEq, Nat.reduceLT, Nat.reduceLeDiff, Nat.reduceMul, Nat.reduceEqDiff, exists_eq', putF, implies_true, exists_true_left, tys0, tys1, tys2, und0, und1, und2, md19, Try.ntmps19, Try.results19]
  refine call_ret (isFinite_call x) rfl rfl ?_
  simp only [q0, q1, q2, q3, q4, q5, q6, q7, q8, q9, zq0, zq1, zq2, zq3, zq4, guardSlot, quietA, nilC, nilA, quietB, St.ev, St.put, St.after, Nat.reduceAdd, Nat.reduceSub, ofV, ofL, lenA, binA, intBin, fltBin, strBin, cpxBin, unA, convA, convB, convO, pickV, resL, oneA, indexA, indexS, isQuiet, loadA, loadC, storeA, fieldA, partA, sliceA, boundA, buildA, placeA, setAll, appendA, readSl, newEl, AV.cells, AV.solid, AV.one, kill, killM, killL, notInt, Int.reduceToNat, cond_true, cond_false, ↓reduceIte, reduceCtorEq, Nat.reduceLT, Nat.reduceLeDiff, Nat.reduceMul, Nat.reduceEqDiff, exists_eq', putF, implies_true, exists_true_left, tys0, tys1, tys2, und0, und1, und2, md19, Try.ntmps19, Try.results19]
  refine br_intro (fun h => ?_) (fun h => ?_) <;> simp only [q0, q1, q2, q3, q4, q5, q6, q7, q8, q9, zq0, zq1, zq2, zq3, zq4, guardSlot, quietA, nilC, nilA, quietB, St.ev, St.put, St.after, Nat.reduceAdd, Nat.reduceSub, ofV, ofL, lenA, binA, intBin, fltBin, strBin, cpxBin, unA, convA, convB, convO, pickV, resL, oneA, indexA, indexS, isQuiet, loadA, loadC, storeA, fieldA, partA, sliceA, boundA, buildA, placeA, setAll, appendA, readSl, newEl, AV.cells, AV.solid, AV.one, kill, killM, killL, notInt, Int.reduceToNat, cond_true, cond_false, ↓reduceIte, reduceCtorEq, Nat.reduceLT, Nat.reduceLeDiff, Nat.reduceMul, Nat.reduceEqDiff, exists_eq', putF, implies_true, exists_true_left, tys0, tys1, tys2, und0, und1, und2, md19, Try.ntmps19, Try.results19, canon_zero]
  · exact PostR.pure ⟨by simp [h], rfl⟩ rfl
  · exact PostR.pure ⟨by simp [h], rfl⟩ rfl
def gap8 (a b : Nat) : Nat := fmax .f64 (fsub .f64 (fconv .f64 .f32 a) (fconv .f64 .f32 b)) (fsub .f64 (fconv .f64 .f32 b) (fconv .f64 .f32 a))
theorem gap8_call (a b : Nat) (ha : finB .f32 a = true) (hb : finB .f32 b = true) : CallA Try.prog 12 [.flt .f32 a, .flt .f32 b] [] (Ret (.flt .f64 (gap8 a b)) []) := by
  refine CallP.out (t := .mk) (go_in (md := md12) mixed Try.func12 rfl go12 (by kernel_rfl) ?_)
  simp only [q0, q1, q2, q3, q4, q5, q6, q7, q8, q9, zq0, zq1, zq2, zq3, zq4, guardSlot, quietA, nilC, nilA, quietB, St.ev, St.put, St.after, Nat.reduceAdd, Nat.reduceSub, ofV, ofL, lenA, binA, intBin, fltBin, strBin, cpxBin, unA, convA, convB, convO, pickV, resL, oneA, indexA, indexS, isQuiet, loadA, loadC, storeA, fieldA, partA, sliceA, boundA, buildA, placeA, setAll, appendA, readSl, newEl, AV.cells, AV.solid, AV.one, kill, killM, killL, notInt, Int.reduceToNat, cond_true, cond_false, ↓reduceIte, reduceCtorEq, Nat.reduceLT, Nat.reduceLeDiff, Nat.reduceMul, Nat.reduceEqDiff, exists_eq', putF, implies_true, exists_true_left, tys0, tys1, tys2, und0, und1, und2, md12, Try.ntmps12, Try.results12]
  have wa := (wide_rn ha).1.fin
  have wb := (wide_rn hb).1.fin
  have va := (wide_rn ha).2
  have vb := (wide_rn hb).2
  have sub : ∀ x y, finB .f64 x = true → finB .f64 y = true → ab (fval .f64 x) ≤ p2 130 → ab (fval .f64 y) ≤ p2 130 → finB .f64 (fsub .f64 x y) = true := fun x y hx hy b1 b2 => by
    have h := ab_sub (fval .f64 x) (fval .f64 y)
    have e : p2 131 = 2 * p2 130 := by
      have : p2 1 = 2 := rfl
      rw [← this, ← p2_add]; rfl
    exact (rn_sub (k := .f64) hx hy (lt_top64 (t := 131) (by grind) (by decide))).fin
  have big : ∀ x, finB .f32 x = true → ab (fval .f32 x) ≤ p2 130 := fun x hx => by
    obtain ⟨s, m, e, hd⟩ := fin_num hx
    obtain ⟨b1, b2, b3⟩ := read_single x s m e hd
    rw [fval_of hd, ab_sg _ (mag_nonneg _ _)]
    have h1 := cast_le (show m ≤ 2 ^ 24 by omega)
    rw [← p2_nat] at h1
    have h2 := mul_le_r (Rat.le_of_lt (p2_pos e)) h1
    rw [← p2_add] at h2
    have h3 := p2_mono (show ((24 : Nat) : Int) + e ≤ 130 by omega)
    grind
  have ba := big a ha
  have bb := big b hb
  rw [← va] at ba
  rw [← vb] at bb
  have f1 := sub _ _ wa wb ba bb
  have f2 := sub _ _ wb wa bb ba
  have hs : (FloatKind.f64.format.order (fsub .f64 (fconv .f64 .f32 a) (fconv .f64 .f32 b)) (fsub .f64 (fconv .f64 .f32 b) (fconv .f64 .f32 a))).isSome = true := by rw [order_val f1 f2]; rfl
  simp only [q0, q1, q2, q3, q4, q5, q6, q7, q8, q9, zq0, zq1, zq2, zq3, zq4, guardSlot, quietA, nilC, nilA, quietB, St.ev, St.put, St.after, Nat.reduceAdd, Nat.reduceSub, ofV, ofL, lenA, binA, intBin, fltBin, strBin, cpxBin, unA, convA, convB, convO, pickV, resL, oneA, indexA, indexS, isQuiet, loadA, loadC, storeA, fieldA, partA, sliceA, boundA, buildA, placeA, setAll, appendA, readSl, newEl, AV.cells, AV.solid, AV.one, kill, killM, killL, notInt, Int.reduceToNat, cond_true, cond_false, ↓reduceIte, reduceCtorEq, Nat.reduceLT, Nat.reduceLeDiff, Nat.reduceMul, Nat.reduceEqDiff, exists_eq', putF, implies_true, exists_true_left, tys0, tys1, tys2, und0, und1, und2, md12, Try.ntmps12, Try.results12, maxA, hs]
  exact PostR.ret
theorem half : p2 (-1) * 2 = 1 := by rw [show (2 : Rat) = p2 1 from rfl, ← p2_add]; rfl
theorem f0 : canon .f32 0 = 0 := rfl
theorem f1 : canon .f32 1065353216 = 1065353216 := by decide +kernel
theorem lp_weak {P : Program} {n0 : Nat} {c : Code} {Q : Ex → St → Prop} {st st2 : St} {t : Tok (c, Q)} (hw : Weak n0 st st2) (h : Lp P n0 c Q t st2) : Lp P n0 c Q t st := by
  delta Lp at h ⊢
  intro E0 hp0 E a hn hs
  obtain ⟨E2, he, hs2⟩ := hw _ E0 hp0 E a hn hs
  rw [← he]
  exact h E0 hp0 E2 a hn hs2
def sndC : Code → Code
  | .seq _ b => b
  | c => c
def fltB (xs : List Nat) : Blk := { ty := 26, w := 1, els := flts xs }
theorem view_fl {hp : List Blk} {i n : Nat} {W : List Nat} (h : hp[i]? = some (fltB W)) (hl : W.length = n) : view 2 hp (.sl i 0 n) = .ro (flts W) := by
  subst hl
  rw [view_sl, h]
  simp [fltB, map_view_flts, take_flts, flts_len]
end Go.Proofs.Ytpjifmfpddjeiaa
