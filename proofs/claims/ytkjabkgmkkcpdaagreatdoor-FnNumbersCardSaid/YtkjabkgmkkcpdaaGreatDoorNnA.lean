/- Numbers that are next to nothing. -/
import Derived.Test.YtkjabkgmkkcpdaaGreatDoorNmV
set_option maxRecDepth 10000
set_option maxHeartbeats 4000000
set_option linter.unusedSimpArgs false
set_option linter.unusedVariables false
namespace Go.Proofs.YtkjabkgmkkcpdaaGreatDoor
open Go Go.Abs
theorem bits_abs2 (x : Nat) : (IntKind.u64.wrap (((BitVec.ofInt IntKind.u64.bits (x : Int) &&& ~~~BitVec.ofInt IntKind.u64.bits 9223372036854775808).toNat : Nat) : Int)).toNat = x % 9223372036854775808 := by
  have h := bits_abs (x % 18446744073709551616) (Nat.mod_lt _ (by decide))
  have e : BitVec.ofInt IntKind.u64.bits ((x % 18446744073709551616 : Nat) : Int) = BitVec.ofInt IntKind.u64.bits (x : Int) := by
    apply BitVec.eq_of_toNat_eq
    rw [BitVec.toNat_ofInt, BitVec.toNat_ofInt]
    show (((x % 18446744073709551616 : Nat) : Int) % 18446744073709551616).toNat = ((x : Int) % 18446744073709551616).toNat
    omega
  rw [e] at h
  rw [h]
  omega
theorem bitsNan_call (x : Nat) (hx : (FloatKind.f64.decode x).isNaN = true) : CallA Tryz.prog 83 [.flt .f64 x] [] (fun r hp => ∃ b : Nat, (FloatKind.f64.decode b).isNaN = true ∧ r = .int .u64 b ∧ hp = []) := by
  refine ext_call (e := Extern.MathFloatBits.float64bits) Tryz.func83 (by kernel_rfl) (by kernel_rfl) (by kernel_rfl) (by kernel_rfl) fun E vs hl hv => ?_
  obtain ⟨v, rfl, h⟩ := RV.one hl hv
  cases h with
  | flt _ _ b hc =>
    refine ⟨_, _, rfl, .int .u64 b, b, ?_, rfl, rfl⟩
    rw [← canon_isNaN, hc]
    exact hx
theorem absNan_call (x : Nat) (hx : (FloatKind.f64.decode x).isNaN = true) : CallA Tryz.prog 65 [.flt .f64 x] [] (Ret (.flt .f64 (nanOf .f64)) []) := by
  refine CallP.out (t := .mk) (go_in (md := md65) mixed Tryz.func65 rfl go65 (by kernel_rfl) ?_)
  simp only [q0, q1, q2, q3, q4, q5, q6, q7, q8, q9, zr0, zr1, zr2, zr3, zq0, zq1, zq2, zq3, zq4, Nat.reduceAdd, Nat.reduceSub, lenA, convA, indexA, flatP, nilI, ifaA, indexS, Int.reduceToNat, cond_true, cond_false, ↓reduceIte, reduceCtorEq, Nat.reduceLT, Nat.reduceLeDiff, Nat.reduceMul, Nat.reduceEqDiff, exists_eq', implies_true, exists_true_left, tys0, tys1, und0, und1, md65, Tryz.ntmps65, Tryz.results65]
  refine call_by (bitsNan_call x hx) ?_
  rintro r hp' ⟨b, hb, rfl, rfl⟩
  simp only [q0, q1, q2, q3, q4, q5, q6, q7, q8, q9, zr0, zr1, zr2, zr3, zq0, zq1, zq2, zq3, zq4, Nat.reduceAdd, Nat.reduceSub, lenA, convA, indexA, flatP, nilI, ifaA, indexS, Int.reduceToNat, cond_true, cond_false, ↓reduceIte, reduceCtorEq, Nat.reduceLT, Nat.reduceLeDiff, Nat.reduceMul, Nat.reduceEqDiff, exists_eq', implies_true, exists_true_left, tys0, tys1, und0, und1, md65, Tryz.ntmps65, Tryz.results65]
  refine call_ret (f64frombits_call _) rfl rfl ?_
  have hn : (FloatKind.f64.decode (b % 9223372036854775808)).isNaN = true := by
    rw [decode_abs]
    cases hd : FloatKind.f64.decode b <;> simp_all [Ieee.Datum.isNaN]
  simp only [q0, q1, q2, q3, q4, q5, q6, q7, q8, q9, zr0, zr1, zr2, zr3, zq0, zq1, zq2, zq3, zq4, Nat.reduceAdd, Nat.reduceSub, lenA, convA, indexA, flatP, nilI, ifaA, indexS, Int.reduceToNat, cond_true, cond_false, ↓reduceIte, reduceCtorEq, Nat.reduceLT, Nat.reduceLeDiff, Nat.reduceMul, Nat.reduceEqDiff, exists_eq', implies_true, exists_true_left, tys0, tys1, und0, und1, md65, Tryz.ntmps65, Tryz.results65, bits_abs2 b, canon_of_nan hn]
  exact PostR.ret
def subB (x : Nat) : Bool := !(feq .f32 x (canon .f32 0)) && flt .f64 (wid x % 9223372036854775808) (canon .f64 4039728865751334912)
def isSub (x : Nat) : Bool := if x = 2143289344 then false else subB x
theorem isSub_call (x : Nat) (h : okW x) : CallA Tryz.prog 33 [.flt .f32 x] [] (Ret (.bool (isSub x)) []) := by
  refine CallP.out (t := .mk) (go_in (md := md33) mixed Tryz.func33 rfl go33 (by kernel_rfl) ?_)
  simp only [q0, q1, q2, q3, q4, q5, q6, q7, q8, q9, zr0, zr1, zr2, zr3, zq0, zq1, zq2, zq3, zq4, Nat.reduceAdd, Nat.reduceSub, lenA, convA, indexA, flatP, nilI, ifaA, indexS, Int.reduceToNat, cond_true, cond_false, ↓reduceIte, reduceCtorEq, Nat.reduceLT, Nat.reduceLeDiff, Nat.reduceMul, Nat.reduceEqDiff, exists_eq', implies_true, exists_true_left, tys0, tys1, und0, und1, md33, Tryz.ntmps33, Tryz.results33]
  by_cases hx : x = 2143289344
  · subst hx
    rw [isSub, if_pos rfl]
    have e1 : feq .f32 2143289344 (canon .f32 0) = false := by decide +kernel
    simp only [e1]
    simp only [q0, q1, q2, q3, q4, q5, q6, q7, q8, q9, zr0, zr1, zr2, zr3, zq0, zq1, zq2, zq3, zq4, Nat.reduceAdd, Nat.reduceSub, lenA, convA, indexA, flatP, nilI, ifaA, indexS, Int.reduceToNat, cond_true, cond_false, ↓reduceIte, reduceCtorEq, Nat.reduceLT, Nat.reduceLeDiff, Nat.reduceMul, Nat.reduceEqDiff, exists_eq', implies_true, exists_true_left, tys0, tys1, und0, und1, md33, Tryz.ntmps33, Tryz.results33]
    refine call_ret (absNan_call (wid 2143289344) (by decide +kernel)) rfl rfl ?_
    have e2 : flt .f64 (nanOf .f64) (canon .f64 4039728865751334912) = false := by decide +kernel
    simp only [q0, q1, q2, q3, q4, q5, q6, q7, q8, q9, zr0, zr1, zr2, zr3, zq0, zq1, zq2, zq3, zq4, Nat.reduceAdd, Nat.reduceSub, lenA, convA, indexA, flatP, nilI, ifaA, indexS, Int.reduceToNat, cond_true, cond_false, ↓reduceIte, reduceCtorEq, Nat.reduceLT, Nat.reduceLeDiff, Nat.reduceMul, Nat.reduceEqDiff, exists_eq', implies_true, exists_true_left, tys0, tys1, und0, und1, md33, Tryz.ntmps33, Tryz.results33, e2]
    exact PostR.pure ⟨rfl, rfl⟩ rfl
  · rw [isSub, if_neg hx]
    have hn : (FloatKind.f32.decode x).isNaN = false := by
      cases hq : (FloatKind.f32.decode x).isNaN with
      | false => rfl
      | true => exact absurd (h.2 hq) hx
    have hw : (FloatKind.f64.decode (wid x)).isNaN = false := by
      unfold wid fconv
      rw [if_neg (by decide)]
      cases hd : FloatKind.f32.decode x with
      | nan s t => rw [hd] at hn; cases hn
      | infinity s => cases s <;> decide +kernel
      | number s m e =>
        have hf : finB .f32 x = true := num_fin hd
        have w1 := fin_notnan (wide_rn hf).1.fin
        unfold fconv at w1
        rw [if_neg (by decide), hd] at w1
        exact w1
    refine br_intro (fun hz => ?_) (fun hz => ?_) <;> simp only [q0, q1, q2, q3, q4, q5, q6, q7, q8, q9, zr0, zr1, zr2, zr3, zq0, zq1, zq2, zq3, zq4, Nat.reduceAdd, Nat.reduceSub, lenA, convA, indexA, flatP, nilI, ifaA, indexS, Int.reduceToNat, cond_true, cond_false, ↓reduceIte, reduceCtorEq, Nat.reduceLT, Nat.reduceLeDiff, Nat.reduceMul, Nat.reduceEqDiff, exists_eq', implies_true, exists_true_left, tys0, tys1, und0, und1, md33, Tryz.ntmps33, Tryz.results33]
    · have hz' : feq .f32 x (canon .f32 0) = true := by simpa using hz
      exact PostR.pure ⟨by rw [subB, hz']; rfl, rfl⟩ rfl
    · have hz' : feq .f32 x (canon .f32 0) = false := by simpa using hz
      refine call_ret (abs_call (wid x) hw (wide_lt x)) rfl rfl ?_
      simp only [q0, q1, q2, q3, q4, q5, q6, q7, q8, q9, zr0, zr1, zr2, zr3, zq0, zq1, zq2, zq3, zq4, Nat.reduceAdd, Nat.reduceSub, lenA, convA, indexA, flatP, nilI, ifaA, indexS, Int.reduceToNat, cond_true, cond_false, ↓reduceIte, reduceCtorEq, Nat.reduceLT, Nat.reduceLeDiff, Nat.reduceMul, Nat.reduceEqDiff, exists_eq', implies_true, exists_true_left, tys0, tys1, und0, und1, md33, Tryz.ntmps33, Tryz.results33]
      exact PostR.pure ⟨by rw [subB, hz']; rfl, rfl⟩ rfl
theorem isSub_ne {x : Nat} (h : isSub x = true) : x ≠ 0 ∧ x ≠ 2147483648 := by
  constructor
  · rintro rfl
    exact absurd h (by decide +kernel)
  · rintro rfl
    exact absurd h (by decide +kernel)
theorem and_top (n : Nat) : n &&& 2 ^ 63 = if n.testBit 63 then 2 ^ 63 else 0 := by
  apply Nat.eq_of_testBit_eq
  intro i
  rw [Nat.testBit_and, Nat.testBit_two_pow]
  by_cases c : 63 = i
  · subst c
    cases hb : n.testBit 63
    · simp
    · show (true && decide (63 = 63)) = Nat.testBit (2 ^ 63) 63
      decide +kernel
  · rw [decide_eq_false c, Bool.and_false]
    split
    · rw [Nat.testBit_two_pow, decide_eq_false c]
    · simp
theorem sgn_and (x : Nat) : ∃ b : Bool, IntKind.u64.wrap (((BitVec.ofInt IntKind.u64.bits (x : Int) &&& BitVec.ofInt IntKind.u64.bits 9223372036854775808).toNat : Nat) : Int) = if b then 9223372036854775808 else 0 := by
  have e : (BitVec.ofInt 64 9223372036854775808).toNat = 2 ^ 63 := by decide
  refine ⟨((BitVec.ofInt 64 (x : Int)).toNat).testBit 63, ?_⟩
  show IntKind.u64.wrap (((BitVec.ofInt 64 (x : Int) &&& BitVec.ofInt 64 9223372036854775808).toNat : Nat) : Int) = _
  rw [BitVec.toNat_and, e, and_top]
  cases (BitVec.ofInt 64 (x : Int)).toNat.testBit 63 <;> decide
theorem copysign_call (x : Nat) (hx : (FloatKind.f64.decode x).isNaN = false) : CallA Tryz.prog 63 [.flt .f64 0, .flt .f64 x] [] (fun r hp => ∃ z, (z = 0 ∨ z = 9223372036854775808) ∧ r = .flt .f64 z ∧ hp = []) := by
  refine CallP.out (t := .mk) (go_in (md := md63) mixed Tryz.func63 rfl go63 (by kernel_rfl) ?_)
  simp only [q0, q1, q2, q3, q4, q5, q6, q7, q8, q9, zr0, zr1, zr2, zr3, zq0, zq1, zq2, zq3, zq4, Nat.reduceAdd, Nat.reduceSub, lenA, convA, indexA, flatP, nilI, ifaA, indexS, Int.reduceToNat, cond_true, cond_false, ↓reduceIte, reduceCtorEq, Nat.reduceLT, Nat.reduceLeDiff, Nat.reduceMul, Nat.reduceEqDiff, exists_eq', implies_true, exists_true_left, tys0, tys1, und0, und1, md63, Tryz.ntmps63, Tryz.results63]
  refine call_ret (f64bits_call 0 (by decide +kernel)) rfl rfl ?_
  simp only [q0, q1, q2, q3, q4, q5, q6, q7, q8, q9, zr0, zr1, zr2, zr3, zq0, zq1, zq2, zq3, zq4, Nat.reduceAdd, Nat.reduceSub, lenA, convA, indexA, flatP, nilI, ifaA, indexS, Int.reduceToNat, cond_true, cond_false, ↓reduceIte, reduceCtorEq, Nat.reduceLT, Nat.reduceLeDiff, Nat.reduceMul, Nat.reduceEqDiff, exists_eq', implies_true, exists_true_left, tys0, tys1, und0, und1, md63, Tryz.ntmps63, Tryz.results63]
  refine call_ret (f64bits_call x hx) rfl rfl ?_
  obtain ⟨b, hb⟩ := sgn_and x
  simp only [q0, q1, q2, q3, q4, q5, q6, q7, q8, q9, zr0, zr1, zr2, zr3, zq0, zq1, zq2, zq3, zq4, Nat.reduceAdd, Nat.reduceSub, lenA, convA, indexA, flatP, nilI, ifaA, indexS, Int.reduceToNat, cond_true, cond_false, ↓reduceIte, reduceCtorEq, Nat.reduceLT, Nat.reduceLeDiff, Nat.reduceMul, Nat.reduceEqDiff, exists_eq', implies_true, exists_true_left, tys0, tys1, und0, und1, md63, Tryz.ntmps63, Tryz.results63, hb]
  refine call_ret (f64frombits_call _) rfl rfl ?_
  simp only [q0, q1, q2, q3, q4, q5, q6, q7, q8, q9, zr0, zr1, zr2, zr3, zq0, zq1, zq2, zq3, zq4, Nat.reduceAdd, Nat.reduceSub, lenA, convA, indexA, flatP, nilI, ifaA, indexS, Int.reduceToNat, cond_true, cond_false, ↓reduceIte, reduceCtorEq, Nat.reduceLT, Nat.reduceLeDiff, Nat.reduceMul, Nat.reduceEqDiff, exists_eq', implies_true, exists_true_left, tys0, tys1, und0, und1, md63, Tryz.ntmps63, Tryz.results63]
  refine PostR.pure ⟨if b then 9223372036854775808 else 0, ?_, ?_, rfl⟩ rfl
  · cases b
    · exact .inl rfl
    · exact .inr rfl
  · congr 1
    cases b
    · decide +kernel
    · decide +kernel
theorem flush_call (x : Nat) (h : okW x) : CallA Tryz.prog 28 [.flt .f32 x] [] (fun r hp => ∃ z, (isSub x = false ∧ z = x ∨ isSub x = true ∧ (z = 0 ∨ z = 2147483648)) ∧ r = .flt .f32 z ∧ hp = []) := by
  refine CallP.out (t := .mk) (go_in (md := md28) mixed Tryz.func28 rfl go28 (by kernel_rfl) ?_)
  simp only [q0, q1, q2, q3, q4, q5, q6, q7, q8, q9, zr0, zr1, zr2, zr3, zq0, zq1, zq2, zq3, zq4, Nat.reduceAdd, Nat.reduceSub, lenA, convA, indexA, flatP, nilI, ifaA, indexS, Int.reduceToNat, cond_true, cond_false, ↓reduceIte, reduceCtorEq, Nat.reduceLT, Nat.reduceLeDiff, Nat.reduceMul, Nat.reduceEqDiff, exists_eq', implies_true, exists_true_left, tys0, tys1, und0, und1, md28, Tryz.ntmps28, Tryz.results28]
  refine call_ret (isSub_call x h) rfl rfl ?_
  simp only [q0, q1, q2, q3, q4, q5, q6, q7, q8, q9, zr0, zr1, zr2, zr3, zq0, zq1, zq2, zq3, zq4, Nat.reduceAdd, Nat.reduceSub, lenA, convA, indexA, flatP, nilI, ifaA, indexS, Int.reduceToNat, cond_true, cond_false, ↓reduceIte, reduceCtorEq, Nat.reduceLT, Nat.reduceLeDiff, Nat.reduceMul, Nat.reduceEqDiff, exists_eq', implies_true, exists_true_left, tys0, tys1, und0, und1, md28, Tryz.ntmps28, Tryz.results28]
  refine br_intro (fun hs => ?_) (fun hs => ?_) <;> simp only [q0, q1, q2, q3, q4, q5, q6, q7, q8, q9, zr0, zr1, zr2, zr3, zq0, zq1, zq2, zq3, zq4, Nat.reduceAdd, Nat.reduceSub, lenA, convA, indexA, flatP, nilI, ifaA, indexS, Int.reduceToNat, cond_true, cond_false, ↓reduceIte, reduceCtorEq, Nat.reduceLT, Nat.reduceLeDiff, Nat.reduceMul, Nat.reduceEqDiff, exists_eq', implies_true, exists_true_left, tys0, tys1, und0, und1, md28, Tryz.ntmps28, Tryz.results28]
  · have hw : (FloatKind.f64.decode (wid x)).isNaN = false := by
      rcases ok_kinds h with (rfl | rfl | rfl | rfl | rfl) | ⟨s, r, m, e, hw, hr, r0, m0, hd⟩
      · decide +kernel
      · decide +kernel
      · decide +kernel
      · decide +kernel
      · exact absurd hs (by decide +kernel)
      · exact fin_notnan (wide_rn (num_fin hd)).1.fin
    rw [canon_zero]
    refine call_by (copysign_call (wid x) hw) ?_
    rintro r hp' ⟨z, hz, rfl, rfl⟩
    simp only [q0, q1, q2, q3, q4, q5, q6, q7, q8, q9, zr0, zr1, zr2, zr3, zq0, zq1, zq2, zq3, zq4, Nat.reduceAdd, Nat.reduceSub, lenA, convA, indexA, flatP, nilI, ifaA, indexS, Int.reduceToNat, cond_true, cond_false, ↓reduceIte, reduceCtorEq, Nat.reduceLT, Nat.reduceLeDiff, Nat.reduceMul, Nat.reduceEqDiff, exists_eq', implies_true, exists_true_left, tys0, tys1, und0, und1, md28, Tryz.ntmps28, Tryz.results28]
    rcases hz with rfl | rfl
    · refine ⟨nok_zero (s := false) (e := -1074) (by decide +kernel), ?_⟩
      exact PostR.pure ⟨0, .inr ⟨hs, .inl rfl⟩, by congr 1, rfl⟩ rfl
    · refine ⟨nok_zero (s := true) (e := -1074) (by decide +kernel), ?_⟩
      exact PostR.pure ⟨2147483648, .inr ⟨hs, .inr rfl⟩, by congr 1, rfl⟩ rfl
  · exact PostR.pure ⟨x, .inl ⟨hs, rfl⟩, rfl, rfl⟩ rfl
end Go.Proofs.YtkjabkgmkkcpdaaGreatDoor
