/- Hexadecimal texts of numbers. -/
import Derived.Test.YtkjabkgmkkcpdaaGreatDoorNmH
import Derived.Test.YtkjabkgmkkcpdaaGreatDoorNmS
import Derived.Lib.Repeat
set_option maxRecDepth 10000
set_option maxHeartbeats 4000000
set_option linter.unusedSimpArgs false
set_option linter.unusedVariables false
namespace Go.Proofs.YtkjabkgmkkcpdaaGreatDoor
open Go Go.Abs
def okW (x : Nat) : Prop := x < 4294967296 ∧ ((FloatKind.f32.decode x).isNaN = true → x = 2143289344)
theorem bitsI_ok {x : Nat} (h : okW x) : bitsI x = (x : Int) := by
  unfold bitsI
  obtain ⟨h1, h2⟩ := h
  split
  · rename_i e
    rw [h2 e]
    rfl
  · exact w64 (by omega) (by omega)
theorem formatInt_call (n : Nat) (hn : n < 4294967296) : CallA Tryz.prog 85 [.int .i64 n, .int .i64 16] [] (fun r hp => ∃ k, 1 ≤ k ∧ k ≤ 8 ∧ n < 16 ^ k ∧ r = .str (hexT n k) ∧ hp = []) := by
  have e1 : IntKind.u64.wrap (n : Int) = (n : Int) := IntWalk.u64_in _ (by omega)
  refine CallP.out (t := .mk) (go_in (md := md85) mixed Tryz.func85 rfl go85 (by kernel_rfl) ?_)
  simp only [q0, q1, q2, q3, q4, q5, q6, q7, q8, q9, zr0, zr1, zr2, zr3, zq0, zq1, zq2, zq3, zq4, Nat.reduceAdd, Nat.reduceSub, lenA, convA, indexA, flatP, nilI, ifaA, indexS, Int.reduceToNat, cond_true, cond_false, ↓reduceIte, reduceCtorEq, Nat.reduceLT, Nat.reduceLeDiff, Nat.reduceMul, Nat.reduceEqDiff, exists_eq', implies_true, exists_true_left, tys0, tys1, und0, und1, md85, Tryz.ntmps85, Tryz.results85, e1]
  repeat (refine br_no (by first | exact decide_eq_false (by omega) | exact beq_false_of_ne (by omega) | (simp only [bne_eq_false_iff_eq, beq_eq_false_iff_ne, ne_eq]; omega)) ?_; simp only [q0, q1, q2, q3, q4, q5, q6, q7, q8, q9, zr0, zr1, zr2, zr3, zq0, zq1, zq2, zq3, zq4, Nat.reduceAdd, Nat.reduceSub, lenA, convA, indexA, flatP, nilI, ifaA, indexS, Int.reduceToNat, cond_true, cond_false, ↓reduceIte, reduceCtorEq, Nat.reduceLT, Nat.reduceLeDiff, Nat.reduceMul, Nat.reduceEqDiff, exists_eq', implies_true, exists_true_left, tys0, tys1, und0, und1, md85, Tryz.ntmps85, Tryz.results85, e1])
  have hd : decide ((n : Int) < 0) = false := decide_eq_false (by omega)
  simp only [hd]
  refine call_by (formatBits_call n hn) ?_
  rintro r hp' ⟨k, k1, k2, hk, rfl, rfl⟩
  simp only [q0, q1, q2, q3, q4, q5, q6, q7, q8, q9, zr0, zr1, zr2, zr3, zq0, zq1, zq2, zq3, zq4, Nat.reduceAdd, Nat.reduceSub, lenA, convA, indexA, flatP, nilI, ifaA, indexS, Int.reduceToNat, cond_true, cond_false, ↓reduceIte, reduceCtorEq, Nat.reduceLT, Nat.reduceLeDiff, Nat.reduceMul, Nat.reduceEqDiff, exists_eq', implies_true, exists_true_left, tys0, tys1, und0, und1, md85, Tryz.ntmps85, Tryz.results85]
  exact PostR.pure ⟨k, k1, k2, hk, rfl, rfl⟩ rfl
theorem formatIntS_call (n : Nat) (hn : n < 4294967296) : CallA Tryz.prog 73 [.int .i64 n, .int .i64 16] [] (fun r hp => ∃ k, 1 ≤ k ∧ k ≤ 8 ∧ n < 16 ^ k ∧ r = .str (hexT n k) ∧ hp = []) := by
  refine CallP.out (t := .mk) (go_in (md := md73) mixed Tryz.func73 rfl go73 (by kernel_rfl) ?_)
  simp only [q0, q1, q2, q3, q4, q5, q6, q7, q8, q9, zr0, zr1, zr2, zr3, zq0, zq1, zq2, zq3, zq4, Nat.reduceAdd, Nat.reduceSub, lenA, convA, indexA, flatP, nilI, ifaA, indexS, Int.reduceToNat, cond_true, cond_false, ↓reduceIte, reduceCtorEq, Nat.reduceLT, Nat.reduceLeDiff, Nat.reduceMul, Nat.reduceEqDiff, exists_eq', implies_true, exists_true_left, tys0, tys1, und0, und1, md73, Tryz.ntmps73, Tryz.results73]
  refine call_by (formatInt_call n hn) ?_
  rintro r hp' ⟨k, k1, k2, hk, rfl, rfl⟩
  simp only [q0, q1, q2, q3, q4, q5, q6, q7, q8, q9, zr0, zr1, zr2, zr3, zq0, zq1, zq2, zq3, zq4, Nat.reduceAdd, Nat.reduceSub, lenA, convA, indexA, flatP, nilI, ifaA, indexS, Int.reduceToNat, cond_true, cond_false, ↓reduceIte, reduceCtorEq, Nat.reduceLT, Nat.reduceLeDiff, Nat.reduceMul, Nat.reduceEqDiff, exists_eq', implies_true, exists_true_left, tys0, tys1, und0, und1, md73, Tryz.ntmps73, Tryz.results73]
  exact PostR.pure ⟨k, k1, k2, hk, rfl, rfl⟩ rfl
theorem repL (c : Nat) : Lib.repeatL [(48 : UInt8)] c = List.replicate c 48 := by
  induction c with
  | zero => rfl
  | succ c ih => rw [Lib.repeatL, ih]; rfl
theorem repeat_call (c : Nat) (hc : c ≤ 8) : CallA Tryz.prog 74 [.str [48], .int .i64 c] [] (Ret (.str (List.replicate c 48)) []) := by
  intro E vs H hl hrv
  obtain ⟨v, u, rfl, hv, hu⟩ := RV.two hl hrv
  cases hv
  cases hu
  have h := strings_Repeat ⟨[48].toArray⟩ c E.w (by omega) (by show 1 * c ≤ _; omega)
  refine .inl ⟨go74, h.mono ?_⟩
  rintro ex w' ⟨rfl, bel⟩
  obtain ⟨H2, F2, _⟩ := H.extend (w' := w') bel.size bel.block bel.os bel.tape bel.output
  refine ⟨_, rfl, .str (List.replicate c 48), [], E.with _, rfl, ⟨rfl, rfl⟩, ?_, H2, F2 (Fr.refl E _)⟩
  rw [show Lib.repeatL (⟨[48].toArray⟩ : ByteArray).data.toList c = List.replicate c 48 from repL c]
  exact .str _
theorem hex_call (x : Nat) (hx : okW x) : CallA Tryz.prog 47 [.flt .f32 x] [] (Ret (.str (hexT x 8)) []) := by
  refine CallP.out (t := .mk) (go_in (md := md47) mixed Tryz.func47 rfl go47 (by kernel_rfl) ?_)
  simp only [q0, q1, q2, q3, q4, q5, q6, q7, q8, q9, zr0, zr1, zr2, zr3, zq0, zq1, zq2, zq3, zq4, Nat.reduceAdd, Nat.reduceSub, lenA, convA, indexA, flatP, nilI, ifaA, indexS, Int.reduceToNat, cond_true, cond_false, ↓reduceIte, reduceCtorEq, Nat.reduceLT, Nat.reduceLeDiff, Nat.reduceMul, Nat.reduceEqDiff, exists_eq', implies_true, exists_true_left, tys0, tys1, und0, und1, md47, Tryz.ntmps47, Tryz.results47]
  refine call_ret (implBits_call x) rfl rfl ?_
  simp only [q0, q1, q2, q3, q4, q5, q6, q7, q8, q9, zr0, zr1, zr2, zr3, zq0, zq1, zq2, zq3, zq4, Nat.reduceAdd, Nat.reduceSub, lenA, convA, indexA, flatP, nilI, ifaA, indexS, Int.reduceToNat, cond_true, cond_false, ↓reduceIte, reduceCtorEq, Nat.reduceLT, Nat.reduceLeDiff, Nat.reduceMul, Nat.reduceEqDiff, exists_eq', implies_true, exists_true_left, tys0, tys1, und0, und1, md47, Tryz.ntmps47, Tryz.results47, bitsI_ok hx]
  refine call_by (formatIntS_call x hx.1) ?_
  rintro r hp' ⟨k, k1, k2, hk, rfl, rfl⟩
  have e1 : IntKind.i64.wrap (8 - (k : Int)) = ((8 - k : Nat) : Int) := by rw [w64 (by omega) (by omega)]; omega
  simp only [q0, q1, q2, q3, q4, q5, q6, q7, q8, q9, zr0, zr1, zr2, zr3, zq0, zq1, zq2, zq3, zq4, Nat.reduceAdd, Nat.reduceSub, lenA, convA, indexA, flatP, nilI, ifaA, indexS, Int.reduceToNat, cond_true, cond_false, ↓reduceIte, reduceCtorEq, Nat.reduceLT, Nat.reduceLeDiff, Nat.reduceMul, Nat.reduceEqDiff, exists_eq', implies_true, exists_true_left, tys0, tys1, und0, und1, md47, Tryz.ntmps47, Tryz.results47, hexT_len, e1]
  refine call_ret (repeat_call (8 - k) (by omega)) rfl rfl ?_
  simp only [q0, q1, q2, q3, q4, q5, q6, q7, q8, q9, zr0, zr1, zr2, zr3, zq0, zq1, zq2, zq3, zq4, Nat.reduceAdd, Nat.reduceSub, lenA, convA, indexA, flatP, nilI, ifaA, indexS, Int.reduceToNat, cond_true, cond_false, ↓reduceIte, reduceCtorEq, Nat.reduceLT, Nat.reduceLeDiff, Nat.reduceMul, Nat.reduceEqDiff, exists_eq', implies_true, exists_true_left, tys0, tys1, und0, und1, md47, Tryz.ntmps47, Tryz.results47]
  have e2 := hexT_pad x (8 - k) k hk
  rw [show k + (8 - k) = 8 by omega] at e2
  refine ⟨by rw [List.length_replicate, hexT_len]; omega, ?_⟩
  exact PostR.pure ⟨by rw [e2], rfl⟩ rfl
end Go.Proofs.YtkjabkgmkkcpdaaGreatDoor
