/- A hexadecimal text is read.  -/
import Derived.Test.YtkjabkgmkkcpdaaGreatDoorNmI
set_option maxRecDepth 10000
set_option maxHeartbeats 8000000
set_option linter.unusedSimpArgs false
set_option linter.unusedVariables false
namespace Go.Proofs.YtkjabkgmkkcpdaaGreatDoor
open Go Go.Abs
def bytB (l : List UInt8) : Blk := { ty := 5, w := 1, els := byts l }
theorem low_let (d : Nat) (h : d < 6) : IntKind.u8.wrap ((BitVec.ofInt IntKind.u8.bits ((97 + d : Nat) : Int) ||| BitVec.ofInt IntKind.u8.bits 32).toNat : Int) = ((97 + d : Nat) : Int) := by
  revert d
  decide
theorem lower_call (d : Nat) (h : d < 6) : CallA Tryz.prog 109 [.int .u8 ((97 + d : Nat) : Int)] [] (Ret (.int .u8 ((97 + d : Nat) : Int)) []) := by
  refine CallP.out (t := .mk) (go_in (md := md109) mixed Tryz.func109 rfl go109 (by kernel_rfl) ?_)
  simp only [q0, q1, q2, q3, q4, q5, q6, q7, q8, q9, zr0, zr1, zr2, zr3, zq0, zq1, zq2, zq3, zq4, Nat.reduceAdd, Nat.reduceSub, lenA, convA, convO, indexA, flatP, nilI, ifaA, indexS, sliceA, Int.reduceToNat, cond_true, cond_false, ↓reduceIte, reduceCtorEq, Nat.reduceLT, Nat.reduceLeDiff, Nat.reduceMul, Nat.reduceEqDiff, exists_eq', implies_true, exists_true_left, tys0, tys1, und0, und1, md109, Tryz.ntmps109, Tryz.results109]
  exact PostR.pure ⟨by rw [low_let d h], rfl⟩ rfl
theorem hexT_at (n : Nat) : ∀ (k j : Nat) (h : j < k) (h2 : j < (hexT n k).length), (hexT n k)[j] = hexC (n / 16 ^ (k - 1 - j) % 16)
  | k + 1, 0, _, _ => rfl
  | k + 1, j + 1, h, h2 => by
    show (hexT n k)[j]'(by rw [hexT_len]; omega) = _
    rw [hexT_at n k j (by omega) (by rw [hexT_len]; omega), show k + 1 - 1 - (j + 1) = k - 1 - j by omega]
theorem hexC_dig (d : Nat) (h : d < 10) : (hexC d).toNat = 48 + d := by
  revert d
  decide
theorem hexC_let (d : Nat) (h : d < 6) : (hexC (10 + d)).toNat = 97 + d := by
  revert d
  decide
theorem wrap_u8 {x : Int} (h0 : 0 ≤ x) (h1 : x ≤ 255) : IntKind.u8.wrap x = x := by
  show x % 256 = x
  exact Int.emod_eq_of_lt h0 (by omega)
theorem hex_byte (x j : Nat) (h : j < 8) (hb : j < (byts (hexT x 8)).length) : (byts (hexT x 8))[j]'hb = AV.int .u8 ((hexC (x / 16 ^ (7 - j) % 16)).toNat : Int) := by
  have h2 : j < (hexT x 8).length := by rw [hexT_len]; exact h
  have e := hexT_at x 8 j h h2
  rw [show 8 - 1 - j = 7 - j by omega] at e
  have k : (byts (hexT x 8))[j]'hb = AV.int .u8 (((hexT x 8)[j]'h2).toNat : Int) := List.getElem_map ..
  rw [k, e]
theorem parseUint_call (x : Nat) (hx : x < 4294967296) : CallA Tryz.prog 93 [.str (hexT x 8), .int .i64 16, .int .i64 32] [] (Ret (.tup [.int .u64 x, .nili]) []) := by
  have hne : (hexT x 8 == ([] : List UInt8)) = false := rfl
  have ln := hexT_len x 8
  refine CallP.out (t := .mk) (go_in (md := md93) mixed Tryz.func93 rfl go93 (by kernel_rfl) ?_)
  simp only [q0, q1, q2, q3, q4, q5, q6, q7, q8, q9, zr0, zr1, zr2, zr3, zq0, zq1, zq2, zq3, zq4, Nat.reduceAdd, Nat.reduceSub, lenA, convA, convO, indexA, flatP, nilI, ifaA, indexS, sliceA, Int.reduceToNat, cond_true, cond_false, ↓reduceIte, reduceCtorEq, Nat.reduceLT, Nat.reduceLeDiff, Nat.reduceMul, Nat.reduceEqDiff, exists_eq', implies_true, exists_true_left, tys0, tys1, und0, und1, md93, Tryz.ntmps93, Tryz.results93, hne, Int.reduceLT, Int.reduceLE, Int.reduceNeg, Int.reduceEq, Int.reduceGT, Int.reduceGE, decide_true, decide_false, beq_self_eq_true, bne_self_eq_false, Int.reduceBEq, Int.reduceBNe, Int.reduceAdd, Int.reduceSub]
  repeat (first | (refine br_no (by first | exact decide_eq_false (by omega) | exact beq_false_of_ne (by omega) | (simp only [bne_eq_false_iff_eq, beq_eq_false_iff_ne, ne_eq]; omega)) ?_; simp only [q0, q1, q2, q3, q4, q5, q6, q7, q8, q9, zr0, zr1, zr2, zr3, zq0, zq1, zq2, zq3, zq4, Nat.reduceAdd, Nat.reduceSub, lenA, convA, convO, indexA, flatP, nilI, ifaA, indexS, sliceA, Int.reduceToNat, cond_true, cond_false, ↓reduceIte, reduceCtorEq, Nat.reduceLT, Nat.reduceLeDiff, Nat.reduceMul, Nat.reduceEqDiff, exists_eq', implies_true, exists_true_left, tys0, tys1, und0, und1, md93, Tryz.ntmps93, Tryz.results93, hne, ln, Int.reduceLT, Int.reduceLE, Int.reduceNeg, Int.reduceEq, Int.reduceGT, Int.reduceGE, decide_true, decide_false, beq_self_eq_true, bne_self_eq_false, Int.reduceBEq, Int.reduceBNe, Int.reduceAdd, Int.reduceSub]) | (refine br_yes (by first | exact decide_eq_true (by omega) | (simp only [bne_iff_ne, beq_iff_eq, ne_eq]; omega)) ?_; simp only [q0, q1, q2, q3, q4, q5, q6, q7, q8, q9, zr0, zr1, zr2, zr3, zq0, zq1, zq2, zq3, zq4, Nat.reduceAdd, Nat.reduceSub, lenA, convA, convO, indexA, flatP, nilI, ifaA, indexS, sliceA, Int.reduceToNat, cond_true, cond_false, ↓reduceIte, reduceCtorEq, Nat.reduceLT, Nat.reduceLeDiff, Nat.reduceMul, Nat.reduceEqDiff, exists_eq', implies_true, exists_true_left, tys0, tys1, und0, und1, md93, Tryz.ntmps93, Tryz.results93, hne, ln, Int.reduceLT, Int.reduceLE, Int.reduceNeg, Int.reduceEq, Int.reduceGT, Int.reduceGE, decide_true, decide_false, beq_self_eq_true, bne_self_eq_false, Int.reduceBEq, Int.reduceBNe, Int.reduceAdd, Int.reduceSub]) | (refine ⟨by assumption, ?_⟩; simp only [q0, q1, q2, q3, q4, q5, q6, q7, q8, q9, zr0, zr1, zr2, zr3, zq0, zq1, zq2, zq3, zq4, Nat.reduceAdd, Nat.reduceSub, lenA, convA, convO, indexA, flatP, nilI, ifaA, indexS, sliceA, Int.reduceToNat, cond_true, cond_false, ↓reduceIte, reduceCtorEq, Nat.reduceLT, Nat.reduceLeDiff, Nat.reduceMul, Nat.reduceEqDiff, exists_eq', implies_true, exists_true_left, tys0, tys1, und0, und1, md93, Tryz.ntmps93, Tryz.results93, hne, ln, Int.reduceLT, Int.reduceLE, Int.reduceNeg, Int.reduceEq, Int.reduceGT, Int.reduceGE, decide_true, decide_false, beq_self_eq_true, bne_self_eq_false, Int.reduceBEq, Int.reduceBNe, Int.reduceAdd, Int.reduceSub]))
  refine ⟨by decide, by omega, ?_⟩
  have hw1 : IntKind.u64.wrap ((IntKind.u64.wrap (1 * 2 ^ min (IntKind.u64.wrap 32).toNat IntKind.u64.bits)) - 1) = 4294967295 := by decide
  refine go_round (md := md93) mixed (by kernel_rfl) (fun j : {j : Nat // j ≤ 8} => ⟨(.any :: (.int .i64 16) :: .any :: .any :: .any :: .any :: .any :: .any :: (.bool false) :: (.str (hexT x 8)) :: (.int .u64 1152921504606846976) :: (.int .u64 4294967295) :: (.bool false) :: (.int .u64 ((x / 16 ^ (8 - j.1) : Nat) : Int)) :: .any :: .any :: .any :: .any :: .any :: .any :: .any :: .any :: .any :: .any :: .any :: .any :: .any :: .any :: .any :: .any :: .any :: .any :: .any :: .any :: .any :: .any :: .any :: .any :: .any :: .any :: .any :: .any :: .any :: .any :: .any :: .any :: .any :: .any :: .any :: .any :: .any :: .any :: .any :: .any :: .any :: .any :: .any :: .any :: .any :: .any :: .any :: .any :: .any :: .any :: .any :: .any :: .any :: .any :: .any :: .any :: .any :: .any :: .any :: .any :: .any :: .any :: .any :: .any :: .any :: .any :: .any :: .any :: .any :: .any :: .any :: .any :: .any :: .any :: .any :: .any :: .any :: .any :: .any :: .any :: .any :: .any :: .any :: .any :: .any :: (.sl 0 0 8) :: (.int .i64 8) :: (.int .i64 j.1) :: .any :: .any :: .any :: .any :: .any :: .any :: .any :: .any :: .any :: .any :: .any :: .any :: .any :: .any :: .any :: .any :: .any :: .any :: .any :: .any :: .any :: .any :: .any :: .any :: .any :: .any :: .any :: .any :: .any :: .any :: .any :: .any :: .any :: .any :: .any :: .any :: .any :: .any :: .any :: .any :: .any :: .any :: .any :: .any :: .any :: .any :: .any :: .any :: .any :: .any :: .any :: .any :: .any :: .any :: .any :: .any :: .any :: .any :: .any :: .any :: .any :: .any :: .any :: .any :: .any :: .any :: .any :: .any :: .any :: .any :: []), [bytB (hexT x 8)]⟩) (fun j => 8 - j.1) ⟨0, Nat.zero_le _⟩ ?_ ?_
  · have e0 : x / 16 ^ 8 = 0 := Nat.div_eq_of_lt hx
    simp only [Nat.sub_zero, e0, ln, hw1]
    exact weak_drop (by simp) (by simp [DropHp, ints_below, flts_below, bytB, byts_below]) (by simp [DropTm, DropV, below, belowM, belowL, bytB, byts_below])
  rintro ⟨j, hj⟩
  dsimp only
  simp only [q0, q1, q2, q3, q4, q5, q6, q7, q8, q9, zr0, zr1, zr2, zr3, zq0, zq1, zq2, zq3, zq4, Nat.reduceAdd, Nat.reduceSub, lenA, convA, convO, indexA, flatP, nilI, ifaA, indexS, sliceA, Int.reduceToNat, cond_true, cond_false, ↓reduceIte, reduceCtorEq, Nat.reduceLT, Nat.reduceLeDiff, Nat.reduceMul, Nat.reduceEqDiff, exists_eq', implies_true, exists_true_left, tys0, tys1, und0, und1, md93, Tryz.ntmps93, Tryz.results93, bytB]
  refine br_intro (fun h => ?_) (fun h => ?_) <;> simp only [q0, q1, q2, q3, q4, q5, q6, q7, q8, q9, zr0, zr1, zr2, zr3, zq0, zq1, zq2, zq3, zq4, Nat.reduceAdd, Nat.reduceSub, lenA, convA, convO, indexA, flatP, nilI, ifaA, indexS, sliceA, Int.reduceToNat, cond_true, cond_false, ↓reduceIte, reduceCtorEq, Nat.reduceLT, Nat.reduceLeDiff, Nat.reduceMul, Nat.reduceEqDiff, exists_eq', implies_true, exists_true_left, tys0, tys1, und0, und1, md93, Tryz.ntmps93, Tryz.results93, bytB, ln]
  · have h' : (j : Int) < 8 := of_decide_eq_true h
    have hj8 : j < 8 := by omega
    have hat := hex_byte x j hj8
    have hd : x / 16 ^ (7 - j) % 16 < 16 := Nat.mod_lt _ (by decide)
    have hq : x / 16 ^ (7 - j) = 16 * (x / 16 ^ (8 - j)) + x / 16 ^ (7 - j) % 16 := by
      rw [show 8 - j = (7 - j) + 1 by omega, Nat.pow_succ, ← Nat.div_div_eq_div_mul]
      omega
    have hlt : x / 16 ^ (7 - j) < 4294967296 := Nat.lt_of_le_of_lt (Nat.div_le_self _ _) hx
    generalize x / 16 ^ (7 - j) % 16 = d at hat hd hq
    generalize hm : x / 16 ^ (8 - j) = m at *
    have hbl : j < (byts (hexT x 8)).length := by unfold byts; rw [List.length_map]; omega
    have mu : IntKind.u64.wrap ((m : Int) * 16) = ((16 * m : Nat) : Int) := by rw [IntWalk.u64_in _ (by omega)]; omega
    have mw : IntKind.u64.wrap (((16 * m : Nat) : Int) + (d : Int)) = ((16 * m + d : Nat) : Int) := by rw [IntWalk.u64_in _ (by omega)]; omega
    have dw : IntKind.u64.wrap (d : Int) = (d : Int) := IntWalk.u64_in _ (by omega)
    have dw2 : IntKind.i64.wrap ((j : Int) + 1) = ((j + 1 : Nat) : Int) := w64_succ j (by omega)
    have w16 : IntKind.u8.wrap 16 = 16 := by decide
    have w16u : IntKind.u64.wrap 16 = 16 := by decide
    by_cases h10 : d < 10
    · have g : ∀ h, (byts (hexT x 8))[j]'h = AV.int .u8 ((48 + d : Nat) : Int) := fun h => by rw [hat h, hexC_dig d h10]
      have s48 : IntKind.u8.wrap (((48 + d : Nat) : Int) - 48) = (d : Int) := by rw [wrap_u8 (by omega) (by omega)]; omega
      refine ⟨by omega, hbl, by rw [g]; exact Nat.zero_lt_one, ?_⟩
      simp only [q0, q1, q2, q3, q4, q5, q6, q7, q8, q9, zr0, zr1, zr2, zr3, zq0, zq1, zq2, zq3, zq4, Nat.reduceAdd, Nat.reduceSub, lenA, convA, convO, indexA, flatP, nilI, ifaA, indexS, sliceA, Int.reduceToNat, cond_true, cond_false, ↓reduceIte, reduceCtorEq, Nat.reduceLT, Nat.reduceLeDiff, Nat.reduceMul, Nat.reduceEqDiff, exists_eq', implies_true, exists_true_left, tys0, tys1, und0, und1, md93, Tryz.ntmps93, Tryz.results93, bytB, g]
      repeat (first | (refine br_no (by first | exact decide_eq_false (by omega) | exact beq_false_of_ne (by omega) | (simp only [bne_eq_false_iff_eq, beq_eq_false_iff_ne, ne_eq]; omega)) ?_; simp only [q0, q1, q2, q3, q4, q5, q6, q7, q8, q9, zr0, zr1, zr2, zr3, zq0, zq1, zq2, zq3, zq4, Nat.reduceAdd, Nat.reduceSub, lenA, convA, convO, indexA, flatP, nilI, ifaA, indexS, sliceA, Int.reduceToNat, cond_true, cond_false, ↓reduceIte, reduceCtorEq, Nat.reduceLT, Nat.reduceLeDiff, Nat.reduceMul, Nat.reduceEqDiff, exists_eq', implies_true, exists_true_left, tys0, tys1, und0, und1, md93, Tryz.ntmps93, Tryz.results93, bytB, s48, w16, w16u, mu, mw, dw, dw2]) | (refine br_yes (by first | exact decide_eq_true (by omega) | (simp only [bne_iff_ne, beq_iff_eq, ne_eq]; omega)) ?_; simp only [q0, q1, q2, q3, q4, q5, q6, q7, q8, q9, zr0, zr1, zr2, zr3, zq0, zq1, zq2, zq3, zq4, Nat.reduceAdd, Nat.reduceSub, lenA, convA, convO, indexA, flatP, nilI, ifaA, indexS, sliceA, Int.reduceToNat, cond_true, cond_false, ↓reduceIte, reduceCtorEq, Nat.reduceLT, Nat.reduceLeDiff, Nat.reduceMul, Nat.reduceEqDiff, exists_eq', implies_true, exists_true_left, tys0, tys1, und0, und1, md93, Tryz.ntmps93, Tryz.results93, bytB, s48, w16, w16u, mu, mw, dw, dw2]) | (refine ⟨by assumption, ?_⟩; simp only [q0, q1, q2, q3, q4, q5, q6, q7, q8, q9, zr0, zr1, zr2, zr3, zq0, zq1, zq2, zq3, zq4, Nat.reduceAdd, Nat.reduceSub, lenA, convA, convO, indexA, flatP, nilI, ifaA, indexS, sliceA, Int.reduceToNat, cond_true, cond_false, ↓reduceIte, reduceCtorEq, Nat.reduceLT, Nat.reduceLeDiff, Nat.reduceMul, Nat.reduceEqDiff, exists_eq', implies_true, exists_true_left, tys0, tys1, und0, und1, md93, Tryz.ntmps93, Tryz.results93, bytB, s48, w16, w16u, mu, mw, dw, dw2]))
      refine ⟨⟨j + 1, by omega⟩, by show 8 - (j + 1) < _; omega, ?_⟩
      simp only [show 8 - (j + 1) = 7 - j by omega, hq]
      exact weak_drop (by simp) (by simp [DropHp, ints_below, flts_below, bytB, byts_below]) (by simp [DropTm, DropV, below, belowM, belowL, bytB, byts_below])
    · have g : ∀ h, (byts (hexT x 8))[j]'h = AV.int .u8 ((97 + (d - 10) : Nat) : Int) := fun h => by rw [hat h, ← hexC_let (d - 10) (by omega), show 10 + (d - 10) = d by omega]
      refine ⟨by omega, hbl, by rw [g]; exact Nat.zero_lt_one, ?_⟩
      have s97 : IntKind.u8.wrap (((97 + (d - 10) : Nat) : Int) - 97) = ((d - 10 : Nat) : Int) := by rw [wrap_u8 (by omega) (by omega)]; omega
      have s10 : IntKind.u8.wrap (((d - 10 : Nat) : Int) + 10) = (d : Int) := by rw [wrap_u8 (by omega) (by omega)]; omega
      simp only [q0, q1, q2, q3, q4, q5, q6, q7, q8, q9, zr0, zr1, zr2, zr3, zq0, zq1, zq2, zq3, zq4, Nat.reduceAdd, Nat.reduceSub, lenA, convA, convO, indexA, flatP, nilI, ifaA, indexS, sliceA, Int.reduceToNat, cond_true, cond_false, ↓reduceIte, reduceCtorEq, Nat.reduceLT, Nat.reduceLeDiff, Nat.reduceMul, Nat.reduceEqDiff, exists_eq', implies_true, exists_true_left, tys0, tys1, und0, und1, md93, Tryz.ntmps93, Tryz.results93, bytB, g]
      refine br_no (by first | exact decide_eq_false (by omega) | exact beq_false_of_ne (by omega) | (simp only [bne_eq_false_iff_eq, beq_eq_false_iff_ne, ne_eq]; omega)) ?_; simp only [q0, q1, q2, q3, q4, q5, q6, q7, q8, q9, zr0, zr1, zr2, zr3, zq0, zq1, zq2, zq3, zq4, Nat.reduceAdd, Nat.reduceSub, lenA, convA, convO, indexA, flatP, nilI, ifaA, indexS, sliceA, Int.reduceToNat, cond_true, cond_false, ↓reduceIte, reduceCtorEq, Nat.reduceLT, Nat.reduceLeDiff, Nat.reduceMul, Nat.reduceEqDiff, exists_eq', implies_true, exists_true_left, tys0, tys1, und0, und1, md93, Tryz.ntmps93, Tryz.results93, bytB]
      refine br_yes (by first | exact decide_eq_true (by omega) | (simp only [bne_iff_ne, beq_iff_eq, ne_eq]; omega)) ?_; simp only [q0, q1, q2, q3, q4, q5, q6, q7, q8, q9, zr0, zr1, zr2, zr3, zq0, zq1, zq2, zq3, zq4, Nat.reduceAdd, Nat.reduceSub, lenA, convA, convO, indexA, flatP, nilI, ifaA, indexS, sliceA, Int.reduceToNat, cond_true, cond_false, ↓reduceIte, reduceCtorEq, Nat.reduceLT, Nat.reduceLeDiff, Nat.reduceMul, Nat.reduceEqDiff, exists_eq', implies_true, exists_true_left, tys0, tys1, und0, und1, md93, Tryz.ntmps93, Tryz.results93, bytB]
      refine br_no (by first | exact decide_eq_false (by omega) | exact beq_false_of_ne (by omega) | (simp only [bne_eq_false_iff_eq, beq_eq_false_iff_ne, ne_eq]; omega)) ?_; simp only [q0, q1, q2, q3, q4, q5, q6, q7, q8, q9, zr0, zr1, zr2, zr3, zq0, zq1, zq2, zq3, zq4, Nat.reduceAdd, Nat.reduceSub, lenA, convA, convO, indexA, flatP, nilI, ifaA, indexS, sliceA, Int.reduceToNat, cond_true, cond_false, ↓reduceIte, reduceCtorEq, Nat.reduceLT, Nat.reduceLeDiff, Nat.reduceMul, Nat.reduceEqDiff, exists_eq', implies_true, exists_true_left, tys0, tys1, und0, und1, md93, Tryz.ntmps93, Tryz.results93, bytB]
      refine call_ret (lower_call (d - 10) (by omega)) rfl rfl ?_
      simp only [q0, q1, q2, q3, q4, q5, q6, q7, q8, q9, zr0, zr1, zr2, zr3, zq0, zq1, zq2, zq3, zq4, Nat.reduceAdd, Nat.reduceSub, lenA, convA, convO, indexA, flatP, nilI, ifaA, indexS, sliceA, Int.reduceToNat, cond_true, cond_false, ↓reduceIte, reduceCtorEq, Nat.reduceLT, Nat.reduceLeDiff, Nat.reduceMul, Nat.reduceEqDiff, exists_eq', implies_true, exists_true_left, tys0, tys1, und0, und1, md93, Tryz.ntmps93, Tryz.results93, bytB]
      refine br_yes (by first | exact decide_eq_true (by omega) | (simp only [bne_iff_ne, beq_iff_eq, ne_eq]; omega)) ?_; simp only [q0, q1, q2, q3, q4, q5, q6, q7, q8, q9, zr0, zr1, zr2, zr3, zq0, zq1, zq2, zq3, zq4, Nat.reduceAdd, Nat.reduceSub, lenA, convA, convO, indexA, flatP, nilI, ifaA, indexS, sliceA, Int.reduceToNat, cond_true, cond_false, ↓reduceIte, reduceCtorEq, Nat.reduceLT, Nat.reduceLeDiff, Nat.reduceMul, Nat.reduceEqDiff, exists_eq', implies_true, exists_true_left, tys0, tys1, und0, und1, md93, Tryz.ntmps93, Tryz.results93, bytB]
      refine call_ret (lower_call (d - 10) (by omega)) rfl rfl ?_
      simp only [q0, q1, q2, q3, q4, q5, q6, q7, q8, q9, zr0, zr1, zr2, zr3, zq0, zq1, zq2, zq3, zq4, Nat.reduceAdd, Nat.reduceSub, lenA, convA, convO, indexA, flatP, nilI, ifaA, indexS, sliceA, Int.reduceToNat, cond_true, cond_false, ↓reduceIte, reduceCtorEq, Nat.reduceLT, Nat.reduceLeDiff, Nat.reduceMul, Nat.reduceEqDiff, exists_eq', implies_true, exists_true_left, tys0, tys1, und0, und1, md93, Tryz.ntmps93, Tryz.results93, bytB]
      refine br_yes (by first | exact decide_eq_true (by omega) | (simp only [bne_iff_ne, beq_iff_eq, ne_eq]; omega)) ?_; simp only [q0, q1, q2, q3, q4, q5, q6, q7, q8, q9, zr0, zr1, zr2, zr3, zq0, zq1, zq2, zq3, zq4, Nat.reduceAdd, Nat.reduceSub, lenA, convA, convO, indexA, flatP, nilI, ifaA, indexS, sliceA, Int.reduceToNat, cond_true, cond_false, ↓reduceIte, reduceCtorEq, Nat.reduceLT, Nat.reduceLeDiff, Nat.reduceMul, Nat.reduceEqDiff, exists_eq', implies_true, exists_true_left, tys0, tys1, und0, und1, md93, Tryz.ntmps93, Tryz.results93, bytB]
      refine call_ret (lower_call (d - 10) (by omega)) rfl rfl ?_
      simp only [q0, q1, q2, q3, q4, q5, q6, q7, q8, q9, zr0, zr1, zr2, zr3, zq0, zq1, zq2, zq3, zq4, Nat.reduceAdd, Nat.reduceSub, lenA, convA, convO, indexA, flatP, nilI, ifaA, indexS, sliceA, Int.reduceToNat, cond_true, cond_false, ↓reduceIte, reduceCtorEq, Nat.reduceLT, Nat.reduceLeDiff, Nat.reduceMul, Nat.reduceEqDiff, exists_eq', implies_true, exists_true_left, tys0, tys1, und0, und1, md93, Tryz.ntmps93, Tryz.results93, bytB, s97, s10, w16, w16u, mu, mw, dw, dw2]
      repeat (first | (refine br_no (by first | exact decide_eq_false (by omega) | exact beq_false_of_ne (by omega) | (simp only [bne_eq_false_iff_eq, beq_eq_false_iff_ne, ne_eq]; omega)) ?_; simp only [q0, q1, q2, q3, q4, q5, q6, q7, q8, q9, zr0, zr1, zr2, zr3, zq0, zq1, zq2, zq3, zq4, Nat.reduceAdd, Nat.reduceSub, lenA, convA, convO, indexA, flatP, nilI, ifaA, indexS, sliceA, Int.reduceToNat, cond_true, cond_false, ↓reduceIte, reduceCtorEq, Nat.reduceLT, Nat.reduceLeDiff, Nat.reduceMul, Nat.reduceEqDiff, exists_eq', implies_true, exists_true_left, tys0, tys1, und0, und1, md93, Tryz.ntmps93, Tryz.results93, bytB, s97, s10, w16, w16u, mu, mw, dw, dw2]) | (refine br_yes (by first | exact decide_eq_true (by omega) | (simp only [bne_iff_ne, beq_iff_eq, ne_eq]; omega)) ?_; simp only [q0, q1, q2, q3, q4, q5, q6, q7, q8, q9, zr0, zr1, zr2, zr3, zq0, zq1, zq2, zq3, zq4, Nat.reduceAdd, Nat.reduceSub, lenA, convA, convO, indexA, flatP, nilI, ifaA, indexS, sliceA, Int.reduceToNat, cond_true, cond_false, ↓reduceIte, reduceCtorEq, Nat.reduceLT, Nat.reduceLeDiff, Nat.reduceMul, Nat.reduceEqDiff, exists_eq', implies_true, exists_true_left, tys0, tys1, und0, und1, md93, Tryz.ntmps93, Tryz.results93, bytB, s97, s10, w16, w16u, mu, mw, dw, dw2]) | (refine ⟨by assumption, ?_⟩; simp only [q0, q1, q2, q3, q4, q5, q6, q7, q8, q9, zr0, zr1, zr2, zr3, zq0, zq1, zq2, zq3, zq4, Nat.reduceAdd, Nat.reduceSub, lenA, convA, convO, indexA, flatP, nilI, ifaA, indexS, sliceA, Int.reduceToNat, cond_true, cond_false, ↓reduceIte, reduceCtorEq, Nat.reduceLT, Nat.reduceLeDiff, Nat.reduceMul, Nat.reduceEqDiff, exists_eq', implies_true, exists_true_left, tys0, tys1, und0, und1, md93, Tryz.ntmps93, Tryz.results93, bytB, s97, s10, w16, w16u, mu, mw, dw, dw2]))
      refine ⟨⟨j + 1, by omega⟩, by show 8 - (j + 1) < _; omega, ?_⟩
      simp only [show 8 - (j + 1) = 7 - j by omega, hq]
      exact weak_drop (by simp) (by simp [DropHp, ints_below, flts_below, bytB, byts_below]) (by simp [DropTm, DropV, below, belowM, belowL, bytB, byts_below])
  · have h' := of_decide_eq_false h
    have e8 : j = 8 := by omega
    subst e8
    simp only [Nat.sub_self, Nat.pow_zero, Nat.div_one]
    exact PostR.pure ⟨rfl, rfl⟩ rfl
theorem parseUintS_call (x : Nat) (hx : x < 4294967296) : CallA Tryz.prog 77 [.str (hexT x 8), .int .i64 16, .int .i64 32] [] (Ret (.tup [.int .u64 x, .nili]) []) := by
  refine CallP.out (t := .mk) (go_in (md := md77) mixed Tryz.func77 rfl go77 (by kernel_rfl) ?_)
  simp only [q0, q1, q2, q3, q4, q5, q6, q7, q8, q9, zr0, zr1, zr2, zr3, zq0, zq1, zq2, zq3, zq4, Nat.reduceAdd, Nat.reduceSub, lenA, convA, convO, indexA, flatP, nilI, ifaA, indexS, sliceA, Int.reduceToNat, cond_true, cond_false, ↓reduceIte, reduceCtorEq, Nat.reduceLT, Nat.reduceLeDiff, Nat.reduceMul, Nat.reduceEqDiff, exists_eq', implies_true, exists_true_left, tys0, tys1, und0, und1, md77, Tryz.ntmps77, Tryz.results77]
  refine call_ret (parseUint_call x hx) rfl rfl ?_
  simp only [q0, q1, q2, q3, q4, q5, q6, q7, q8, q9, zr0, zr1, zr2, zr3, zq0, zq1, zq2, zq3, zq4, Nat.reduceAdd, Nat.reduceSub, lenA, convA, convO, indexA, flatP, nilI, ifaA, indexS, sliceA, Int.reduceToNat, cond_true, cond_false, ↓reduceIte, reduceCtorEq, Nat.reduceLT, Nat.reduceLeDiff, Nat.reduceMul, Nat.reduceEqDiff, exists_eq', implies_true, exists_true_left, tys0, tys1, und0, und1, md77, Tryz.ntmps77, Tryz.results77]
  exact PostR.pure ⟨rfl, rfl⟩ rfl
end Go.Proofs.YtkjabkgmkkcpdaaGreatDoor
