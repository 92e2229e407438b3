/- Logarithms of 32-bit numbers; sums that are never minus nought. -/
import Derived.Test.YthildgdbgjgidaaEnB
set_option maxRecDepth 10000
set_option maxHeartbeats 4000000
set_option linter.unusedSimpArgs false
set_option linter.unusedVariables false
namespace Go.Proofs.Ythildgdbgjgidaa
open Go Go.Abs

theorem hlv_mid : ∀ (n i y : Nat), Hi i y → 40 < n + i → ∃ i' y', hlvF n y (i : Int) = (y', ((i' : Nat) : Int)) ∧ Hi i' y' ∧ fge .f64 y' w15 = false
  | 0, i, y, H, h => by have := H.hi; omega
  | n + 1, i, y, H, h => by
    rw [hlvF]
    by_cases c : fge .f64 y w15 = true
    · rw [if_pos c]
      exact hlv_mid n (i + 1) _ (H.more c) (by omega)
    · rw [if_neg c]
      exact ⟨i, y, rfl, H, by simpa using c⟩
theorem dbl_mid (e0 : Int) : ∀ (n j y : Nat), Lo j y → 40 < n + j → ∃ j' y', dblF n y (e0 - (j : Int)) = (y', e0 - ((j' : Nat) : Int)) ∧ Mid75 y' ∧ j' ≤ 40
  | 0, j, y, L, h => by have := L.hj; omega
  | n + 1, j, y, L, h => by
    rw [dblF]
    by_cases c : flt .f64 y w075 = true
    · rw [if_pos c, show e0 - (j : Int) - 1 = e0 - ((j + 1 : Nat) : Int) by omega]
      exact dbl_mid e0 n (j + 1) _ (L.more c) (by omega)
    · rw [if_neg c]
      exact ⟨j, y, rfl, L.done (by simpa using c), L.hj⟩
theorem log_bd {y : Nat} (H : Hi 0 y) : Bd (logF y) (p2 7) := by
  obtain ⟨i, x, h1, H1, c1⟩ := hlv_mid 60 0 y H (by omega)
  obtain ⟨j, z, h2, M, hj⟩ := dbl_mid (i : Int) 60 0 x (H1.done c1) (by omega)
  have h1 : hlvF 60 y 0 = (x, (i : Int)) := h1
  have h2 : dblF 60 x (i : Int) = (z, (i : Int) - (j : Int)) := by
    have e : (i : Int) - ((0 : Nat) : Int) = (i : Int) := by omega
    rw [e] at h2; exact h2
  have hi := H1.hi
  rw [logF, h1, h2]
  exact bd_out M (by show ((i : Int) - (j : Int)).natAbs ≤ 64; omega)
structure Pos32 (x : Nat) : Prop where
  fin : finB .f32 x = true
  lo : p2 (-40) ≤ fval .f32 x
  up : fval .f32 x ≤ p2 40
theorem pos_hi {x : Nat} (h : Pos32 x) : Hi 0 (fconv .f64 .f32 x) := by
  obtain ⟨r, v⟩ := wide_rn h.fin
  exact ⟨by omega, r.fin, r.can, by rw [v]; exact h.up, by rw [v]; exact h.lo⟩
def lnF (x : Nat) : Nat := fconv .f32 .f64 (logF (fconv .f64 .f32 x))
theorem ln_ok {x : Nat} (h : Pos32 x) : fconvOk .f32 .f64 (logF (fconv .f64 .f32 x)) ∧ finB .f32 (lnF x) = true ∧ canon .f32 (lnF x) = lnF x ∧ ab (fval .f32 (lnF x)) ≤ p2 7 := by
  have b := log_bd (pos_hi h)
  have h1 := b.le
  have h2 := p2_mono (show (8 : Int) ≤ 127 by decide)
  have h3 : p2 8 = p2 7 * 2 := p2_add 7 1
  have h4 := p2_pos 7
  obtain ⟨c, r⟩ := narrow_rn b.fin (by grind)
  exact ⟨c, r.fin, r.can, r.bound (rep_p2 _ (by decide)) h1⟩
theorem logNumber_call (x : Nat) (h : Pos32 x) : CallA Try.prog 20 [.flt .f32 x] [] (Ret (.flt .f32 (lnF x)) []) := by
  have hn : feq .f32 x x = true := by rw [feq_same, fin_notnan h.fin]; rfl
  have hp := p2_pos (-40)
  have hl := h.lo
  have hz : flt .f32 x 0 = false := by rw [flt_val h.fin (by decide +kernel), fval_zero]; exact decide_eq_false (by grind)
  have he : feq .f32 x 0 = false := by rw [feq_val h.fin (by decide +kernel), fval_zero]; exact decide_eq_false (by grind)
  have c32 : canon .f32 0 = 0 := rfl
  have ok := ln_ok h
  refine CallP.out (t := .mk) (go_in (md := md20) mixed Try.func20 rfl go20 (by kernel_rfl) ?_)
  simp only [q0, q1, q2, q3, q4, q5, q6, q7, q8, q9, zq0, zq1, zq2, zq3, zq4, guardSlot, quietA, nilC, nilA, quietB, St.ev, St.put, St.after, Nat.reduceAdd, Nat.reduceSub, ofV, ofL, lenA, binA, intBin, fltBin, strBin, cpxBin, unA, convA, convB, convO, pickV, resL, oneA, indexA, indexS, isQuiet, loadA, loadC, storeA, fieldA, partA, sliceA, boundA, buildA, placeA, setAll, appendA, readSl, newEl, AV.cells, AV.solid, AV.one, kill, killM, killL, notInt, Int.reduceToNat, cond_true, cond_false, ↓reduceIte, reduceCtorEq, Nat.reduceLT, Nat.reduceLeDiff, Nat.reduceMul, Nat.reduceEqDiff, exists_eq', putF, implies_true, exists_true_left, tys0, tys1, tys2, und0, und1, und2, md20, Try.ntmps20, Try.results20, c32, hn, hz, he, Int.reduceLT, Int.reduceLE, Int.reduceNeg, Int.reduceEq, Int.reduceGT, Int.reduceGE, decide_true, decide_false, beq_self_eq_true, bne_self_eq_false, Int.reduceBEq, Int.reduceBNe, Int.reduceAdd, Int.reduceSub]
  refine call_ret (isFinite_call x) rfl rfl ?_
  simp only [q0, q1, q2, q3, q4, q5, q6, q7, q8, q9, zq0, zq1, zq2, zq3, zq4, guardSlot, quietA, nilC, nilA, quietB, St.ev, St.put, St.after, Nat.reduceAdd, Nat.reduceSub, ofV, ofL, lenA, binA, intBin, fltBin, strBin, cpxBin, unA, convA, convB, convO, pickV, resL, oneA, indexA, indexS, isQuiet, loadA, loadC, storeA, fieldA, partA, sliceA, boundA, buildA, placeA, setAll, appendA, readSl, newEl, AV.cells, AV.solid, AV.one, kill, killM, killL, notInt, Int.reduceToNat, cond_true, cond_false, ↓reduceIte, reduceCtorEq, Nat.reduceLT, Nat.reduceLeDiff, Nat.reduceMul, Nat.reduceEqDiff, exists_eq', putF, implies_true, exists_true_left, tys0, tys1, tys2, und0, und1, und2, md20, Try.ntmps20, Try.results20, c32, h.fin, Int.reduceLT, Int.reduceLE, Int.reduceNeg, Int.reduceEq, Int.reduceGT, Int.reduceGE, decide_true, decide_false, beq_self_eq_true, bne_self_eq_false, Int.reduceBEq, Int.reduceBNe, Int.reduceAdd, Int.reduceSub]
  refine call_ret (logarithm_call _ (pos_hi h)) rfl rfl ?_
  simp only [q0, q1, q2, q3, q4, q5, q6, q7, q8, q9, zq0, zq1, zq2, zq3, zq4, guardSlot, quietA, nilC, nilA, quietB, St.ev, St.put, St.after, Nat.reduceAdd, Nat.reduceSub, ofV, ofL, lenA, binA, intBin, fltBin, strBin, cpxBin, unA, convA, convB, convO, pickV, resL, oneA, indexA, indexS, isQuiet, loadA, loadC, storeA, fieldA, partA, sliceA, boundA, buildA, placeA, setAll, appendA, readSl, newEl, AV.cells, AV.solid, AV.one, kill, killM, killL, notInt, Int.reduceToNat, cond_true, cond_false, ↓reduceIte, reduceCtorEq, Nat.reduceLT, Nat.reduceLeDiff, Nat.reduceMul, Nat.reduceEqDiff, exists_eq', putF, implies_true, exists_true_left, tys0, tys1, tys2, und0, und1, und2, md20, Try.ntmps20, Try.results20]
  exact ⟨ok.1, PostR.pure ⟨rfl, rfl⟩ rfl⟩
end Go.Proofs.Ythildgdbgjgidaa
