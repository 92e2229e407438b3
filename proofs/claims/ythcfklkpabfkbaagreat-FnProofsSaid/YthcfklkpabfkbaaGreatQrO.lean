/- The program's proofs. -/
import Derived.Test.YthcfklkpabfkbaaGreatQrN
set_option maxRecDepth 10000
set_option maxHeartbeats 8000000
set_option linter.unusedSimpArgs false
set_option linter.unusedVariables false
namespace Go.Proofs.YthcfklkpabfkbaaGreat
open Go Go.Abs

theorem areWords16_call (xs : List Int) (hm : xs.length ≤ 1048576) : CallA Tryz.prog 57 [.ro (ints xs), .int .i64 16] [] (Ret (.bool (wordsB xs && decide (xs.length ≤ 16))) []) := by
  refine CallP.out (t := .mk) (go_in (md := md57) mixed Tryz.func57 rfl go57 (by kernel_rfl) ?_)
  simp only [q0, q1, q2, q3, q4, q5, q6, q7, q8, q9, zr0, zr1, zr2, zr3, zq0, zq1, zq2, zq3, zq4, Nat.reduceAdd, Nat.reduceSub, lenA, convA, indexA, indexS, Int.reduceToNat, cond_true, cond_false, ↓reduceIte, reduceCtorEq, Nat.reduceLT, Nat.reduceLeDiff, Nat.reduceMul, Nat.reduceEqDiff, exists_eq', implies_true, exists_true_left, tys0, tys1, tys2, tys3, tys4, und0, und1, und2, und3, md57, Tryz.ntmps57, Tryz.results57]
  refine go_round (md := md57) mixed (by kernel_rfl) (fun i : {i : Nat // i ≤ xs.length ∧ pref (wordP xs) i = true} => ⟨[.ro (ints xs), .int .i64 16, .any, .any, .any, .any, .any, .ro (ints xs), .int .i64 xs.length, .int .i64 i.1, .any, .any, .any, .any, .any, .any, .any, .any, .any, .any, .any, .any, .any, .any, .any, .any, .any, .any, .any, .any, .any, .any, .any, .any, .any, .any, .any], []⟩) (fun i => xs.length - i.1) ⟨0, by omega, rfl⟩ ?_ ?_
  · exact weak_drop (by simp) (by simp [DropHp, ints_below, flts_below]) (by simp [DropTm, DropV, below, belowM, belowL])
  rintro ⟨i, hi, hp⟩
  simp only [q0, q1, q2, q3, q4, q5, q6, q7, q8, q9, zr0, zr1, zr2, zr3, zq0, zq1, zq2, zq3, zq4, Nat.reduceAdd, Nat.reduceSub, lenA, convA, indexA, indexS, Int.reduceToNat, cond_true, cond_false, ↓reduceIte, reduceCtorEq, Nat.reduceLT, Nat.reduceLeDiff, Nat.reduceMul, Nat.reduceEqDiff, exists_eq', implies_true, exists_true_left, tys0, tys1, tys2, tys3, tys4, und0, und1, und2, und3, md57, Tryz.ntmps57, Tryz.results57]
  refine br_intro (fun h => ?_) (fun h => ?_) <;> simp only [q0, q1, q2, q3, q4, q5, q6, q7, q8, q9, zr0, zr1, zr2, zr3, zq0, zq1, zq2, zq3, zq4, Nat.reduceAdd, Nat.reduceSub, lenA, convA, indexA, indexS, Int.reduceToNat, cond_true, cond_false, ↓reduceIte, reduceCtorEq, Nat.reduceLT, Nat.reduceLeDiff, Nat.reduceMul, Nat.reduceEqDiff, exists_eq', implies_true, exists_true_left, tys0, tys1, tys2, tys3, tys4, und0, und1, und2, und3, md57, Tryz.ntmps57, Tryz.results57]
  · have hi' : i < xs.length := by have := of_decide_eq_true h; omega
    have hI : (i : Int) < (xs.length : Int) := by omega
    have ga := getD_at xs 0 i hi'
    have ew : IntKind.i64.wrap ((i : Int) + 1) = (i : Int) + 1 := w64 (by omega) (by omega)
    simp only [q0, q1, q2, q3, q4, q5, q6, q7, q8, q9, zr0, zr1, zr2, zr3, zq0, zq1, zq2, zq3, zq4, Nat.reduceAdd, Nat.reduceSub, lenA, convA, indexA, indexS, Int.reduceToNat, cond_true, cond_false, ↓reduceIte, reduceCtorEq, Nat.reduceLT, Nat.reduceLeDiff, Nat.reduceMul, Nat.reduceEqDiff, exists_eq', implies_true, exists_true_left, tys0, tys1, tys2, tys3, tys4, und0, und1, und2, und3, md57, Tryz.ntmps57, Tryz.results57, hi', hI]
    refine call_ret (isWord_call _) rfl rfl ?_
    simp only [q0, q1, q2, q3, q4, q5, q6, q7, q8, q9, zr0, zr1, zr2, zr3, zq0, zq1, zq2, zq3, zq4, Nat.reduceAdd, Nat.reduceSub, lenA, convA, indexA, indexS, Int.reduceToNat, cond_true, cond_false, ↓reduceIte, reduceCtorEq, Nat.reduceLT, Nat.reduceLeDiff, Nat.reduceMul, Nat.reduceEqDiff, exists_eq', implies_true, exists_true_left, tys0, tys1, tys2, tys3, tys4, und0, und1, und2, und3, md57, Tryz.ntmps57, Tryz.results57]
    refine br_intro (fun u => ?_) (fun u => ?_) <;> simp only [q0, q1, q2, q3, q4, q5, q6, q7, q8, q9, zr0, zr1, zr2, zr3, zq0, zq1, zq2, zq3, zq4, Nat.reduceAdd, Nat.reduceSub, lenA, convA, indexA, indexS, Int.reduceToNat, cond_true, cond_false, ↓reduceIte, reduceCtorEq, Nat.reduceLT, Nat.reduceLeDiff, Nat.reduceMul, Nat.reduceEqDiff, exists_eq', implies_true, exists_true_left, tys0, tys1, tys2, tys3, tys4, und0, und1, und2, und3, md57, Tryz.ntmps57, Tryz.results57]
    · have lw := wordB_low u
      cases i with
      | zero =>
        refine br_no (by first | exact decide_eq_false (by omega) | exact beq_false_of_ne (by omega) | (simp only [bne_eq_false_iff_eq, beq_eq_false_iff_ne, ne_eq]; omega)) ?_; simp only [q0, q1, q2, q3, q4, q5, q6, q7, q8, q9, zr0, zr1, zr2, zr3, zq0, zq1, zq2, zq3, zq4, Nat.reduceAdd, Nat.reduceSub, lenA, convA, indexA, indexS, Int.reduceToNat, cond_true, cond_false, ↓reduceIte, reduceCtorEq, Nat.reduceLT, Nat.reduceLeDiff, Nat.reduceMul, Nat.reduceEqDiff, exists_eq', implies_true, exists_true_left, tys0, tys1, tys2, tys3, tys4, und0, und1, und2, und3, md57, Tryz.ntmps57, Tryz.results57]
        refine ⟨⟨1, by omega, pref_go hp (by unfold wordP; rw [ga, u]; rfl)⟩, by show xs.length - 1 < _; omega, ?_⟩
        exact weak_drop (by simp) (by simp [DropHp, ints_below, flts_below, (show IntKind.i64.wrap 1 = 1 from by decide)]) (by simp [DropTm, DropV, below, belowM, belowL, (show IntKind.i64.wrap 1 = 1 from by decide)])
      | succ k =>
        have hk : k < xs.length := by omega
        have hkI : (k : Int) < (xs.length : Int) := by omega
        have gb := getD_at xs 0 k hk
        have pk := pref_at hp k (by omega)
        have wk : wordB xs[k] = true := by unfold wordP at pk; rw [gb, Bool.and_eq_true] at pk; exact pk.1
        have lk := wordB_low wk
        have e1 : IntKind.i64.wrap (((k + 1 : Nat) : Int) - 1) = (k : Int) := by rw [w64 (by omega) (by omega)]; omega
        refine br_yes (by first | exact decide_eq_true (by omega) | (simp only [bne_iff_ne, beq_iff_eq, ne_eq]; omega)) ?_; simp only [q0, q1, q2, q3, q4, q5, q6, q7, q8, q9, zr0, zr1, zr2, zr3, zq0, zq1, zq2, zq3, zq4, Nat.reduceAdd, Nat.reduceSub, lenA, convA, indexA, indexS, Int.reduceToNat, cond_true, cond_false, ↓reduceIte, reduceCtorEq, Nat.reduceLT, Nat.reduceLeDiff, Nat.reduceMul, Nat.reduceEqDiff, exists_eq', implies_true, exists_true_left, tys0, tys1, tys2, tys3, tys4, und0, und1, und2, und3, md57, Tryz.ntmps57, Tryz.results57, e1, hk, hkI]
        refine call_ret (atom_call _ lk) rfl rfl ?_
        simp only [q0, q1, q2, q3, q4, q5, q6, q7, q8, q9, zr0, zr1, zr2, zr3, zq0, zq1, zq2, zq3, zq4, Nat.reduceAdd, Nat.reduceSub, lenA, convA, indexA, indexS, Int.reduceToNat, cond_true, cond_false, ↓reduceIte, reduceCtorEq, Nat.reduceLT, Nat.reduceLeDiff, Nat.reduceMul, Nat.reduceEqDiff, exists_eq', implies_true, exists_true_left, tys0, tys1, tys2, tys3, tys4, und0, und1, und2, und3, md57, Tryz.ntmps57, Tryz.results57]
        refine call_ret (atom_call _ lw) rfl rfl ?_
        simp only [q0, q1, q2, q3, q4, q5, q6, q7, q8, q9, zr0, zr1, zr2, zr3, zq0, zq1, zq2, zq3, zq4, Nat.reduceAdd, Nat.reduceSub, lenA, convA, indexA, indexS, Int.reduceToNat, cond_true, cond_false, ↓reduceIte, reduceCtorEq, Nat.reduceLT, Nat.reduceLeDiff, Nat.reduceMul, Nat.reduceEqDiff, exists_eq', implies_true, exists_true_left, tys0, tys1, tys2, tys3, tys4, und0, und1, und2, und3, md57, Tryz.ntmps57, Tryz.results57]
        refine br_intro (fun v => ?_) (fun v => ?_) <;> simp only [q0, q1, q2, q3, q4, q5, q6, q7, q8, q9, zr0, zr1, zr2, zr3, zq0, zq1, zq2, zq3, zq4, Nat.reduceAdd, Nat.reduceSub, lenA, convA, indexA, indexS, Int.reduceToNat, cond_true, cond_false, ↓reduceIte, reduceCtorEq, Nat.reduceLT, Nat.reduceLeDiff, Nat.reduceMul, Nat.reduceEqDiff, exists_eq', implies_true, exists_true_left, tys0, tys1, tys2, tys3, tys4, und0, und1, und2, und3, md57, Tryz.ntmps57, Tryz.results57]
        · have v' := of_decide_eq_true v
          have : wordP xs (k + 1) = false := by unfold wordP; rw [ga, u, Nat.add_sub_cancel, gb, decide_eq_false (by omega)]; rfl
          exact PostR.pure ⟨by unfold wordsB; rw [pref_no (k + 1) hi' this]; rfl, rfl⟩ rfl
        · have v' := of_decide_eq_false v
          have : wordP xs (k + 1) = true := by unfold wordP; rw [ga, u, Nat.add_sub_cancel, gb, decide_eq_true (by omega)]; simp
          refine ⟨⟨k + 1 + 1, by omega, pref_go hp this⟩, by show xs.length - (k + 1 + 1) < _; omega, ?_⟩
          have ew2 : IntKind.i64.wrap ((k : Int) + 1 + 1) = (k : Int) + 1 + 1 := w64 (by omega) (by omega)
          exact weak_drop (by simp) (by simp [DropHp, ints_below, flts_below, ew2]) (by simp [DropTm, DropV, below, belowM, belowL, ew2])
    · exact PostR.pure ⟨by unfold wordsB; rw [pref_no i hi' (by unfold wordP; rw [ga, u]; rfl)]; rfl, rfl⟩ rfl
  · have hi' : i = xs.length := by have := of_decide_eq_false h; omega
    subst hi'
    exact PostR.pure ⟨by unfold wordsB; rw [hp, Bool.true_and]; congr 1; exact decide_eq_decide.2 (by omega), rfl⟩ rfl
structure Ask (R : List Rul) (fs : List Int) (day : Int) : Prop where
  hR : Rls R
  rb : rulesB R = true
  hf : Fcs fs
  wb : wordsB fs = true
  hd : inR 0 100000 day = true
theorem areFacts_call {R : List Rul} {fs : List Int} {day : Int} (A : Ask R fs day) : CallA Tryz.prog 25 [.ro (R.map rulA), .ro (ints fs), .int .i64 day] [] (Ret (.bool true) []) := by
  have hl := A.hR.len
  have hf := A.hf.len
  have c1 := areRules_call R (by omega) (fun r h => by have := (A.hR.ok r h).2.1.1; omega)
  rw [A.rb] at c1
  have c2 := areWords16_call fs (by omega)
  have c3 := isDate_call day
  rw [A.hd] at c3
  rw [A.wb, show decide (fs.length ≤ 16) = true by simpa using hf] at c2
  refine CallP.out (t := .mk) (go_in (md := md25) mixed Tryz.func25 rfl go25 (by kernel_rfl) ?_)
  simp only [q0, q1, q2, q3, q4, q5, q6, q7, q8, q9, zr0, zr1, zr2, zr3, zq0, zq1, zq2, zq3, zq4, Nat.reduceAdd, Nat.reduceSub, lenA, convA, indexA, indexS, Int.reduceToNat, cond_true, cond_false, ↓reduceIte, reduceCtorEq, Nat.reduceLT, Nat.reduceLeDiff, Nat.reduceMul, Nat.reduceEqDiff, exists_eq', implies_true, exists_true_left, tys0, tys1, tys2, tys3, tys4, und0, und1, und2, und3, md25, Tryz.ntmps25, Tryz.results25]
  refine call_ret c1 rfl rfl ?_
  simp only [q0, q1, q2, q3, q4, q5, q6, q7, q8, q9, zr0, zr1, zr2, zr3, zq0, zq1, zq2, zq3, zq4, Nat.reduceAdd, Nat.reduceSub, lenA, convA, indexA, indexS, Int.reduceToNat, cond_true, cond_false, ↓reduceIte, reduceCtorEq, Nat.reduceLT, Nat.reduceLeDiff, Nat.reduceMul, Nat.reduceEqDiff, exists_eq', implies_true, exists_true_left, tys0, tys1, tys2, tys3, tys4, und0, und1, und2, und3, md25, Tryz.ntmps25, Tryz.results25]
  refine call_ret c2 rfl rfl ?_
  simp only [q0, q1, q2, q3, q4, q5, q6, q7, q8, q9, zr0, zr1, zr2, zr3, zq0, zq1, zq2, zq3, zq4, Nat.reduceAdd, Nat.reduceSub, lenA, convA, indexA, indexS, Int.reduceToNat, cond_true, cond_false, ↓reduceIte, reduceCtorEq, Nat.reduceLT, Nat.reduceLeDiff, Nat.reduceMul, Nat.reduceEqDiff, exists_eq', implies_true, exists_true_left, tys0, tys1, tys2, tys3, tys4, und0, und1, und2, und3, md25, Tryz.ntmps25, Tryz.results25]
  refine call_ret c3 rfl rfl ?_
  simp only [q0, q1, q2, q3, q4, q5, q6, q7, q8, q9, zr0, zr1, zr2, zr3, zq0, zq1, zq2, zq3, zq4, Nat.reduceAdd, Nat.reduceSub, lenA, convA, indexA, indexS, Int.reduceToNat, cond_true, cond_false, ↓reduceIte, reduceCtorEq, Nat.reduceLT, Nat.reduceLeDiff, Nat.reduceMul, Nat.reduceEqDiff, exists_eq', implies_true, exists_true_left, tys0, tys1, tys2, tys3, tys4, und0, und1, und2, und3, md25, Tryz.ntmps25, Tryz.results25]
  exact PostR.ret
theorem rls_act {R : List Rul} (h : Rls R) (day : Int) : Rls (R.filter (onB day)) := ⟨Nat.le_trans (List.length_filter_le _ _) h.len, fun r hr => h.ok r (List.mem_filter.1 hr).1⟩
def fB (fs : List Int) : Int → Bool := fun w => decide (w ∈ fs)
def prfL (I : List Int) (order : List Nat) (g : Int → Bool) : List Int := (order.filter fun i : Nat => g i).map fun i => I.getD i 0
theorem prf_no {I : List Int} {order : List Nat} {g : Int → Bool} {j : Nat} (h : j < order.length) (hg : g (order[j] : Nat) = false) : prfL I (order.take (j + 1)) g = prfL I (order.take j) g := by
  unfold prfL
  rw [take_snoc _ _ h, List.filter_append]
  simp [hg]
theorem prf_yes {I : List Int} {order : List Nat} {g : Int → Bool} {j : Nat} (h : j < order.length) (hg : g (order[j] : Nat) = true) : prfL I (order.take (j + 1)) g = prfL I (order.take j) g ++ [I.getD order[j] 0] := by
  unfold prfL
  rw [take_snoc _ _ h, List.filter_append]
  simp [hg]
theorem prf_len (I : List Int) (order : List Nat) (g : Int → Bool) (j : Nat) : (prfL I (order.take j) g).length ≤ order.length := by
  unfold prfL
  rw [List.length_map]
  exact filter_le _ _ _
structure PrfP (RA : List Rul) (I fs : List Int) (Y : Int → Bool) (x : Int) (out : List Int) : Prop where
  ex : ∃ (n : Nat) (g : Int → Bool), tkS (List.range RA.length) (rkR RA) Y (fB fs) (tkN (List.range RA.length) (rkR RA) Y (fB fs) n).1 (tkN (List.range RA.length) (rkR RA) Y (fB fs) n).2 = [] ∧
    NdL (rkR RA) (tkN (List.range RA.length) (rkR RA) Y (fB fs) n).1 (fB fs) (fun _ => false) [x] g ∧ out = prfL I (tkN (List.range RA.length) (rkR RA) Y (fB fs) n).1 g
theorem zero63 : zeroOf Tryz.prog 63 = .nilf := by kernel_rfl
theorem und63 : Tryz.prog.underlying 63 = some (TypeDesc.func #[2] #[] false) := Tryz.underlying63
theorem cells63 : Tryz.prog.cellsOf 63 = 1 := by kernel_rfl
theorem implProof0_call {R : List Rul} {fs : List Int} {day : Int} (A : Ask R fs day) (x : Int) (hx : wordB x = true) :
    CallA Tryz.prog 9 [.ro (R.map rulA), .ro (ints fs), .int .i64 day, .int .i64 x] [] (fun r hp => ∃ Y N, Least (R.filter (onB day)) fs Y N ∧ ((Y x = false ∧ r = .tup [.nils, .bool false] ∧ hp = []) ∨ (Y x = true ∧ ∃ out, PrfP (R.filter (onB day)) (idxD R day R.length) fs Y x out ∧ r = .tup [.sl 0 0 out.length, .bool true] ∧ hp = [intB out]))) := by
  have hRA := rls_act A.hR day
  have hIl := idxD_len R day R.length (Nat.le_refl _)
  rw [List.take_length] at hIl
  have wx := isWord_call x
  rw [hx] at wx
  refine CallP.out (t := .mk) (go_in (md := md9) mixed Tryz.func9 rfl go9 (by kernel_rfl) ?_)
  simp only [q0, q1, q2, q3, q4, q5, q6, q7, q8, q9, zr0, zr1, zr2, zr3, zq0, zq1, zq2, zq3, zq4, Nat.reduceAdd, Nat.reduceSub, lenA, convA, indexA, indexS, Int.reduceToNat, cond_true, cond_false, ↓reduceIte, reduceCtorEq, Nat.reduceLT, Nat.reduceLeDiff, Nat.reduceMul, Nat.reduceEqDiff, exists_eq', implies_true, exists_true_left, tys0, tys1, tys2, tys3, tys4, und0, und1, und2, und3, md9, Tryz.ntmps9, Tryz.results9]
  refine call_ret (areFacts_call A) rfl rfl ?_
  simp only [q0, q1, q2, q3, q4, q5, q6, q7, q8, q9, zr0, zr1, zr2, zr3, zq0, zq1, zq2, zq3, zq4, Nat.reduceAdd, Nat.reduceSub, lenA, convA, indexA, indexS, Int.reduceToNat, cond_true, cond_false, ↓reduceIte, reduceCtorEq, Nat.reduceLT, Nat.reduceLeDiff, Nat.reduceMul, Nat.reduceEqDiff, exists_eq', implies_true, exists_true_left, tys0, tys1, tys2, tys3, tys4, und0, und1, und2, und3, md9, Tryz.ntmps9, Tryz.results9]
  refine call_ret wx rfl rfl ?_
  simp only [q0, q1, q2, q3, q4, q5, q6, q7, q8, q9, zr0, zr1, zr2, zr3, zq0, zq1, zq2, zq3, zq4, Nat.reduceAdd, Nat.reduceSub, lenA, convA, indexA, indexS, Int.reduceToNat, cond_true, cond_false, ↓reduceIte, reduceCtorEq, Nat.reduceLT, Nat.reduceLeDiff, Nat.reduceMul, Nat.reduceEqDiff, exists_eq', implies_true, exists_true_left, tys0, tys1, tys2, tys3, tys4, und0, und1, und2, und3, md9, Tryz.ntmps9, Tryz.results9]
  refine call_newQ (judged_call R A.hR fs A.hf day) rfl ?_
  rintro r new ⟨p, q, L, rfl, rfl⟩
  refine ⟨by simp, ?_⟩
  generalize R.filter (onB day) = RA at *
  generalize idxD R day R.length = I at *
  simp only [q0, q1, q2, q3, q4, q5, q6, q7, q8, q9, zr0, zr1, zr2, zr3, zq0, zq1, zq2, zq3, zq4, Nat.reduceAdd, Nat.reduceSub, lenA, convA, indexA, indexS, Int.reduceToNat, cond_true, cond_false, ↓reduceIte, reduceCtorEq, Nat.reduceLT, Nat.reduceLeDiff, Nat.reduceMul, Nat.reduceEqDiff, exists_eq', implies_true, exists_true_left, tys0, tys1, tys2, tys3, tys4, und0, und1, und2, und3, md9, Tryz.ntmps9, Tryz.results9, crtA, ren, renM, renL]
  refine br_intro (fun b1 => ?_) (fun b1 => ?_) <;> simp only [q0, q1, q2, q3, q4, q5, q6, q7, q8, q9, zr0, zr1, zr2, zr3, zq0, zq1, zq2, zq3, zq4, Nat.reduceAdd, Nat.reduceSub, lenA, convA, indexA, indexS, Int.reduceToNat, cond_true, cond_false, ↓reduceIte, reduceCtorEq, Nat.reduceLT, Nat.reduceLeDiff, Nat.reduceMul, Nat.reduceEqDiff, exists_eq', implies_true, exists_true_left, tys0, tys1, tys2, tys3, tys4, und0, und1, und2, und3, md9, Tryz.ntmps9, Tryz.results9]
  rotate_left
  · exact PostR.pure ⟨_, _, L, .inl ⟨b1, rfl, rfl⟩⟩ (by rfl)
  refine call_newQ (taken_call RA hRA I fs A.hf p (q.map entA) rfl (F := fB fs) rfl) rfl ?_
  rintro r new ⟨n, h0, rfl, rfl⟩
  refine ⟨by simp, ?_⟩
  have hT := tkN_nodup (ru := rkR RA) (Y := yP (p.map entA)) (F := fB fs) (L := List.range RA.length) List.nodup_range n
  have hTl := tkN_len (ru := rkR RA) (Y := yP (p.map entA)) (F := fB fs) (L := List.range RA.length) List.nodup_range n
  have hex : ∀ g out, NdL (rkR RA) (tkN (List.range RA.length) (rkR RA) (yP (p.map entA)) (fB fs) n).1 (fB fs) (fun _ => false) [x] g → out = prfL I (tkN (List.range RA.length) (rkR RA) (yP (p.map entA)) (fB fs) n).1 g → PrfP RA I fs (yP (p.map entA)) x out := fun g out h1 h2 => ⟨n, g, h0, h1, h2⟩
  generalize (tkN (List.range RA.length) (rkR RA) (yP (p.map entA)) (fB fs) n).1 = order at *
  rw [List.length_range] at hTl
  have hl := hRA.len
  simp only [q0, q1, q2, q3, q4, q5, q6, q7, q8, q9, zr0, zr1, zr2, zr3, zq0, zq1, zq2, zq3, zq4, Nat.reduceAdd, Nat.reduceSub, lenA, convA, indexA, indexS, Int.reduceToNat, cond_true, cond_false, ↓reduceIte, reduceCtorEq, Nat.reduceLT, Nat.reduceLeDiff, Nat.reduceMul, Nat.reduceEqDiff, exists_eq', implies_true, exists_true_left, tys0, tys1, tys2, tys3, tys4, und0, und1, und2, und3, md9, Tryz.ntmps9, Tryz.results9, ren, renM, renL, zero63, cells63, und63]
  have nc := need_call (R := RA) (idx := I) (fs := fs) (p := p.map entA) (q := q.map entA) hRA A.hf order (fun i hi => List.mem_range.1 (hT.2 i hi)) (by omega) (cntO order (yP []) + 1) [] x (Nat.lt_succ_self _)
  refine call_by nc ?_
  rintro r hp ⟨m', N, rfl, rfl⟩
  unfold neH ceB neF
  simp only [q0, q1, q2, q3, q4, q5, q6, q7, q8, q9, zr0, zr1, zr2, zr3, zq0, zq1, zq2, zq3, zq4, Nat.reduceAdd, Nat.reduceSub, lenA, convA, indexA, indexS, Int.reduceToNat, cond_true, cond_false, ↓reduceIte, reduceCtorEq, Nat.reduceLT, Nat.reduceLeDiff, Nat.reduceMul, Nat.reduceEqDiff, exists_eq', implies_true, exists_true_left, tys0, tys1, tys2, tys3, tys4, und0, und1, und2, und3, md9, Tryz.ntmps9, Tryz.results9, crtA, mnB]
  refine go_round (md := md9) mixed (by kernel_rfl) (fun j : {j : Nat // j ≤ order.length} => ⟨[.any, .any, .any, .any, .any, .any, .any, .any, .any, .any, .ptr 0 0 0, .any, .ptr 3 0 0, .any, .sl 5 0 (prfL I (order.take j.1) (yP (m'.map entA))).length, .any, .any, .any, .any, .any, .any, .any, .any, .any, .any, .any, .any, .any, .any, .any, .any, .any, .any, .any, .any, .any, .any, .any, .any, .any, .any, .any, .any, .any, .any, .any, .ro (ints (nI order)), .int .i64 order.length, .int .i64 j.1, .any, .any, .any, .any, .any, .any, .any, .any, .any, .any, .any, .any, .any, .any, .any, .any, .any, .any], [{ ty := 55, w := 1, els := [.rop [.ro (RA.map rulA), .ro (ints I), .ro (ints fs), .rom (p.map entA), .rom (q.map entA)]] }, { ty := 62, w := 0, els := m'.map entA }, { ty := 60, w := 1, els := [.ro (ints (nI order))] }, { ty := 62, w := 1, els := [.mp 1] }, { ty := 63, w := 1, els := [.fn 29 [.ptr 2 0 0, .ptr 0 0 0, .ptr 3 0 0, .ptr 4 0 0]] }, intB (prfL I (order.take j.1) (yP (m'.map entA)))]⟩) (fun j => order.length - j.1) ⟨0, Nat.zero_le _⟩ ?_ ?_
  · exact weak_drop (by simp) (by simp [DropHp, ints_below, flts_below, ent_below, allBelow_cons, allBelow_nil, below, belowM, belowL, intB, nI_len, show prfL I [] (yP (m'.map entA)) = [] from rfl, show ints [] = [] from rfl]) (by simp [DropTm, DropV, below, belowM, belowL, ent_below, allBelow_cons, allBelow_nil, below, belowM, belowL, intB, nI_len, show prfL I [] (yP (m'.map entA)) = [] from rfl, show ints [] = [] from rfl])
  rintro ⟨j, hj⟩
  have hln := prf_len I order (yP (m'.map entA)) j
  simp only [q0, q1, q2, q3, q4, q5, q6, q7, q8, q9, zr0, zr1, zr2, zr3, zq0, zq1, zq2, zq3, zq4, Nat.reduceAdd, Nat.reduceSub, lenA, convA, indexA, indexS, Int.reduceToNat, cond_true, cond_false, ↓reduceIte, reduceCtorEq, Nat.reduceLT, Nat.reduceLeDiff, Nat.reduceMul, Nat.reduceEqDiff, exists_eq', implies_true, exists_true_left, tys0, tys1, tys2, tys3, tys4, und0, und1, und2, und3, md9, Tryz.ntmps9, Tryz.results9, intB, nI_len, ints_len]
  refine br_intro (fun h => ?_) (fun h => ?_) <;> simp only [q0, q1, q2, q3, q4, q5, q6, q7, q8, q9, zr0, zr1, zr2, zr3, zq0, zq1, zq2, zq3, zq4, Nat.reduceAdd, Nat.reduceSub, lenA, convA, indexA, indexS, Int.reduceToNat, cond_true, cond_false, ↓reduceIte, reduceCtorEq, Nat.reduceLT, Nat.reduceLeDiff, Nat.reduceMul, Nat.reduceEqDiff, exists_eq', implies_true, exists_true_left, tys0, tys1, tys2, tys3, tys4, und0, und1, und2, und3, md9, Tryz.ntmps9, Tryz.results9, intB, nI_len, ints_len]
  · have hj' : j < order.length := by simpa using h
    have ek : (nI order)[j]'(by rw [nI_len]; exact hj') = (order[j] : Nat) := by simp [nI]
    have hi := List.mem_range.1 (hT.2 _ (List.getElem_mem hj'))
    have hiI : order[j] < I.length := by omega
    refine ⟨hj', ?_⟩
    have wj := w64_succ j (by omega)
    refine br_intro (fun b2 => ?_) (fun b2 => ?_) <;> simp only [q0, q1, q2, q3, q4, q5, q6, q7, q8, q9, zr0, zr1, zr2, zr3, zq0, zq1, zq2, zq3, zq4, Nat.reduceAdd, Nat.reduceSub, lenA, convA, indexA, indexS, Int.reduceToNat, cond_true, cond_false, ↓reduceIte, reduceCtorEq, Nat.reduceLT, Nat.reduceLeDiff, Nat.reduceMul, Nat.reduceEqDiff, exists_eq', implies_true, exists_true_left, tys0, tys1, tys2, tys3, tys4, und0, und1, und2, und3, md9, Tryz.ntmps9, Tryz.results9, intB, nI_len, ints_len, ek, hiI, allW_int, fits, List.isEmpty_cons, brk_false, Nat.reduceMul]
    · rw [ek] at b2
      have e1 := prf_yes (I := I) (g := yP (m'.map entA)) hj' b2
      have hI : (order[j] : Int) < (I.length : Int) := by omega
      have ge : I.getD order[j] 0 = I[order[j]] := by simp [List.getD, hiI]
      rw [ge] at e1
      have el : (prfL I (order.take j) (yP (m'.map entA))).length + 1 = (prfL I (order.take (j + 1)) (yP (m'.map entA))).length := by rw [e1]; simp
      refine ⟨by omega, ⟨j + 1, by omega⟩, by show _ - (j + 1) < _; omega, ?_⟩
      dsimp only
      rw [el, ← e1, ent_kill]
      exact weak_drop (by simp) (by simp [DropHp, ints_below, flts_below, wj, intB, ent_below, allBelow_cons, allBelow_nil, below, belowM, belowL]) (by simp [DropTm, DropV, below, belowM, belowL, wj, intB, ent_below, allBelow_cons, allBelow_nil, below, belowM, belowL])
    · rw [ek] at b2
      have e1 := prf_no (I := I) (g := yP (m'.map entA)) hj' b2
      refine ⟨⟨j + 1, by omega⟩, by show _ - (j + 1) < _; omega, ?_⟩
      exact weak_drop (by simp) (by simp [DropHp, ints_below, flts_below, wj, intB, ent_below, allBelow_cons, allBelow_nil, below, belowM, belowL, e1]) (by simp [DropTm, DropV, below, belowM, belowL, wj, intB, ent_below, allBelow_cons, allBelow_nil, below, belowM, belowL, e1])
  · have hj' : j = order.length := by simp at h; omega
    subst hj'
    rw [List.take_length] at hln ⊢
    refine PostR.tell [5] (hp2 := [intB (prfL I order (yP (m'.map entA)))]) (by decide) (by decide) (by decide) ⟨⟨by simp [renB, intB, ints_ren], intsB_below _ _⟩, trivial⟩ (r2 := .tup [.sl 0 0 (prfL I order (yP (m'.map entA))).length, .bool true]) (by rfl) (by rfl) ⟨_, _, L, .inr ⟨b1, _, hex _ _ N rfl, rfl, rfl⟩⟩
end Go.Proofs.YthcfklkpabfkbaaGreat
