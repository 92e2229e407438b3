/- Texts of rules that are read: the program's ReadRule, itself. -/
import Derived.Test.YtigipcckflcilaaGreatDoorRrA
set_option maxRecDepth 10000
set_option maxHeartbeats 4000000
set_option linter.unusedSimpArgs false
set_option linter.unusedVariables false
namespace Go.Proofs.YtigipcckflcilaaGreatDoor
open Go Go.Abs

def ifsH (xs : List Int) : List Blk := if xs.length = 0 then [] else [intB xs]
def readA (o : Option Rul) : AV := match o with
  | some r => .tup [rulV 0 r, .bool true]
  | none => .tup [rul0, .bool false]
def readH (o : Option Rul) : List Blk := match o with
  | some r => [ifsB r]
  | none => []
theorem implReadRule_call (s : List UInt8) (hs : s.length ≤ 1048576) : CallA Tryz.prog 22 [.str s] [] (Ret (readA (ruleOf s)) (readH (ruleOf s))) := by
  refine CallP.out (t := .mk) (go_in (md := md22) mixed Tryz.func22 rfl go22 (by kernel_rfl) ?_)
  simp only [q0, q1, q2, q3, q4, q5, q6, q7, q8, q9, zr0, zr1, zr2, zr3, zq0, zq1, zq2, zq3, zq4, Nat.reduceAdd, Nat.reduceSub, lenA, convA, indexA, indexS, Int.reduceToNat, cond_true, cond_false, ↓reduceIte, reduceCtorEq, Nat.reduceLT, Nat.reduceLeDiff, Nat.reduceMul, Nat.reduceEqDiff, exists_eq', implies_true, exists_true_left, tys0, tys1, tys2, und0, und1, md22, Tryz.ntmps22, Tryz.results22]
  refine br_intro (fun c => ?_) (fun c => ?_) <;> simp only [q0, q1, q2, q3, q4, q5, q6, q7, q8, q9, zr0, zr1, zr2, zr3, zq0, zq1, zq2, zq3, zq4, Nat.reduceAdd, Nat.reduceSub, lenA, convA, indexA, indexS, Int.reduceToNat, cond_true, cond_false, ↓reduceIte, reduceCtorEq, Nat.reduceLT, Nat.reduceLeDiff, Nat.reduceMul, Nat.reduceEqDiff, exists_eq', implies_true, exists_true_left, tys0, tys1, tys2, und0, und1, md22, Tryz.ntmps22, Tryz.results22]
  · rw [ruleOf_long (by have := of_decide_eq_true c; omega)]
    exact PostR.pure ⟨rfl, rfl⟩ rfl
  have hl : s.length ≤ 200 := by have := of_decide_eq_false c; omega
  have ro : ruleOf s = if ruleB (readI s) = true ∧ ruleT (readI s) = s then some (readI s) else none := rfl
  have ri : readI s = (decV (Lib.cut (Lib.cut (Lib.cut s [32, 114]).2.1 [58, 32]).2.1 [61, 62, 32]).2.1, ifsI (Lib.cut (Lib.cut (Lib.cut s [32, 114]).2.1 [58, 32]).2.1 [61, 62, 32]).1, decV (Lib.cut (Lib.cut s [32, 114]).1 [45]).1, decV (Lib.cut (Lib.cut s [32, 114]).1 [45]).2.1, decV (Lib.cut (Lib.cut s [32, 114]).2.1 [58, 32]).1) := rfl
  have l1 := cut_len s [32, 114]
  refine call_ret (cutS_call s [32, 114] hs) rfl rfl ?_
  generalize Lib.cut s [32, 114] = a at ri l1
  obtain ⟨a1, a2, a3⟩ := a
  dsimp only at ri l1
  simp only [q0, q1, q2, q3, q4, q5, q6, q7, q8, q9, zr0, zr1, zr2, zr3, zq0, zq1, zq2, zq3, zq4, Nat.reduceAdd, Nat.reduceSub, lenA, convA, indexA, indexS, Int.reduceToNat, cond_true, cond_false, ↓reduceIte, reduceCtorEq, Nat.reduceLT, Nat.reduceLeDiff, Nat.reduceMul, Nat.reduceEqDiff, exists_eq', implies_true, exists_true_left, tys0, tys1, tys2, und0, und1, md22, Tryz.ntmps22, Tryz.results22]
  have l2 := cut_len a1 [45]
  refine call_ret (cutS_call a1 [45] (by omega)) rfl rfl ?_
  generalize Lib.cut a1 [45] = b at ri l2
  obtain ⟨b1, b2, b3⟩ := b
  dsimp only at ri l2
  simp only [q0, q1, q2, q3, q4, q5, q6, q7, q8, q9, zr0, zr1, zr2, zr3, zq0, zq1, zq2, zq3, zq4, Nat.reduceAdd, Nat.reduceSub, lenA, convA, indexA, indexS, Int.reduceToNat, cond_true, cond_false, ↓reduceIte, reduceCtorEq, Nat.reduceLT, Nat.reduceLeDiff, Nat.reduceMul, Nat.reduceEqDiff, exists_eq', implies_true, exists_true_left, tys0, tys1, tys2, und0, und1, md22, Tryz.ntmps22, Tryz.results22]
  have l3 := cut_len a2 [58, 32]
  refine call_ret (cutS_call a2 [58, 32] (by omega)) rfl rfl ?_
  generalize Lib.cut a2 [58, 32] = d at ri l3
  obtain ⟨d1, d2, d3⟩ := d
  dsimp only at ri l3
  simp only [q0, q1, q2, q3, q4, q5, q6, q7, q8, q9, zr0, zr1, zr2, zr3, zq0, zq1, zq2, zq3, zq4, Nat.reduceAdd, Nat.reduceSub, lenA, convA, indexA, indexS, Int.reduceToNat, cond_true, cond_false, ↓reduceIte, reduceCtorEq, Nat.reduceLT, Nat.reduceLeDiff, Nat.reduceMul, Nat.reduceEqDiff, exists_eq', implies_true, exists_true_left, tys0, tys1, tys2, und0, und1, md22, Tryz.ntmps22, Tryz.results22]
  have l4 := cut_len d2 [61, 62, 32]
  refine call_ret (cutS_call d2 [61, 62, 32] (by omega)) rfl rfl ?_
  generalize Lib.cut d2 [61, 62, 32] = e at ri l4
  obtain ⟨e1, e2, e3⟩ := e
  dsimp only at ri l4
  simp only [q0, q1, q2, q3, q4, q5, q6, q7, q8, q9, zr0, zr1, zr2, zr3, zq0, zq1, zq2, zq3, zq4, Nat.reduceAdd, Nat.reduceSub, lenA, convA, indexA, indexS, Int.reduceToNat, cond_true, cond_false, ↓reduceIte, reduceCtorEq, Nat.reduceLT, Nat.reduceLeDiff, Nat.reduceMul, Nat.reduceEqDiff, exists_eq', implies_true, exists_true_left, tys0, tys1, tys2, und0, und1, md22, Tryz.ntmps22, Tryz.results22]
  refine call_ret (decV_call b1 (by omega)) rfl rfl ?_
  simp only [q0, q1, q2, q3, q4, q5, q6, q7, q8, q9, zr0, zr1, zr2, zr3, zq0, zq1, zq2, zq3, zq4, Nat.reduceAdd, Nat.reduceSub, lenA, convA, indexA, indexS, Int.reduceToNat, cond_true, cond_false, ↓reduceIte, reduceCtorEq, Nat.reduceLT, Nat.reduceLeDiff, Nat.reduceMul, Nat.reduceEqDiff, exists_eq', implies_true, exists_true_left, tys0, tys1, tys2, und0, und1, md22, Tryz.ntmps22, Tryz.results22]
  refine call_ret (decV_call b2 (by omega)) rfl rfl ?_
  simp only [q0, q1, q2, q3, q4, q5, q6, q7, q8, q9, zr0, zr1, zr2, zr3, zq0, zq1, zq2, zq3, zq4, Nat.reduceAdd, Nat.reduceSub, lenA, convA, indexA, indexS, Int.reduceToNat, cond_true, cond_false, ↓reduceIte, reduceCtorEq, Nat.reduceLT, Nat.reduceLeDiff, Nat.reduceMul, Nat.reduceEqDiff, exists_eq', implies_true, exists_true_left, tys0, tys1, tys2, und0, und1, md22, Tryz.ntmps22, Tryz.results22]
  refine call_ret (decV_call d1 (by omega)) rfl rfl ?_
  simp only [q0, q1, q2, q3, q4, q5, q6, q7, q8, q9, zr0, zr1, zr2, zr3, zq0, zq1, zq2, zq3, zq4, Nat.reduceAdd, Nat.reduceSub, lenA, convA, indexA, indexS, Int.reduceToNat, cond_true, cond_false, ↓reduceIte, reduceCtorEq, Nat.reduceLT, Nat.reduceLeDiff, Nat.reduceMul, Nat.reduceEqDiff, exists_eq', implies_true, exists_true_left, tys0, tys1, tys2, und0, und1, md22, Tryz.ntmps22, Tryz.results22]
  refine call_ret (decV_call e2 (by omega)) rfl rfl ?_
  simp only [q0, q1, q2, q3, q4, q5, q6, q7, q8, q9, zr0, zr1, zr2, zr3, zq0, zq1, zq2, zq3, zq4, Nat.reduceAdd, Nat.reduceSub, lenA, convA, indexA, indexS, Int.reduceToNat, cond_true, cond_false, ↓reduceIte, reduceCtorEq, Nat.reduceLT, Nat.reduceLeDiff, Nat.reduceMul, Nat.reduceEqDiff, exists_eq', implies_true, exists_true_left, tys0, tys1, tys2, und0, und1, md22, Tryz.ntmps22, Tryz.results22]
  refine br_intro (fun x => ?_) (fun x => ?_) <;> simp only [q0, q1, q2, q3, q4, q5, q6, q7, q8, q9, zr0, zr1, zr2, zr3, zq0, zq1, zq2, zq3, zq4, Nat.reduceAdd, Nat.reduceSub, lenA, convA, indexA, indexS, Int.reduceToNat, cond_true, cond_false, ↓reduceIte, reduceCtorEq, Nat.reduceLT, Nat.reduceLeDiff, Nat.reduceMul, Nat.reduceEqDiff, exists_eq', implies_true, exists_true_left, tys0, tys1, tys2, und0, und1, md22, Tryz.ntmps22, Tryz.results22]
  · obtain rfl : e1 = [] := by simpa using x
    have ri : readI s = (decV e2, [], decV b1, decV b2, decV d1) := ri
    generalize decV e2 = z0 at ri
    generalize decV b1 = z1 at ri
    generalize decV b2 = z2 at ri
    generalize decV d1 = z3 at ri
    rw [ri] at ro
    refine call_lentN (args' := [rulA (z0, [], z1, z2, z3)]) 2 2 rfl (implRuleText_call (z0, [], z1, z2, z3) (by simp)) rfl rfl ?_
    simp only [q0, q1, q2, q3, q4, q5, q6, q7, q8, q9, zr0, zr1, zr2, zr3, zq0, zq1, zq2, zq3, zq4, Nat.reduceAdd, Nat.reduceSub, lenA, convA, indexA, indexS, Int.reduceToNat, cond_true, cond_false, ↓reduceIte, reduceCtorEq, Nat.reduceLT, Nat.reduceLeDiff, Nat.reduceMul, Nat.reduceEqDiff, exists_eq', implies_true, exists_true_left, tys0, tys1, tys2, und0, und1, md22, Tryz.ntmps22, Tryz.results22]
    refine br_intro (fun g1 => ?_) (fun g1 => ?_) <;> simp only [q0, q1, q2, q3, q4, q5, q6, q7, q8, q9, zr0, zr1, zr2, zr3, zq0, zq1, zq2, zq3, zq4, Nat.reduceAdd, Nat.reduceSub, lenA, convA, indexA, indexS, Int.reduceToNat, cond_true, cond_false, ↓reduceIte, reduceCtorEq, Nat.reduceLT, Nat.reduceLeDiff, Nat.reduceMul, Nat.reduceEqDiff, exists_eq', implies_true, exists_true_left, tys0, tys1, tys2, und0, und1, md22, Tryz.ntmps22, Tryz.results22]
    · rw [if_pos g1]
      refine br_intro (fun g2 => ?_) (fun g2 => ?_) <;> simp only [q0, q1, q2, q3, q4, q5, q6, q7, q8, q9, zr0, zr1, zr2, zr3, zq0, zq1, zq2, zq3, zq4, Nat.reduceAdd, Nat.reduceSub, lenA, convA, indexA, indexS, Int.reduceToNat, cond_true, cond_false, ↓reduceIte, reduceCtorEq, Nat.reduceLT, Nat.reduceLeDiff, Nat.reduceMul, Nat.reduceEqDiff, exists_eq', implies_true, exists_true_left, tys0, tys1, tys2, und0, und1, md22, Tryz.ntmps22, Tryz.results22]
      · have g2 : ruleT (z0, [], z1, z2, z3) = s := by simpa using g2
        rw [ro, if_pos ⟨g1, g2⟩]
        exact PostR.dead0 ⟨rfl, rfl⟩ rfl
      · have g2 : ¬ ruleT (z0, [], z1, z2, z3) = s := by simpa using g2
        rw [ro, if_neg (fun h => g2 h.2)]
        exact PostR.pure ⟨rfl, rfl⟩ rfl
    · rw [ro, if_neg (fun h => by rw [h.1] at g1; cases g1)]
      exact PostR.pure ⟨rfl, rfl⟩ rfl
  · have hne : ¬ e1 = [] := by simpa using x
    have tl := trim_len e1 [32]
    refine call_ret (trimS_call e1 [32] (by omega)) rfl rfl ?_
    have ie : ifsI e1 = (words [32, 38, 32] (Lib.trimSuffix e1 [32])).map decV := if_neg hne
    rw [ie] at ri
    generalize Lib.trimSuffix e1 [32] = e4 at ri tl
    simp only [q0, q1, q2, q3, q4, q5, q6, q7, q8, q9, zr0, zr1, zr2, zr3, zq0, zq1, zq2, zq3, zq4, Nat.reduceAdd, Nat.reduceSub, lenA, convA, indexA, indexS, Int.reduceToNat, cond_true, cond_false, ↓reduceIte, reduceCtorEq, Nat.reduceLT, Nat.reduceLeDiff, Nat.reduceMul, Nat.reduceEqDiff, exists_eq', implies_true, exists_true_left, tys0, tys1, tys2, und0, und1, md22, Tryz.ntmps22, Tryz.results22]
    refine call_ret (splitS_call e4 [32, 38, 32] (by decide) (by omega)) rfl rfl ?_
    have wl := words_le [32, 38, 32] e4 (by decide)
    have wn : (words [32, 38, 32] e4).length ≠ 0 := by rw [words_len _ _ (by decide)]; omega
    have wm : ∀ p ∈ words [32, 38, 32] e4, p.length ≤ 200 := fun p hp => by
      have := words_mem _ _ p hp
      omega
    generalize words [32, 38, 32] e4 = W at ri wl wn wm
    simp only [q0, q1, q2, q3, q4, q5, q6, q7, q8, q9, zr0, zr1, zr2, zr3, zq0, zq1, zq2, zq3, zq4, Nat.reduceAdd, Nat.reduceSub, lenA, convA, indexA, indexS, Int.reduceToNat, cond_true, cond_false, ↓reduceIte, reduceCtorEq, Nat.reduceLT, Nat.reduceLeDiff, Nat.reduceMul, Nat.reduceEqDiff, exists_eq', implies_true, exists_true_left, tys0, tys1, tys2, und0, und1, md22, Tryz.ntmps22, Tryz.results22, strs_len]
    generalize decV e2 = z0 at ri
    generalize decV b1 = z1 at ri
    generalize decV b2 = z2 at ri
    generalize decV d1 = z3 at ri
    refine go_round (md := md22) mixed (by kernel_rfl) (fun i : {i : Nat // i ≤ W.length} => ⟨[.str s, .any, .ptr 0 0 0, .any, .any, .any, .any, .any, .any, .any, .any, .any, .any, .any, .any, .ptr 1 0 0, .any, .any, .any, .any, .any, .any, .any, .any, .any, .any, .any, .any, .any, .any, .any, .any, .any, .any, .any, .any, .any, .any, .any, .any, .any, .any, .any, .any, .any, .any, .any, .any, .any, .any, .any, .any, .any, .any, .any, .any, .any, .any, .any, .any, .any, .any, .any, .any, .any, .any, .any, .any, .any, .any, .any, .any, .any, .any, .any, .any, .any, .any, .any, .ro (strs W), .int .i64 W.length, .int .i64 i.1, .any, .any, .any, .any, .any, .any, .any, .any, .any, .any, .any, .any, .any, .any, .any, .any, .any, .any, .any, .any, .any, .any, .any, .any, .any, .any, .any, .any, .any], [rulB [rul0], rulB [rulV 2 (z0, (W.take i.1).map decV, z1, z2, z3)]] ++ ifsH ((W.take i.1).map decV)⟩) (fun i => W.length - i.1) ⟨0, by omega⟩ ?_ ?_
    · refine weak_same rfl ?_
      simp [SameTm]
    rintro ⟨i, hi⟩
    have tln : ((W.take i).map decV).length = i := by rw [List.length_map, List.length_take]; omega
    cases i with
    | zero =>
      have e0 : ifsH ((W.take 0).map decV) = [] := rfl
      have e1 : rulV 2 (z0, (W.take 0).map decV, z1, z2, z3) = .agg [.int .i64 z0, .nils, .int .i64 z1, .int .i64 z2, .int .i64 z3] := rfl
      rw [e0, e1]
      simp only [q0, q1, q2, q3, q4, q5, q6, q7, q8, q9, zr0, zr1, zr2, zr3, zq0, zq1, zq2, zq3, zq4, Nat.reduceAdd, Nat.reduceSub, lenA, convA, indexA, indexS, Int.reduceToNat, cond_true, cond_false, ↓reduceIte, reduceCtorEq, Nat.reduceLT, Nat.reduceLeDiff, Nat.reduceMul, Nat.reduceEqDiff, exists_eq', implies_true, exists_true_left, tys0, tys1, tys2, und0, und1, md22, Tryz.ntmps22, Tryz.results22, rulB, rul0, strs_len]
      refine br_yes (by first | exact decide_eq_true (by omega) | (simp only [bne_iff_ne, beq_iff_eq, ne_eq]; omega)) ?_; simp only [q0, q1, q2, q3, q4, q5, q6, q7, q8, q9, zr0, zr1, zr2, zr3, zq0, zq1, zq2, zq3, zq4, Nat.reduceAdd, Nat.reduceSub, lenA, convA, indexA, indexS, Int.reduceToNat, cond_true, cond_false, ↓reduceIte, reduceCtorEq, Nat.reduceLT, Nat.reduceLeDiff, Nat.reduceMul, Nat.reduceEqDiff, exists_eq', implies_true, exists_true_left, tys0, tys1, tys2, und0, und1, md22, Tryz.ntmps22, Tryz.results22, rulB, rul0, strs_len]
      have h0 : 0 < W.length := by omega
      have hI : (0 : Int) < (W.length : Int) := by omega
      simp only [q0, q1, q2, q3, q4, q5, q6, q7, q8, q9, zr0, zr1, zr2, zr3, zq0, zq1, zq2, zq3, zq4, Nat.reduceAdd, Nat.reduceSub, lenA, convA, indexA, indexS, Int.reduceToNat, cond_true, cond_false, ↓reduceIte, reduceCtorEq, Nat.reduceLT, Nat.reduceLeDiff, Nat.reduceMul, Nat.reduceEqDiff, exists_eq', implies_true, exists_true_left, tys0, tys1, tys2, und0, und1, md22, Tryz.ntmps22, Tryz.results22, rulB, rul0, strs_len, strs_get, h0, hI]
      refine call_ret (decV_call W[0] (by have := wm _ (List.getElem_mem h0); omega)) rfl rfl ?_
      have ne : (ints [decV W[0]]).isEmpty = false := rfl
      simp only [q0, q1, q2, q3, q4, q5, q6, q7, q8, q9, zr0, zr1, zr2, zr3, zq0, zq1, zq2, zq3, zq4, Nat.reduceAdd, Nat.reduceSub, lenA, convA, indexA, indexS, Int.reduceToNat, cond_true, cond_false, ↓reduceIte, reduceCtorEq, Nat.reduceLT, Nat.reduceLeDiff, Nat.reduceMul, Nat.reduceEqDiff, exists_eq', implies_true, exists_true_left, tys0, tys1, tys2, und0, und1, md22, Tryz.ntmps22, Tryz.results22, rulB, rul0, allW_int, fits, List.isEmpty_cons, brk_false, Nat.reduceMul]
      refine ⟨⟨1, by omega⟩, by show W.length - 1 < W.length - 0; omega, ?_⟩
      have e2 : (W.take 1).map decV = [decV W[0]] := by
        rw [take_snoc W 0 h0]; rfl
      show Weak 0 _ ⟨_, _⟩
      rw [e2]
      exact weak_names [0, 1, 3] (by decide) (by decide) (by decide) (by simp [SubG, renB, ints_ren, ints_below, kint_ren, kint_below, ren, renM, renL, rulB, rul0, rulV, slV, ifsH, intB, ints, allBelow_cons, allBelow_nil, below, belowM, belowL, show IntKind.i64.wrap 1 = 1 by decide]) (by simp [LeTm, LeV, ren, renM, renL, below, belowM, belowL, rulB, rul0, rulV, slV, ifsH, intB, ints, allBelow_cons, allBelow_nil, below, belowM, belowL, show IntKind.i64.wrap 1 = 1 by decide])
    | succ i =>
      have ti : ((W.take (i + 1)).map decV).length = i + 1 := tln
      have e0 : ifsH ((W.take (i + 1)).map decV) = [intB ((W.take (i + 1)).map decV)] := if_neg (by omega)
      have e1 : rulV 2 (z0, (W.take (i + 1)).map decV, z1, z2, z3) = .agg [.int .i64 z0, .sl 2 0 (i + 1), .int .i64 z1, .int .i64 z2, .int .i64 z3] := by
        unfold rulV
        simp only [ti, slV_pos (Nat.succ_ne_zero i)]
      rw [e0, e1]
      have il : (ints ((W.take (i + 1)).map decV)).length = i + 1 := by rw [ints_len, ti]
      simp only [q0, q1, q2, q3, q4, q5, q6, q7, q8, q9, zr0, zr1, zr2, zr3, zq0, zq1, zq2, zq3, zq4, Nat.reduceAdd, Nat.reduceSub, lenA, convA, indexA, indexS, Int.reduceToNat, cond_true, cond_false, ↓reduceIte, reduceCtorEq, Nat.reduceLT, Nat.reduceLeDiff, Nat.reduceMul, Nat.reduceEqDiff, exists_eq', implies_true, exists_true_left, tys0, tys1, tys2, und0, und1, md22, Tryz.ntmps22, Tryz.results22, rulB, rul0, strs_len]
      refine br_intro (fun g => ?_) (fun g => ?_) <;> simp only [q0, q1, q2, q3, q4, q5, q6, q7, q8, q9, zr0, zr1, zr2, zr3, zq0, zq1, zq2, zq3, zq4, Nat.reduceAdd, Nat.reduceSub, lenA, convA, indexA, indexS, Int.reduceToNat, cond_true, cond_false, ↓reduceIte, reduceCtorEq, Nat.reduceLT, Nat.reduceLeDiff, Nat.reduceMul, Nat.reduceEqDiff, exists_eq', implies_true, exists_true_left, tys0, tys1, tys2, und0, und1, md22, Tryz.ntmps22, Tryz.results22, rulB, rul0, strs_len]
      · have g := of_decide_eq_true g
        have h0 : i + 1 < W.length := by omega
        have hI : ((i + 1 : Nat) : Int) < (W.length : Int) := by omega
        simp only [q0, q1, q2, q3, q4, q5, q6, q7, q8, q9, zr0, zr1, zr2, zr3, zq0, zq1, zq2, zq3, zq4, Nat.reduceAdd, Nat.reduceSub, lenA, convA, indexA, indexS, Int.reduceToNat, cond_true, cond_false, ↓reduceIte, reduceCtorEq, Nat.reduceLT, Nat.reduceLeDiff, Nat.reduceMul, Nat.reduceEqDiff, exists_eq', implies_true, exists_true_left, tys0, tys1, tys2, und0, und1, md22, Tryz.ntmps22, Tryz.results22, rulB, rul0, strs_len, strs_get, h0, hI]
        refine call_ret (decV_call W[i + 1] (by have := wm _ (List.getElem_mem h0); omega)) rfl rfl ?_
        simp only [q0, q1, q2, q3, q4, q5, q6, q7, q8, q9, zr0, zr1, zr2, zr3, zq0, zq1, zq2, zq3, zq4, Nat.reduceAdd, Nat.reduceSub, lenA, convA, indexA, indexS, Int.reduceToNat, cond_true, cond_false, ↓reduceIte, reduceCtorEq, Nat.reduceLT, Nat.reduceLeDiff, Nat.reduceMul, Nat.reduceEqDiff, exists_eq', implies_true, exists_true_left, tys0, tys1, tys2, und0, und1, md22, Tryz.ntmps22, Tryz.results22, rulB, rul0, allW_int, fits, List.isEmpty_cons, brk_false, Nat.reduceMul]
        refine ⟨rfl, rfl, il.symm, rfl, by omega, ⟨i + 2, by omega⟩, by show W.length - (i + 2) < W.length - (i + 1); omega, ?_⟩
        have e2 : (W.take (i + 2)).map decV = (W.take (i + 1)).map decV ++ [decV W[i + 1]] := by
          rw [take_snoc W (i + 1) h0, List.map_append]; rfl
        have e3 : ((W.take (i + 2)).map decV).length = i + 2 := by rw [e2, List.length_append, ti]; rfl
        have e4 : ifsH ((W.take (i + 2)).map decV) = [intB ((W.take (i + 2)).map decV)] := if_neg (by omega)
        have e5 : rulV 2 (z0, (W.take (i + 2)).map decV, z1, z2, z3) = .agg [.int .i64 z0, .sl 2 0 (i + 2), .int .i64 z1, .int .i64 z2, .int .i64 z3] := by
          unfold rulV
          simp only [e3, slV_pos (Nat.succ_ne_zero (i + 1))]
        show Weak 0 _ ⟨_, _⟩
        rw [e4, e5, e2]
        rw [intB_more]
        generalize (W.take (i + 1)).map decV ++ [decV W[i + 1]] = ys
        generalize hw : IntKind.i64.wrap (((i + 1 : Nat) : Int) + 1) = q
        have w1 : q = ((i + 2 : Nat) : Int) := by rw [← hw, w64 (by omega) (by omega)]; omega
        subst w1
        exact weak_drop (by simp) (by simp [DropHp, ints_below, flts_below, rulB, rul0, intB, allBelow_cons, allBelow_nil, below, belowM, belowL]) (by simp [DropTm, DropV, below, belowM, belowL, rulB, rul0, intB, allBelow_cons, allBelow_nil, below, belowM, belowL])
      · have g := of_decide_eq_false g
        have wlen : i + 1 = W.length := by omega
        rw [show W.take (i + 1) = W by rw [wlen]; exact List.take_length] at *
        generalize W.map decV = ys at *
        have hy : ys.length ≠ 0 := by omega
        rw [ri] at ro
        have vr : (([AV.agg [.int .i64 z0, .sl 2 0 (i + 1), .int .i64 z1, .int .i64 z2, .int .i64 z3]].map (view 2 [{ ty := 48, w := 5, els := [.agg [.int .i64 0, .nils, .int .i64 0, .int .i64 0, .int .i64 0]] }, { ty := 48, w := 5, els := [.agg [.int .i64 z0, .sl 2 0 (i + 1), .int .i64 z1, .int .i64 z2, .int .i64 z3]] }, intB ys])).map (nilD 2)) = [rulA (z0, ys, z1, z2, z3)] := by
          have h2 : ∀ a b : Blk, [a, b, intB ys][2]? = some (ifsB (z0, ys, z1, z2, z3)) := fun _ _ => by unfold ifsB; rw [if_neg hy]; rfl
          rw [← e1, List.map_cons, List.map_cons, rulV_view 0 (h2 _ _), rulN_nil 0]
          rfl
        refine call_lentN (args' := [rulA (z0, ys, z1, z2, z3)]) 2 2 vr (implRuleText_call (z0, ys, z1, z2, z3) (by show ys.length ≤ _; omega)) rfl rfl ?_
        simp only [q0, q1, q2, q3, q4, q5, q6, q7, q8, q9, zr0, zr1, zr2, zr3, zq0, zq1, zq2, zq3, zq4, Nat.reduceAdd, Nat.reduceSub, lenA, convA, indexA, indexS, Int.reduceToNat, cond_true, cond_false, ↓reduceIte, reduceCtorEq, Nat.reduceLT, Nat.reduceLeDiff, Nat.reduceMul, Nat.reduceEqDiff, exists_eq', implies_true, exists_true_left, tys0, tys1, tys2, und0, und1, md22, Tryz.ntmps22, Tryz.results22]
        refine br_intro (fun g1 => ?_) (fun g1 => ?_) <;> simp only [q0, q1, q2, q3, q4, q5, q6, q7, q8, q9, zr0, zr1, zr2, zr3, zq0, zq1, zq2, zq3, zq4, Nat.reduceAdd, Nat.reduceSub, lenA, convA, indexA, indexS, Int.reduceToNat, cond_true, cond_false, ↓reduceIte, reduceCtorEq, Nat.reduceLT, Nat.reduceLeDiff, Nat.reduceMul, Nat.reduceEqDiff, exists_eq', implies_true, exists_true_left, tys0, tys1, tys2, und0, und1, md22, Tryz.ntmps22, Tryz.results22]
        · rw [if_pos g1]
          refine br_intro (fun g2 => ?_) (fun g2 => ?_) <;> simp only [q0, q1, q2, q3, q4, q5, q6, q7, q8, q9, zr0, zr1, zr2, zr3, zq0, zq1, zq2, zq3, zq4, Nat.reduceAdd, Nat.reduceSub, lenA, convA, indexA, indexS, Int.reduceToNat, cond_true, cond_false, ↓reduceIte, reduceCtorEq, Nat.reduceLT, Nat.reduceLeDiff, Nat.reduceMul, Nat.reduceEqDiff, exists_eq', implies_true, exists_true_left, tys0, tys1, tys2, und0, und1, md22, Tryz.ntmps22, Tryz.results22]
          · have g2 : ruleT (z0, ys, z1, z2, z3) = s := by simpa using g2
            rw [ro, if_pos ⟨g1, g2⟩]
            have er : readA (some (z0, ys, z1, z2, z3)) = .tup [.agg [.int .i64 z0, .sl 0 0 (i + 1), .int .i64 z1, .int .i64 z2, .int .i64 z3], .bool true] := by
              unfold readA rulV
              simp only [ti, slV_pos (Nat.succ_ne_zero i)]
            have eh : readH (some (z0, ys, z1, z2, z3)) = [intB ys] := by
              unfold readH ifsB
              simp only [if_neg hy]
            rw [er, eh]
            exact PostR.pick (hp2 := [intB ys]) (r2 := .tup [.agg [.int .i64 z0, .sl 0 0 (i + 1), .int .i64 z1, .int .i64 z2, .int .i64 z3], .bool true]) [2] (by decide) (Nat.zero_le _) (fun b hb => absurd hb (Nat.not_lt_zero _)) ⟨⟨rfl, ints_below _ _⟩, trivial⟩ rfl rfl ⟨rfl, rfl⟩
          · have g2 : ¬ ruleT (z0, ys, z1, z2, z3) = s := by simpa using g2
            rw [ro, if_neg (fun h => g2 h.2)]
            exact PostR.pure ⟨rfl, rfl⟩ rfl
        · rw [ro, if_neg (fun h => by rw [h.1] at g1; cases g1)]
          exact PostR.pure ⟨rfl, rfl⟩ rfl
end Go.Proofs.YtigipcckflcilaaGreatDoor
