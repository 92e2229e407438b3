/- The reference's questions of a state: what is proved, what is disproved. -/
import Derived.Test.YtmllengggncmkaaGreatQrB
set_option maxRecDepth 10000
set_option maxHeartbeats 4000000
set_option linter.unusedSimpArgs false
set_option linter.unusedVariables false
namespace Go.Proofs.YtmllengggncmkaaGreat
open Go Go.Abs

def ruP (r : Rul) : AV := .rop [.int .i64 r.1, .ro (ints r.2.1), .int .i64 r.2.2.1, .int .i64 r.2.2.2.1, .int .i64 r.2.2.2.2]
def Wds (xs : List Int) : Prop := xs.length ≤ 6 ∧ ∀ w ∈ xs, wordB w = true
theorem any_succ {α : Type} {p : α → Bool} {xs : List α} {k : Nat} (h : k < xs.length) : (xs.take (k + 1)).any p = ((xs.take k).any p || p xs[k]) := by
  rw [take_snoc _ _ h, List.any_append]; simp
theorem all_succ {α : Type} {p : α → Bool} {xs : List α} {k : Nat} (h : k < xs.length) : (xs.take (k + 1)).all p = ((xs.take k).all p && p xs[k]) := by
  rw [take_snoc _ _ h, List.all_append]; simp
def allY (W : Nat → Bool) (r : Rul) : Bool := r.2.1.all fun w => W (plN w)
def somN (W : Nat → Bool) (r : Rul) : Bool := r.2.1.any fun w => W (32 + plN w)
theorem l05All_call (W : Nat → Bool) (r : Rul) (hw : Wds r.2.1) : CallA Tryz.prog 79 [.rop (bC 96 W), ruP r] [] (Ret (.bool (allY W r)) []) := by
  have hl := hw.1
  unfold ruP
  refine CallP.out (t := .mk) (go_in (md := md79) mixed Tryz.func79 rfl go79 (by kernel_rfl) ?_)
  simp only [q0, q1, q2, q3, q4, q5, q6, q7, q8, q9, zr0, zr1, zr2, zr3, zq0, zq1, zq2, zq3, zq4, Nat.reduceAdd, Nat.reduceSub, lenA, convA, indexA, indexS, Int.reduceToNat, cond_true, cond_false, ↓reduceIte, reduceCtorEq, Nat.reduceLT, Nat.reduceLeDiff, Nat.reduceMul, Nat.reduceEqDiff, exists_eq', implies_true, exists_true_left, tys0, tys1, tys2, tys3, tys4, und0, und1, und2, und3, md79, Tryz.ntmps79, Tryz.results79]
  refine go_round (md := md79) mixed (by kernel_rfl) (fun k : {k : Nat // k ≤ r.2.1.length ∧ (r.2.1.take k).all (fun w => W (plN w)) = true} => ⟨[.rop (bC 96 W), ruP r, .any, .any, .bool false, .any, .any, .any, .any, .any, .int .i64 r.2.1.length, .int .i64 k.1, .any, .any, .any, .any, .any, .any, .any, .any, .any, .any, .any, .any, .any, .any, .any, .any, .any], []⟩) (fun k => r.2.1.length - k.1) ⟨0, by simp⟩ ?_ ?_
  · exact weak_drop (by simp) (by simp [DropHp, ints_below, flts_below, ruP]) (by simp [DropTm, DropV, below, belowM, belowL, ruP])
  · intro ⟨k, hk, he⟩
    simp only [q0, q1, q2, q3, q4, q5, q6, q7, q8, q9, zr0, zr1, zr2, zr3, zq0, zq1, zq2, zq3, zq4, Nat.reduceAdd, Nat.reduceSub, lenA, convA, indexA, indexS, Int.reduceToNat, cond_true, cond_false, ↓reduceIte, reduceCtorEq, Nat.reduceLT, Nat.reduceLeDiff, Nat.reduceMul, Nat.reduceEqDiff, exists_eq', implies_true, exists_true_left, tys0, tys1, tys2, tys3, tys4, und0, und1, und2, und3, md79, Tryz.ntmps79, Tryz.results79, ruP]
    refine br_intro (fun h => ?_) (fun h => ?_) <;> simp only [q0, q1, q2, q3, q4, q5, q6, q7, q8, q9, zr0, zr1, zr2, zr3, zq0, zq1, zq2, zq3, zq4, Nat.reduceAdd, Nat.reduceSub, lenA, convA, indexA, indexS, Int.reduceToNat, cond_true, cond_false, ↓reduceIte, reduceCtorEq, Nat.reduceLT, Nat.reduceLeDiff, Nat.reduceMul, Nat.reduceEqDiff, exists_eq', implies_true, exists_true_left, tys0, tys1, tys2, tys3, tys4, und0, und1, und2, und3, md79, Tryz.ntmps79, Tryz.results79, ruP]
    · have hk' : k < r.2.1.length := by simpa using h
      have hb := hw.2 _ (List.getElem_mem hk')
      have hp := plN_lt hb
      refine ⟨hk', callr_ret (l05Place_call _ hb) rfl rfl ?_⟩
      simp only [q0, q1, q2, q3, q4, q5, q6, q7, q8, q9, zr0, zr1, zr2, zr3, zq0, zq1, zq2, zq3, zq4, Nat.reduceAdd, Nat.reduceSub, lenA, convA, indexA, indexS, Int.reduceToNat, cond_true, cond_false, ↓reduceIte, reduceCtorEq, Nat.reduceLT, Nat.reduceLeDiff, Nat.reduceMul, Nat.reduceEqDiff, exists_eq', implies_true, exists_true_left, tys0, tys1, tys2, tys3, tys4, und0, und1, und2, und3, md79, Tryz.ntmps79, Tryz.results79, ruP, bC_drop, bC_drop_len, Nat.mul_one, Nat.zero_add]
      refine ⟨by omega, by omega, ?_⟩
      refine br_intro (fun g => ?_) (fun g => ?_) <;> simp only [q0, q1, q2, q3, q4, q5, q6, q7, q8, q9, zr0, zr1, zr2, zr3, zq0, zq1, zq2, zq3, zq4, Nat.reduceAdd, Nat.reduceSub, lenA, convA, indexA, indexS, Int.reduceToNat, cond_true, cond_false, ↓reduceIte, reduceCtorEq, Nat.reduceLT, Nat.reduceLeDiff, Nat.reduceMul, Nat.reduceEqDiff, exists_eq', implies_true, exists_true_left, tys0, tys1, tys2, tys3, tys4, und0, und1, und2, und3, md79, Tryz.ntmps79, Tryz.results79, ruP]
      · refine ⟨⟨k + 1, by omega, by rw [all_succ hk', he, g]; rfl⟩, by show r.2.1.length - (k + 1) < _; omega, ?_⟩
        exact weak_drop (by simp) (by simp [DropHp, ints_below, flts_below, w64_succ k (by omega), ruP]) (by simp [DropTm, DropV, below, belowM, belowL, w64_succ k (by omega), ruP])
      · rw [show allY W r = false by unfold allY; rw [List.all_eq_false]; exact ⟨_, List.getElem_mem hk', by simp [g]⟩]
        exact PostR.ret
    · have hk' : k = r.2.1.length := by simp at h; omega
      subst hk'
      rw [List.take_length] at he
      rw [show allY W r = true from he]
      exact PostR.ret
theorem l05Some_call (W : Nat → Bool) (r : Rul) (hw : Wds r.2.1) : CallA Tryz.prog 80 [.rop (bC 96 W), ruP r] [] (Ret (.bool (somN W r)) []) := by
  have hl := hw.1
  unfold ruP
  refine CallP.out (t := .mk) (go_in (md := md80) mixed Tryz.func80 rfl go80 (by kernel_rfl) ?_)
  simp only [q0, q1, q2, q3, q4, q5, q6, q7, q8, q9, zr0, zr1, zr2, zr3, zq0, zq1, zq2, zq3, zq4, Nat.reduceAdd, Nat.reduceSub, lenA, convA, indexA, indexS, Int.reduceToNat, cond_true, cond_false, ↓reduceIte, reduceCtorEq, Nat.reduceLT, Nat.reduceLeDiff, Nat.reduceMul, Nat.reduceEqDiff, exists_eq', implies_true, exists_true_left, tys0, tys1, tys2, tys3, tys4, und0, und1, und2, und3, md80, Tryz.ntmps80, Tryz.results80]
  refine go_round (md := md80) mixed (by kernel_rfl) (fun k : {k : Nat // k ≤ r.2.1.length ∧ (r.2.1.take k).any (fun w => W (32 + plN w)) = false} => ⟨[.rop (bC 96 W), ruP r, .any, .any, .bool false, .any, .any, .any, .any, .any, .int .i64 r.2.1.length, .int .i64 k.1, .any, .any, .any, .any, .any, .any, .any, .any, .any, .any, .any, .any, .any, .any, .any, .any], []⟩) (fun k => r.2.1.length - k.1) ⟨0, by simp⟩ ?_ ?_
  · exact weak_drop (by simp) (by simp [DropHp, ints_below, flts_below, ruP]) (by simp [DropTm, DropV, below, belowM, belowL, ruP])
  · intro ⟨k, hk, he⟩
    simp only [q0, q1, q2, q3, q4, q5, q6, q7, q8, q9, zr0, zr1, zr2, zr3, zq0, zq1, zq2, zq3, zq4, Nat.reduceAdd, Nat.reduceSub, lenA, convA, indexA, indexS, Int.reduceToNat, cond_true, cond_false, ↓reduceIte, reduceCtorEq, Nat.reduceLT, Nat.reduceLeDiff, Nat.reduceMul, Nat.reduceEqDiff, exists_eq', implies_true, exists_true_left, tys0, tys1, tys2, tys3, tys4, und0, und1, und2, und3, md80, Tryz.ntmps80, Tryz.results80, ruP]
    refine br_intro (fun h => ?_) (fun h => ?_) <;> simp only [q0, q1, q2, q3, q4, q5, q6, q7, q8, q9, zr0, zr1, zr2, zr3, zq0, zq1, zq2, zq3, zq4, Nat.reduceAdd, Nat.reduceSub, lenA, convA, indexA, indexS, Int.reduceToNat, cond_true, cond_false, ↓reduceIte, reduceCtorEq, Nat.reduceLT, Nat.reduceLeDiff, Nat.reduceMul, Nat.reduceEqDiff, exists_eq', implies_true, exists_true_left, tys0, tys1, tys2, tys3, tys4, und0, und1, und2, und3, md80, Tryz.ntmps80, Tryz.results80, ruP]
    · have hk' : k < r.2.1.length := by simpa using h
      have hb := hw.2 _ (List.getElem_mem hk')
      have hp := plN_lt hb
      refine ⟨hk', callr_ret (l05Place_call _ hb) rfl rfl ?_⟩
      simp only [q0, q1, q2, q3, q4, q5, q6, q7, q8, q9, zr0, zr1, zr2, zr3, zq0, zq1, zq2, zq3, zq4, Nat.reduceAdd, Nat.reduceSub, lenA, convA, indexA, indexS, Int.reduceToNat, cond_true, cond_false, ↓reduceIte, reduceCtorEq, Nat.reduceLT, Nat.reduceLeDiff, Nat.reduceMul, Nat.reduceEqDiff, exists_eq', implies_true, exists_true_left, tys0, tys1, tys2, tys3, tys4, und0, und1, und2, und3, md80, Tryz.ntmps80, Tryz.results80, ruP, bC_drop, bC_drop_len, Nat.mul_one, Nat.zero_add, List.drop_drop]
      refine ⟨by omega, by omega, ?_⟩
      refine br_intro (fun g => ?_) (fun g => ?_) <;> simp only [q0, q1, q2, q3, q4, q5, q6, q7, q8, q9, zr0, zr1, zr2, zr3, zq0, zq1, zq2, zq3, zq4, Nat.reduceAdd, Nat.reduceSub, lenA, convA, indexA, indexS, Int.reduceToNat, cond_true, cond_false, ↓reduceIte, reduceCtorEq, Nat.reduceLT, Nat.reduceLeDiff, Nat.reduceMul, Nat.reduceEqDiff, exists_eq', implies_true, exists_true_left, tys0, tys1, tys2, tys3, tys4, und0, und1, und2, und3, md80, Tryz.ntmps80, Tryz.results80, ruP]
      · rw [show somN W r = true by unfold somN; rw [List.any_eq_true]; exact ⟨_, List.getElem_mem hk', by simpa using g⟩]
        exact PostR.ret
      · refine ⟨⟨k + 1, by omega, by rw [any_succ hk', he, g]; rfl⟩, by show r.2.1.length - (k + 1) < _; omega, ?_⟩
        exact weak_drop (by simp) (by simp [DropHp, ints_below, flts_below, w64_succ k (by omega), ruP]) (by simp [DropTm, DropV, below, belowM, belowL, w64_succ k (by omega), ruP])
    · have hk' : k = r.2.1.length := by simp at h; omega
      subst hk'
      rw [List.take_length] at he
      rw [show somN W r = false from he]
      exact PostR.ret
def onB (day : Int) (r : Rul) : Bool := decide (r.2.2.1 ≤ day) && decide (day ≤ r.2.2.2.1)
theorem l05On_call (r : Rul) (day : Int) : CallA Tryz.prog 31 [ruP r, .int .i64 day] [] (Ret (.bool (onB day r)) []) := by
  unfold ruP onB
  refine CallP.out (t := .mk) (go_in (md := md31) mixed Tryz.func31 rfl go31 (by kernel_rfl) ?_)
  simp only [q0, q1, q2, q3, q4, q5, q6, q7, q8, q9, zr0, zr1, zr2, zr3, zq0, zq1, zq2, zq3, zq4, Nat.reduceAdd, Nat.reduceSub, lenA, convA, indexA, indexS, Int.reduceToNat, cond_true, cond_false, ↓reduceIte, reduceCtorEq, Nat.reduceLT, Nat.reduceLeDiff, Nat.reduceMul, Nat.reduceEqDiff, exists_eq', implies_true, exists_true_left, tys0, tys1, tys2, tys3, tys4, und0, und1, und2, und3, md31, Tryz.ntmps31, Tryz.results31]
  refine br_intro (fun h => ?_) (fun h => ?_) <;> simp only [q0, q1, q2, q3, q4, q5, q6, q7, q8, q9, zr0, zr1, zr2, zr3, zq0, zq1, zq2, zq3, zq4, Nat.reduceAdd, Nat.reduceSub, lenA, convA, indexA, indexS, Int.reduceToNat, cond_true, cond_false, ↓reduceIte, reduceCtorEq, Nat.reduceLT, Nat.reduceLeDiff, Nat.reduceMul, Nat.reduceEqDiff, exists_eq', implies_true, exists_true_left, tys0, tys1, tys2, tys3, tys4, und0, und1, und2, und3, md31, Tryz.ntmps31, Tryz.results31]
  · rw [h, Bool.true_and]; exact PostR.ret
  · rw [h, Bool.false_and]; exact PostR.ret
structure Rls (R : List Rul) : Prop where
  len : R.length ≤ 24
  ok : ∀ r ∈ R, wordB r.1 = true ∧ Wds r.2.1 ∧ 0 ≤ r.2.2.2.2 ∧ r.2.2.2.2 ≤ 100
def prW (W : Nat → Bool) (R : List Rul) (x : Int) : Bool :=
  R.any (fun r => r.1 == x && allY W r) && R.all fun s => (s.1 != -x || somN W s) || R.any fun t => (t.1 == x && allY W t) && decide (t.2.2.2.2 > s.2.2.2.2)
theorem l05Proved_call (W : Nat → Bool) (R : List Rul) (hR : Rls R) (x : Int) (hx : wordB x = true) : CallA Tryz.prog 59 [.rop (bC 96 W), .ro (R.map rulA), .int .i64 x] [] (Ret (.bool (prW W R x)) []) := by
  have hl := hR.len
  have hx' := wordB_low hx
  have wx : IntKind.i64.wrap (0 - x) = -x := by rw [w64 (by omega) (by omega)]; omega
  refine CallP.out (t := .mk) (go_in (md := md59) mixed Tryz.func59 rfl go59 (by kernel_rfl) ?_)
  simp only [q0, q1, q2, q3, q4, q5, q6, q7, q8, q9, zr0, zr1, zr2, zr3, zq0, zq1, zq2, zq3, zq4, Nat.reduceAdd, Nat.reduceSub, lenA, convA, indexA, indexS, Int.reduceToNat, cond_true, cond_false, ↓reduceIte, reduceCtorEq, Nat.reduceLT, Nat.reduceLeDiff, Nat.reduceMul, Nat.reduceEqDiff, exists_eq', implies_true, exists_true_left, tys0, tys1, tys2, tys3, tys4, und0, und1, und2, und3, md59, Tryz.ntmps59, Tryz.results59]
  refine go_round (md := md59) mixed (by kernel_rfl) (fun k : {k : Nat // k ≤ R.length} => ⟨[.rop (bC 96 W), .ro (R.map rulA), .int .i64 x, .any, .any, .any, .bool false, .bool ((R.take k.1).any fun r => r.1 == x && allY W r), .any, .any, .any, .any, .any, .int .i64 R.length, .int .i64 k.1, .any, .any, .any, .any, .any, .any, .any, .any, .any, .any, .any, .any, .any, .any, .any, .any, .any, .any, .any, .any, .any, .any, .any, .any, .any, .any, .any, .any, .any, .any, .any, .any, .any, .any, .any, .any, .any, .any, .any, .any, .any, .any, .any, .any, .any, .any, .any, .any, .any, .any, .any, .any, .any, .any, .any, .any, .any, .any, .any, .any, .any, .any, .any, .any, .any, .any, .any, .any, .any, .any, .any, .any, .any, .any, .any, .any, .any, .any, .any, .any, .any], []⟩) (fun k => R.length - k.1) ⟨0, by simp⟩ ?_ ?_
  · exact weak_drop (by simp) (by simp [DropHp, ints_below, flts_below, List.length_map]) (by simp [DropTm, DropV, below, belowM, belowL, List.length_map])
  · intro ⟨k, hk⟩
    simp only [q0, q1, q2, q3, q4, q5, q6, q7, q8, q9, zr0, zr1, zr2, zr3, zq0, zq1, zq2, zq3, zq4, Nat.reduceAdd, Nat.reduceSub, lenA, convA, indexA, indexS, Int.reduceToNat, cond_true, cond_false, ↓reduceIte, reduceCtorEq, Nat.reduceLT, Nat.reduceLeDiff, Nat.reduceMul, Nat.reduceEqDiff, exists_eq', implies_true, exists_true_left, tys0, tys1, tys2, tys3, tys4, und0, und1, und2, und3, md59, Tryz.ntmps59, Tryz.results59]
    refine br_intro (fun h => ?_) (fun h => ?_) <;> simp only [q0, q1, q2, q3, q4, q5, q6, q7, q8, q9, zr0, zr1, zr2, zr3, zq0, zq1, zq2, zq3, zq4, Nat.reduceAdd, Nat.reduceSub, lenA, convA, indexA, indexS, Int.reduceToNat, cond_true, cond_false, ↓reduceIte, reduceCtorEq, Nat.reduceLT, Nat.reduceLeDiff, Nat.reduceMul, Nat.reduceEqDiff, exists_eq', implies_true, exists_true_left, tys0, tys1, tys2, tys3, tys4, und0, und1, und2, und3, md59, Tryz.ntmps59, Tryz.results59, List.length_map, List.getElem_map, rulA]
    · have hk' : k < R.length := by simpa using h
      have hr := hR.ok _ (List.getElem_mem hk')
      refine br_intro (fun g => ?_) (fun g => ?_) <;> simp only [q0, q1, q2, q3, q4, q5, q6, q7, q8, q9, zr0, zr1, zr2, zr3, zq0, zq1, zq2, zq3, zq4, Nat.reduceAdd, Nat.reduceSub, lenA, convA, indexA, indexS, Int.reduceToNat, cond_true, cond_false, ↓reduceIte, reduceCtorEq, Nat.reduceLT, Nat.reduceLeDiff, Nat.reduceMul, Nat.reduceEqDiff, exists_eq', implies_true, exists_true_left, tys0, tys1, tys2, tys3, tys4, und0, und1, und2, und3, md59, Tryz.ntmps59, Tryz.results59, List.length_map, List.getElem_map, rulA]
      · refine ⟨⟨k + 1, by omega⟩, by show R.length - (k + 1) < _; omega, ?_⟩
        exact weak_drop (by simp) (by simp [DropHp, ints_below, flts_below, w64_succ k (by omega), any_succ hk', g]) (by simp [DropTm, DropV, below, belowM, belowL, w64_succ k (by omega), any_succ hk', g])
      · refine ⟨hk', ?_⟩
        refine br_intro (fun g2 => ?_) (fun g2 => ?_) <;> simp only [q0, q1, q2, q3, q4, q5, q6, q7, q8, q9, zr0, zr1, zr2, zr3, zq0, zq1, zq2, zq3, zq4, Nat.reduceAdd, Nat.reduceSub, lenA, convA, indexA, indexS, Int.reduceToNat, cond_true, cond_false, ↓reduceIte, reduceCtorEq, Nat.reduceLT, Nat.reduceLeDiff, Nat.reduceMul, Nat.reduceEqDiff, exists_eq', implies_true, exists_true_left, tys0, tys1, tys2, tys3, tys4, und0, und1, und2, und3, md59, Tryz.ntmps59, Tryz.results59, List.length_map, List.getElem_map, rulA]
        · refine ⟨hk', call_ret (l05All_call W R[k] hr.2.1) rfl rfl ?_⟩
          simp only [q0, q1, q2, q3, q4, q5, q6, q7, q8, q9, zr0, zr1, zr2, zr3, zq0, zq1, zq2, zq3, zq4, Nat.reduceAdd, Nat.reduceSub, lenA, convA, indexA, indexS, Int.reduceToNat, cond_true, cond_false, ↓reduceIte, reduceCtorEq, Nat.reduceLT, Nat.reduceLeDiff, Nat.reduceMul, Nat.reduceEqDiff, exists_eq', implies_true, exists_true_left, tys0, tys1, tys2, tys3, tys4, und0, und1, und2, und3, md59, Tryz.ntmps59, Tryz.results59]
          refine ⟨⟨k + 1, by omega⟩, by show R.length - (k + 1) < _; omega, ?_⟩
          exact weak_drop (by simp) (by simp [DropHp, ints_below, flts_below, w64_succ k (by omega), any_succ hk', g, g2]) (by simp [DropTm, DropV, below, belowM, belowL, w64_succ k (by omega), any_succ hk', g, g2])
        · refine ⟨⟨k + 1, by omega⟩, by show R.length - (k + 1) < _; omega, ?_⟩
          exact weak_drop (by simp) (by simp [DropHp, ints_below, flts_below, w64_succ k (by omega), any_succ hk', g, g2]) (by simp [DropTm, DropV, below, belowM, belowL, w64_succ k (by omega), any_succ hk', g, g2])
    · have hk' : k = R.length := by simp at h; omega
      subst hk'
      rw [List.take_length]
      refine br_intro (fun g => ?_) (fun g => ?_) <;> simp only [q0, q1, q2, q3, q4, q5, q6, q7, q8, q9, zr0, zr1, zr2, zr3, zq0, zq1, zq2, zq3, zq4, Nat.reduceAdd, Nat.reduceSub, lenA, convA, indexA, indexS, Int.reduceToNat, cond_true, cond_false, ↓reduceIte, reduceCtorEq, Nat.reduceLT, Nat.reduceLeDiff, Nat.reduceMul, Nat.reduceEqDiff, exists_eq', implies_true, exists_true_left, tys0, tys1, tys2, tys3, tys4, und0, und1, und2, und3, md59, Tryz.ntmps59, Tryz.results59, List.length_map, List.getElem_map, rulA]
      rotate_left
      · rw [show prW W R x = false by unfold prW; rw [g]; rfl]
        exact PostR.ret
      refine go_round (md := md59) mixed (by kernel_rfl) (fun k : {k : Nat // k ≤ R.length ∧ (R.take k).all (fun s => (s.1 != -x || somN W s) || R.any fun t => (t.1 == x && allY W t) && decide (t.2.2.2.2 > s.2.2.2.2)) = true} => ⟨[.rop (bC 96 W), .ro (R.map rulA), .int .i64 x, .any, .any, .any, .bool false, .any, .any, .any, .any, .any, .any, .any, .any, .any, .any, .any, .any, .any, .any, .any, .any, .any, .any, .any, .any, .any, .any, .any, .any, .any, .any, .any, .any, .any, .any, .any, .int .i64 R.length, .int .i64 k.1, .any, .any, .any, .any, .any, .any, .any, .any, .any, .any, .any, .any, .any, .any, .any, .any, .any, .any, .any, .any, .any, .any, .any, .any, .any, .any, .any, .any, .any, .any, .any, .any, .any, .any, .any, .any, .any, .any, .any, .any, .any, .any, .any, .any, .any, .any, .any, .any, .any, .any, .any, .any, .any, .any, .any, .any], []⟩) (fun k => R.length - k.1) ⟨0, by simp⟩ ?_ ?_
      · exact weak_drop (by simp) (by simp [DropHp, ints_below, flts_below, List.length_map]) (by simp [DropTm, DropV, below, belowM, belowL, List.length_map])
      · intro ⟨k, hk, he⟩
        simp only [q0, q1, q2, q3, q4, q5, q6, q7, q8, q9, zr0, zr1, zr2, zr3, zq0, zq1, zq2, zq3, zq4, Nat.reduceAdd, Nat.reduceSub, lenA, convA, indexA, indexS, Int.reduceToNat, cond_true, cond_false, ↓reduceIte, reduceCtorEq, Nat.reduceLT, Nat.reduceLeDiff, Nat.reduceMul, Nat.reduceEqDiff, exists_eq', implies_true, exists_true_left, tys0, tys1, tys2, tys3, tys4, und0, und1, und2, und3, md59, Tryz.ntmps59, Tryz.results59]
        refine br_intro (fun h => ?_) (fun h => ?_) <;> simp only [q0, q1, q2, q3, q4, q5, q6, q7, q8, q9, zr0, zr1, zr2, zr3, zq0, zq1, zq2, zq3, zq4, Nat.reduceAdd, Nat.reduceSub, lenA, convA, indexA, indexS, Int.reduceToNat, cond_true, cond_false, ↓reduceIte, reduceCtorEq, Nat.reduceLT, Nat.reduceLeDiff, Nat.reduceMul, Nat.reduceEqDiff, exists_eq', implies_true, exists_true_left, tys0, tys1, tys2, tys3, tys4, und0, und1, und2, und3, md59, Tryz.ntmps59, Tryz.results59, List.length_map, List.getElem_map, rulA, wx]
        · have hk' : k < R.length := by simpa using h
          have hr := hR.ok _ (List.getElem_mem hk')
          refine ⟨hk', ?_⟩
          refine br_intro (fun g3 => ?_) (fun g3 => ?_) <;> simp only [q0, q1, q2, q3, q4, q5, q6, q7, q8, q9, zr0, zr1, zr2, zr3, zq0, zq1, zq2, zq3, zq4, Nat.reduceAdd, Nat.reduceSub, lenA, convA, indexA, indexS, Int.reduceToNat, cond_true, cond_false, ↓reduceIte, reduceCtorEq, Nat.reduceLT, Nat.reduceLeDiff, Nat.reduceMul, Nat.reduceEqDiff, exists_eq', implies_true, exists_true_left, tys0, tys1, tys2, tys3, tys4, und0, und1, und2, und3, md59, Tryz.ntmps59, Tryz.results59, List.length_map, List.getElem_map, rulA]
          · refine ⟨⟨k + 1, by omega, by rw [all_succ hk', he, g3]; rfl⟩, by show R.length - (k + 1) < _; omega, ?_⟩
            exact weak_drop (by simp) (by simp [DropHp, ints_below, flts_below, w64_succ k (by omega)]) (by simp [DropTm, DropV, below, belowM, belowL, w64_succ k (by omega)])
          · refine ⟨hk', call_ret (l05Some_call W R[k] hr.2.1) rfl rfl ?_⟩
            simp only [q0, q1, q2, q3, q4, q5, q6, q7, q8, q9, zr0, zr1, zr2, zr3, zq0, zq1, zq2, zq3, zq4, Nat.reduceAdd, Nat.reduceSub, lenA, convA, indexA, indexS, Int.reduceToNat, cond_true, cond_false, ↓reduceIte, reduceCtorEq, Nat.reduceLT, Nat.reduceLeDiff, Nat.reduceMul, Nat.reduceEqDiff, exists_eq', implies_true, exists_true_left, tys0, tys1, tys2, tys3, tys4, und0, und1, und2, und3, md59, Tryz.ntmps59, Tryz.results59]
            refine br_intro (fun g4 => ?_) (fun g4 => ?_) <;> simp only [q0, q1, q2, q3, q4, q5, q6, q7, q8, q9, zr0, zr1, zr2, zr3, zq0, zq1, zq2, zq3, zq4, Nat.reduceAdd, Nat.reduceSub, lenA, convA, indexA, indexS, Int.reduceToNat, cond_true, cond_false, ↓reduceIte, reduceCtorEq, Nat.reduceLT, Nat.reduceLeDiff, Nat.reduceMul, Nat.reduceEqDiff, exists_eq', implies_true, exists_true_left, tys0, tys1, tys2, tys3, tys4, und0, und1, und2, und3, md59, Tryz.ntmps59, Tryz.results59, List.length_map, List.getElem_map, rulA]
            · refine ⟨⟨k + 1, by omega, by rw [all_succ hk', he, g3, g4]; rfl⟩, by show R.length - (k + 1) < _; omega, ?_⟩
              exact weak_drop (by simp) (by simp [DropHp, ints_below, flts_below, w64_succ k (by omega)]) (by simp [DropTm, DropV, below, belowM, belowL, w64_succ k (by omega)])
            · refine go_round (md := md59) mixed (by kernel_rfl) (fun m : {m : Nat // m ≤ R.length} => ⟨[.rop (bC 96 W), .ro (R.map rulA), .int .i64 x, .any, .any, .any, .bool false, .any, .any, .int .i64 k, .bool ((R.take m.1).any fun t => (t.1 == x && allY W t) && decide (t.2.2.2.2 > R[k].2.2.2.2)), .any, .any, .any, .any, .any, .any, .any, .any, .any, .any, .any, .any, .any, .any, .any, .any, .any, .any, .any, .any, .any, .any, .any, .any, .any, .any, .any, .int .i64 R.length, .int .i64 k, .any, .any, .any, .any, .any, .any, .any, .any, .any, .any, .any, .any, .any, .any, .any, .any, .any, .any, .int .i64 R.length, .int .i64 m.1, .any, .any, .any, .any, .any, .any, .any, .any, .any, .any, .any, .any, .any, .any, .any, .any, .any, .any, .any, .any, .any, .any, .any, .any, .any, .any, .any, .any, .any, .any, .any, .any, .any, .any, .any, .any], []⟩) (fun m => R.length - m.1) ⟨0, by simp⟩ ?_ ?_
              · exact weak_drop (by simp) (by simp [DropHp, ints_below, flts_below, List.length_map]) (by simp [DropTm, DropV, below, belowM, belowL, List.length_map])
              · intro ⟨m, hm⟩
                simp only [q0, q1, q2, q3, q4, q5, q6, q7, q8, q9, zr0, zr1, zr2, zr3, zq0, zq1, zq2, zq3, zq4, Nat.reduceAdd, Nat.reduceSub, lenA, convA, indexA, indexS, Int.reduceToNat, cond_true, cond_false, ↓reduceIte, reduceCtorEq, Nat.reduceLT, Nat.reduceLeDiff, Nat.reduceMul, Nat.reduceEqDiff, exists_eq', implies_true, exists_true_left, tys0, tys1, tys2, tys3, tys4, und0, und1, und2, und3, md59, Tryz.ntmps59, Tryz.results59, List.length_map, List.getElem_map, rulA]
                refine br_intro (fun h2 => ?_) (fun h2 => ?_) <;> simp only [q0, q1, q2, q3, q4, q5, q6, q7, q8, q9, zr0, zr1, zr2, zr3, zq0, zq1, zq2, zq3, zq4, Nat.reduceAdd, Nat.reduceSub, lenA, convA, indexA, indexS, Int.reduceToNat, cond_true, cond_false, ↓reduceIte, reduceCtorEq, Nat.reduceLT, Nat.reduceLeDiff, Nat.reduceMul, Nat.reduceEqDiff, exists_eq', implies_true, exists_true_left, tys0, tys1, tys2, tys3, tys4, und0, und1, und2, und3, md59, Tryz.ntmps59, Tryz.results59, List.length_map, List.getElem_map, rulA]
                · have hm' : m < R.length := by simpa using h2
                  have hr2 := hR.ok _ (List.getElem_mem hm')
                  refine br_intro (fun g5 => ?_) (fun g5 => ?_) <;> simp only [q0, q1, q2, q3, q4, q5, q6, q7, q8, q9, zr0, zr1, zr2, zr3, zq0, zq1, zq2, zq3, zq4, Nat.reduceAdd, Nat.reduceSub, lenA, convA, indexA, indexS, Int.reduceToNat, cond_true, cond_false, ↓reduceIte, reduceCtorEq, Nat.reduceLT, Nat.reduceLeDiff, Nat.reduceMul, Nat.reduceEqDiff, exists_eq', implies_true, exists_true_left, tys0, tys1, tys2, tys3, tys4, und0, und1, und2, und3, md59, Tryz.ntmps59, Tryz.results59, List.length_map, List.getElem_map, rulA]
                  · refine ⟨⟨m + 1, by omega⟩, by show R.length - (m + 1) < _; omega, ?_⟩
                    exact weak_drop (by simp) (by simp [DropHp, ints_below, flts_below, w64_succ m (by omega), any_succ hm', g5]) (by simp [DropTm, DropV, below, belowM, belowL, w64_succ m (by omega), any_succ hm', g5])
                  · refine ⟨hm', ?_⟩
                    refine br_intro (fun g6 => ?_) (fun g6 => ?_) <;> simp only [q0, q1, q2, q3, q4, q5, q6, q7, q8, q9, zr0, zr1, zr2, zr3, zq0, zq1, zq2, zq3, zq4, Nat.reduceAdd, Nat.reduceSub, lenA, convA, indexA, indexS, Int.reduceToNat, cond_true, cond_false, ↓reduceIte, reduceCtorEq, Nat.reduceLT, Nat.reduceLeDiff, Nat.reduceMul, Nat.reduceEqDiff, exists_eq', implies_true, exists_true_left, tys0, tys1, tys2, tys3, tys4, und0, und1, und2, und3, md59, Tryz.ntmps59, Tryz.results59, List.length_map, List.getElem_map, rulA]
                    · refine ⟨hm', callr_ret (l05All_call W R[m] hr2.2.1) rfl rfl ?_⟩
                      simp only [q0, q1, q2, q3, q4, q5, q6, q7, q8, q9, zr0, zr1, zr2, zr3, zq0, zq1, zq2, zq3, zq4, Nat.reduceAdd, Nat.reduceSub, lenA, convA, indexA, indexS, Int.reduceToNat, cond_true, cond_false, ↓reduceIte, reduceCtorEq, Nat.reduceLT, Nat.reduceLeDiff, Nat.reduceMul, Nat.reduceEqDiff, exists_eq', implies_true, exists_true_left, tys0, tys1, tys2, tys3, tys4, und0, und1, und2, und3, md59, Tryz.ntmps59, Tryz.results59, List.length_map, List.getElem_map, rulA]
                      refine br_intro (fun g7 => ?_) (fun g7 => ?_) <;> simp only [q0, q1, q2, q3, q4, q5, q6, q7, q8, q9, zr0, zr1, zr2, zr3, zq0, zq1, zq2, zq3, zq4, Nat.reduceAdd, Nat.reduceSub, lenA, convA, indexA, indexS, Int.reduceToNat, cond_true, cond_false, ↓reduceIte, reduceCtorEq, Nat.reduceLT, Nat.reduceLeDiff, Nat.reduceMul, Nat.reduceEqDiff, exists_eq', implies_true, exists_true_left, tys0, tys1, tys2, tys3, tys4, und0, und1, und2, und3, md59, Tryz.ntmps59, Tryz.results59, List.length_map, List.getElem_map, rulA]
                      · refine ⟨hm', hk', ?_⟩
                        refine ⟨⟨m + 1, by omega⟩, by show R.length - (m + 1) < _; omega, ?_⟩
                        exact weak_drop (by simp) (by simp [DropHp, ints_below, flts_below, w64_succ m (by omega), any_succ hm', g5, g6, g7]) (by simp [DropTm, DropV, below, belowM, belowL, w64_succ m (by omega), any_succ hm', g5, g6, g7])
                      · refine ⟨⟨m + 1, by omega⟩, by show R.length - (m + 1) < _; omega, ?_⟩
                        exact weak_drop (by simp) (by simp [DropHp, ints_below, flts_below, w64_succ m (by omega), any_succ hm', g5, g6, g7]) (by simp [DropTm, DropV, below, belowM, belowL, w64_succ m (by omega), any_succ hm', g5, g6, g7])
                    · refine ⟨⟨m + 1, by omega⟩, by show R.length - (m + 1) < _; omega, ?_⟩
                      exact weak_drop (by simp) (by simp [DropHp, ints_below, flts_below, w64_succ m (by omega), any_succ hm', g5, g6]) (by simp [DropTm, DropV, below, belowM, belowL, w64_succ m (by omega), any_succ hm', g5, g6])
                · have hm' : m = R.length := by simp at h2; omega
                  subst hm'
                  rw [List.take_length]
                  refine br_intro (fun g5 => ?_) (fun g5 => ?_) <;> simp only [q0, q1, q2, q3, q4, q5, q6, q7, q8, q9, zr0, zr1, zr2, zr3, zq0, zq1, zq2, zq3, zq4, Nat.reduceAdd, Nat.reduceSub, lenA, convA, indexA, indexS, Int.reduceToNat, cond_true, cond_false, ↓reduceIte, reduceCtorEq, Nat.reduceLT, Nat.reduceLeDiff, Nat.reduceMul, Nat.reduceEqDiff, exists_eq', implies_true, exists_true_left, tys0, tys1, tys2, tys3, tys4, und0, und1, und2, und3, md59, Tryz.ntmps59, Tryz.results59, List.length_map, List.getElem_map, rulA]
                  · refine ⟨⟨k + 1, by omega, by rw [all_succ hk', he, g3, g4, g5]; rfl⟩, by show R.length - (k + 1) < _; omega, ?_⟩
                    exact weak_drop (by simp) (by simp [DropHp, ints_below, flts_below, w64_succ k (by omega)]) (by simp [DropTm, DropV, below, belowM, belowL, w64_succ k (by omega)])
                  · rw [show prW W R x = false by
                      unfold prW
                      rw [Bool.and_eq_false_iff]; right
                      rw [List.all_eq_false]
                      exact ⟨_, List.getElem_mem hk', by rw [g3, g4, g5]; decide⟩]
                    exact PostR.ret
        · have hk' : k = R.length := by simp at h; omega
          subst hk'
          rw [List.take_length] at he
          rw [show prW W R x = true by unfold prW; rw [g, he]; rfl]
          exact PostR.ret
end Go.Proofs.YtmllengggncmkaaGreat
