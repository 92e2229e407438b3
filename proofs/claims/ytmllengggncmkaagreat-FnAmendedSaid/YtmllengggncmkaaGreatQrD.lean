/- The reference: what is disproved; rules that are active; lists. -/
import Derived.Test.YtmllengggncmkaaGreatQrC
set_option maxRecDepth 10000
set_option maxHeartbeats 4000000
set_option linter.unusedSimpArgs false
set_option linter.unusedVariables false
namespace Go.Proofs.YtmllengggncmkaaGreat
open Go Go.Abs

def unbeaten (W : Nat → Bool) (R : List Rul) (x : Int) (r : Rul) : Bool := R.all fun t => !((t.1 == x && !somN W t) && decide (t.2.2.2.2 > r.2.2.2.2))
def beatsW (W : Nat → Bool) (R : List Rul) (x : Int) : Bool := R.any fun r => (r.1 == -x && allY W r) && unbeaten W R x r
def dsW (W : Nat → Bool) (R : List Rul) (x : Int) : Bool := R.all fun t => !((t.1 == x && !somN W t) && !beatsW W R x)
theorem l05Disproved_call (W : Nat → Bool) (R : List Rul) (hR : Rls R) (x : Int) (hx : wordB x = true) : CallA Tryz.prog 60 [.rop (bC 96 W), .ro (R.map rulA), .int .i64 x] [] (Ret (.bool (dsW W R x)) []) := by
  have hl := hR.len
  have hx' := wordB_low hx
  have wx : IntKind.i64.wrap (0 - x) = -x := by rw [w64 (by omega) (by omega)]; omega
  refine CallP.out (t := .mk) (go_in (md := md60) mixed Tryz.func60 rfl go60 (by kernel_rfl) ?_)
  simp only [q0, q1, q2, q3, q4, q5, q6, q7, q8, q9, zr0, zr1, zr2, zr3, zq0, zq1, zq2, zq3, zq4, Nat.reduceAdd, Nat.reduceSub, lenA, convA, indexA, indexS, Int.reduceToNat, cond_true, cond_false, ↓reduceIte, reduceCtorEq, Nat.reduceLT, Nat.reduceLeDiff, Nat.reduceMul, Nat.reduceEqDiff, exists_eq', implies_true, exists_true_left, tys0, tys1, tys2, tys3, tys4, und0, und1, und2, und3, md60, Tryz.ntmps60, Tryz.results60]
  refine go_round (md := md60) mixed (by kernel_rfl) (fun k : {k : Nat // k ≤ R.length} => ⟨[.rop (bC 96 W), .ro (R.map rulA), .int .i64 x, .any, .any, .any, .bool false, .bool ((R.take k.1).any fun r => (r.1 == -x && allY W r) && unbeaten W R x r), .any, .any, .any, .any, .any, .int .i64 R.length, .int .i64 k.1, .any, .any, .any, .any, .any, .any, .any, .any, .any, .any, .any, .any, .any, .any, .any, .any, .any, .any, .any, .any, .any, .any, .any, .any, .any, .any, .any, .any, .any, .any, .any, .any, .any, .any, .any, .any, .any, .any, .any, .any, .any, .any, .any, .any, .any, .any, .any, .any, .any, .any, .any, .any, .any, .any, .any, .any, .any, .any, .any, .any, .any, .any, .any, .any, .any, .any, .any, .any, .any, .any, .any, .any, .any, .any, .any, .any, .any, .any, .any, .any, .any, .any], []⟩) (fun k => R.length - k.1) ⟨0, by simp⟩ ?_ ?_
  · exact weak_drop (by simp) (by simp [DropHp, ints_below, flts_below, List.length_map]) (by simp [DropTm, DropV, below, belowM, belowL, List.length_map])
  · intro ⟨k, hk⟩
    simp only [q0, q1, q2, q3, q4, q5, q6, q7, q8, q9, zr0, zr1, zr2, zr3, zq0, zq1, zq2, zq3, zq4, Nat.reduceAdd, Nat.reduceSub, lenA, convA, indexA, indexS, Int.reduceToNat, cond_true, cond_false, ↓reduceIte, reduceCtorEq, Nat.reduceLT, Nat.reduceLeDiff, Nat.reduceMul, Nat.reduceEqDiff, exists_eq', implies_true, exists_true_left, tys0, tys1, tys2, tys3, tys4, und0, und1, und2, und3, md60, Tryz.ntmps60, Tryz.results60, List.length_map, List.getElem_map, rulA, wx]
    refine br_intro (fun h => ?_) (fun h => ?_) <;> simp only [q0, q1, q2, q3, q4, q5, q6, q7, q8, q9, zr0, zr1, zr2, zr3, zq0, zq1, zq2, zq3, zq4, Nat.reduceAdd, Nat.reduceSub, lenA, convA, indexA, indexS, Int.reduceToNat, cond_true, cond_false, ↓reduceIte, reduceCtorEq, Nat.reduceLT, Nat.reduceLeDiff, Nat.reduceMul, Nat.reduceEqDiff, exists_eq', implies_true, exists_true_left, tys0, tys1, tys2, tys3, tys4, und0, und1, und2, und3, md60, Tryz.ntmps60, Tryz.results60, List.length_map, List.getElem_map, rulA, wx]
    · have hk' : k < R.length := by simpa using h
      have hr := hR.ok _ (List.getElem_mem hk')
      refine ⟨hk', ?_⟩
      refine br_intro (fun g => ?_) (fun g => ?_) <;> simp only [q0, q1, q2, q3, q4, q5, q6, q7, q8, q9, zr0, zr1, zr2, zr3, zq0, zq1, zq2, zq3, zq4, Nat.reduceAdd, Nat.reduceSub, lenA, convA, indexA, indexS, Int.reduceToNat, cond_true, cond_false, ↓reduceIte, reduceCtorEq, Nat.reduceLT, Nat.reduceLeDiff, Nat.reduceMul, Nat.reduceEqDiff, exists_eq', implies_true, exists_true_left, tys0, tys1, tys2, tys3, tys4, und0, und1, und2, und3, md60, Tryz.ntmps60, Tryz.results60, List.length_map, List.getElem_map, rulA]
      · have g' : (R[k].1 == -x) = false := by simpa using g
        refine ⟨⟨k + 1, by omega⟩, by show R.length - (k + 1) < _; omega, ?_⟩
        exact weak_drop (by simp) (by simp [DropHp, ints_below, flts_below, w64_succ k (by omega), any_succ hk', g']) (by simp [DropTm, DropV, below, belowM, belowL, w64_succ k (by omega), any_succ hk', g'])
      · have g' : (R[k].1 == -x) = true := by simpa using g
        refine ⟨hk', call_ret (l05All_call W R[k] hr.2.1) rfl rfl ?_⟩
        simp only [q0, q1, q2, q3, q4, q5, q6, q7, q8, q9, zr0, zr1, zr2, zr3, zq0, zq1, zq2, zq3, zq4, Nat.reduceAdd, Nat.reduceSub, lenA, convA, indexA, indexS, Int.reduceToNat, cond_true, cond_false, ↓reduceIte, reduceCtorEq, Nat.reduceLT, Nat.reduceLeDiff, Nat.reduceMul, Nat.reduceEqDiff, exists_eq', implies_true, exists_true_left, tys0, tys1, tys2, tys3, tys4, und0, und1, und2, und3, md60, Tryz.ntmps60, Tryz.results60]
        refine br_intro (fun g2 => ?_) (fun g2 => ?_) <;> simp only [q0, q1, q2, q3, q4, q5, q6, q7, q8, q9, zr0, zr1, zr2, zr3, zq0, zq1, zq2, zq3, zq4, Nat.reduceAdd, Nat.reduceSub, lenA, convA, indexA, indexS, Int.reduceToNat, cond_true, cond_false, ↓reduceIte, reduceCtorEq, Nat.reduceLT, Nat.reduceLeDiff, Nat.reduceMul, Nat.reduceEqDiff, exists_eq', implies_true, exists_true_left, tys0, tys1, tys2, tys3, tys4, und0, und1, und2, und3, md60, Tryz.ntmps60, Tryz.results60, List.length_map, List.getElem_map, rulA]
        rotate_left
        · refine ⟨⟨k + 1, by omega⟩, by show R.length - (k + 1) < _; omega, ?_⟩
          exact weak_drop (by simp) (by simp [DropHp, ints_below, flts_below, w64_succ k (by omega), any_succ hk', g', g2]) (by simp [DropTm, DropV, below, belowM, belowL, w64_succ k (by omega), any_succ hk', g', g2])
        refine go_round (md := md60) mixed (by kernel_rfl) (fun m : {m : Nat // m ≤ R.length} => ⟨[.rop (bC 96 W), .ro (R.map rulA), .int .i64 x, .any, .any, .any, .bool false, .bool ((R.take k).any fun r => (r.1 == -x && allY W r) && unbeaten W R x r), .int .i64 k, .bool ((R.take m.1).all fun t => !((t.1 == x && !somN W t) && decide (t.2.2.2.2 > R[k].2.2.2.2))), .any, .any, .any, .int .i64 R.length, .int .i64 k, .any, .any, .any, .any, .any, .any, .any, .any, .any, .any, .any, .any, .any, .any, .any, .any, .any, .any, .any, .int .i64 R.length, .int .i64 m.1, .any, .any, .any, .any, .any, .any, .any, .any, .any, .any, .any, .any, .any, .any, .any, .any, .any, .any, .any, .any, .any, .any, .any, .any, .any, .any, .any, .any, .any, .any, .any, .any, .any, .any, .any, .any, .any, .any, .any, .any, .any, .any, .any, .any, .any, .any, .any, .any, .any, .any, .any, .any, .any, .any, .any, .any, .any, .any, .any, .any, .any], []⟩) (fun m => R.length - m.1) ⟨0, by simp⟩ ?_ ?_
        · exact weak_drop (by simp) (by simp [DropHp, ints_below, flts_below, List.length_map]) (by simp [DropTm, DropV, below, belowM, belowL, List.length_map])
        · intro ⟨m, hm⟩
          simp only [q0, q1, q2, q3, q4, q5, q6, q7, q8, q9, zr0, zr1, zr2, zr3, zq0, zq1, zq2, zq3, zq4, Nat.reduceAdd, Nat.reduceSub, lenA, convA, indexA, indexS, Int.reduceToNat, cond_true, cond_false, ↓reduceIte, reduceCtorEq, Nat.reduceLT, Nat.reduceLeDiff, Nat.reduceMul, Nat.reduceEqDiff, exists_eq', implies_true, exists_true_left, tys0, tys1, tys2, tys3, tys4, und0, und1, und2, und3, md60, Tryz.ntmps60, Tryz.results60, List.length_map, List.getElem_map, rulA]
          refine br_intro (fun h2 => ?_) (fun h2 => ?_) <;> simp only [q0, q1, q2, q3, q4, q5, q6, q7, q8, q9, zr0, zr1, zr2, zr3, zq0, zq1, zq2, zq3, zq4, Nat.reduceAdd, Nat.reduceSub, lenA, convA, indexA, indexS, Int.reduceToNat, cond_true, cond_false, ↓reduceIte, reduceCtorEq, Nat.reduceLT, Nat.reduceLeDiff, Nat.reduceMul, Nat.reduceEqDiff, exists_eq', implies_true, exists_true_left, tys0, tys1, tys2, tys3, tys4, und0, und1, und2, und3, md60, Tryz.ntmps60, Tryz.results60, List.length_map, List.getElem_map, rulA]
          · have hm' : m < R.length := by simpa using h2
            have hr2 := hR.ok _ (List.getElem_mem hm')
            refine ⟨hm', ?_⟩
            refine br_intro (fun g6 => ?_) (fun g6 => ?_) <;> simp only [q0, q1, q2, q3, q4, q5, q6, q7, q8, q9, zr0, zr1, zr2, zr3, zq0, zq1, zq2, zq3, zq4, Nat.reduceAdd, Nat.reduceSub, lenA, convA, indexA, indexS, Int.reduceToNat, cond_true, cond_false, ↓reduceIte, reduceCtorEq, Nat.reduceLT, Nat.reduceLeDiff, Nat.reduceMul, Nat.reduceEqDiff, exists_eq', implies_true, exists_true_left, tys0, tys1, tys2, tys3, tys4, und0, und1, und2, und3, md60, Tryz.ntmps60, Tryz.results60, List.length_map, List.getElem_map, rulA]
            · refine ⟨hm', callr_ret (l05Some_call W R[m] hr2.2.1) rfl rfl ?_⟩
              simp only [q0, q1, q2, q3, q4, q5, q6, q7, q8, q9, zr0, zr1, zr2, zr3, zq0, zq1, zq2, zq3, zq4, Nat.reduceAdd, Nat.reduceSub, lenA, convA, indexA, indexS, Int.reduceToNat, cond_true, cond_false, ↓reduceIte, reduceCtorEq, Nat.reduceLT, Nat.reduceLeDiff, Nat.reduceMul, Nat.reduceEqDiff, exists_eq', implies_true, exists_true_left, tys0, tys1, tys2, tys3, tys4, und0, und1, und2, und3, md60, Tryz.ntmps60, Tryz.results60, List.length_map, List.getElem_map, rulA]
              refine br_intro (fun g7 => ?_) (fun g7 => ?_) <;> simp only [q0, q1, q2, q3, q4, q5, q6, q7, q8, q9, zr0, zr1, zr2, zr3, zq0, zq1, zq2, zq3, zq4, Nat.reduceAdd, Nat.reduceSub, lenA, convA, indexA, indexS, Int.reduceToNat, cond_true, cond_false, ↓reduceIte, reduceCtorEq, Nat.reduceLT, Nat.reduceLeDiff, Nat.reduceMul, Nat.reduceEqDiff, exists_eq', implies_true, exists_true_left, tys0, tys1, tys2, tys3, tys4, und0, und1, und2, und3, md60, Tryz.ntmps60, Tryz.results60, List.length_map, List.getElem_map, rulA]
              · refine ⟨⟨m + 1, by omega⟩, by show R.length - (m + 1) < _; omega, ?_⟩
                exact weak_drop (by simp) (by simp [DropHp, ints_below, flts_below, w64_succ m (by omega), all_succ hm', g6, g7]) (by simp [DropTm, DropV, below, belowM, belowL, w64_succ m (by omega), all_succ hm', g6, g7])
              · refine ⟨hm', hk', ?_⟩
                refine br_intro (fun g8 => ?_) (fun g8 => ?_) <;> simp only [q0, q1, q2, q3, q4, q5, q6, q7, q8, q9, zr0, zr1, zr2, zr3, zq0, zq1, zq2, zq3, zq4, Nat.reduceAdd, Nat.reduceSub, lenA, convA, indexA, indexS, Int.reduceToNat, cond_true, cond_false, ↓reduceIte, reduceCtorEq, Nat.reduceLT, Nat.reduceLeDiff, Nat.reduceMul, Nat.reduceEqDiff, exists_eq', implies_true, exists_true_left, tys0, tys1, tys2, tys3, tys4, und0, und1, und2, und3, md60, Tryz.ntmps60, Tryz.results60, List.length_map, List.getElem_map, rulA]
                · have g8' : R[k].2.2.2.2 < R[m].2.2.2.2 := of_decide_eq_true g8
                  refine ⟨⟨m + 1, by omega⟩, by show R.length - (m + 1) < _; omega, ?_⟩
                  exact weak_drop (by simp) (by simp [DropHp, ints_below, flts_below, w64_succ m (by omega), all_succ hm', g6, g7, g8']) (by simp [DropTm, DropV, below, belowM, belowL, w64_succ m (by omega), all_succ hm', g6, g7, g8'])
                · have g8' : ¬ R[k].2.2.2.2 < R[m].2.2.2.2 := of_decide_eq_false g8
                  refine ⟨⟨m + 1, by omega⟩, by show R.length - (m + 1) < _; omega, ?_⟩
                  exact weak_drop (by simp) (by simp [DropHp, ints_below, flts_below, w64_succ m (by omega), all_succ hm', g6, g7, g8']) (by simp [DropTm, DropV, below, belowM, belowL, w64_succ m (by omega), all_succ hm', g6, g7, g8'])
            · refine ⟨⟨m + 1, by omega⟩, by show R.length - (m + 1) < _; omega, ?_⟩
              exact weak_drop (by simp) (by simp [DropHp, ints_below, flts_below, w64_succ m (by omega), all_succ hm', g6]) (by simp [DropTm, DropV, below, belowM, belowL, w64_succ m (by omega), all_succ hm', g6])
          · have hm' : m = R.length := by simp at h2; omega
            subst hm'
            rw [List.take_length]
            have eu : (R.all fun t => !((t.1 == x && !somN W t) && decide (t.2.2.2.2 > R[k].2.2.2.2))) = unbeaten W R x R[k] := rfl
            rw [eu]
            refine br_intro (fun g9 => ?_) (fun g9 => ?_) <;> simp only [q0, q1, q2, q3, q4, q5, q6, q7, q8, q9, zr0, zr1, zr2, zr3, zq0, zq1, zq2, zq3, zq4, Nat.reduceAdd, Nat.reduceSub, lenA, convA, indexA, indexS, Int.reduceToNat, cond_true, cond_false, ↓reduceIte, reduceCtorEq, Nat.reduceLT, Nat.reduceLeDiff, Nat.reduceMul, Nat.reduceEqDiff, exists_eq', implies_true, exists_true_left, tys0, tys1, tys2, tys3, tys4, und0, und1, und2, und3, md60, Tryz.ntmps60, Tryz.results60, List.length_map, List.getElem_map, rulA]
            · refine ⟨⟨k + 1, by omega⟩, by show R.length - (k + 1) < _; omega, ?_⟩
              exact weak_drop (by simp) (by simp [DropHp, ints_below, flts_below, w64_succ k (by omega), any_succ hk', g', g2, g9]) (by simp [DropTm, DropV, below, belowM, belowL, w64_succ k (by omega), any_succ hk', g', g2, g9])
            · refine ⟨⟨k + 1, by omega⟩, by show R.length - (k + 1) < _; omega, ?_⟩
              exact weak_drop (by simp) (by simp [DropHp, ints_below, flts_below, w64_succ k (by omega), any_succ hk', g', g2, g9]) (by simp [DropTm, DropV, below, belowM, belowL, w64_succ k (by omega), any_succ hk', g', g2, g9])
    · have hk' : k = R.length := by simp at h; omega
      subst hk'
      rw [List.take_length]
      have eb : (R.any fun r => (r.1 == -x && allY W r) && unbeaten W R x r) = beatsW W R x := rfl
      rw [eb]
      refine go_round (md := md60) mixed (by kernel_rfl) (fun k : {k : Nat // k ≤ R.length ∧ (R.take k).all (fun t => !((t.1 == x && !somN W t) && !beatsW W R x)) = true} => ⟨[.rop (bC 96 W), .ro (R.map rulA), .int .i64 x, .any, .any, .any, .bool false, .bool (beatsW W R x), .any, .any, .any, .any, .any, .any, .any, .any, .any, .any, .any, .any, .any, .any, .any, .any, .any, .any, .any, .any, .any, .any, .any, .any, .any, .any, .any, .any, .any, .any, .any, .any, .any, .any, .any, .any, .any, .any, .any, .any, .any, .any, .any, .any, .any, .any, .any, .any, .any, .any, .any, .any, .any, .any, .any, .any, .any, .any, .any, .any, .any, .any, .any, .any, .any, .int .i64 R.length, .int .i64 k.1, .any, .any, .any, .any, .any, .any, .any, .any, .any, .any, .any, .any, .any, .any, .any, .any, .any, .any, .any, .any, .any, .any], []⟩) (fun k => R.length - k.1) ⟨0, by simp⟩ ?_ ?_
      · exact weak_drop (by simp) (by simp [DropHp, ints_below, flts_below, List.length_map]) (by simp [DropTm, DropV, below, belowM, belowL, List.length_map])
      · intro ⟨k, hk, he⟩
        simp only [q0, q1, q2, q3, q4, q5, q6, q7, q8, q9, zr0, zr1, zr2, zr3, zq0, zq1, zq2, zq3, zq4, Nat.reduceAdd, Nat.reduceSub, lenA, convA, indexA, indexS, Int.reduceToNat, cond_true, cond_false, ↓reduceIte, reduceCtorEq, Nat.reduceLT, Nat.reduceLeDiff, Nat.reduceMul, Nat.reduceEqDiff, exists_eq', implies_true, exists_true_left, tys0, tys1, tys2, tys3, tys4, und0, und1, und2, und3, md60, Tryz.ntmps60, Tryz.results60, List.length_map, List.getElem_map, rulA, wx]
        refine br_intro (fun h => ?_) (fun h => ?_) <;> simp only [q0, q1, q2, q3, q4, q5, q6, q7, q8, q9, zr0, zr1, zr2, zr3, zq0, zq1, zq2, zq3, zq4, Nat.reduceAdd, Nat.reduceSub, lenA, convA, indexA, indexS, Int.reduceToNat, cond_true, cond_false, ↓reduceIte, reduceCtorEq, Nat.reduceLT, Nat.reduceLeDiff, Nat.reduceMul, Nat.reduceEqDiff, exists_eq', implies_true, exists_true_left, tys0, tys1, tys2, tys3, tys4, und0, und1, und2, und3, md60, Tryz.ntmps60, Tryz.results60, List.length_map, List.getElem_map, rulA, wx]
        · have hk' : k < R.length := by simpa using h
          have hr := hR.ok _ (List.getElem_mem hk')
          refine ⟨hk', ?_⟩
          refine br_intro (fun g3 => ?_) (fun g3 => ?_) <;> simp only [q0, q1, q2, q3, q4, q5, q6, q7, q8, q9, zr0, zr1, zr2, zr3, zq0, zq1, zq2, zq3, zq4, Nat.reduceAdd, Nat.reduceSub, lenA, convA, indexA, indexS, Int.reduceToNat, cond_true, cond_false, ↓reduceIte, reduceCtorEq, Nat.reduceLT, Nat.reduceLeDiff, Nat.reduceMul, Nat.reduceEqDiff, exists_eq', implies_true, exists_true_left, tys0, tys1, tys2, tys3, tys4, und0, und1, und2, und3, md60, Tryz.ntmps60, Tryz.results60, List.length_map, List.getElem_map, rulA]
          · refine ⟨hk', call_ret (l05Some_call W R[k] hr.2.1) rfl rfl ?_⟩
            simp only [q0, q1, q2, q3, q4, q5, q6, q7, q8, q9, zr0, zr1, zr2, zr3, zq0, zq1, zq2, zq3, zq4, Nat.reduceAdd, Nat.reduceSub, lenA, convA, indexA, indexS, Int.reduceToNat, cond_true, cond_false, ↓reduceIte, reduceCtorEq, Nat.reduceLT, Nat.reduceLeDiff, Nat.reduceMul, Nat.reduceEqDiff, exists_eq', implies_true, exists_true_left, tys0, tys1, tys2, tys3, tys4, und0, und1, und2, und3, md60, Tryz.ntmps60, Tryz.results60]
            refine br_intro (fun g4 => ?_) (fun g4 => ?_) <;> simp only [q0, q1, q2, q3, q4, q5, q6, q7, q8, q9, zr0, zr1, zr2, zr3, zq0, zq1, zq2, zq3, zq4, Nat.reduceAdd, Nat.reduceSub, lenA, convA, indexA, indexS, Int.reduceToNat, cond_true, cond_false, ↓reduceIte, reduceCtorEq, Nat.reduceLT, Nat.reduceLeDiff, Nat.reduceMul, Nat.reduceEqDiff, exists_eq', implies_true, exists_true_left, tys0, tys1, tys2, tys3, tys4, und0, und1, und2, und3, md60, Tryz.ntmps60, Tryz.results60, List.length_map, List.getElem_map, rulA]
            · refine ⟨⟨k + 1, by omega, by rw [all_succ hk', he, g4]; simp⟩, by show R.length - (k + 1) < _; omega, ?_⟩
              exact weak_drop (by simp) (by simp [DropHp, ints_below, flts_below, w64_succ k (by omega)]) (by simp [DropTm, DropV, below, belowM, belowL, w64_succ k (by omega)])
            · refine br_intro (fun g5 => ?_) (fun g5 => ?_) <;> simp only [q0, q1, q2, q3, q4, q5, q6, q7, q8, q9, zr0, zr1, zr2, zr3, zq0, zq1, zq2, zq3, zq4, Nat.reduceAdd, Nat.reduceSub, lenA, convA, indexA, indexS, Int.reduceToNat, cond_true, cond_false, ↓reduceIte, reduceCtorEq, Nat.reduceLT, Nat.reduceLeDiff, Nat.reduceMul, Nat.reduceEqDiff, exists_eq', implies_true, exists_true_left, tys0, tys1, tys2, tys3, tys4, und0, und1, und2, und3, md60, Tryz.ntmps60, Tryz.results60, List.length_map, List.getElem_map, rulA]
              · refine ⟨⟨k + 1, by omega, by rw [all_succ hk', he, g5]; simp⟩, by show R.length - (k + 1) < _; omega, ?_⟩
                exact weak_drop (by simp) (by simp [DropHp, ints_below, flts_below, w64_succ k (by omega)]) (by simp [DropTm, DropV, below, belowM, belowL, w64_succ k (by omega)])
              · rw [show dsW W R x = false by
                  unfold dsW
                  rw [List.all_eq_false]
                  exact ⟨_, List.getElem_mem hk', by rw [g3, g4, g5]; decide⟩]
                exact PostR.ret
          · refine ⟨⟨k + 1, by omega, by rw [all_succ hk', he, g3]; rfl⟩, by show R.length - (k + 1) < _; omega, ?_⟩
            exact weak_drop (by simp) (by simp [DropHp, ints_below, flts_below, w64_succ k (by omega)]) (by simp [DropTm, DropV, below, belowM, belowL, w64_succ k (by omega)])
        · have hk' : k = R.length := by simp at h; omega
          subst hk'
          rw [List.take_length] at he
          rw [show dsW W R x = true from he]
          exact PostR.ret
end Go.Proofs.YtmllengggncmkaaGreat
