/- Days on which rules change: both sides. -/
import Derived.Test.YtmllengggncmkaaGreatAmB
set_option maxRecDepth 10000
set_option maxHeartbeats 8000000
set_option linter.unusedSimpArgs false
set_option linter.unusedVariables false
namespace Go.Proofs.YtmllengggncmkaaGreat
open Go Go.Abs

theorem okDays {R : List Rul} (rb : rulesB R = true) : ∀ r ∈ R, 0 ≤ r.2.2.1 ∧ r.2.2.1 ≤ 100000 ∧ 0 ≤ r.2.2.2.1 ∧ r.2.2.2.1 ≤ 100000 ∧ r.2.2.1 ≤ r.2.2.2.1 := fun r hr => by
  unfold rulesB at rb
  rw [Bool.and_eq_true] at rb
  have := List.all_eq_true.1 rb.1 r hr
  unfold ruleB inR at this
  simp only [Bool.and_eq_true, decide_eq_true_eq] at this
  omega
theorem take_dsR (R : List Rul) (k : Nat) (h : k < R.length) : dsR (R.take (k + 1)) = dsR (R.take k) ++ [R[k].2.2.1, R[k].2.2.2.1 + 1].filter (inR 1 100000) := by rw [take_snoc _ _ h, dsR_snoc]
theorem cmpI_le : ∀ l : List Int, (cmpI l).length ≤ l.length
  | [] => Nat.le_refl _
  | [_] => Nat.le_refl _
  | x :: y :: l => by
    have ih := cmpI_le (y :: l)
    show (if x = y then cmpI (y :: l) else x :: cmpI (y :: l)).length ≤ _
    split
    · simp only [List.length_cons] at ih ⊢; omega
    · simp only [List.length_cons] at ih ⊢; omega
theorem take_filt (p : Int → Bool) (l : List Int) (m : Nat) (h : m < l.length) : (l.take (m + 1)).filter p = (l.take m).filter p ++ if p l[m] = true then [l[m]] else [] := by
  rw [take_snoc _ _ h, List.filter_append]
  cases hp : p l[m] <;> simp [hp]
theorem changes0_call (R : List Rul) (rb : rulesB R = true) (hl : R.length ≤ 24) : CallA Tryz.prog 22 [.ro (R.map rulA)] [] (Ret (.sl 0 0 (cmpI (sortI (dsR R))).length) [intB (cmpI (sortI (dsR R)))]) := by
  have od := okDays rb
  have dl := dsR_len R
  refine CallP.out (t := .mk) (go_in (md := md22) mixed Tryz.func22 rfl go22 (by kernel_rfl) ?_)
  simp only [q0, q1, q2, q3, q4, q5, q6, q7, q8, q9, zr0, zr1, zr2, zr3, zq0, zq1, zq2, zq3, zq4, Nat.reduceAdd, Nat.reduceSub, lenA, convA, indexA, indexS, Int.reduceToNat, cond_true, cond_false, ↓reduceIte, reduceCtorEq, Nat.reduceLT, Nat.reduceLeDiff, Nat.reduceMul, Nat.reduceEqDiff, exists_eq', implies_true, exists_true_left, tys0, tys1, tys2, tys3, tys4, und0, und1, und2, und3, md22, Tryz.ntmps22, Tryz.results22, List.length_map]
  refine go_round (md := md22) mixed (by kernel_rfl) (fun k : {k : Nat // k ≤ R.length} => ⟨[.any, .any, .any, .sl 0 0 (dsR (R.take k.1)).length, .any, .any, .any, .any, .any, .ro (R.map rulA), .int .i64 R.length, .int .i64 k.1, .any, .any, .any, .any, .any, .any, .any, .any, .any, .any, .any, .any, .any, .any, .any, .any, .any, .any, .any, .any, .any, .any, .any, .any, .any, .any], [intB (dsR (R.take k.1))]⟩) (fun k => R.length - k.1) ⟨0, Nat.zero_le _⟩ ?_ ?_
  · exact weak_drop (by simp) (by simp [DropHp, ints_below, flts_below, intB, allBelow_cons, allBelow_nil, below, belowM, belowL, show dsR [] = [] from rfl, show ints [] = [] from rfl, List.take_zero, List.length_nil]) (by simp [DropTm, DropV, below, belowM, belowL, intB, allBelow_cons, allBelow_nil, below, belowM, belowL, show dsR [] = [] from rfl, show ints [] = [] from rfl, List.take_zero, List.length_nil])
  rintro ⟨k, hk⟩
  have dk := dsR_len (R.take k)
  rw [List.length_take] at dk
  simp only [q0, q1, q2, q3, q4, q5, q6, q7, q8, q9, zr0, zr1, zr2, zr3, zq0, zq1, zq2, zq3, zq4, Nat.reduceAdd, Nat.reduceSub, lenA, convA, indexA, indexS, Int.reduceToNat, cond_true, cond_false, ↓reduceIte, reduceCtorEq, Nat.reduceLT, Nat.reduceLeDiff, Nat.reduceMul, Nat.reduceEqDiff, exists_eq', implies_true, exists_true_left, tys0, tys1, tys2, tys3, tys4, und0, und1, und2, und3, md22, Tryz.ntmps22, Tryz.results22, intB, List.length_map]
  refine br_intro (fun h => ?_) (fun h => ?_) <;> simp only [q0, q1, q2, q3, q4, q5, q6, q7, q8, q9, zr0, zr1, zr2, zr3, zq0, zq1, zq2, zq3, zq4, Nat.reduceAdd, Nat.reduceSub, lenA, convA, indexA, indexS, Int.reduceToNat, cond_true, cond_false, ↓reduceIte, reduceCtorEq, Nat.reduceLT, Nat.reduceLeDiff, Nat.reduceMul, Nat.reduceEqDiff, exists_eq', implies_true, exists_true_left, tys0, tys1, tys2, tys3, tys4, und0, und1, und2, und3, md22, Tryz.ntmps22, Tryz.results22, intB, List.length_map]
  · have hk' : k < R.length := by simpa using h
    have od1 := od _ (List.getElem_mem hk')
    have ws : IntKind.i64.wrap (R[k].2.2.2.1 + 1) = R[k].2.2.2.1 + 1 := w64 (by omega) (by omega)
    have wk := w64_succ k (by omega)
    refine ⟨hk', ?_⟩
    simp only [q0, q1, q2, q3, q4, q5, q6, q7, q8, q9, zr0, zr1, zr2, zr3, zq0, zq1, zq2, zq3, zq4, Nat.reduceAdd, Nat.reduceSub, lenA, convA, indexA, indexS, Int.reduceToNat, cond_true, cond_false, ↓reduceIte, reduceCtorEq, Nat.reduceLT, Nat.reduceLeDiff, Nat.reduceMul, Nat.reduceEqDiff, exists_eq', implies_true, exists_true_left, tys0, tys1, tys2, tys3, tys4, und0, und1, und2, und3, md22, Tryz.ntmps22, Tryz.results22, intB, List.getElem_map, rulA, List.length_map, ws]
    refine go_round (md := md22) mixed (by kernel_rfl) (fun m : {m : Nat // m ≤ 2} => ⟨[.any, .any, .any, .sl 0 0 (dsR (R.take k) ++ ([R[k].2.2.1, R[k].2.2.2.1 + 1].take m.1).filter (inR 1 100000)).length, .any, .any, .any, .any, .any, .ro (R.map rulA), .int .i64 R.length, .int .i64 k, .any, .any, .any, .any, .any, .any, .any, .any, .sl 1 0 2, .int .i64 2, .int .i64 m.1, .any, .any, .any, .any, .any, .any, .any, .any, .any, .any, .any, .any, .any, .any, .any], [intB (dsR (R.take k) ++ ([R[k].2.2.1, R[k].2.2.2.1 + 1].take m.1).filter (inR 1 100000)), intB [R[k].2.2.1, R[k].2.2.2.1 + 1]]⟩) (fun m => 2 - m.1) ⟨0, Nat.zero_le _⟩ ?_ ?_
    · simp only [List.take_zero, List.filter_nil, List.append_nil]
      exact weak_names [0, 2] (by decide) (by decide) (by decide) (by simp [SubG, renB, ints_ren, ints_below, kint_ren, kint_below, ren, renM, renL, intB, allBelow_cons, allBelow_nil, below, belowM, belowL, show ints [R[k].2.2.1, R[k].2.2.2.1 + 1] = [.int .i64 R[k].2.2.1, .int .i64 (R[k].2.2.2.1 + 1)] from rfl]) (by simp [LeTm, LeV, ren, renM, renL, below, belowM, belowL, intB, allBelow_cons, allBelow_nil, below, belowM, belowL, show ints [R[k].2.2.1, R[k].2.2.2.1 + 1] = [.int .i64 R[k].2.2.1, .int .i64 (R[k].2.2.2.1 + 1)] from rfl])
    rintro ⟨m, hm⟩
    generalize hG : [R[k].2.2.1, R[k].2.2.2.1 + 1] = G at *
    have gl : G.length = 2 := by rw [← hG]; rfl
    generalize hD : dsR (R.take k) = D at *
    have fl := List.length_filter_le (inR 1 100000) (G.take m)
    rw [List.length_take] at fl
    simp only [q0, q1, q2, q3, q4, q5, q6, q7, q8, q9, zr0, zr1, zr2, zr3, zq0, zq1, zq2, zq3, zq4, Nat.reduceAdd, Nat.reduceSub, lenA, convA, indexA, indexS, Int.reduceToNat, cond_true, cond_false, ↓reduceIte, reduceCtorEq, Nat.reduceLT, Nat.reduceLeDiff, Nat.reduceMul, Nat.reduceEqDiff, exists_eq', implies_true, exists_true_left, tys0, tys1, tys2, tys3, tys4, und0, und1, und2, und3, md22, Tryz.ntmps22, Tryz.results22, intB, List.length_map]
    refine br_intro (fun h2 => ?_) (fun h2 => ?_) <;> simp only [q0, q1, q2, q3, q4, q5, q6, q7, q8, q9, zr0, zr1, zr2, zr3, zq0, zq1, zq2, zq3, zq4, Nat.reduceAdd, Nat.reduceSub, lenA, convA, indexA, indexS, Int.reduceToNat, cond_true, cond_false, ↓reduceIte, reduceCtorEq, Nat.reduceLT, Nat.reduceLeDiff, Nat.reduceMul, Nat.reduceEqDiff, exists_eq', implies_true, exists_true_left, tys0, tys1, tys2, tys3, tys4, und0, und1, und2, und3, md22, Tryz.ntmps22, Tryz.results22, intB, List.length_map]
    · have hm' : m < 2 := by have := of_decide_eq_true h2; omega
      have hmg : m < G.length := by omega
      have tf := take_filt (inR 1 100000) G m hmg
      have wm := w64_succ m (by omega)
      refine ⟨by omega, by omega, ?_⟩
      refine call_ret (within_call G[m] 1 100000) rfl rfl ?_
      simp only [q0, q1, q2, q3, q4, q5, q6, q7, q8, q9, zr0, zr1, zr2, zr3, zq0, zq1, zq2, zq3, zq4, Nat.reduceAdd, Nat.reduceSub, lenA, convA, indexA, indexS, Int.reduceToNat, cond_true, cond_false, ↓reduceIte, reduceCtorEq, Nat.reduceLT, Nat.reduceLeDiff, Nat.reduceMul, Nat.reduceEqDiff, exists_eq', implies_true, exists_true_left, tys0, tys1, tys2, tys3, tys4, und0, und1, und2, und3, md22, Tryz.ntmps22, Tryz.results22, intB, List.length_map, allW_int, fits, List.isEmpty_cons, brk_false, Nat.reduceMul]
      refine br_intro (fun b => ?_) (fun b => ?_) <;> simp only [q0, q1, q2, q3, q4, q5, q6, q7, q8, q9, zr0, zr1, zr2, zr3, zq0, zq1, zq2, zq3, zq4, Nat.reduceAdd, Nat.reduceSub, lenA, convA, indexA, indexS, Int.reduceToNat, cond_true, cond_false, ↓reduceIte, reduceCtorEq, Nat.reduceLT, Nat.reduceLeDiff, Nat.reduceMul, Nat.reduceEqDiff, exists_eq', implies_true, exists_true_left, tys0, tys1, tys2, tys3, tys4, und0, und1, und2, und3, md22, Tryz.ntmps22, Tryz.results22, intB, List.length_map, allW_int, fits, List.isEmpty_cons, brk_false, Nat.reduceMul]
      · rw [b, if_pos rfl] at tf
        have el : (D ++ (G.take m).filter (inR 1 100000)).length + 1 = (D ++ (G.take (m + 1)).filter (inR 1 100000)).length := by rw [tf]; simp; omega
        have ec : D ++ (G.take m).filter (inR 1 100000) ++ [G[m]] = D ++ (G.take (m + 1)).filter (inR 1 100000) := by rw [tf, List.append_assoc]
        refine ⟨by rw [List.length_append]; omega, ⟨m + 1, by omega⟩, by show 2 - (m + 1) < _; omega, ?_⟩
        dsimp only
        rw [el, ec]
        exact weak_drop (by simp) (by simp [DropHp, ints_below, flts_below, wm, intB, allBelow_cons, allBelow_nil, below, belowM, belowL]) (by simp [DropTm, DropV, below, belowM, belowL, wm, intB, allBelow_cons, allBelow_nil, below, belowM, belowL])
      · rw [b, if_neg (by decide), List.append_nil] at tf
        refine ⟨⟨m + 1, by omega⟩, by show 2 - (m + 1) < _; omega, ?_⟩
        exact weak_drop (by simp) (by simp [DropHp, ints_below, flts_below, wm, intB, allBelow_cons, allBelow_nil, below, belowM, belowL, tf]) (by simp [DropTm, DropV, below, belowM, belowL, wm, intB, allBelow_cons, allBelow_nil, below, belowM, belowL, tf])
    · have hm' : m = 2 := by have := of_decide_eq_false h2; omega
      subst hm'
      have eG : G.take 2 = G := List.take_of_length_le (by omega)
      have es := take_dsR R k hk'
      rw [hG, hD, ← eG] at es
      refine ⟨⟨k + 1, by omega⟩, by show R.length - (k + 1) < _; omega, ?_⟩
      exact weak_drop (by simp) (by simp [DropHp, ints_below, flts_below, wk, es, intB, allBelow_cons, allBelow_nil, below, belowM, belowL]) (by simp [DropTm, DropV, below, belowM, belowL, wk, es, intB, allBelow_cons, allBelow_nil, below, belowM, belowL])
  · have hk' : k = R.length := by simp at h; omega
    subst hk'
    rw [List.take_length]
    have sl : (sortI (dsR R)).length = (dsR R).length := (List.mergeSort_perm (dsR R) _).length_eq
    refine call_by (sortI_call (dsR R) (by omega) 2) ?_
    rintro r hp ⟨rfl, rfl⟩
    simp only [q0, q1, q2, q3, q4, q5, q6, q7, q8, q9, zr0, zr1, zr2, zr3, zq0, zq1, zq2, zq3, zq4, Nat.reduceAdd, Nat.reduceSub, lenA, convA, indexA, indexS, Int.reduceToNat, cond_true, cond_false, ↓reduceIte, reduceCtorEq, Nat.reduceLT, Nat.reduceLeDiff, Nat.reduceMul, Nat.reduceEqDiff, exists_eq', implies_true, exists_true_left, tys0, tys1, tys2, tys3, tys4, und0, und1, und2, und3, md22, Tryz.ntmps22, Tryz.results22]
    rw [← sl]
    refine call_by (compact_call (sortI (dsR R)) (by omega)) ?_
    rintro r hp ⟨rfl, rfl⟩
    simp only [q0, q1, q2, q3, q4, q5, q6, q7, q8, q9, zr0, zr1, zr2, zr3, zq0, zq1, zq2, zq3, zq4, Nat.reduceAdd, Nat.reduceSub, lenA, convA, indexA, indexS, Int.reduceToNat, cond_true, cond_false, ↓reduceIte, reduceCtorEq, Nat.reduceLT, Nat.reduceLeDiff, Nat.reduceMul, Nat.reduceEqDiff, exists_eq', implies_true, exists_true_left, tys0, tys1, tys2, tys3, tys4, und0, und1, und2, und3, md22, Tryz.ntmps22, Tryz.results22]
    exact PostR.same ⟨rfl, rfl⟩
theorem chs_len {R : List Rul} {C : List Int} (h : Chs R C) : C.length ≤ 2 * R.length := by
  have := h.same (chs_dsR R)
  rw [this]
  refine Nat.le_trans (cmpI_le _) ?_
  rw [show (sortI (dsR R)).length = (dsR R).length from (List.mergeSort_perm (dsR R) _).length_eq]
  exact dsR_len R
theorem changes_call (R : List Rul) (rb : rulesB R = true) (hl : R.length ≤ 24) {C : List Int} (hC : Chs R C) : CallA Tryz.prog 22 [.ro (R.map rulA)] [] (Ret (.ro (ints C)) []) := by
  rw [hC.same (chs_dsR R)]
  exact (changes0_call R rb hl).frozen 2 (view_intB _)
theorem implDays_call (R : List Rul) (hR : Rls R) (rb : rulesB R = true) {C : List Int} (hC : Chs R C) : CallA Tryz.prog 6 [.ro (R.map rulA)] [] (Ret (.tup [.ro (ints C), .bool true]) []) := by
  have hl := hR.len
  have c1 := areRules_call R (by omega) (fun r h => by have := (hR.ok r h).2.1.1; omega)
  rw [rb] at c1
  refine CallP.out (t := .mk) (go_in (md := md6) mixed Tryz.func6 rfl go6 (by kernel_rfl) ?_)
  simp only [q0, q1, q2, q3, q4, q5, q6, q7, q8, q9, zr0, zr1, zr2, zr3, zq0, zq1, zq2, zq3, zq4, Nat.reduceAdd, Nat.reduceSub, lenA, convA, indexA, indexS, Int.reduceToNat, cond_true, cond_false, ↓reduceIte, reduceCtorEq, Nat.reduceLT, Nat.reduceLeDiff, Nat.reduceMul, Nat.reduceEqDiff, exists_eq', implies_true, exists_true_left, tys0, tys1, tys2, tys3, tys4, und0, und1, und2, und3, md6, Tryz.ntmps6, Tryz.results6]
  refine call_ret c1 rfl rfl ?_
  simp only [q0, q1, q2, q3, q4, q5, q6, q7, q8, q9, zr0, zr1, zr2, zr3, zq0, zq1, zq2, zq3, zq4, Nat.reduceAdd, Nat.reduceSub, lenA, convA, indexA, indexS, Int.reduceToNat, cond_true, cond_false, ↓reduceIte, reduceCtorEq, Nat.reduceLT, Nat.reduceLeDiff, Nat.reduceMul, Nat.reduceEqDiff, exists_eq', implies_true, exists_true_left, tys0, tys1, tys2, tys3, tys4, und0, und1, und2, und3, md6, Tryz.ntmps6, Tryz.results6]
  refine call_ret (changes_call R rb (by omega) hC) rfl rfl ?_
  simp only [q0, q1, q2, q3, q4, q5, q6, q7, q8, q9, zr0, zr1, zr2, zr3, zq0, zq1, zq2, zq3, zq4, Nat.reduceAdd, Nat.reduceSub, lenA, convA, indexA, indexS, Int.reduceToNat, cond_true, cond_false, ↓reduceIte, reduceCtorEq, Nat.reduceLT, Nat.reduceLeDiff, Nat.reduceMul, Nat.reduceEqDiff, exists_eq', implies_true, exists_true_left, tys0, tys1, tys2, tys3, tys4, und0, und1, und2, und3, md6, Tryz.ntmps6, Tryz.results6]
  exact PostR.pure ⟨rfl, rfl⟩ (by rfl)
theorem l00Min_call (a b : Int) : CallA Tryz.prog 50 [.int .i64 a, .int .i64 b] [] (Ret (.int .i64 (minI a b)) []) := by
  refine CallP.out (t := .mk) (go_in (md := md50) mixed Tryz.func50 rfl go50 (by kernel_rfl) ?_)
  simp only [q0, q1, q2, q3, q4, q5, q6, q7, q8, q9, zr0, zr1, zr2, zr3, zq0, zq1, zq2, zq3, zq4, Nat.reduceAdd, Nat.reduceSub, lenA, convA, indexA, indexS, Int.reduceToNat, cond_true, cond_false, ↓reduceIte, reduceCtorEq, Nat.reduceLT, Nat.reduceLeDiff, Nat.reduceMul, Nat.reduceEqDiff, exists_eq', implies_true, exists_true_left, tys0, tys1, tys2, tys3, tys4, und0, und1, und2, und3, md50, Tryz.ntmps50, Tryz.results50]
  unfold minI
  refine br_intro (fun h => ?_) (fun h => ?_) <;> simp only [q0, q1, q2, q3, q4, q5, q6, q7, q8, q9, zr0, zr1, zr2, zr3, zq0, zq1, zq2, zq3, zq4, Nat.reduceAdd, Nat.reduceSub, lenA, convA, indexA, indexS, Int.reduceToNat, cond_true, cond_false, ↓reduceIte, reduceCtorEq, Nat.reduceLT, Nat.reduceLeDiff, Nat.reduceMul, Nat.reduceEqDiff, exists_eq', implies_true, exists_true_left, tys0, tys1, tys2, tys3, tys4, und0, und1, und2, und3, md50, Tryz.ntmps50, Tryz.results50]
  · rw [if_pos (of_decide_eq_true h)]
    exact PostR.pure ⟨rfl, rfl⟩ (by rfl)
  · rw [if_neg (of_decide_eq_false h)]
    exact PostR.pure ⟨rfl, rfl⟩ (by rfl)
theorem take_daR (R : List Rul) (k : Nat) (h : k < R.length) : daR (R.take (k + 1)) = daR (R.take k) ++ [R[k].2.2.1, R[k].2.2.2.1 + 1] := by rw [take_snoc _ _ h, daR_snoc]
theorem refChanges0_call (R : List Rul) (rb : rulesB R = true) (hl : R.length ≤ 24) : CallA Tryz.prog 24 [.ro (R.map rulA)] [] (fun r hp => ∃ C, Chs R C ∧ r = .sl 0 0 C.length ∧ hp = [intB C]) := by
  have od := okDays rb
  have dl := daR_len R
  refine CallP.out (t := .mk) (go_in (md := md24) mixed Tryz.func24 rfl go24 (by kernel_rfl) ?_)
  simp only [q0, q1, q2, q3, q4, q5, q6, q7, q8, q9, zr0, zr1, zr2, zr3, zq0, zq1, zq2, zq3, zq4, Nat.reduceAdd, Nat.reduceSub, lenA, convA, indexA, indexS, Int.reduceToNat, cond_true, cond_false, ↓reduceIte, reduceCtorEq, Nat.reduceLT, Nat.reduceLeDiff, Nat.reduceMul, Nat.reduceEqDiff, exists_eq', implies_true, exists_true_left, tys0, tys1, tys2, tys3, tys4, und0, und1, und2, und3, md24, Tryz.ntmps24, Tryz.results24, List.length_map]
  refine go_round (md := md24) mixed (by kernel_rfl) (fun k : {k : Nat // k ≤ R.length} => ⟨[.ro (R.map rulA), .any, .any, .sl 0 0 (daR (R.take k.1)).length, .any, .any, .any, .any, .any, .any, .any, .int .i64 R.length, .int .i64 k.1, .any, .any, .any, .any, .any, .any, .any, .any, .any, .any, .any, .any, .any, .any, .any, .any, .any, .any, .any, .any, .any, .any, .any, .any, .any, .any, .any, .any, .any, .any, .any, .any, .any, .any, .any, .any, .any, .any, .any, .any, .any, .any, .any, .any], [intB (daR (R.take k.1))]⟩) (fun k => R.length - k.1) ⟨0, Nat.zero_le _⟩ ?_ ?_
  · exact weak_drop (by simp) (by simp [DropHp, ints_below, flts_below, intB, allBelow_cons, allBelow_nil, below, belowM, belowL, show daR [] = [] from rfl, show ints [] = [] from rfl, List.take_zero, List.length_nil]) (by simp [DropTm, DropV, below, belowM, belowL, intB, allBelow_cons, allBelow_nil, below, belowM, belowL, show daR [] = [] from rfl, show ints [] = [] from rfl, List.take_zero, List.length_nil])
  rintro ⟨k, hk⟩
  have dk := daR_len (R.take k)
  rw [List.length_take] at dk
  simp only [q0, q1, q2, q3, q4, q5, q6, q7, q8, q9, zr0, zr1, zr2, zr3, zq0, zq1, zq2, zq3, zq4, Nat.reduceAdd, Nat.reduceSub, lenA, convA, indexA, indexS, Int.reduceToNat, cond_true, cond_false, ↓reduceIte, reduceCtorEq, Nat.reduceLT, Nat.reduceLeDiff, Nat.reduceMul, Nat.reduceEqDiff, exists_eq', implies_true, exists_true_left, tys0, tys1, tys2, tys3, tys4, und0, und1, und2, und3, md24, Tryz.ntmps24, Tryz.results24, intB, List.length_map]
  refine br_intro (fun h => ?_) (fun h => ?_) <;> simp only [q0, q1, q2, q3, q4, q5, q6, q7, q8, q9, zr0, zr1, zr2, zr3, zq0, zq1, zq2, zq3, zq4, Nat.reduceAdd, Nat.reduceSub, lenA, convA, indexA, indexS, Int.reduceToNat, cond_true, cond_false, ↓reduceIte, reduceCtorEq, Nat.reduceLT, Nat.reduceLeDiff, Nat.reduceMul, Nat.reduceEqDiff, exists_eq', implies_true, exists_true_left, tys0, tys1, tys2, tys3, tys4, und0, und1, und2, und3, md24, Tryz.ntmps24, Tryz.results24, intB, List.length_map]
  · have hk' : k < R.length := by simpa using h
    have od1 := od _ (List.getElem_mem hk')
    have ws : IntKind.i64.wrap (R[k].2.2.2.1 + 1) = R[k].2.2.2.1 + 1 := w64 (by omega) (by omega)
    have wk := w64_succ k (by omega)
    have td := take_daR R k hk'
    refine go_order mixed [0, 1, 2, 3, 4, 5, 6, 7, 8, 9, 10, 11, 12, 13, 14] [false, false, false, false, false, false, false, false, false, false, false, false, false, true, true] (by kernel_rfl) ?_
    iterate 3 (refine od_quiet (by rfl) (by rfl) (by rfl) ?_; simp only [q0, q1, q2, q3, q4, q5, q6, q7, q8, q9, zr0, zr1, zr2, zr3, zq0, zq1, zq2, zq3, zq4, Nat.reduceAdd, Nat.reduceSub, lenA, convA, indexA, indexS, Int.reduceToNat, cond_true, cond_false, ↓reduceIte, reduceCtorEq, Nat.reduceLT, Nat.reduceLeDiff, Nat.reduceMul, Nat.reduceEqDiff, exists_eq', implies_true, exists_true_left, tys0, tys1, tys2, tys3, tys4, und0, und1, und2, und3, md24, Tryz.ntmps24, Tryz.results24, intB])
    iterate 1 (refine od_quiet (by rfl) (by rfl) (by rfl) ?_; simp only [q0, q1, q2, q3, q4, q5, q6, q7, q8, q9, zr0, zr1, zr2, zr3, zq0, zq1, zq2, zq3, zq4, Nat.reduceAdd, Nat.reduceSub, lenA, convA, indexA, indexS, Int.reduceToNat, cond_true, cond_false, ↓reduceIte, reduceCtorEq, Nat.reduceLT, Nat.reduceLeDiff, Nat.reduceMul, Nat.reduceEqDiff, exists_eq', implies_true, exists_true_left, tys0, tys1, tys2, tys3, tys4, und0, und1, und2, und3, md24, Tryz.ntmps24, Tryz.results24, intB])
    refine ⟨by rw [List.length_map]; exact hk', by rw [List.getElem_map]; rfl, ?_⟩
    simp only [List.getElem_map, rulA]
    iterate 5 (refine od_quiet (by rfl) (by rfl) (by rfl) ?_; simp only [q0, q1, q2, q3, q4, q5, q6, q7, q8, q9, zr0, zr1, zr2, zr3, zq0, zq1, zq2, zq3, zq4, Nat.reduceAdd, Nat.reduceSub, lenA, convA, indexA, indexS, Int.reduceToNat, cond_true, cond_false, ↓reduceIte, reduceCtorEq, Nat.reduceLT, Nat.reduceLeDiff, Nat.reduceMul, Nat.reduceEqDiff, exists_eq', implies_true, exists_true_left, tys0, tys1, tys2, tys3, tys4, und0, und1, und2, und3, md24, Tryz.ntmps24, Tryz.results24, intB, List.getElem_map, rulA])
    refine ⟨by rw [List.length_map]; exact hk', ?_⟩
    iterate 3 (refine od_quiet (by rfl) (by rfl) (by rfl) ?_; simp only [q0, q1, q2, q3, q4, q5, q6, q7, q8, q9, zr0, zr1, zr2, zr3, zq0, zq1, zq2, zq3, zq4, Nat.reduceAdd, Nat.reduceSub, lenA, convA, indexA, indexS, Int.reduceToNat, cond_true, cond_false, ↓reduceIte, reduceCtorEq, Nat.reduceLT, Nat.reduceLeDiff, Nat.reduceMul, Nat.reduceEqDiff, exists_eq', implies_true, exists_true_left, tys0, tys1, tys2, tys3, tys4, und0, und1, und2, und3, md24, Tryz.ntmps24, Tryz.results24, intB, List.getElem_map, rulA, ws])
    refine od_fresh (by rfl) (by rfl) (by rfl) (intB [R[k].2.2.1, R[k].2.2.2.1 + 1]) 1 (.sl 0 0 2) rfl rfl (by intro q hq; simp at hq; subst hq; exact ints_below _ _) rfl (by simp only [q0, q1, q2, q3, q4, q5, q6, q7, q8, q9, zr0, zr1, zr2, zr3, zq0, zq1, zq2, zq3, zq4, Nat.reduceAdd, Nat.reduceSub, lenA, convA, indexA, indexS, Int.reduceToNat, cond_true, cond_false, ↓reduceIte, reduceCtorEq, Nat.reduceLT, Nat.reduceLeDiff, Nat.reduceMul, Nat.reduceEqDiff, exists_eq', implies_true, exists_true_left, tys0, tys1, tys2, tys3, tys4, und0, und1, und2, und3, md24, Tryz.ntmps24, Tryz.results24, intB]; exact ⟨rfl, rfl⟩) ?_
    rw [show view 1 [intB [R[k].2.2.1, R[k].2.2.2.1 + 1]] (.sl 0 0 2) = .ro (ints [R[k].2.2.1, R[k].2.2.2.1 + 1]) from view_intB _]
    simp only [q0, q1, q2, q3, q4, q5, q6, q7, q8, q9, zr0, zr1, zr2, zr3, zq0, zq1, zq2, zq3, zq4, Nat.reduceAdd, Nat.reduceSub, lenA, convA, indexA, indexS, Int.reduceToNat, cond_true, cond_false, ↓reduceIte, reduceCtorEq, Nat.reduceLT, Nat.reduceLeDiff, Nat.reduceMul, Nat.reduceEqDiff, exists_eq', implies_true, exists_true_left, tys0, tys1, tys2, tys3, tys4, und0, und1, und2, und3, md24, Tryz.ntmps24, Tryz.results24]
    refine od_one (by rfl) (by rfl) (by rfl) ?_
    simp only [q0, q1, q2, q3, q4, q5, q6, q7, q8, q9, zr0, zr1, zr2, zr3, zq0, zq1, zq2, zq3, zq4, Nat.reduceAdd, Nat.reduceSub, lenA, convA, indexA, indexS, Int.reduceToNat, cond_true, cond_false, ↓reduceIte, reduceCtorEq, Nat.reduceLT, Nat.reduceLeDiff, Nat.reduceMul, Nat.reduceEqDiff, exists_eq', implies_true, exists_true_left, tys0, tys1, tys2, tys3, tys4, und0, und1, und2, und3, md24, Tryz.ntmps24, Tryz.results24, allW_int, fits, List.isEmpty_cons, brk_false, Nat.reduceMul, intB]
    refine ⟨fun v hv => (by obtain ⟨z, _, rfl⟩ := List.mem_map.1 hv; exact ⟨rfl, rfl⟩), by omega, ?_⟩
    refine od_one (by rfl) (by rfl) (by rfl) ?_
    simp only [q0, q1, q2, q3, q4, q5, q6, q7, q8, q9, zr0, zr1, zr2, zr3, zq0, zq1, zq2, zq3, zq4, Nat.reduceAdd, Nat.reduceSub, lenA, convA, indexA, indexS, Int.reduceToNat, cond_true, cond_false, ↓reduceIte, reduceCtorEq, Nat.reduceLT, Nat.reduceLeDiff, Nat.reduceMul, Nat.reduceEqDiff, exists_eq', implies_true, exists_true_left, tys0, tys1, tys2, tys3, tys4, und0, und1, und2, und3, md24, Tryz.ntmps24, Tryz.results24]
    refine od_nil ?_
    simp only [q0, q1, q2, q3, q4, q5, q6, q7, q8, q9, zr0, zr1, zr2, zr3, zq0, zq1, zq2, zq3, zq4, Nat.reduceAdd, Nat.reduceSub, lenA, convA, indexA, indexS, Int.reduceToNat, cond_true, cond_false, ↓reduceIte, reduceCtorEq, Nat.reduceLT, Nat.reduceLeDiff, Nat.reduceMul, Nat.reduceEqDiff, exists_eq', implies_true, exists_true_left, tys0, tys1, tys2, tys3, tys4, und0, und1, und2, und3, md24, Tryz.ntmps24, Tryz.results24]
    have el : (daR (R.take k)).length + 2 = (daR (R.take (k + 1))).length := by rw [td, List.length_append]; rfl
    have ec : daR (R.take k) ++ [R[k].2.2.1, R[k].2.2.2.1 + 1] = daR (R.take (k + 1)) := td.symm
    refine ⟨⟨k + 1, by omega⟩, by show R.length - (k + 1) < _; omega, ?_⟩
    dsimp only
    rw [← el, ← ec]
    exact weak_drop (by simp) (by simp [DropHp, ints_below, flts_below, wk, intB, allBelow_cons, allBelow_nil, below, belowM, belowL]) (by simp [DropTm, DropV, below, belowM, belowL, wk, intB, allBelow_cons, allBelow_nil, below, belowM, belowL])
  · have hk' : k = R.length := by simp at h; omega
    subst hk'
    rw [List.take_length]
    refine go_round (md := md24) mixed (by kernel_rfl) (fun s : {s : List Int × Int // RcI R s.1 s.2} => ⟨[.any, .any, .any, .sl 0 0 (daR R).length, .any, .sl 1 0 s.1.1.length, .int .i64 s.1.2, .any, .any, .any, .any, .any, .any, .any, .any, .any, .any, .any, .any, .any, .any, .any, .any, .any, .any, .any, .any, .any, .any, .any, .any, .any, .any, .any, .any, .any, .any, .any, .any, .any, .any, .any, .any, .any, .any, .any, .any, .any, .any, .any, .any, .any, .any, .any, .any, .any, .any], [intB (daR R), intB s.1.1]⟩) (fun s => (100000 - s.1.2).toNat) ⟨([], 0), rcI_start R⟩ ?_ ?_
    · exact weak_drop (by simp) (by simp [DropHp, ints_below, flts_below, intB, allBelow_cons, allBelow_nil, below, belowM, belowL, show ints [] = [] from rfl]) (by simp [DropTm, DropV, below, belowM, belowL, intB, allBelow_cons, allBelow_nil, below, belowM, belowL, show ints [] = [] from rfl])
    rintro ⟨⟨out, last⟩, I⟩
    dsimp only at I ⊢
    have i1 := I.lo
    have i2 := I.hi
    have i3 := I.len
    simp only [q0, q1, q2, q3, q4, q5, q6, q7, q8, q9, zr0, zr1, zr2, zr3, zq0, zq1, zq2, zq3, zq4, Nat.reduceAdd, Nat.reduceSub, lenA, convA, indexA, indexS, Int.reduceToNat, cond_true, cond_false, ↓reduceIte, reduceCtorEq, Nat.reduceLT, Nat.reduceLeDiff, Nat.reduceMul, Nat.reduceEqDiff, exists_eq', implies_true, exists_true_left, tys0, tys1, tys2, tys3, tys4, und0, und1, und2, und3, md24, Tryz.ntmps24, Tryz.results24, intB, ints_len]
    refine go_round (md := md24) mixed (by kernel_rfl) (fun j : {j : Nat // j ≤ (daR R).length} => ⟨[.any, .any, .any, .sl 0 0 (daR R).length, .any, .sl 1 0 out.length, .int .i64 last, .int .i64 (mnD last ((daR R).take j.1)), .any, .any, .any, .any, .any, .any, .any, .any, .any, .any, .any, .any, .any, .any, .any, .any, .any, .any, .any, .any, .any, .any, .any, .any, .int .i64 (daR R).length, .int .i64 j.1, .any, .any, .any, .any, .any, .any, .any, .any, .any, .any, .any, .any, .any, .any, .any, .any, .any, .any, .any, .any, .any, .any, .any], [intB (daR R), intB out]⟩) (fun j => (daR R).length - j.1) ⟨0, Nat.zero_le _⟩ ?_ ?_
    · exact weak_drop (by simp) (by simp [DropHp, ints_below, flts_below, intB, allBelow_cons, allBelow_nil, below, belowM, belowL, List.take_zero, show mnD last [] = 100001 from rfl]) (by simp [DropTm, DropV, below, belowM, belowL, intB, allBelow_cons, allBelow_nil, below, belowM, belowL, List.take_zero, show mnD last [] = 100001 from rfl])
    rintro ⟨j, hj⟩
    simp only [q0, q1, q2, q3, q4, q5, q6, q7, q8, q9, zr0, zr1, zr2, zr3, zq0, zq1, zq2, zq3, zq4, Nat.reduceAdd, Nat.reduceSub, lenA, convA, indexA, indexS, Int.reduceToNat, cond_true, cond_false, ↓reduceIte, reduceCtorEq, Nat.reduceLT, Nat.reduceLeDiff, Nat.reduceMul, Nat.reduceEqDiff, exists_eq', implies_true, exists_true_left, tys0, tys1, tys2, tys3, tys4, und0, und1, und2, und3, md24, Tryz.ntmps24, Tryz.results24, intB, ints_len]
    refine br_intro (fun h2 => ?_) (fun h2 => ?_) <;> simp only [q0, q1, q2, q3, q4, q5, q6, q7, q8, q9, zr0, zr1, zr2, zr3, zq0, zq1, zq2, zq3, zq4, Nat.reduceAdd, Nat.reduceSub, lenA, convA, indexA, indexS, Int.reduceToNat, cond_true, cond_false, ↓reduceIte, reduceCtorEq, Nat.reduceLT, Nat.reduceLeDiff, Nat.reduceMul, Nat.reduceEqDiff, exists_eq', implies_true, exists_true_left, tys0, tys1, tys2, tys3, tys4, und0, und1, und2, und3, md24, Tryz.ntmps24, Tryz.results24, intB, ints_len]
    · have hj' : j < (daR R).length := by have := of_decide_eq_true h2; omega
      have wj := w64_succ j (by omega)
      have ms : mnD last ((daR R).take (j + 1)) = if last < (daR R)[j] then minI (mnD last ((daR R).take j)) (daR R)[j] else mnD last ((daR R).take j) := by rw [take_snoc _ _ hj', mnD_snoc]
      refine ⟨by omega, by omega, ?_⟩
      refine br_intro (fun b3 => ?_) (fun b3 => ?_) <;> simp only [q0, q1, q2, q3, q4, q5, q6, q7, q8, q9, zr0, zr1, zr2, zr3, zq0, zq1, zq2, zq3, zq4, Nat.reduceAdd, Nat.reduceSub, lenA, convA, indexA, indexS, Int.reduceToNat, cond_true, cond_false, ↓reduceIte, reduceCtorEq, Nat.reduceLT, Nat.reduceLeDiff, Nat.reduceMul, Nat.reduceEqDiff, exists_eq', implies_true, exists_true_left, tys0, tys1, tys2, tys3, tys4, und0, und1, und2, und3, md24, Tryz.ntmps24, Tryz.results24, intB, ints_len]
      · rw [if_pos (of_decide_eq_true b3)] at ms
        refine ⟨by omega, by omega, ?_⟩
        refine call_ret (l00Min_call _ _) rfl rfl ?_
        simp only [q0, q1, q2, q3, q4, q5, q6, q7, q8, q9, zr0, zr1, zr2, zr3, zq0, zq1, zq2, zq3, zq4, Nat.reduceAdd, Nat.reduceSub, lenA, convA, indexA, indexS, Int.reduceToNat, cond_true, cond_false, ↓reduceIte, reduceCtorEq, Nat.reduceLT, Nat.reduceLeDiff, Nat.reduceMul, Nat.reduceEqDiff, exists_eq', implies_true, exists_true_left, tys0, tys1, tys2, tys3, tys4, und0, und1, und2, und3, md24, Tryz.ntmps24, Tryz.results24, intB, ints_len]
        refine ⟨⟨j + 1, by omega⟩, by show (daR R).length - (j + 1) < _; omega, ?_⟩
        exact weak_drop (by simp) (by simp [DropHp, ints_below, flts_below, wj, intB, allBelow_cons, allBelow_nil, below, belowM, belowL, ms]) (by simp [DropTm, DropV, below, belowM, belowL, wj, intB, allBelow_cons, allBelow_nil, below, belowM, belowL, ms])
      · rw [if_neg (of_decide_eq_false b3)] at ms
        refine ⟨⟨j + 1, by omega⟩, by show (daR R).length - (j + 1) < _; omega, ?_⟩
        exact weak_drop (by simp) (by simp [DropHp, ints_below, flts_below, wj, intB, allBelow_cons, allBelow_nil, below, belowM, belowL, ms]) (by simp [DropTm, DropV, below, belowM, belowL, wj, intB, allBelow_cons, allBelow_nil, below, belowM, belowL, ms])
    · have hj' : j = (daR R).length := by have := of_decide_eq_false h2; omega
      subst hj'
      rw [List.take_length]
      refine br_intro (fun b4 => ?_) (fun b4 => ?_) <;> simp only [q0, q1, q2, q3, q4, q5, q6, q7, q8, q9, zr0, zr1, zr2, zr3, zq0, zq1, zq2, zq3, zq4, Nat.reduceAdd, Nat.reduceSub, lenA, convA, indexA, indexS, Int.reduceToNat, cond_true, cond_false, ↓reduceIte, reduceCtorEq, Nat.reduceLT, Nat.reduceLeDiff, Nat.reduceMul, Nat.reduceEqDiff, exists_eq', implies_true, exists_true_left, tys0, tys1, tys2, tys3, tys4, und0, und1, und2, und3, md24, Tryz.ntmps24, Tryz.results24, intB, ints_len]
      · refine PostR.tell [1] (hp2 := [intB out]) (by decide) (by decide) (by decide) ⟨⟨by simp [renB, intB, ints_ren], intsB_below _ _⟩, trivial⟩ (r2 := .sl 0 0 out.length) (by rfl) (by rfl) ⟨out, I.stop (by have := of_decide_eq_true b4; omega), rfl, rfl⟩
      · obtain ⟨n1, n2⟩ := I.next (by have := of_decide_eq_false b4; omega)
        have n3 := n1.hi
        simp only [q0, q1, q2, q3, q4, q5, q6, q7, q8, q9, zr0, zr1, zr2, zr3, zq0, zq1, zq2, zq3, zq4, Nat.reduceAdd, Nat.reduceSub, lenA, convA, indexA, indexS, Int.reduceToNat, cond_true, cond_false, ↓reduceIte, reduceCtorEq, Nat.reduceLT, Nat.reduceLeDiff, Nat.reduceMul, Nat.reduceEqDiff, exists_eq', implies_true, exists_true_left, tys0, tys1, tys2, tys3, tys4, und0, und1, und2, und3, md24, Tryz.ntmps24, Tryz.results24, intB, ints_len, allW_int, fits, List.isEmpty_cons, brk_false, Nat.reduceMul]
        have el : out.length + 1 = (out ++ [mnD last (daR R)]).length := by simp
        refine ⟨by omega, ⟨(out ++ [mnD last (daR R)], mnD last (daR R)), n1⟩, by show (100000 - mnD last (daR R)).toNat < _; omega, ?_⟩
        dsimp only
        rw [← el]
        exact weak_drop (by simp) (by simp [DropHp, ints_below, flts_below, intB, allBelow_cons, allBelow_nil, below, belowM, belowL]) (by simp [DropTm, DropV, below, belowM, belowL, intB, allBelow_cons, allBelow_nil, below, belowM, belowL])
theorem refChanges_call (R : List Rul) (rb : rulesB R = true) (hl : R.length ≤ 24) {C : List Int} (hC : Chs R C) : CallA Tryz.prog 24 [.ro (R.map rulA)] [] (Ret (.ro (ints C)) []) := by
  refine (CallA.freezeQ 2 (refChanges0_call R rb hl)).mono ?_
  rintro r hp ⟨r0, new, ⟨D, hD, rfl, rfl⟩, rfl, rfl⟩
  rw [hC.same hD]
  exact ⟨view_intB _, rfl⟩
theorem refDays_call (R : List Rul) (hR : Rls R) (rb : rulesB R = true) {C : List Int} (hC : Chs R C) : CallA Tryz.prog 7 [.ro (R.map rulA)] [] (Ret (.tup [.ro (ints C), .bool true]) []) := by
  have hl := hR.len
  have c1 := l05Rules_call R (by omega) (fun r h => by have := (hR.ok r h).2.1.1; omega)
  rw [rb] at c1
  refine CallP.out (t := .mk) (go_in (md := md7) mixed Tryz.func7 rfl go7 (by kernel_rfl) ?_)
  simp only [q0, q1, q2, q3, q4, q5, q6, q7, q8, q9, zr0, zr1, zr2, zr3, zq0, zq1, zq2, zq3, zq4, Nat.reduceAdd, Nat.reduceSub, lenA, convA, indexA, indexS, Int.reduceToNat, cond_true, cond_false, ↓reduceIte, reduceCtorEq, Nat.reduceLT, Nat.reduceLeDiff, Nat.reduceMul, Nat.reduceEqDiff, exists_eq', implies_true, exists_true_left, tys0, tys1, tys2, tys3, tys4, und0, und1, und2, und3, md7, Tryz.ntmps7, Tryz.results7]
  refine call_ret c1 rfl rfl ?_
  simp only [q0, q1, q2, q3, q4, q5, q6, q7, q8, q9, zr0, zr1, zr2, zr3, zq0, zq1, zq2, zq3, zq4, Nat.reduceAdd, Nat.reduceSub, lenA, convA, indexA, indexS, Int.reduceToNat, cond_true, cond_false, ↓reduceIte, reduceCtorEq, Nat.reduceLT, Nat.reduceLeDiff, Nat.reduceMul, Nat.reduceEqDiff, exists_eq', implies_true, exists_true_left, tys0, tys1, tys2, tys3, tys4, und0, und1, und2, und3, md7, Tryz.ntmps7, Tryz.results7]
  refine call_ret (refChanges_call R rb (by omega) hC) rfl rfl ?_
  simp only [q0, q1, q2, q3, q4, q5, q6, q7, q8, q9, zr0, zr1, zr2, zr3, zq0, zq1, zq2, zq3, zq4, Nat.reduceAdd, Nat.reduceSub, lenA, convA, indexA, indexS, Int.reduceToNat, cond_true, cond_false, ↓reduceIte, reduceCtorEq, Nat.reduceLT, Nat.reduceLeDiff, Nat.reduceMul, Nat.reduceEqDiff, exists_eq', implies_true, exists_true_left, tys0, tys1, tys2, tys3, tys4, und0, und1, und2, und3, md7, Tryz.ntmps7, Tryz.results7]
  exact PostR.pure ⟨rfl, rfl⟩ (by rfl)
end Go.Proofs.YtmllengggncmkaaGreat
