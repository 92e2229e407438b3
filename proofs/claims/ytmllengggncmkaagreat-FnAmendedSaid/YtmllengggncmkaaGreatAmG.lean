/- Amendments: the reference's. Rules of a day. -/
import Derived.Test.YtmllengggncmkaaGreatAmF
set_option maxRecDepth 10000
set_option maxHeartbeats 8000000
set_option linter.unusedSimpArgs false
set_option linter.unusedVariables false
namespace Go.Proofs.YtmllengggncmkaaGreat
open Go Go.Abs

theorem rls_rb {R : List Rul} (h : rulesB R = true) : Rls R := by
  unfold rulesB at h
  rw [Bool.and_eq_true, decide_eq_true_eq] at h
  refine ⟨h.2, fun r hr => ?_⟩
  have := List.all_eq_true.1 h.1 r hr
  unfold ruleB at this
  simp only [Bool.and_eq_true, decide_eq_true_eq] at this
  obtain ⟨⟨⟨⟨⟨h1, h2, h3⟩, _⟩, _⟩, _⟩, h5⟩ := this
  unfold inR at h5
  simp only [Bool.and_eq_true, decide_eq_true_eq] at h5
  exact ⟨h1, ⟨h2, wordsB_all h3⟩, h5.1, h5.2⟩
theorem view_own (b0 b3 : Blk) (T : List Rul) (x : Rul) : view 3 [b0, rulB (T.map rulA ++ [rS x 2]), intB x.2.1, b3] (.sl 1 0 (T ++ [x]).length) = .ro ((T ++ [x]).map rulA) := by
  have lm : (T.map rulA ++ [rS x 2]).length = (T ++ [x]).length := by simp
  have hx : view 2 [b0, rulB (T.map rulA ++ [rS x 2]), intB x.2.1, b3] (rS x 2) = rulA x := by
    unfold rS
    simp only [view_agg, List.map_cons, List.map_nil, view_int, view_sl, intB, List.getElem?_cons_zero, List.getElem?_cons_succ, List.drop_zero, ints_len, map_view_ints, take_ints, Nat.zero_add, Nat.le_refl, decide_true, Bool.and_self, if_true]
    rfl
  have hv : (T.map rulA ++ [rS x 2]).map (view 2 [b0, rulB (T.map rulA ++ [rS x 2]), intB x.2.1, b3]) = (T ++ [x]).map rulA := by
    rw [List.map_append, List.map_map, List.map_append, List.map_cons, hx]
    congr 1
  have ht : List.take (T ++ [x]).length (T.map rulA ++ [rS x 2]) = T.map rulA ++ [rS x 2] := by rw [← lm]; exact List.take_length
  simp only [rulB] at hv ⊢
  simp only [view_sl, List.getElem?_cons_zero, List.getElem?_cons_succ, List.drop_zero, ht, hv, lm, Nat.zero_add, Nat.le_refl, decide_true, Bool.and_self, if_true]
theorem refAmend_call (R : List Rul) (hR : Rls R) (rb : rulesB R = true) (h23 : R.length < 24) (i : Nat) (hi : i < R.length) (day : Int) (hd : inR 0 100000 day = true) (r : Rul) (hv : ruleB (onR r day) = true) (hA : endB R i day = true → rulesB (cutR R i (day - 1) ++ [onR r day]) = true) :
    CallA Tryz.prog 16 [.ro (R.map rulA), .int .i64 i, .int .i64 day, rulA r] [] (Ret (.tup [.any, .bool (endB R i day)]) []) := by
  have h6 : r.2.1.length ≤ 6 := by
    unfold ruleB at hv
    simp only [Bool.and_eq_true, decide_eq_true_eq] at hv
    exact hv.1.1.1.1.2.1
  have hri := rkR_at R i hi
  have cl := cutR_len R i (day - 1)
  refine CallP.out (t := .mk) (go_in (md := md16) mixed Tryz.func16 rfl go16 (by kernel_rfl) ?_)
  simp only [q0, q1, q2, q3, q4, q5, q6, q7, q8, q9, zr0, zr1, zr2, zr3, zq0, zq1, zq2, zq3, zq4, Nat.reduceAdd, Nat.reduceSub, lenA, convA, indexA, indexS, Int.reduceToNat, cond_true, cond_false, ↓reduceIte, reduceCtorEq, Nat.reduceLT, Nat.reduceLeDiff, Nat.reduceMul, Nat.reduceEqDiff, exists_eq', implies_true, exists_true_left, tys0, tys1, tys2, tys3, tys4, und0, und1, und2, und3, md16, Tryz.ntmps16, Tryz.results16, rulA]
  refine call_ret (l05Ends_call R hR rb i hi day hd) rfl rfl ?_
  cases e : endB R i day with
  | false =>
    simp only [q0, q1, q2, q3, q4, q5, q6, q7, q8, q9, zr0, zr1, zr2, zr3, zq0, zq1, zq2, zq3, zq4, Nat.reduceAdd, Nat.reduceSub, lenA, convA, indexA, indexS, Int.reduceToNat, cond_true, cond_false, ↓reduceIte, reduceCtorEq, Nat.reduceLT, Nat.reduceLeDiff, Nat.reduceMul, Nat.reduceEqDiff, exists_eq', implies_true, exists_true_left, tys0, tys1, tys2, tys3, tys4, und0, und1, und2, und3, md16, Tryz.ntmps16, Tryz.results16, rulA, ren, renM, renL]
    exact ⟨_, [], weakR_hide (Nat.zero_le _) trivial, rfl, rfl⟩
  | true =>
    have hA := hA e
    have a3 : 0 ≤ day ∧ day ≤ 100000 := by unfold inR at hd; rw [Bool.and_eq_true, decide_eq_true_eq, decide_eq_true_eq] at hd; exact hd
    have wd : IntKind.i64.wrap (day - 1) = day - 1 := w64 (by omega) (by omega)
    simp only [q0, q1, q2, q3, q4, q5, q6, q7, q8, q9, zr0, zr1, zr2, zr3, zq0, zq1, zq2, zq3, zq4, Nat.reduceAdd, Nat.reduceSub, lenA, convA, indexA, indexS, Int.reduceToNat, cond_true, cond_false, ↓reduceIte, reduceCtorEq, Nat.reduceLT, Nat.reduceLeDiff, Nat.reduceMul, Nat.reduceEqDiff, exists_eq', implies_true, exists_true_left, tys0, tys1, tys2, tys3, tys4, und0, und1, und2, und3, md16, Tryz.ntmps16, Tryz.results16, rulA, ren, renM, renL]
    refine call_new (own_call R hR) rfl (by intro q hq; simp at hq; subst hq; exact ruls_below _ _) ?_
    have es : (R.map rulA).set i (.agg [.int .i64 R[i].1, .ro (ints R[i].2.1), .int .i64 R[i].2.2.1, .int .i64 (day - 1), .int .i64 R[i].2.2.2.2]) = (cutR R i (day - 1)).map rulA := by
      unfold cutR
      rw [List.map_set, hri]
      rfl
    simp only [q0, q1, q2, q3, q4, q5, q6, q7, q8, q9, zr0, zr1, zr2, zr3, zq0, zq1, zq2, zq3, zq4, Nat.reduceAdd, Nat.reduceSub, lenA, convA, indexA, indexS, Int.reduceToNat, cond_true, cond_false, ↓reduceIte, reduceCtorEq, Nat.reduceLT, Nat.reduceLeDiff, Nat.reduceMul, Nat.reduceEqDiff, exists_eq', implies_true, exists_true_left, tys0, tys1, tys2, tys3, tys4, und0, und1, und2, und3, md16, Tryz.ntmps16, Tryz.results16, rulA, ren, renM, renL, rlB, rulB, wd, List.length_map, List.getElem_map, allW_int, fits, List.isEmpty_cons, brk_false, Nat.reduceMul, ints_len]
    have k1 : List.map (kill 1) (List.map (kill 2) ((cutR R i (day - 1)).map rulA) ++ [rS (onR r day) 2]) = (cutR R i (day - 1)).map rulA ++ [rS (onR r day) 2] := by
      rw [List.map_append, List.map_map, List.map_map]
      rfl
    have hA2 : Rls (cutR R i (day - 1) ++ [onR r day]) := rls_rb hA
    have lr := l05Rules_call (cutR R i (day - 1) ++ [onR r day]) (by rw [List.length_append, cl]; simp; omega) (fun q hq => by have := (hA2.ok q hq).2.1.1; omega)
    rw [hA] at lr
    refine ⟨by omega, hi, fun v hv => (by obtain ⟨z, _, rfl⟩ := List.mem_map.1 hv; exact ⟨rfl, rfl⟩), by omega, by rw [List.length_set, List.length_map], fun v hv => (by rw [List.mem_singleton.1 hv]; exact ⟨rfl, rfl⟩), by omega, ?_⟩
    rw [es]
    refine call_lent 3 ?_ lr rfl rfl ?_
    · have el : (cutR R i (day - 1) ++ [onR r day]).length = R.length + 1 := by rw [List.length_append, cl]; rfl
      show [view 3 [_, rulB (List.map (kill 1) (List.map (kill 2) ((cutR R i (day - 1)).map rulA) ++ [rS (onR r day) 2])), intB (onR r day).2.1, _] (.sl 1 0 (R.length + 1))] = _
      rw [k1, ← el, view_own]
    simp only [q0, q1, q2, q3, q4, q5, q6, q7, q8, q9, zr0, zr1, zr2, zr3, zq0, zq1, zq2, zq3, zq4, Nat.reduceAdd, Nat.reduceSub, lenA, convA, indexA, indexS, Int.reduceToNat, cond_true, cond_false, ↓reduceIte, reduceCtorEq, Nat.reduceLT, Nat.reduceLeDiff, Nat.reduceMul, Nat.reduceEqDiff, exists_eq', implies_true, exists_true_left, tys0, tys1, tys2, tys3, tys4, und0, und1, und2, und3, md16, Tryz.ntmps16, Tryz.results16, rulA, ren, renM, renL]
    exact ⟨_, [], weakR_hide (Nat.zero_le _) trivial, rfl, rfl⟩
theorem refActive0_call (R : List Rul) (hR : Rls R) (rb : rulesB R = true) (day : Int) (hd : inR 0 100000 day = true) : CallA Tryz.prog 12 [.ro (R.map rulA), .int .i64 day] [] (Ret (.tup [.sl 0 0 (idxD R day R.length).length, .bool true]) [intB (idxD R day R.length)]) := by
  have hl := hR.len
  have c1 := l05Rules_call R (by omega) (fun r h => by have := (hR.ok r h).2.1.1; omega)
  rw [rb] at c1
  have c3 := l05Day_call day
  rw [hd] at c3
  refine CallP.out (t := .mk) (go_in (md := md12) mixed Tryz.func12 rfl go12 (by kernel_rfl) ?_)
  simp only [q0, q1, q2, q3, q4, q5, q6, q7, q8, q9, zr0, zr1, zr2, zr3, zq0, zq1, zq2, zq3, zq4, Nat.reduceAdd, Nat.reduceSub, lenA, convA, indexA, indexS, Int.reduceToNat, cond_true, cond_false, ↓reduceIte, reduceCtorEq, Nat.reduceLT, Nat.reduceLeDiff, Nat.reduceMul, Nat.reduceEqDiff, exists_eq', implies_true, exists_true_left, tys0, tys1, tys2, tys3, tys4, und0, und1, und2, und3, md12, Tryz.ntmps12, Tryz.results12]
  refine call_ret c1 rfl rfl ?_
  simp only [q0, q1, q2, q3, q4, q5, q6, q7, q8, q9, zr0, zr1, zr2, zr3, zq0, zq1, zq2, zq3, zq4, Nat.reduceAdd, Nat.reduceSub, lenA, convA, indexA, indexS, Int.reduceToNat, cond_true, cond_false, ↓reduceIte, reduceCtorEq, Nat.reduceLT, Nat.reduceLeDiff, Nat.reduceMul, Nat.reduceEqDiff, exists_eq', implies_true, exists_true_left, tys0, tys1, tys2, tys3, tys4, und0, und1, und2, und3, md12, Tryz.ntmps12, Tryz.results12]
  refine call_ret c3 rfl rfl ?_
  simp only [q0, q1, q2, q3, q4, q5, q6, q7, q8, q9, zr0, zr1, zr2, zr3, zq0, zq1, zq2, zq3, zq4, Nat.reduceAdd, Nat.reduceSub, lenA, convA, indexA, indexS, Int.reduceToNat, cond_true, cond_false, ↓reduceIte, reduceCtorEq, Nat.reduceLT, Nat.reduceLeDiff, Nat.reduceMul, Nat.reduceEqDiff, exists_eq', implies_true, exists_true_left, tys0, tys1, tys2, tys3, tys4, und0, und1, und2, und3, md12, Tryz.ntmps12, Tryz.results12, List.length_map]
  refine go_round (md := md12) mixed (by kernel_rfl) (fun k : {k : Nat // k ≤ R.length} => ⟨[.ro (R.map rulA), .int .i64 day, .any, .any, .any, .any, .sl 0 0 (idxD R day k.1).length, .any, .any, .any, .any, .any, .any, .any, .any, .any, .any, .any, .int .i64 R.length, .int .i64 k.1, .any, .any, .any, .any, .any, .any, .any, .any, .any, .any, .any, .any, .any], [intB (idxD R day k.1)]⟩) (fun k => R.length - k.1) ⟨0, Nat.zero_le _⟩ ?_ ?_
  · exact weak_drop (by simp) (by simp [DropHp, ints_below, flts_below, intB, allBelow_cons, allBelow_nil, below, belowM, belowL, show idxD R day 0 = [] from rfl, show ints [] = [] from rfl]) (by simp [DropTm, DropV, below, belowM, belowL, intB, allBelow_cons, allBelow_nil, below, belowM, belowL, show idxD R day 0 = [] from rfl, show ints [] = [] from rfl])
  rintro ⟨k, hk⟩
  have hln := idxD_len R day k hk
  have hl2 : ((R.take k).filter (onB day)).length ≤ k := Nat.le_trans (List.length_filter_le _ _) (by rw [List.length_take]; omega)
  simp only [q0, q1, q2, q3, q4, q5, q6, q7, q8, q9, zr0, zr1, zr2, zr3, zq0, zq1, zq2, zq3, zq4, Nat.reduceAdd, Nat.reduceSub, lenA, convA, indexA, indexS, Int.reduceToNat, cond_true, cond_false, ↓reduceIte, reduceCtorEq, Nat.reduceLT, Nat.reduceLeDiff, Nat.reduceMul, Nat.reduceEqDiff, exists_eq', implies_true, exists_true_left, tys0, tys1, tys2, tys3, tys4, und0, und1, und2, und3, md12, Tryz.ntmps12, Tryz.results12, intB, List.length_map]
  refine br_intro (fun h => ?_) (fun h => ?_) <;> simp only [q0, q1, q2, q3, q4, q5, q6, q7, q8, q9, zr0, zr1, zr2, zr3, zq0, zq1, zq2, zq3, zq4, Nat.reduceAdd, Nat.reduceSub, lenA, convA, indexA, indexS, Int.reduceToNat, cond_true, cond_false, ↓reduceIte, reduceCtorEq, Nat.reduceLT, Nat.reduceLeDiff, Nat.reduceMul, Nat.reduceEqDiff, exists_eq', implies_true, exists_true_left, tys0, tys1, tys2, tys3, tys4, und0, und1, und2, und3, md12, Tryz.ntmps12, Tryz.results12, intB, List.length_map]
  · have hk' : k < R.length := by simpa using h
    have e1 := idxD_succ R day k hk'
    refine ⟨hk', ?_⟩
    simp only [q0, q1, q2, q3, q4, q5, q6, q7, q8, q9, zr0, zr1, zr2, zr3, zq0, zq1, zq2, zq3, zq4, Nat.reduceAdd, Nat.reduceSub, lenA, convA, indexA, indexS, Int.reduceToNat, cond_true, cond_false, ↓reduceIte, reduceCtorEq, Nat.reduceLT, Nat.reduceLeDiff, Nat.reduceMul, Nat.reduceEqDiff, exists_eq', implies_true, exists_true_left, tys0, tys1, tys2, tys3, tys4, und0, und1, und2, und3, md12, Tryz.ntmps12, Tryz.results12, List.getElem_map, rulA, intB]
    refine call_ret (l05On_call R[k] day) (by rfl) rfl ?_
    simp only [q0, q1, q2, q3, q4, q5, q6, q7, q8, q9, zr0, zr1, zr2, zr3, zq0, zq1, zq2, zq3, zq4, Nat.reduceAdd, Nat.reduceSub, lenA, convA, indexA, indexS, Int.reduceToNat, cond_true, cond_false, ↓reduceIte, reduceCtorEq, Nat.reduceLT, Nat.reduceLeDiff, Nat.reduceMul, Nat.reduceEqDiff, exists_eq', implies_true, exists_true_left, tys0, tys1, tys2, tys3, tys4, und0, und1, und2, und3, md12, Tryz.ntmps12, Tryz.results12, List.getElem_map, rulA, intB, allW_int, fits, List.isEmpty_cons, brk_false, Nat.reduceMul]
    refine br_intro (fun b => ?_) (fun b => ?_) <;> simp only [q0, q1, q2, q3, q4, q5, q6, q7, q8, q9, zr0, zr1, zr2, zr3, zq0, zq1, zq2, zq3, zq4, Nat.reduceAdd, Nat.reduceSub, lenA, convA, indexA, indexS, Int.reduceToNat, cond_true, cond_false, ↓reduceIte, reduceCtorEq, Nat.reduceLT, Nat.reduceLeDiff, Nat.reduceMul, Nat.reduceEqDiff, exists_eq', implies_true, exists_true_left, tys0, tys1, tys2, tys3, tys4, und0, und1, und2, und3, md12, Tryz.ntmps12, Tryz.results12, List.getElem_map, rulA, intB, allW_int, fits, List.isEmpty_cons, brk_false, Nat.reduceMul]
    · rw [b, if_pos rfl] at e1
      have el : (idxD R day k).length + 1 = (idxD R day (k + 1)).length := by rw [e1]; simp
      refine ⟨by omega, ⟨k + 1, by omega⟩, by show R.length - (k + 1) < _; omega, ?_⟩
      dsimp only
      rw [el, ← e1]
      exact weak_drop (by simp) (by simp [DropHp, ints_below, flts_below, w64_succ k (by omega), intB, allBelow_cons, allBelow_nil, below, belowM, belowL]) (by simp [DropTm, DropV, below, belowM, belowL, w64_succ k (by omega), intB, allBelow_cons, allBelow_nil, below, belowM, belowL])
    · rw [b, if_neg (by decide), List.append_nil] at e1
      refine ⟨⟨k + 1, by omega⟩, by show R.length - (k + 1) < _; omega, ?_⟩
      exact weak_drop (by simp) (by simp [DropHp, ints_below, flts_below, w64_succ k (by omega), intB, allBelow_cons, allBelow_nil, below, belowM, belowL, e1]) (by simp [DropTm, DropV, below, belowM, belowL, w64_succ k (by omega), intB, allBelow_cons, allBelow_nil, below, belowM, belowL, e1])
  · have hk' : k = R.length := by simp at h; omega
    subst hk'
    exact PostR.ret
theorem refActive_call (R : List Rul) (hR : Rls R) (rb : rulesB R = true) (day : Int) (hd : inR 0 100000 day = true) : CallA Tryz.prog 12 [.ro (R.map rulA), .int .i64 day] [] (Ret (.tup [.ro (ints (idxD R day R.length)), .bool true]) []) := by
  refine (CallA.freezeQ 3 (refActive0_call R hR rb day hd)).mono ?_
  rintro r' hp ⟨r0, new, ⟨rfl, rfl⟩, rfl, rfl⟩
  refine ⟨?_, rfl⟩
  show AV.tup [view 2 _ _, view 2 _ _] = _
  rw [view_intB]
  rfl
def atR (R : List Rul) (day : Int) (I : List Int) : List Rul := I.map fun i => ((rkR R i.toNat).1, (rkR R i.toNat).2.1, day, day, (rkR R i.toNat).2.2.2.2)
theorem rulesAt0_call (R : List Rul) (hR : Rls R) (rb : rulesB R = true) (day : Int) (hd : inR 0 100000 day = true) (I : List Int) (hI : idxD R day R.length = I) (hIl : I.length ≤ 24) (hIm : ∀ i ∈ I, 0 ≤ i ∧ i < (R.length : Int)) : CallA Tryz.prog 15 [.ro (R.map rulA), .int .i64 day] [] (Ret (.tup [.sl 0 0 (atR R day I).length, .bool true]) [rlB (atR R day I)]) := by
  have hl := hR.len
  have ca := active_call R hR rb day hd
  rw [hI] at ca
  refine CallP.out (t := .mk) (go_in (md := md15) mixed Tryz.func15 rfl go15 (by kernel_rfl) ?_)
  simp only [q0, q1, q2, q3, q4, q5, q6, q7, q8, q9, zr0, zr1, zr2, zr3, zq0, zq1, zq2, zq3, zq4, Nat.reduceAdd, Nat.reduceSub, lenA, convA, indexA, indexS, Int.reduceToNat, cond_true, cond_false, ↓reduceIte, reduceCtorEq, Nat.reduceLT, Nat.reduceLeDiff, Nat.reduceMul, Nat.reduceEqDiff, exists_eq', implies_true, exists_true_left, tys0, tys1, tys2, tys3, tys4, und0, und1, und2, und3, md15, Tryz.ntmps15, Tryz.results15]
  refine call_ret ca rfl rfl ?_
  simp only [q0, q1, q2, q3, q4, q5, q6, q7, q8, q9, zr0, zr1, zr2, zr3, zq0, zq1, zq2, zq3, zq4, Nat.reduceAdd, Nat.reduceSub, lenA, convA, indexA, indexS, Int.reduceToNat, cond_true, cond_false, ↓reduceIte, reduceCtorEq, Nat.reduceLT, Nat.reduceLeDiff, Nat.reduceMul, Nat.reduceEqDiff, exists_eq', implies_true, exists_true_left, tys0, tys1, tys2, tys3, tys4, und0, und1, und2, und3, md15, Tryz.ntmps15, Tryz.results15, ints_len]
  refine go_round (md := md15) mixed (by kernel_rfl) (fun k : {k : Nat // k ≤ I.length} => ⟨[.ro (R.map rulA), .int .i64 day, .any, .any, .any, .any, .any, .any, .sl 0 0 k.1, .any, .any, .any, .any, .any, .any, .any, .any, .any, .any, .any, .any, .ro (ints I), .int .i64 I.length, .int .i64 k.1, .any, .any, .any, .any, .any, .any, .any, .any, .any, .any, .any, .any, .any, .any, .any, .any, .any, .any], [rlB (atR R day (I.take k.1))]⟩) (fun k => I.length - k.1) ⟨0, Nat.zero_le _⟩ ?_ ?_
  · exact weak_drop (by simp) (by simp [DropHp, ints_below, flts_below, rlB, rulB, allBelow_cons, allBelow_nil, below, belowM, belowL, show atR R day [] = [] from rfl, show (List.map rulA ([] : List Rul)) = [] from rfl, List.take_zero]) (by simp [DropTm, DropV, below, belowM, belowL, rlB, rulB, allBelow_cons, allBelow_nil, below, belowM, belowL, show atR R day [] = [] from rfl, show (List.map rulA ([] : List Rul)) = [] from rfl, List.take_zero])
  rintro ⟨k, hk⟩
  simp only [q0, q1, q2, q3, q4, q5, q6, q7, q8, q9, zr0, zr1, zr2, zr3, zq0, zq1, zq2, zq3, zq4, Nat.reduceAdd, Nat.reduceSub, lenA, convA, indexA, indexS, Int.reduceToNat, cond_true, cond_false, ↓reduceIte, reduceCtorEq, Nat.reduceLT, Nat.reduceLeDiff, Nat.reduceMul, Nat.reduceEqDiff, exists_eq', implies_true, exists_true_left, tys0, tys1, tys2, tys3, tys4, und0, und1, und2, und3, md15, Tryz.ntmps15, Tryz.results15, rlB, rulB, ints_len]
  refine br_intro (fun h => ?_) (fun h => ?_) <;> simp only [q0, q1, q2, q3, q4, q5, q6, q7, q8, q9, zr0, zr1, zr2, zr3, zq0, zq1, zq2, zq3, zq4, Nat.reduceAdd, Nat.reduceSub, lenA, convA, indexA, indexS, Int.reduceToNat, cond_true, cond_false, ↓reduceIte, reduceCtorEq, Nat.reduceLT, Nat.reduceLeDiff, Nat.reduceMul, Nat.reduceEqDiff, exists_eq', implies_true, exists_true_left, tys0, tys1, tys2, tys3, tys4, und0, und1, und2, und3, md15, Tryz.ntmps15, Tryz.results15, rlB, rulB, ints_len]
  · have hk' : k < I.length := by have := of_decide_eq_true h; omega
    have hi := hIm _ (List.getElem_mem hk')
    have hj : I[k].toNat < R.length := by omega
    have h6 := (hR.ok _ (List.getElem_mem hj)).2.1.1
    have cc := clone_call R[I[k].toNat] h6
    have wk := w64_succ k (by omega)
    have hrk := rkR_at R I[k].toNat hj
    have ts := take_snoc I k hk'
    refine ⟨hk', ?_⟩
    refine ⟨hi.1, by rw [List.length_map]; exact hj, ?_⟩
    simp only [q0, q1, q2, q3, q4, q5, q6, q7, q8, q9, zr0, zr1, zr2, zr3, zq0, zq1, zq2, zq3, zq4, Nat.reduceAdd, Nat.reduceSub, lenA, convA, indexA, indexS, Int.reduceToNat, cond_true, cond_false, ↓reduceIte, reduceCtorEq, Nat.reduceLT, Nat.reduceLeDiff, Nat.reduceMul, Nat.reduceEqDiff, exists_eq', implies_true, exists_true_left, tys0, tys1, tys2, tys3, tys4, und0, und1, und2, und3, md15, Tryz.ntmps15, Tryz.results15, rlB, rulB, List.length_map, List.getElem_map, rulA]
    refine call_ret cc rfl rfl ?_
    simp only [q0, q1, q2, q3, q4, q5, q6, q7, q8, q9, zr0, zr1, zr2, zr3, zq0, zq1, zq2, zq3, zq4, Nat.reduceAdd, Nat.reduceSub, lenA, convA, indexA, indexS, Int.reduceToNat, cond_true, cond_false, ↓reduceIte, reduceCtorEq, Nat.reduceLT, Nat.reduceLeDiff, Nat.reduceMul, Nat.reduceEqDiff, exists_eq', implies_true, exists_true_left, tys0, tys1, tys2, tys3, tys4, und0, und1, und2, und3, md15, Tryz.ntmps15, Tryz.results15, rlB, rulB, List.length_map, List.getElem_map, rulA, allW_int, fits, List.isEmpty_cons, brk_false, Nat.reduceMul]
    have at1 : atR R day (I.take k ++ [I[k]]) = atR R day (I.take k) ++ [(R[I[k].toNat].1, R[I[k].toNat].2.1, day, day, R[I[k].toNat].2.2.2.2)] := by
      unfold atR
      rw [List.map_append, List.map_cons, List.map_nil, hrk]
    have al : (atR R day (I.take k)).length = k := by unfold atR; rw [List.length_map, List.length_take]; omega
    have kr := kill_rul 0 (atR R day (I.take k)) (R[I[k].toNat].1, R[I[k].toNat].2.1, day, day, R[I[k].toNat].2.2.2.2)
    rw [← at1, ← ts] at kr
    dsimp only at kr
    refine ⟨al.symm, fun v hv => (by rw [List.mem_singleton.1 hv]; exact ⟨rfl, rfl⟩), by omega, ⟨k + 1, by omega⟩, by show I.length - (k + 1) < _; omega, ?_⟩
    show Weak 0 _ ⟨_, _⟩
    rw [kr, wk]
    dsimp only
    generalize atR R day (I.take (k + 1)) = T2
    exact weak_drop (by simp) (by simp [DropHp, ints_below, flts_below, rlB, rulB, ruls_below, allBelow_cons, allBelow_nil, below, belowM, belowL]) (by simp [DropTm, DropV, below, belowM, belowL, rlB, rulB, ruls_below, allBelow_cons, allBelow_nil, below, belowM, belowL])
  · have hk' : k = I.length := by have := of_decide_eq_false h; omega
    subst hk'
    rw [List.take_length]
    have el : (atR R day I).length = I.length := List.length_map _
    rw [el]
    exact PostR.same ⟨rfl, rfl⟩
theorem rulesAt_call (R : List Rul) (hR : Rls R) (rb : rulesB R = true) (day : Int) (hd : inR 0 100000 day = true) : CallA Tryz.prog 15 [.ro (R.map rulA), .int .i64 day] [] (Ret (.tup [.ro ((atR R day (idxD R day R.length)).map rulA), .bool true]) []) := by
  have il := idxD_len R day R.length (Nat.le_refl _)
  have i2 : ((R.take R.length).filter (onB day)).length ≤ R.length := Nat.le_trans (List.length_filter_le _ _) (by simp)
  have hl := hR.len
  have hm : ∀ i ∈ idxD R day R.length, 0 ≤ i ∧ i < (R.length : Int) := fun i hi => by
    obtain ⟨n, hn, rfl⟩ := List.mem_map.1 hi
    have := List.mem_range.1 (List.mem_filter.1 hn).1
    omega
  refine (CallA.freezeQ 4 (rulesAt0_call R hR rb day hd _ rfl (by omega) hm)).mono ?_
  rintro r' hp ⟨r0, new, ⟨rfl, rfl⟩, rfl, rfl⟩
  refine ⟨?_, rfl⟩
  show AV.tup [view 3 _ _, view 3 _ _] = _
  rw [view_rules]
  rfl
end Go.Proofs.YtmllengggncmkaaGreat
