/- Amendments: the program's. -/
import Derived.Test.YtmllengggncmkaaGreatAmE
set_option maxRecDepth 10000
set_option maxHeartbeats 8000000
set_option linter.unusedSimpArgs false
set_option linter.unusedVariables false
namespace Go.Proofs.YtmllengggncmkaaGreat
open Go Go.Abs

def onR (r : Rul) (day : Int) : Rul := (r.1, r.2.1, day, r.2.2.2.1, r.2.2.2.2)
def rS (x : Rul) (b : Nat) : AV := .agg [.int .i64 x.1, .sl b 0 x.2.1.length, .int .i64 x.2.2.1, .int .i64 x.2.2.2.1, .int .i64 x.2.2.2.2]
theorem clone1_call (r : Rul) (h6 : r.2.1.length ≤ 6) : CallA Tryz.prog 37 [rS r 0] [intB r.2.1] (Ret (rulA r) [intB r.2.1]) := by
  have main : CallA Tryz.prog 37 [rS r 0] [intB r.2.1] (Ret (rS r 1) [intB r.2.1, intB r.2.1]) := by
    refine CallP.out (t := .mk) (go_in (md := md37) mixed Tryz.func37 rfl go37 (by kernel_rfl) ?_)
    simp only [q0, q1, q2, q3, q4, q5, q6, q7, q8, q9, zr0, zr1, zr2, zr3, zq0, zq1, zq2, zq3, zq4, Nat.reduceAdd, Nat.reduceSub, lenA, convA, indexA, indexS, Int.reduceToNat, cond_true, cond_false, ↓reduceIte, reduceCtorEq, Nat.reduceLT, Nat.reduceLeDiff, Nat.reduceMul, Nat.reduceEqDiff, exists_eq', implies_true, exists_true_left, tys0, tys1, tys2, tys3, tys4, und0, und1, und2, und3, md37, Tryz.ntmps37, Tryz.results37, rS, intB, ints_len, allW_int, fits, List.isEmpty_cons, brk_false, Nat.reduceMul]
    have et : (ints r.2.1).take r.2.1.length = ints r.2.1 := List.take_of_length_le (by rw [ints_len]; exact Nat.le_refl _)
    simp only [et, ints_len, ints_kill]
    refine ⟨fun v hv => (by obtain ⟨z, _, rfl⟩ := List.mem_map.1 hv; exact ⟨rfl, rfl⟩), by omega, ?_⟩
    exact PostR.tell [0, 3] (hp2 := [intB r.2.1, intB r.2.1]) (by decide) (by decide) (by decide) ⟨⟨by simp [renB, intB, ints_ren], intsB_below _ _⟩, ⟨by simp [renB, intB, ints_ren], intsB_below _ _⟩, trivial⟩ (r2 := rS r 1) (by rfl) (by rfl) ⟨rfl, rfl⟩
  refine CallA.freezeN 3 main ?_
  rintro r' hp ⟨rfl, rfl⟩
  refine ⟨[intB r.2.1], [intB r.2.1], rS r 0, rfl, rfl, by simp [intB, ints_below], by simp [intB, ints_below], rfl, rfl, ?_, rfl⟩
  show AV.agg [view 2 _ _, view 2 _ _, view 2 _ _, view 2 _ _, view 2 _ _] = _
  rw [view_intB]
  rfl
theorem amend0_call (R : List Rul) (hR : Rls R) (rb : rulesB R = true) (h23 : R.length < 24) (i : Nat) (hi : i < R.length) (day : Int) (hd : inR 0 100000 day = true) (r : Rul) (hv : ruleB (onR r day) = true) :
    CallA Tryz.prog 17 [.ro (R.map rulA), .int .i64 i, .int .i64 day, rS r 0] [intB r.2.1] (fun r' hp => if endB R i day = true then r' = .tup [.sl 1 0 (cutR R i (day - 1) ++ [onR r day]).length, .bool true] ∧ hp = [intB r.2.1, rlB (cutR R i (day - 1) ++ [onR r day])] else r' = .tup [.nils, .bool false] ∧ hp = [intB r.2.1]) := by
  have h6 : r.2.1.length ≤ 6 := by
    unfold ruleB at hv
    simp only [Bool.and_eq_true, decide_eq_true_eq] at hv
    exact hv.1.1.1.1.2.1
  have vr := validRule_call (onR r day) (show r.2.1.length ≤ 1048576 by omega)
  rw [hv] at vr
  have cc := clone1_call (onR r day) h6
  have cl := cutR_len R i (day - 1)
  refine CallP.out (t := .mk) (go_in (md := md17) mixed Tryz.func17 rfl go17 (by kernel_rfl) ?_)
  simp only [q0, q1, q2, q3, q4, q5, q6, q7, q8, q9, zr0, zr1, zr2, zr3, zq0, zq1, zq2, zq3, zq4, Nat.reduceAdd, Nat.reduceSub, lenA, convA, indexA, indexS, Int.reduceToNat, cond_true, cond_false, ↓reduceIte, reduceCtorEq, Nat.reduceLT, Nat.reduceLeDiff, Nat.reduceMul, Nat.reduceEqDiff, exists_eq', implies_true, exists_true_left, tys0, tys1, tys2, tys3, tys4, und0, und1, und2, und3, md17, Tryz.ntmps17, Tryz.results17, rS, intB]
  refine call_newQ (ended_call R hR rb i hi day hd) rfl ?_
  intro r' hp h
  cases e : endB R i day with
  | false =>
    rw [e, if_neg (by decide)] at h
    obtain ⟨rfl, rfl⟩ := h
    refine ⟨by simp, ?_⟩
    simp only [q0, q1, q2, q3, q4, q5, q6, q7, q8, q9, zr0, zr1, zr2, zr3, zq0, zq1, zq2, zq3, zq4, Nat.reduceAdd, Nat.reduceSub, lenA, convA, indexA, indexS, Int.reduceToNat, cond_true, cond_false, ↓reduceIte, reduceCtorEq, Nat.reduceLT, Nat.reduceLeDiff, Nat.reduceMul, Nat.reduceEqDiff, exists_eq', implies_true, exists_true_left, tys0, tys1, tys2, tys3, tys4, und0, und1, und2, und3, md17, Tryz.ntmps17, Tryz.results17, rS, intB, ren, renM, renL]
    exact PostR.tell [0] (hp2 := [intB r.2.1]) (by decide) (by decide) (by decide) ⟨⟨by simp [renB, intB, ints_ren], intsB_below _ _⟩, trivial⟩ (r2 := .tup [.nils, .bool false]) (by rfl) (by rfl) ⟨rfl, rfl⟩
  | true =>
    rw [e, if_pos rfl] at h
    obtain ⟨rfl, rfl⟩ := h
    refine ⟨by intro q hq; simp at hq; subst hq; exact ruls_below _ _, ?_⟩
    have n24 : (((R.length : Nat) : Int) == 24) = false := by rw [beq_eq_false_iff_ne]; omega
    simp only [q0, q1, q2, q3, q4, q5, q6, q7, q8, q9, zr0, zr1, zr2, zr3, zq0, zq1, zq2, zq3, zq4, Nat.reduceAdd, Nat.reduceSub, lenA, convA, indexA, indexS, Int.reduceToNat, cond_true, cond_false, ↓reduceIte, reduceCtorEq, Nat.reduceLT, Nat.reduceLeDiff, Nat.reduceMul, Nat.reduceEqDiff, exists_eq', implies_true, exists_true_left, tys0, tys1, tys2, tys3, tys4, und0, und1, und2, und3, md17, Tryz.ntmps17, Tryz.results17, rS, intB, ren, renM, renL, rlB, rulB]
    refine call_lent 2 (by simp [view_agg, view_int, view_sl, ints_len, map_view_ints, take_ints, rulA, onR]) vr rfl rfl ?_
    simp only [q0, q1, q2, q3, q4, q5, q6, q7, q8, q9, zr0, zr1, zr2, zr3, zq0, zq1, zq2, zq3, zq4, Nat.reduceAdd, Nat.reduceSub, lenA, convA, indexA, indexS, Int.reduceToNat, cond_true, cond_false, ↓reduceIte, reduceCtorEq, Nat.reduceLT, Nat.reduceLeDiff, Nat.reduceMul, Nat.reduceEqDiff, exists_eq', implies_true, exists_true_left, tys0, tys1, tys2, tys3, tys4, und0, und1, und2, und3, md17, Tryz.ntmps17, Tryz.results17, rS, intB, rlB, rulB, n24]
    refine call_handedQ [0] cc (by decide) ⟨⟨rfl, ints_below _ _⟩, trivial⟩ rfl rfl ?_
    rintro r' hps' ⟨rfl, rfl⟩
    refine ⟨by intro q hq; simp at hq; subst hq; exact ints_below _ _, ?_⟩
    have rA : rulA (onR r day) = .agg [.int .i64 r.1, .ro (ints r.2.1), .int .i64 day, .int .i64 r.2.2.2.1, .int .i64 r.2.2.2.2] := rfl
    simp only [q0, q1, q2, q3, q4, q5, q6, q7, q8, q9, zr0, zr1, zr2, zr3, zq0, zq1, zq2, zq3, zq4, Nat.reduceAdd, Nat.reduceSub, lenA, convA, indexA, indexS, Int.reduceToNat, cond_true, cond_false, ↓reduceIte, reduceCtorEq, Nat.reduceLT, Nat.reduceLeDiff, Nat.reduceMul, Nat.reduceEqDiff, exists_eq', implies_true, exists_true_left, tys0, tys1, tys2, tys3, tys4, und0, und1, und2, und3, md17, Tryz.ntmps17, Tryz.results17, rA, rS, intB, rlB, rulB, n24, allW_int, fits, List.isEmpty_cons, brk_false, Nat.reduceMul, ren, renM, renL, putF, upName]
    have kr : List.map (kill 2) ((cutR R i (day - 1)).map rulA ++ [.agg [.int .i64 r.1, .ro (ints r.2.1), .int .i64 day, .int .i64 r.2.2.2.1, .int .i64 r.2.2.2.2]]) = (cutR R i (day - 1) ++ [onR r day]).map rulA := kill_rul 2 _ (onR r day)
    refine ⟨by rw [List.length_map, cl], fun v hv => (by rw [List.mem_singleton.1 hv]; exact ⟨rfl, rfl⟩), by omega, ?_⟩
    rw [kr]
    have el : (cutR R i (day - 1) ++ [onR r day]).length = R.length + 1 := by rw [List.length_append, cl]; rfl
    rw [← el]
    generalize cutR R i (day - 1) ++ [onR r day] = A
    refine PostR.tell [0, 2] (hp2 := [intB r.2.1, rlB A]) (by decide) (by decide) (by decide) (by simp [SubG, renB, rlB, rulB, intB, ints_ren, ints_below, ruls_below, rulA, ren, renM, renL, onR]) (r2 := .tup [.sl 1 0 A.length, .bool true]) rfl rfl ⟨rfl, rfl⟩
theorem amend_call (R : List Rul) (hR : Rls R) (rb : rulesB R = true) (h23 : R.length < 24) (i : Nat) (hi : i < R.length) (day : Int) (hd : inR 0 100000 day = true) (r : Rul) (hv : ruleB (onR r day) = true) :
    CallA Tryz.prog 17 [.ro (R.map rulA), .int .i64 i, .int .i64 day, rS r 0] [intB r.2.1] (Ret (if endB R i day = true then .tup [.ro ((cutR R i (day - 1) ++ [onR r day]).map rulA), .bool true] else .tup [.nils, .bool false]) [intB r.2.1]) := by
  refine CallA.freezeN 4 (amend0_call R hR rb h23 i hi day hd r hv) ?_
  intro r' hp h
  cases e : endB R i day with
  | true =>
    rw [e, if_pos rfl] at h
    obtain ⟨rfl, rfl⟩ := h
    rw [if_pos rfl]
    refine ⟨[intB r.2.1], [rlB (cutR R i (day - 1) ++ [onR r day])], .tup [.sl 0 0 (cutR R i (day - 1) ++ [onR r day]).length, .bool true], rfl, rfl, fun q hq => (by rw [List.mem_singleton.1 hq]; exact ruls_below _ _), fun q hq => (by rw [List.mem_singleton.1 hq]; exact ints_below _ _), rfl, rfl, ?_, rfl⟩
    show AV.tup [view 3 _ _, view 3 _ _] = _
    rw [view_rules]
    rfl
  | false =>
    rw [e, if_neg (by decide)] at h
    obtain ⟨rfl, rfl⟩ := h
    rw [if_neg (by decide)]
    exact ⟨[intB r.2.1], [], .tup [.nils, .bool false], rfl, rfl, fun q hq => (by cases hq), fun q hq => (by rw [List.mem_singleton.1 hq]; exact ints_below _ _), rfl, rfl, rfl, rfl⟩
theorem weakR_hide {n0 : Nat} {a : AV} {b : Bool} {hp hp2 : List Blk} (hn : n0 ≤ hp2.length) (hh : DropHp hp2.length hp hp2) : WeakR n0 (.tup [a, .bool b]) hp (.tup [.any, .bool b]) hp2 := by
  intro P E0 hp0 E v h0 H F hv
  obtain ⟨E2, e1, e2, e3, _⟩ := weakR_drop (r := .any) (r2 := .any) hn hh (.inl rfl) P E0 hp0 E v h0 H F (.any v)
  refine ⟨E2, e1, e2, e3, ?_⟩
  cases hv with
  | tup l vs hl h =>
    refine .tup _ vs hl fun i x y hx hy => ?_
    rcases i with _ | _ | i
    · cases hx; exact .any y
    · cases hx
      have := h 1 (.bool b) y rfl hy
      cases this
      exact .bool b
    · simp at hx
theorem l05Ends_call (R : List Rul) (hR : Rls R) (rb : rulesB R = true) (i : Nat) (hi : i < R.length) (day : Int) (hd : inR 0 100000 day = true) :
    CallA Tryz.prog 38 [.ro (R.map rulA), .int .i64 i, .int .i64 day] [] (Ret (.bool (endB R i day)) []) := by
  have hl := hR.len
  have c1 := l05Rules_call R (by omega) (fun r h => by have := (hR.ok r h).2.1.1; omega)
  rw [rb] at c1
  have c2 := l05Day_call day
  rw [hd] at c2
  have wl : IntKind.i64.wrap ((R.length : Int) - 1) = (R.length : Int) - 1 := w64 (by omega) (by omega)
  have c3 := l00In_call (i : Int) 0 ((R.length : Int) - 1)
  rw [show inR 0 ((R.length : Int) - 1) (i : Int) = true from by unfold inR; rw [decide_eq_true (by omega), decide_eq_true (by omega)]; rfl] at c3
  have hri := rkR_at R i hi
  refine CallP.out (t := .mk) (go_in (md := md38) mixed Tryz.func38 rfl go38 (by kernel_rfl) ?_)
  simp only [q0, q1, q2, q3, q4, q5, q6, q7, q8, q9, zr0, zr1, zr2, zr3, zq0, zq1, zq2, zq3, zq4, Nat.reduceAdd, Nat.reduceSub, lenA, convA, indexA, indexS, Int.reduceToNat, cond_true, cond_false, ↓reduceIte, reduceCtorEq, Nat.reduceLT, Nat.reduceLeDiff, Nat.reduceMul, Nat.reduceEqDiff, exists_eq', implies_true, exists_true_left, tys0, tys1, tys2, tys3, tys4, und0, und1, und2, und3, md38, Tryz.ntmps38, Tryz.results38]
  refine call_ret c1 rfl rfl ?_
  simp only [q0, q1, q2, q3, q4, q5, q6, q7, q8, q9, zr0, zr1, zr2, zr3, zq0, zq1, zq2, zq3, zq4, Nat.reduceAdd, Nat.reduceSub, lenA, convA, indexA, indexS, Int.reduceToNat, cond_true, cond_false, ↓reduceIte, reduceCtorEq, Nat.reduceLT, Nat.reduceLeDiff, Nat.reduceMul, Nat.reduceEqDiff, exists_eq', implies_true, exists_true_left, tys0, tys1, tys2, tys3, tys4, und0, und1, und2, und3, md38, Tryz.ntmps38, Tryz.results38]
  refine call_ret c2 rfl rfl ?_
  simp only [q0, q1, q2, q3, q4, q5, q6, q7, q8, q9, zr0, zr1, zr2, zr3, zq0, zq1, zq2, zq3, zq4, Nat.reduceAdd, Nat.reduceSub, lenA, convA, indexA, indexS, Int.reduceToNat, cond_true, cond_false, ↓reduceIte, reduceCtorEq, Nat.reduceLT, Nat.reduceLeDiff, Nat.reduceMul, Nat.reduceEqDiff, exists_eq', implies_true, exists_true_left, tys0, tys1, tys2, tys3, tys4, und0, und1, und2, und3, md38, Tryz.ntmps38, Tryz.results38, List.length_map, wl]
  refine call_ret c3 rfl rfl ?_
  simp only [q0, q1, q2, q3, q4, q5, q6, q7, q8, q9, zr0, zr1, zr2, zr3, zq0, zq1, zq2, zq3, zq4, Nat.reduceAdd, Nat.reduceSub, lenA, convA, indexA, indexS, Int.reduceToNat, cond_true, cond_false, ↓reduceIte, reduceCtorEq, Nat.reduceLT, Nat.reduceLeDiff, Nat.reduceMul, Nat.reduceEqDiff, exists_eq', implies_true, exists_true_left, tys0, tys1, tys2, tys3, tys4, und0, und1, und2, und3, md38, Tryz.ntmps38, Tryz.results38, List.length_map, List.getElem_map, rulA]
  refine ⟨hi, ?_⟩
  refine br_intro (fun b1 => ?_) (fun b1 => ?_) <;> simp only [q0, q1, q2, q3, q4, q5, q6, q7, q8, q9, zr0, zr1, zr2, zr3, zq0, zq1, zq2, zq3, zq4, Nat.reduceAdd, Nat.reduceSub, lenA, convA, indexA, indexS, Int.reduceToNat, cond_true, cond_false, ↓reduceIte, reduceCtorEq, Nat.reduceLT, Nat.reduceLeDiff, Nat.reduceMul, Nat.reduceEqDiff, exists_eq', implies_true, exists_true_left, tys0, tys1, tys2, tys3, tys4, und0, und1, und2, und3, md38, Tryz.ntmps38, Tryz.results38, List.length_map, List.getElem_map, rulA]
  · refine ⟨hi, ?_⟩
    exact PostR.pure ⟨by unfold endB; rw [hri, b1, Bool.true_and], rfl⟩ (by rfl)
  · exact PostR.pure ⟨by unfold endB; rw [hri, b1]; rfl, rfl⟩ (by rfl)
theorem frz_last {new : List Blk} {N : Nat} (T : List Rul) (x : Rul) {c : AV} (h1 : FrzC new N c (.ro (ints x.2.1))) : FrzB new N (rulB (T.map rulA ++ [.agg [.int .i64 x.1, c, .int .i64 x.2.2.1, .int .i64 x.2.2.2.1, .int .i64 x.2.2.2.2]])) (rlB (T ++ [x])) :=
  ⟨.inl (by show 0 < 5; decide), rfl, rfl, rfl, fun i e2 h => by
    have h : ((T ++ [x]).map rulA)[i]? = some e2 := h
    rw [List.map_append] at h
    by_cases hi : i < T.length
    · have hi2 : i < (T.map rulA).length := by rw [List.length_map]; exact hi
      rw [List.getElem?_append_left hi2] at h
      refine ⟨e2, by show (T.map rulA ++ _)[i]? = _; rw [List.getElem?_append_left hi2]; exact h, rfl, fun j x' y hx hy => ?_⟩
      rw [hx] at hy
      cases hy
      have hm := List.mem_of_getElem? h
      obtain ⟨y, _, rfl⟩ := List.mem_map.1 hm
      exact frzC_keep (below_cells (rul_below N y) x' (List.mem_of_getElem? hx))
    · have hl : (T.map rulA).length = T.length := List.length_map _
      rw [List.getElem?_append_right (by omega), hl] at h
      have hz : i - T.length = 0 := by
        rcases Nat.eq_zero_or_pos (i - T.length) with e | e
        · exact e
        · obtain ⟨k, hk⟩ : ∃ k, i - T.length = k + 1 := ⟨i - T.length - 1, by omega⟩
          rw [hk] at h
          simp at h
      rw [hz] at h
      obtain rfl : rulA x = e2 := by simpa using h
      refine ⟨.agg [.int .i64 x.1, c, .int .i64 x.2.2.1, .int .i64 x.2.2.2.1, .int .i64 x.2.2.2.2], by show (T.map rulA ++ _)[i]? = _; rw [List.getElem?_append_right (by omega), hl, hz]; rfl, rfl, fun j x' y hx hy => ?_⟩
      rcases j with _ | _ | _ | _ | _ | j
      · cases hx; cases hy; exact frzC_keep rfl
      · cases hx; cases hy; exact h1
      · cases hx; cases hy; exact frzC_keep rfl
      · cases hx; cases hy; exact frzC_keep rfl
      · cases hx; cases hy; exact frzC_keep rfl
      · simp [AV.cells] at hx⟩
theorem frzC_intB (xs : List Int) (N : Nat) : FrzC [intB xs] N (.sl N 0 xs.length) (.ro (ints xs)) := by
  refine .inr (.inr ⟨2, 1, .sl 0 0 xs.length, by simp [ren, renM, renL], by simp [below, belowM, belowL], ?_⟩)
  rw [view_intB]
  show _ = AV.ro ((ints xs).map (nilD 0))
  rw [nilD_zero]
theorem weak_own {tm tm2 : List AV} (T : List Rul) (x : Rul) (B3 : Blk) (ht : DropTm 1 tm tm2) :
    Weak 0 ⟨tm, [rulB (T.map rulA ++ [rS x 2]), rulB [rS x 2], intB x.2.1, B3]⟩ ⟨tm2, [rlB (T ++ [x])]⟩ := by
  have fl : allBelow 3 (rulB (T.map rulA ++ [rS x 2])).els = true := by
    show ((T.map rulA ++ [rS x 2]).all (below 3)) = true
    rw [List.all_append, Bool.and_eq_true]
    exact ⟨ruls_below 3 T, rfl⟩
  refine Weak.and (b := ⟨tm2, [rulB (T.map rulA ++ [rS x 2]), rulB [rS x 2]] ++ [intB x.2.1]⟩) (weak_drop (Nat.zero_le _) ?_ (dropTm_more (Nat.le_of_ble_eq_true rfl) ht)) ?_
  · exact ⟨⟨rfl, fun _ => ⟨rfl, rfl, rfl, fl⟩⟩, ⟨rfl, fun _ => ⟨rfl, rfl, rfl, rfl⟩⟩, ⟨rfl, fun _ => ⟨rfl, rfl, rfl, ints_below _ _⟩⟩, trivial⟩
  · refine Weak.and (b := ⟨tm2, [rlB (T ++ [x]), rlB [x]]⟩) (weak_freeze (Nat.zero_le _) (fun q hq => by rw [List.mem_singleton.1 hq]; exact ints_below _ _) ?_ (frzTm_drop (dropTm_more (Nat.le_of_ble_eq_true rfl) (dropTm_self ht)))) (weak_drop (Nat.zero_le _) ?_ (dropTm_self ht))
    · exact ⟨frz_last T x (frzC_intB _ _), frz_last [] x (frzC_intB _ _), trivial⟩
    · exact ⟨⟨rfl, fun _ => ⟨rfl, rfl, rfl, ruls_below _ _⟩⟩, trivial⟩
theorem own_call (R : List Rul) (hR : Rls R) : CallA Tryz.prog 39 [.ro (R.map rulA)] [] (Ret (.sl 0 0 R.length) [rlB R]) := by
  have hl := hR.len
  refine CallP.out (t := .mk) (go_in (md := md39) mixed Tryz.func39 rfl go39 (by kernel_rfl) ?_)
  simp only [q0, q1, q2, q3, q4, q5, q6, q7, q8, q9, zr0, zr1, zr2, zr3, zq0, zq1, zq2, zq3, zq4, Nat.reduceAdd, Nat.reduceSub, lenA, convA, indexA, indexS, Int.reduceToNat, cond_true, cond_false, ↓reduceIte, reduceCtorEq, Nat.reduceLT, Nat.reduceLeDiff, Nat.reduceMul, Nat.reduceEqDiff, exists_eq', implies_true, exists_true_left, tys0, tys1, tys2, tys3, tys4, und0, und1, und2, und3, md39, Tryz.ntmps39, Tryz.results39, List.length_map]
  refine go_round (md := md39) mixed (by kernel_rfl) (fun k : {k : Nat // k ≤ R.length} => ⟨[.ro (R.map rulA), .any, .any, .sl 0 0 k.1, .any, .any, .any, .any, .int .i64 R.length, .int .i64 k.1, .any, .any, .any, .any, .any, .any, .any, .any, .any, .any, .any, .any, .any, .any, .any, .any, .any], [rlB (R.take k.1)]⟩) (fun k => R.length - k.1) ⟨0, Nat.zero_le _⟩ ?_ ?_
  · exact weak_drop (by simp) (by simp [DropHp, ints_below, flts_below, rlB, rulB, allBelow_cons, allBelow_nil, below, belowM, belowL, show (List.map rulA ([] : List Rul)) = [] from rfl, List.take_zero]) (by simp [DropTm, DropV, below, belowM, belowL, rlB, rulB, allBelow_cons, allBelow_nil, below, belowM, belowL, show (List.map rulA ([] : List Rul)) = [] from rfl, List.take_zero])
  rintro ⟨k, hk⟩
  simp only [q0, q1, q2, q3, q4, q5, q6, q7, q8, q9, zr0, zr1, zr2, zr3, zq0, zq1, zq2, zq3, zq4, Nat.reduceAdd, Nat.reduceSub, lenA, convA, indexA, indexS, Int.reduceToNat, cond_true, cond_false, ↓reduceIte, reduceCtorEq, Nat.reduceLT, Nat.reduceLeDiff, Nat.reduceMul, Nat.reduceEqDiff, exists_eq', implies_true, exists_true_left, tys0, tys1, tys2, tys3, tys4, und0, und1, und2, und3, md39, Tryz.ntmps39, Tryz.results39, rlB, rulB, List.length_map]
  refine br_intro (fun h => ?_) (fun h => ?_) <;> simp only [q0, q1, q2, q3, q4, q5, q6, q7, q8, q9, zr0, zr1, zr2, zr3, zq0, zq1, zq2, zq3, zq4, Nat.reduceAdd, Nat.reduceSub, lenA, convA, indexA, indexS, Int.reduceToNat, cond_true, cond_false, ↓reduceIte, reduceCtorEq, Nat.reduceLT, Nat.reduceLeDiff, Nat.reduceMul, Nat.reduceEqDiff, exists_eq', implies_true, exists_true_left, tys0, tys1, tys2, tys3, tys4, und0, und1, und2, und3, md39, Tryz.ntmps39, Tryz.results39, rlB, rulB, List.length_map]
  · have hk' : k < R.length := by simpa using h
    have h6 := (hR.ok _ (List.getElem_mem hk')).2.1.1
    have wk := w64_succ k (by omega)
    have ts := take_snoc R k hk'
    refine ⟨hk', ?_⟩
    simp only [q0, q1, q2, q3, q4, q5, q6, q7, q8, q9, zr0, zr1, zr2, zr3, zq0, zq1, zq2, zq3, zq4, Nat.reduceAdd, Nat.reduceSub, lenA, convA, indexA, indexS, Int.reduceToNat, cond_true, cond_false, ↓reduceIte, reduceCtorEq, Nat.reduceLT, Nat.reduceLeDiff, Nat.reduceMul, Nat.reduceEqDiff, exists_eq', implies_true, exists_true_left, tys0, tys1, tys2, tys3, tys4, und0, und1, und2, und3, md39, Tryz.ntmps39, Tryz.results39, rlB, rulB, List.length_map, List.getElem_map, rulA, ints_len, allW_int, fits, List.isEmpty_cons, brk_false, Nat.reduceMul]
    have e1 : List.map (kill 0) (List.map (kill 2) ((R.take k).map rulA) ++ [rS R[k] 2]) = (R.take k).map rulA ++ [rS R[k] 2] := by
      rw [List.map_append, List.map_map, List.map_map]
      rfl
    refine ⟨fun v hv => (by obtain ⟨z, _, rfl⟩ := List.mem_map.1 hv; exact ⟨rfl, rfl⟩), by omega, by rw [List.length_take]; omega, fun v hv => (by rw [List.mem_singleton.1 hv]; exact ⟨rfl, rfl⟩), by omega, ⟨k + 1, by omega⟩, by show R.length - (k + 1) < _; omega, ?_⟩
    show Weak 0 ⟨_, [{ ty := 41, w := 5, els := List.map (kill 0) (List.map (kill 2) ((R.take k).map rulA) ++ [rS R[k] 2]) }, _, _, _]⟩ ⟨_, _⟩
    rw [e1, wk]
    dsimp only
    rw [ts]
    exact weak_own (R.take k) R[k] _ (by simp [DropTm, DropV, below, belowM, belowL, List.length_take, hk'])
  · have hk' : k = R.length := by simp at h; omega
    subst hk'
    rw [List.take_length]
    exact PostR.same ⟨rfl, rfl⟩
end Go.Proofs.YtmllengggncmkaaGreat
