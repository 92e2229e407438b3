/- The reference: active rules, lists of words, answers. -/
import Derived.Test.YtmllengggncmkaaGreatQrF
set_option maxRecDepth 10000
set_option maxHeartbeats 8000000
set_option linter.unusedSimpArgs false
set_option linter.unusedVariables false
namespace Go.Proofs.YtmllengggncmkaaGreat
open Go Go.Abs

theorem filter_succ {α : Type} {p : α → Bool} {xs : List α} {k : Nat} (h : k < xs.length) : (xs.take (k + 1)).filter p = (xs.take k).filter p ++ (if p xs[k] = true then [xs[k]] else []) := by
  rw [take_snoc _ _ h, List.filter_append]
  congr 1
  by_cases hp : p xs[k] = true <;> simp [hp]
theorem ruls_kill (b : Nat) (L : List Rul) : (L.map rulA).map (kill b) = L.map rulA := by
  rw [List.map_map]; exact List.map_congr_left fun y _ => rfl
theorem ruls_snoc (L : List Rul) (r : Rul) : L.map rulA ++ [.agg [.int .i64 r.1, .ro (ints r.2.1), .int .i64 r.2.2.1, .int .i64 r.2.2.2.1, .int .i64 r.2.2.2.2]] = (L ++ [r]).map rulA := by simp [rulA]
theorem filter_le {α : Type} (p : α → Bool) (xs : List α) (k : Nat) : ((xs.take k).filter p).length ≤ xs.length := Nat.le_trans (List.length_filter_le _ _) (by rw [List.length_take]; omega)
theorem l05Of0_call (R : List Rul) (hR : R.length ≤ 24) (day : Int) : CallA Tryz.prog 34 [.ro (R.map rulA), .int .i64 day] [] (Ret (.sl 0 0 (R.filter (onB day)).length) [rulB ((R.filter (onB day)).map rulA)]) := by
  refine CallP.out (t := .mk) (go_in (md := md34) mixed Tryz.func34 rfl go34 (by kernel_rfl) ?_)
  simp only [q0, q1, q2, q3, q4, q5, q6, q7, q8, q9, zr0, zr1, zr2, zr3, zq0, zq1, zq2, zq3, zq4, Nat.reduceAdd, Nat.reduceSub, lenA, convA, indexA, indexS, Int.reduceToNat, cond_true, cond_false, ↓reduceIte, reduceCtorEq, Nat.reduceLT, Nat.reduceLeDiff, Nat.reduceMul, Nat.reduceEqDiff, exists_eq', implies_true, exists_true_left, tys0, tys1, tys2, tys3, tys4, und0, und1, und2, und3, md34, Tryz.ntmps34, Tryz.results34]
  refine go_round (md := md34) mixed (by kernel_rfl) (fun k : {k : Nat // k ≤ R.length} => ⟨[.ro (R.map rulA), .int .i64 day, .any, .any, .any, .sl 0 0 ((R.take k.1).filter (onB day)).length, .any, .any, .any, .int .i64 R.length, .int .i64 k.1, .any, .any, .any, .any, .any, .any, .any, .any, .any, .any, .any, .any, .any, .any, .any, .any], [rulB (((R.take k.1).filter (onB day)).map rulA)]⟩) (fun k => R.length - k.1) ⟨0, by simp⟩ ?_ ?_
  · exact weak_drop (by simp) (by simp [DropHp, ints_below, flts_below, List.length_map, rulB, allBelow_cons, allBelow_nil, below, belowM, belowL]) (by simp [DropTm, DropV, below, belowM, belowL, List.length_map, rulB, allBelow_cons, allBelow_nil, below, belowM, belowL])
  · intro ⟨k, hk⟩
    have hfl := filter_le (onB day) R k
    simp only [q0, q1, q2, q3, q4, q5, q6, q7, q8, q9, zr0, zr1, zr2, zr3, zq0, zq1, zq2, zq3, zq4, Nat.reduceAdd, Nat.reduceSub, lenA, convA, indexA, indexS, Int.reduceToNat, cond_true, cond_false, ↓reduceIte, reduceCtorEq, Nat.reduceLT, Nat.reduceLeDiff, Nat.reduceMul, Nat.reduceEqDiff, exists_eq', implies_true, exists_true_left, tys0, tys1, tys2, tys3, tys4, und0, und1, und2, und3, md34, Tryz.ntmps34, Tryz.results34, rulB]
    refine br_intro (fun h => ?_) (fun h => ?_) <;> simp only [q0, q1, q2, q3, q4, q5, q6, q7, q8, q9, zr0, zr1, zr2, zr3, zq0, zq1, zq2, zq3, zq4, Nat.reduceAdd, Nat.reduceSub, lenA, convA, indexA, indexS, Int.reduceToNat, cond_true, cond_false, ↓reduceIte, reduceCtorEq, Nat.reduceLT, Nat.reduceLeDiff, Nat.reduceMul, Nat.reduceEqDiff, exists_eq', implies_true, exists_true_left, tys0, tys1, tys2, tys3, tys4, und0, und1, und2, und3, md34, Tryz.ntmps34, Tryz.results34, List.length_map, List.getElem_map, rulA, rulB]
    · have hk' : k < R.length := by simpa using h
      refine ⟨hk', call_ret (l05On_call R[k] day) rfl rfl ?_⟩
      simp only [q0, q1, q2, q3, q4, q5, q6, q7, q8, q9, zr0, zr1, zr2, zr3, zq0, zq1, zq2, zq3, zq4, Nat.reduceAdd, Nat.reduceSub, lenA, convA, indexA, indexS, Int.reduceToNat, cond_true, cond_false, ↓reduceIte, reduceCtorEq, Nat.reduceLT, Nat.reduceLeDiff, Nat.reduceMul, Nat.reduceEqDiff, exists_eq', implies_true, exists_true_left, tys0, tys1, tys2, tys3, tys4, und0, und1, und2, und3, md34, Tryz.ntmps34, Tryz.results34, List.length_map, List.getElem_map, rulA, rulB]
      refine br_intro (fun g => ?_) (fun g => ?_) <;> simp only [q0, q1, q2, q3, q4, q5, q6, q7, q8, q9, zr0, zr1, zr2, zr3, zq0, zq1, zq2, zq3, zq4, Nat.reduceAdd, Nat.reduceSub, lenA, convA, indexA, indexS, Int.reduceToNat, cond_true, cond_false, ↓reduceIte, reduceCtorEq, Nat.reduceLT, Nat.reduceLeDiff, Nat.reduceMul, Nat.reduceEqDiff, exists_eq', implies_true, exists_true_left, tys0, tys1, tys2, tys3, tys4, und0, und1, und2, und3, md34, Tryz.ntmps34, Tryz.results34, List.length_map, List.getElem_map, rulA, rulB, allW_int, fits, List.isEmpty_cons, brk_false, Nat.reduceMul]
      · refine ⟨hk', ?_⟩
        refine ⟨fun v hv => (by rw [List.mem_singleton.1 hv]; exact ⟨rfl, rfl⟩), by omega, ⟨k + 1, by omega⟩, by show R.length - (k + 1) < _; omega, ?_⟩
        have e := filter_succ (p := onB day) hk'
        rw [if_pos g] at e
        show Weak 0 _ ⟨_, _⟩
        rw [show ((R.take k).filter (onB day)).length + 1 = ((R.take (k + 1)).filter (onB day)).length by rw [e]; simp]
        have e2 := ruls_snoc ((R.take k).filter (onB day)) R[k]
        rw [← e] at e2
        rw [e2, ruls_kill]
        dsimp only
        generalize (R.take (k + 1)).filter (onB day) = R2
        exact weak_drop (by simp) (by simp [DropHp, ints_below, flts_below, w64_succ k (by omega), rulB, ruls_below, ruls_kill, allBelow_cons, allBelow_nil, below, belowM, belowL]) (by simp [DropTm, DropV, below, belowM, belowL, w64_succ k (by omega), rulB, ruls_below, ruls_kill, allBelow_cons, allBelow_nil, below, belowM, belowL])
      · refine ⟨⟨k + 1, by omega⟩, by show R.length - (k + 1) < _; omega, ?_⟩
        have e := filter_succ (p := onB day) hk'
        rw [g] at e
        simp only [Bool.false_eq_true, if_false, List.append_nil] at e
        exact weak_drop (by simp) (by simp [DropHp, ints_below, flts_below, w64_succ k (by omega), e, rulB, ruls_below, allBelow_cons, allBelow_nil, below, belowM, belowL]) (by simp [DropTm, DropV, below, belowM, belowL, w64_succ k (by omega), e, rulB, ruls_below, allBelow_cons, allBelow_nil, below, belowM, belowL])
    · have hk' : k = R.length := by simp at h; omega
      subst hk'
      rw [List.take_length]
      exact PostR.ret
theorem ruls_view (d : Nat) (hp : List Blk) (L : List Rul) : (L.map rulA).map (view (d + 1) hp) = L.map rulA := by
  rw [List.map_map]; exact List.map_congr_left fun y _ => rul_view d hp y
theorem l05Of_call (R : List Rul) (hR : R.length ≤ 24) (day : Int) : CallA Tryz.prog 34 [.ro (R.map rulA), .int .i64 day] [] (Ret (.ro ((R.filter (onB day)).map rulA)) []) :=
  (l05Of0_call R hR day).frozen 2 (by
    have e : ∀ L : List Rul, List.take L.length (L.map rulA) = L.map rulA := fun L => by rw [show L.length = (L.map rulA).length by simp, List.take_length]
    have e1 : ∀ (hp : List Blk) (L : List Rul), (L.map rulA).map (view 1 hp) = L.map rulA := fun hp L => ruls_view 0 hp L
    simp only [view_sl, rulB, List.getElem?_cons_zero, List.drop_zero, e, e1, List.length_map, Nat.zero_add, Nat.le_refl, decide_true, Bool.and_self, if_true])
theorem l05Can_call (R : List Rul) (hR : R.length ≤ 24) (hr : ∀ r ∈ R, r.2.1.length ≤ 6) (fs : List Int) (hf : fs.length ≤ 16) (day : Int) :
    CallA Tryz.prog 32 [.ro (R.map rulA), .ro (ints fs), .int .i64 day] [] (Ret (.bool (rulesB R && wordsB fs && inR 0 100000 day)) []) := by
  refine CallP.out (t := .mk) (go_in (md := md32) mixed Tryz.func32 rfl go32 (by kernel_rfl) ?_)
  simp only [q0, q1, q2, q3, q4, q5, q6, q7, q8, q9, zr0, zr1, zr2, zr3, zq0, zq1, zq2, zq3, zq4, Nat.reduceAdd, Nat.reduceSub, lenA, convA, indexA, indexS, Int.reduceToNat, cond_true, cond_false, ↓reduceIte, reduceCtorEq, Nat.reduceLT, Nat.reduceLeDiff, Nat.reduceMul, Nat.reduceEqDiff, exists_eq', implies_true, exists_true_left, tys0, tys1, tys2, tys3, tys4, und0, und1, und2, und3, md32, Tryz.ntmps32, Tryz.results32]
  refine call_ret (l05Rules_call R (by omega) (fun r h => by have := hr r h; omega)) rfl rfl ?_
  simp only [q0, q1, q2, q3, q4, q5, q6, q7, q8, q9, zr0, zr1, zr2, zr3, zq0, zq1, zq2, zq3, zq4, Nat.reduceAdd, Nat.reduceSub, lenA, convA, indexA, indexS, Int.reduceToNat, cond_true, cond_false, ↓reduceIte, reduceCtorEq, Nat.reduceLT, Nat.reduceLeDiff, Nat.reduceMul, Nat.reduceEqDiff, exists_eq', implies_true, exists_true_left, tys0, tys1, tys2, tys3, tys4, und0, und1, und2, und3, md32, Tryz.ntmps32, Tryz.results32]
  refine br_intro (fun h => ?_) (fun h => ?_) <;> simp only [q0, q1, q2, q3, q4, q5, q6, q7, q8, q9, zr0, zr1, zr2, zr3, zq0, zq1, zq2, zq3, zq4, Nat.reduceAdd, Nat.reduceSub, lenA, convA, indexA, indexS, Int.reduceToNat, cond_true, cond_false, ↓reduceIte, reduceCtorEq, Nat.reduceLT, Nat.reduceLeDiff, Nat.reduceMul, Nat.reduceEqDiff, exists_eq', implies_true, exists_true_left, tys0, tys1, tys2, tys3, tys4, und0, und1, und2, und3, md32, Tryz.ntmps32, Tryz.results32]
  · refine call_ret (l05Words_call fs (by omega)) rfl rfl ?_
    simp only [q0, q1, q2, q3, q4, q5, q6, q7, q8, q9, zr0, zr1, zr2, zr3, zq0, zq1, zq2, zq3, zq4, Nat.reduceAdd, Nat.reduceSub, lenA, convA, indexA, indexS, Int.reduceToNat, cond_true, cond_false, ↓reduceIte, reduceCtorEq, Nat.reduceLT, Nat.reduceLeDiff, Nat.reduceMul, Nat.reduceEqDiff, exists_eq', implies_true, exists_true_left, tys0, tys1, tys2, tys3, tys4, und0, und1, und2, und3, md32, Tryz.ntmps32, Tryz.results32]
    refine br_intro (fun h2 => ?_) (fun h2 => ?_) <;> simp only [q0, q1, q2, q3, q4, q5, q6, q7, q8, q9, zr0, zr1, zr2, zr3, zq0, zq1, zq2, zq3, zq4, Nat.reduceAdd, Nat.reduceSub, lenA, convA, indexA, indexS, Int.reduceToNat, cond_true, cond_false, ↓reduceIte, reduceCtorEq, Nat.reduceLT, Nat.reduceLeDiff, Nat.reduceMul, Nat.reduceEqDiff, exists_eq', implies_true, exists_true_left, tys0, tys1, tys2, tys3, tys4, und0, und1, und2, und3, md32, Tryz.ntmps32, Tryz.results32]
    · refine call_ret (l05Day_call day) rfl rfl ?_
      simp only [q0, q1, q2, q3, q4, q5, q6, q7, q8, q9, zr0, zr1, zr2, zr3, zq0, zq1, zq2, zq3, zq4, Nat.reduceAdd, Nat.reduceSub, lenA, convA, indexA, indexS, Int.reduceToNat, cond_true, cond_false, ↓reduceIte, reduceCtorEq, Nat.reduceLT, Nat.reduceLeDiff, Nat.reduceMul, Nat.reduceEqDiff, exists_eq', implies_true, exists_true_left, tys0, tys1, tys2, tys3, tys4, und0, und1, und2, und3, md32, Tryz.ntmps32, Tryz.results32]
      rw [h, h2]
      exact PostR.ret
    · rw [h, h2]
      exact PostR.ret
  · rw [h]
    exact PostR.ret
def lstW (V : Int → Bool) (n : Nat) : List Int := (List.range n).flatMap fun a : Nat => ([(a : Int) + 1, -((a : Int) + 1)]).filter V
theorem lstW_nil (V : Int → Bool) : lstW V 0 = [] := rfl
theorem lstW_succ (V : Int → Bool) (n : Nat) : lstW V (n + 1) = lstW V n ++ ([(n : Int) + 1, -((n : Int) + 1)]).filter V := by
  unfold lstW
  rw [List.range_succ, List.flatMap_append]; simp
theorem lstW_len (V : Int → Bool) : ∀ n, (lstW V n).length ≤ 2 * n
  | 0 => by simp [lstW]
  | n + 1 => by
    rw [lstW_succ, List.length_append]
    have := lstW_len V n
    have h2 : (([(n : Int) + 1, -((n : Int) + 1)]).filter V).length ≤ 2 := List.length_filter_le _ _
    omega
theorem lstW_mem (V : Int → Bool) (w : Int) (hw : wordB w = true) : w ∈ lstW V 16 ↔ V w = true := by
  have h0 : w ≠ 0 := by unfold wordB at hw; simp at hw; exact hw.1
  have h1 := wordB_low hw
  unfold lstW
  rw [List.mem_flatMap]
  constructor
  · rintro ⟨a, _, h⟩
    exact (List.mem_filter.1 h).2
  · intro h
    refine ⟨w.natAbs - 1, List.mem_range.2 (by omega), List.mem_filter.2 ⟨?_, h⟩⟩
    simp only [List.mem_cons, List.not_mem_nil, or_false]
    omega
theorem l05List0_call (l : List AV) (V : Int → Bool) (hl : ∀ w, wordB w = true → l[plN w]? = some (.bool (V w))) : CallA Tryz.prog 35 [.rop l] [] (Ret (.sl 0 0 (lstW V 16).length) [intB (lstW V 16)]) := by
  refine CallP.out (t := .mk) (go_in (md := md35) mixed Tryz.func35 rfl go35 (by kernel_rfl) ?_)
  simp only [q0, q1, q2, q3, q4, q5, q6, q7, q8, q9, zr0, zr1, zr2, zr3, zq0, zq1, zq2, zq3, zq4, Nat.reduceAdd, Nat.reduceSub, lenA, convA, indexA, indexS, Int.reduceToNat, cond_true, cond_false, ↓reduceIte, reduceCtorEq, Nat.reduceLT, Nat.reduceLeDiff, Nat.reduceMul, Nat.reduceEqDiff, exists_eq', implies_true, exists_true_left, tys0, tys1, tys2, tys3, tys4, und0, und1, und2, und3, md35, Tryz.ntmps35, Tryz.results35]
  refine go_round (md := md35) mixed (by kernel_rfl) (fun k : {k : Nat // k ≤ 16} => ⟨[.rop l, .any, .any, .sl 0 0 (lstW V k.1).length, .int .i64 ((k.1 : Int) + 1), .any, .any, .any, .any, .any, .any, .any, .any, .any, .any, .any, .any, .any, .any, .any, .any, .any, .any, .any, .any, .any, .any, .any, .any, .any, .any, .any, .any], [intB (lstW V k.1)]⟩) (fun k => 16 - k.1) ⟨0, by simp⟩ ?_ ?_
  · exact weak_drop (by simp) (by simp [DropHp, ints_below, flts_below, intB, ints, allBelow_cons, allBelow_nil, below, belowM, belowL, lstW_nil]) (by simp [DropTm, DropV, below, belowM, belowL, intB, ints, allBelow_cons, allBelow_nil, below, belowM, belowL, lstW_nil])
  · intro ⟨k, hk⟩
    have hlen := lstW_len V k
    simp only [q0, q1, q2, q3, q4, q5, q6, q7, q8, q9, zr0, zr1, zr2, zr3, zq0, zq1, zq2, zq3, zq4, Nat.reduceAdd, Nat.reduceSub, lenA, convA, indexA, indexS, Int.reduceToNat, cond_true, cond_false, ↓reduceIte, reduceCtorEq, Nat.reduceLT, Nat.reduceLeDiff, Nat.reduceMul, Nat.reduceEqDiff, exists_eq', implies_true, exists_true_left, tys0, tys1, tys2, tys3, tys4, und0, und1, und2, und3, md35, Tryz.ntmps35, Tryz.results35, intB]
    refine br_intro (fun h => ?_) (fun h => ?_) <;> simp only [q0, q1, q2, q3, q4, q5, q6, q7, q8, q9, zr0, zr1, zr2, zr3, zq0, zq1, zq2, zq3, zq4, Nat.reduceAdd, Nat.reduceSub, lenA, convA, indexA, indexS, Int.reduceToNat, cond_true, cond_false, ↓reduceIte, reduceCtorEq, Nat.reduceLT, Nat.reduceLeDiff, Nat.reduceMul, Nat.reduceEqDiff, exists_eq', implies_true, exists_true_left, tys0, tys1, tys2, tys3, tys4, und0, und1, und2, und3, md35, Tryz.ntmps35, Tryz.results35, intB]
    · have hk' : k < 16 := by have := of_decide_eq_true h; omega
      have wp : wordB ((k : Int) + 1) = true := by
        unfold wordB
        simp only [Bool.and_eq_true, bne_iff_ne, ne_eq]
        exact ⟨by omega, inR_yes (by omega) (by omega)⟩
      have wm := word_neg wp
      have pl1 := plN_lt wp
      have pl2 := plN_lt wm
      have ha := hl _ wp
      have hb := hl _ wm
      have wn : IntKind.i64.wrap (0 - ((k : Int) + 1)) = -((k : Int) + 1) := by rw [w64 (by omega) (by omega)]; omega
      have wk : IntKind.i64.wrap ((k : Int) + 1 + 1) = ((k + 1 : Nat) : Int) + 1 := by rw [w64 (by omega) (by omega)]; omega
      obtain ⟨la, ha⟩ := List.getElem?_eq_some_iff.1 ha
      obtain ⟨lb, hb⟩ := List.getElem?_eq_some_iff.1 hb
      have ga : ∀ h, (l.drop (plN ((k : Int) + 1)))[0]'h = .bool (V ((k : Int) + 1)) := fun h => by simp [ha]
      have gb : ∀ h, (l.drop (plN (-((k : Int) + 1))))[0]'h = .bool (V (-((k : Int) + 1))) := fun h => by simp [hb]
      refine callr_lent 1 (by rfl) (l05Place_call _ wp) rfl rfl ?_
      simp only [q0, q1, q2, q3, q4, q5, q6, q7, q8, q9, zr0, zr1, zr2, zr3, zq0, zq1, zq2, zq3, zq4, Nat.reduceAdd, Nat.reduceSub, lenA, convA, indexA, indexS, Int.reduceToNat, cond_true, cond_false, ↓reduceIte, reduceCtorEq, Nat.reduceLT, Nat.reduceLeDiff, Nat.reduceMul, Nat.reduceEqDiff, exists_eq', implies_true, exists_true_left, tys0, tys1, tys2, tys3, tys4, und0, und1, und2, und3, md35, Tryz.ntmps35, Tryz.results35, intB, Nat.mul_one, ga]
      refine ⟨by omega, by rw [List.length_drop]; omega, ?_⟩
      have e := lstW_succ V k
      refine br_intro (fun h1 => ?_) (fun h1 => ?_) <;> simp only [q0, q1, q2, q3, q4, q5, q6, q7, q8, q9, zr0, zr1, zr2, zr3, zq0, zq1, zq2, zq3, zq4, Nat.reduceAdd, Nat.reduceSub, lenA, convA, indexA, indexS, Int.reduceToNat, cond_true, cond_false, ↓reduceIte, reduceCtorEq, Nat.reduceLT, Nat.reduceLeDiff, Nat.reduceMul, Nat.reduceEqDiff, exists_eq', implies_true, exists_true_left, tys0, tys1, tys2, tys3, tys4, und0, und1, und2, und3, md35, Tryz.ntmps35, Tryz.results35, intB, allW_int, fits, List.isEmpty_cons, brk_false, Nat.reduceMul, Nat.mul_one, ga, wn]
      · refine ⟨by omega, callr_lent 1 (by rfl) (l05Place_call _ wm) rfl rfl ?_⟩
        simp only [q0, q1, q2, q3, q4, q5, q6, q7, q8, q9, zr0, zr1, zr2, zr3, zq0, zq1, zq2, zq3, zq4, Nat.reduceAdd, Nat.reduceSub, lenA, convA, indexA, indexS, Int.reduceToNat, cond_true, cond_false, ↓reduceIte, reduceCtorEq, Nat.reduceLT, Nat.reduceLeDiff, Nat.reduceMul, Nat.reduceEqDiff, exists_eq', implies_true, exists_true_left, tys0, tys1, tys2, tys3, tys4, und0, und1, und2, und3, md35, Tryz.ntmps35, Tryz.results35, intB, Nat.mul_one, gb]
        refine ⟨by omega, by rw [List.length_drop]; omega, ?_⟩
        refine br_intro (fun h2 => ?_) (fun h2 => ?_) <;> simp only [q0, q1, q2, q3, q4, q5, q6, q7, q8, q9, zr0, zr1, zr2, zr3, zq0, zq1, zq2, zq3, zq4, Nat.reduceAdd, Nat.reduceSub, lenA, convA, indexA, indexS, Int.reduceToNat, cond_true, cond_false, ↓reduceIte, reduceCtorEq, Nat.reduceLT, Nat.reduceLeDiff, Nat.reduceMul, Nat.reduceEqDiff, exists_eq', implies_true, exists_true_left, tys0, tys1, tys2, tys3, tys4, und0, und1, und2, und3, md35, Tryz.ntmps35, Tryz.results35, intB, allW_int, fits, List.isEmpty_cons, brk_false, Nat.reduceMul, Nat.mul_one, gb, wn]
        · simp only [List.filter_cons, h1, h2, if_true, List.filter_nil] at e
          refine ⟨by simp, by omega, ⟨k + 1, by omega⟩, by show 16 - (k + 1) < _; omega, ?_⟩
          exact weak_drop (by simp) (by simp [DropHp, ints_below, flts_below, wk, intB, allBelow_cons, allBelow_nil, below, belowM, belowL, e]) (by simp [DropTm, DropV, below, belowM, belowL, wk, intB, allBelow_cons, allBelow_nil, below, belowM, belowL, e])
        · simp only [List.filter_cons, h1, h2, if_true, List.filter_nil, Bool.false_eq_true, if_false] at e
          refine ⟨⟨k + 1, by omega⟩, by show 16 - (k + 1) < _; omega, ?_⟩
          exact weak_drop (by simp) (by simp [DropHp, ints_below, flts_below, wk, intB, allBelow_cons, allBelow_nil, below, belowM, belowL, e]) (by simp [DropTm, DropV, below, belowM, belowL, wk, intB, allBelow_cons, allBelow_nil, below, belowM, belowL, e])
      · refine callr_lent 1 (by rfl) (l05Place_call _ wm) rfl rfl ?_
        simp only [q0, q1, q2, q3, q4, q5, q6, q7, q8, q9, zr0, zr1, zr2, zr3, zq0, zq1, zq2, zq3, zq4, Nat.reduceAdd, Nat.reduceSub, lenA, convA, indexA, indexS, Int.reduceToNat, cond_true, cond_false, ↓reduceIte, reduceCtorEq, Nat.reduceLT, Nat.reduceLeDiff, Nat.reduceMul, Nat.reduceEqDiff, exists_eq', implies_true, exists_true_left, tys0, tys1, tys2, tys3, tys4, und0, und1, und2, und3, md35, Tryz.ntmps35, Tryz.results35, intB, Nat.mul_one, gb]
        refine ⟨by omega, by rw [List.length_drop]; omega, ?_⟩
        refine br_intro (fun h2 => ?_) (fun h2 => ?_) <;> simp only [q0, q1, q2, q3, q4, q5, q6, q7, q8, q9, zr0, zr1, zr2, zr3, zq0, zq1, zq2, zq3, zq4, Nat.reduceAdd, Nat.reduceSub, lenA, convA, indexA, indexS, Int.reduceToNat, cond_true, cond_false, ↓reduceIte, reduceCtorEq, Nat.reduceLT, Nat.reduceLeDiff, Nat.reduceMul, Nat.reduceEqDiff, exists_eq', implies_true, exists_true_left, tys0, tys1, tys2, tys3, tys4, und0, und1, und2, und3, md35, Tryz.ntmps35, Tryz.results35, intB, allW_int, fits, List.isEmpty_cons, brk_false, Nat.reduceMul, Nat.mul_one, gb, wn]
        · simp only [List.filter_cons, h1, h2, if_true, List.filter_nil, Bool.false_eq_true, if_false] at e
          refine ⟨by omega, ⟨k + 1, by omega⟩, by show 16 - (k + 1) < _; omega, ?_⟩
          exact weak_drop (by simp) (by simp [DropHp, ints_below, flts_below, wk, intB, allBelow_cons, allBelow_nil, below, belowM, belowL, e]) (by simp [DropTm, DropV, below, belowM, belowL, wk, intB, allBelow_cons, allBelow_nil, below, belowM, belowL, e])
        · simp only [List.filter_cons, h1, h2, if_true, List.filter_nil, Bool.false_eq_true, if_false, List.append_nil] at e
          refine ⟨⟨k + 1, by omega⟩, by show 16 - (k + 1) < _; omega, ?_⟩
          exact weak_drop (by simp) (by simp [DropHp, ints_below, flts_below, wk, intB, allBelow_cons, allBelow_nil, below, belowM, belowL, e]) (by simp [DropTm, DropV, below, belowM, belowL, wk, intB, allBelow_cons, allBelow_nil, below, belowM, belowL, e])
    · have hk' : k = 16 := by have := of_decide_eq_false h; omega
      subst hk'
      exact PostR.ret
theorem l05List_call (l : List AV) (V : Int → Bool) (hl : ∀ w, wordB w = true → l[plN w]? = some (.bool (V w))) : CallA Tryz.prog 35 [.rop l] [] (Ret (.ro (ints (lstW V 16))) []) :=
  (l05List0_call l V hl).frozen 2 (view_intB _)
theorem answersOf_call (R : List Rul) (hR : Rls R) (hv : rulesB R = true) (fs : List Int) (hf : Fcs fs) (hw : wordsB fs = true) (day : Int) (hd : inR 0 100000 day = true) :
    CallA Tryz.prog 13 [.ro (R.map rulA), .ro (ints fs), .int .i64 day] [] (fun r hp => ∃ W, Inv (R.filter (onB day)) fs W ∧ Least (R.filter (onB day)) fs (yW W) (nW W) ∧ r = .tup [.ro (ints (lstW (yW W) 16)), .ro (ints (lstW (nW W) 16)), .bool true] ∧ hp = []) := by
  have hR2 : Rls (R.filter (onB day)) := ⟨Nat.le_trans (List.length_filter_le _ _) hR.len, fun r h => hR.ok r (List.mem_filter.1 h).1⟩
  have hc := l05Can_call R hR.len (fun r h => (hR.ok r h).2.1.1) fs hf.len day
  rw [hv, hw, hd] at hc
  refine CallP.out (t := .mk) (go_in (md := md13) mixed Tryz.func13 rfl go13 (by kernel_rfl) ?_)
  simp only [q0, q1, q2, q3, q4, q5, q6, q7, q8, q9, zr0, zr1, zr2, zr3, zq0, zq1, zq2, zq3, zq4, Nat.reduceAdd, Nat.reduceSub, lenA, convA, indexA, indexS, Int.reduceToNat, cond_true, cond_false, ↓reduceIte, reduceCtorEq, Nat.reduceLT, Nat.reduceLeDiff, Nat.reduceMul, Nat.reduceEqDiff, exists_eq', implies_true, exists_true_left, tys0, tys1, tys2, tys3, tys4, und0, und1, und2, und3, md13, Tryz.ntmps13, Tryz.results13]
  refine call_ret hc rfl rfl ?_
  simp only [q0, q1, q2, q3, q4, q5, q6, q7, q8, q9, zr0, zr1, zr2, zr3, zq0, zq1, zq2, zq3, zq4, Nat.reduceAdd, Nat.reduceSub, lenA, convA, indexA, indexS, Int.reduceToNat, cond_true, cond_false, ↓reduceIte, reduceCtorEq, Nat.reduceLT, Nat.reduceLeDiff, Nat.reduceMul, Nat.reduceEqDiff, exists_eq', implies_true, exists_true_left, tys0, tys1, tys2, tys3, tys4, und0, und1, und2, und3, md13, Tryz.ntmps13, Tryz.results13]
  refine call_ret (l05Of_call R hR.len day) rfl rfl ?_
  simp only [q0, q1, q2, q3, q4, q5, q6, q7, q8, q9, zr0, zr1, zr2, zr3, zq0, zq1, zq2, zq3, zq4, Nat.reduceAdd, Nat.reduceSub, lenA, convA, indexA, indexS, Int.reduceToNat, cond_true, cond_false, ↓reduceIte, reduceCtorEq, Nat.reduceLT, Nat.reduceLeDiff, Nat.reduceMul, Nat.reduceEqDiff, exists_eq', implies_true, exists_true_left, tys0, tys1, tys2, tys3, tys4, und0, und1, und2, und3, md13, Tryz.ntmps13, Tryz.results13]
  refine call_newQ (answer_call _ hR2 fs hf) rfl ?_
  rintro r new ⟨W, I, L, rfl, rfl⟩
  refine ⟨by simp, ?_⟩
  simp only [q0, q1, q2, q3, q4, q5, q6, q7, q8, q9, zr0, zr1, zr2, zr3, zq0, zq1, zq2, zq3, zq4, Nat.reduceAdd, Nat.reduceSub, lenA, convA, indexA, indexS, Int.reduceToNat, cond_true, cond_false, ↓reduceIte, reduceCtorEq, Nat.reduceLT, Nat.reduceLeDiff, Nat.reduceMul, Nat.reduceEqDiff, exists_eq', implies_true, exists_true_left, tys0, tys1, tys2, tys3, tys4, und0, und1, und2, und3, md13, Tryz.ntmps13, Tryz.results13, ren, renM, renL]
  have l1 : ∀ w, wordB w = true → (bC 96 W)[plN w]? = some (.bool (yW W w)) := fun w hw => bC_get? _ _ _ (by have := plN_lt hw; omega)
  have l2 : ∀ w, wordB w = true → ((bC 96 W).drop 32)[plN w]? = some (.bool (nW W w)) := fun w hw => by
    rw [List.getElem?_drop]; exact bC_get? _ _ _ (by have := plN_lt hw; omega)
  refine callr_ret (l05List_call _ _ l1) rfl rfl ?_
  simp only [q0, q1, q2, q3, q4, q5, q6, q7, q8, q9, zr0, zr1, zr2, zr3, zq0, zq1, zq2, zq3, zq4, Nat.reduceAdd, Nat.reduceSub, lenA, convA, indexA, indexS, Int.reduceToNat, cond_true, cond_false, ↓reduceIte, reduceCtorEq, Nat.reduceLT, Nat.reduceLeDiff, Nat.reduceMul, Nat.reduceEqDiff, exists_eq', implies_true, exists_true_left, tys0, tys1, tys2, tys3, tys4, und0, und1, und2, und3, md13, Tryz.ntmps13, Tryz.results13]
  refine callr_ret (l05List_call _ _ l2) rfl rfl ?_
  simp only [q0, q1, q2, q3, q4, q5, q6, q7, q8, q9, zr0, zr1, zr2, zr3, zq0, zq1, zq2, zq3, zq4, Nat.reduceAdd, Nat.reduceSub, lenA, convA, indexA, indexS, Int.reduceToNat, cond_true, cond_false, ↓reduceIte, reduceCtorEq, Nat.reduceLT, Nat.reduceLeDiff, Nat.reduceMul, Nat.reduceEqDiff, exists_eq', implies_true, exists_true_left, tys0, tys1, tys2, tys3, tys4, und0, und1, und2, und3, md13, Tryz.ntmps13, Tryz.results13]
  exact PostR.pure ⟨W, I, L, rfl, rfl⟩ (by rfl)
end Go.Proofs.YtmllengggncmkaaGreat
