/- Rules in new memory, rules that end. -/
import Derived.Test.YtmllengggncmkaaGreatAmD
set_option maxRecDepth 10000
set_option maxHeartbeats 8000000
set_option linter.unusedSimpArgs false
set_option linter.unusedVariables false
namespace Go.Proofs.YtmllengggncmkaaGreat
open Go Go.Abs

theorem b10IntsG_call (xs ys : List Int) (hm : xs.length ≤ 1048576) (hm2 : ys.length ≤ 1048576) : CallA Tryz.prog 8 [.ro (ints xs), .ro (ints ys)] [] (Ret (.bool (xs == ys)) []) := by
  refine CallP.out (t := .mk) (go_in (md := md8) mixed Tryz.func8 rfl go8 (by kernel_rfl) ?_)
  simp only [q0, q1, q2, q3, q4, q5, q6, q7, q8, q9, zr0, zr1, zr2, zr3, zq0, zq1, zq2, zq3, zq4, Nat.reduceAdd, Nat.reduceSub, lenA, convA, indexA, indexS, Int.reduceToNat, cond_true, cond_false, ↓reduceIte, reduceCtorEq, Nat.reduceLT, Nat.reduceLeDiff, Nat.reduceMul, Nat.reduceEqDiff, exists_eq', implies_true, exists_true_left, tys0, tys1, tys2, tys3, tys4, und0, und1, und2, und3, md8, Tryz.ntmps8, Tryz.results8]
  refine br_intro (fun h => ?_) (fun h => ?_)
  · simp only [q0, q1, q2, q3, q4, q5, q6, q7, q8, q9, zr0, zr1, zr2, zr3, zq0, zq1, zq2, zq3, zq4, Nat.reduceAdd, Nat.reduceSub, lenA, convA, indexA, indexS, Int.reduceToNat, cond_true, cond_false, ↓reduceIte, reduceCtorEq, Nat.reduceLT, Nat.reduceLeDiff, Nat.reduceMul, Nat.reduceEqDiff, exists_eq', implies_true, exists_true_left, tys0, tys1, tys2, tys3, tys4, und0, und1, und2, und3, md8, Tryz.ntmps8, Tryz.results8]
    have : (xs == ys) = false := by
      rw [beq_eq_false_iff_ne]; intro e; subst e; simp at h
    exact PostR.pure ⟨by rw [this], rfl⟩ (by rfl)
  · have hl : xs.length = ys.length := by simp at h; omega
    simp only [q0, q1, q2, q3, q4, q5, q6, q7, q8, q9, zr0, zr1, zr2, zr3, zq0, zq1, zq2, zq3, zq4, Nat.reduceAdd, Nat.reduceSub, lenA, convA, indexA, indexS, Int.reduceToNat, cond_true, cond_false, ↓reduceIte, reduceCtorEq, Nat.reduceLT, Nat.reduceLeDiff, Nat.reduceMul, Nat.reduceEqDiff, exists_eq', implies_true, exists_true_left, tys0, tys1, tys2, tys3, tys4, und0, und1, und2, und3, md8, Tryz.ntmps8, Tryz.results8]
    refine go_round (md := md8) mixed (by kernel_rfl) (fun k : {k : Nat // k ≤ xs.length ∧ xs.take k = ys.take k} => ⟨[.ro (ints xs), .ro (ints ys), .any, .any, .any, .any, .any, .any, .any, .any, .any, .any, .int .i64 xs.length, .int .i64 k.1, .any, .any, .any, .any, .any, .any, .any, .any, .any, .any, .any, .any], []⟩) (fun k => xs.length - k.1) ⟨0, by simp⟩ ?_ ?_
    · exact weak_drop (by simp) (by simp [DropHp, ints_below, flts_below]) (by simp [DropTm, DropV, below, belowM, belowL])
    · intro ⟨k, hk, he⟩
      simp only [q0, q1, q2, q3, q4, q5, q6, q7, q8, q9, zr0, zr1, zr2, zr3, zq0, zq1, zq2, zq3, zq4, Nat.reduceAdd, Nat.reduceSub, lenA, convA, indexA, indexS, Int.reduceToNat, cond_true, cond_false, ↓reduceIte, reduceCtorEq, Nat.reduceLT, Nat.reduceLeDiff, Nat.reduceMul, Nat.reduceEqDiff, exists_eq', implies_true, exists_true_left, tys0, tys1, tys2, tys3, tys4, und0, und1, und2, und3, md8, Tryz.ntmps8, Tryz.results8]
      refine br_intro (fun h => ?_) (fun h => ?_)
      · have hk' : k < xs.length := by simpa using h
        simp only [q0, q1, q2, q3, q4, q5, q6, q7, q8, q9, zr0, zr1, zr2, zr3, zq0, zq1, zq2, zq3, zq4, Nat.reduceAdd, Nat.reduceSub, lenA, convA, indexA, indexS, Int.reduceToNat, cond_true, cond_false, ↓reduceIte, reduceCtorEq, Nat.reduceLT, Nat.reduceLeDiff, Nat.reduceMul, Nat.reduceEqDiff, exists_eq', implies_true, exists_true_left, tys0, tys1, tys2, tys3, tys4, und0, und1, und2, und3, md8, Tryz.ntmps8, Tryz.results8]
        refine ⟨hk', by omega, br_intro (fun hne => ?_) (fun heq => ?_)⟩ <;> simp only [q0, q1, q2, q3, q4, q5, q6, q7, q8, q9, zr0, zr1, zr2, zr3, zq0, zq1, zq2, zq3, zq4, Nat.reduceAdd, Nat.reduceSub, lenA, convA, indexA, indexS, Int.reduceToNat, cond_true, cond_false, ↓reduceIte, reduceCtorEq, Nat.reduceLT, Nat.reduceLeDiff, Nat.reduceMul, Nat.reduceEqDiff, exists_eq', implies_true, exists_true_left, tys0, tys1, tys2, tys3, tys4, und0, und1, und2, und3, md8, Tryz.ntmps8, Tryz.results8]
        · have : (xs == ys) = false := by
            rw [beq_eq_false_iff_ne]; intro e; subst e; simp at hne
          exact PostR.pure ⟨by rw [this], rfl⟩ (by rfl)
        · have heq' : xs[k] = ys[k] := by simpa using heq
          refine ⟨⟨k + 1, by omega, by rw [take_snoc _ _ hk', take_snoc _ _ (by omega), he, heq']⟩, by show xs.length - (k + 1) < xs.length - k; omega, ?_⟩
          exact weak_drop (by simp) (by simp [DropHp, ints_below, flts_below, w64_succ k (by omega)]) (by simp [DropTm, DropV, below, belowM, belowL, w64_succ k (by omega)])
      · have hk' : k = xs.length := by simp at h; omega
        simp only [q0, q1, q2, q3, q4, q5, q6, q7, q8, q9, zr0, zr1, zr2, zr3, zq0, zq1, zq2, zq3, zq4, Nat.reduceAdd, Nat.reduceSub, lenA, convA, indexA, indexS, Int.reduceToNat, cond_true, cond_false, ↓reduceIte, reduceCtorEq, Nat.reduceLT, Nat.reduceLeDiff, Nat.reduceMul, Nat.reduceEqDiff, exists_eq', implies_true, exists_true_left, tys0, tys1, tys2, tys3, tys4, und0, und1, und2, und3, md8, Tryz.ntmps8, Tryz.results8]
        have : (xs == ys) = true := by
          rw [beq_iff_eq]
          have h1 : xs.take xs.length = xs := List.take_length
          have h2 : ys.take xs.length = ys := by rw [hl]; exact List.take_length
          rw [hk'] at he; rw [← h1, ← h2, he]
        exact PostR.pure ⟨by rw [this], rfl⟩ (by rfl)
theorem clone0_call (r : Rul) (h6 : r.2.1.length ≤ 6) : CallA Tryz.prog 37 [rulA r] [] (Ret (.agg [.int .i64 r.1, .sl 0 0 r.2.1.length, .int .i64 r.2.2.1, .int .i64 r.2.2.2.1, .int .i64 r.2.2.2.2]) [intB r.2.1]) := by
  refine CallP.out (t := .mk) (go_in (md := md37) mixed Tryz.func37 rfl go37 (by kernel_rfl) ?_)
  simp only [q0, q1, q2, q3, q4, q5, q6, q7, q8, q9, zr0, zr1, zr2, zr3, zq0, zq1, zq2, zq3, zq4, Nat.reduceAdd, Nat.reduceSub, lenA, convA, indexA, indexS, Int.reduceToNat, cond_true, cond_false, ↓reduceIte, reduceCtorEq, Nat.reduceLT, Nat.reduceLeDiff, Nat.reduceMul, Nat.reduceEqDiff, exists_eq', implies_true, exists_true_left, tys0, tys1, tys2, tys3, tys4, und0, und1, und2, und3, md37, Tryz.ntmps37, Tryz.results37, rulA, ints_len, allW_int, fits, List.isEmpty_cons, brk_false, Nat.reduceMul]
  refine ⟨fun v hv => (by obtain ⟨z, _, rfl⟩ := List.mem_map.1 hv; exact ⟨rfl, rfl⟩), by omega, ?_⟩
  exact PostR.tell [2] (hp2 := [intB r.2.1]) (by decide) (by decide) (by decide) ⟨⟨by simp [renB, intB, ints_ren], intsB_below _ _⟩, trivial⟩ (r2 := .agg [.int .i64 r.1, .sl 0 0 r.2.1.length, .int .i64 r.2.2.1, .int .i64 r.2.2.2.1, .int .i64 r.2.2.2.2]) (by rfl) (by rfl) ⟨rfl, rfl⟩
theorem clone_call (r : Rul) (h6 : r.2.1.length ≤ 6) : CallA Tryz.prog 37 [rulA r] [] (Ret (rulA r) []) := by
  refine (CallA.freezeQ 3 (clone0_call r h6)).mono ?_
  rintro r' hp ⟨r0, new, ⟨rfl, rfl⟩, rfl, rfl⟩
  refine ⟨?_, rfl⟩
  show AV.agg [view 2 _ _, view 2 _ _, view 2 _ _, view 2 _ _, view 2 _ _] = _
  rw [view_intB]
  rfl
def rlB (R : List Rul) : Blk := rulB (R.map rulA)
theorem kill_rul (N : Nat) (T : List Rul) (x : Rul) : List.map (kill N) (T.map rulA ++ [.agg [.int .i64 x.1, .ro (ints x.2.1), .int .i64 x.2.2.1, .int .i64 x.2.2.2.1, .int .i64 x.2.2.2.2]]) = (T ++ [x]).map rulA := by
  rw [show T.map rulA ++ [.agg [.int .i64 x.1, .ro (ints x.2.1), .int .i64 x.2.2.1, .int .i64 x.2.2.2.1, .int .i64 x.2.2.2.2]] = (T ++ [x]).map rulA from by rw [List.map_append]; rfl, List.map_map]
  exact List.map_congr_left fun y _ => rfl
theorem cloneRules_call (R : List Rul) (hR : Rls R) : CallA Tryz.prog 61 [.ro (R.map rulA)] [] (Ret (.sl 0 0 R.length) [rlB R]) := by
  have hl := hR.len
  refine CallP.out (t := .mk) (go_in (md := md61) mixed Tryz.func61 rfl go61 (by kernel_rfl) ?_)
  simp only [q0, q1, q2, q3, q4, q5, q6, q7, q8, q9, zr0, zr1, zr2, zr3, zq0, zq1, zq2, zq3, zq4, Nat.reduceAdd, Nat.reduceSub, lenA, convA, indexA, indexS, Int.reduceToNat, cond_true, cond_false, ↓reduceIte, reduceCtorEq, Nat.reduceLT, Nat.reduceLeDiff, Nat.reduceMul, Nat.reduceEqDiff, exists_eq', implies_true, exists_true_left, tys0, tys1, tys2, tys3, tys4, und0, und1, und2, und3, md61, Tryz.ntmps61, Tryz.results61, List.length_map]
  refine go_round (md := md61) mixed (by kernel_rfl) (fun k : {k : Nat // k ≤ R.length} => ⟨[.any, .any, .any, .sl 0 0 k.1, .any, .any, .any, .ro (R.map rulA), .int .i64 R.length, .int .i64 k.1, .any, .any, .any, .any, .any, .any, .any, .any, .any, .any], [rlB (R.take k.1)]⟩) (fun k => R.length - k.1) ⟨0, Nat.zero_le _⟩ ?_ ?_
  · exact weak_drop (by simp) (by simp [DropHp, ints_below, flts_below, rlB, rulB, allBelow_cons, allBelow_nil, below, belowM, belowL, show (List.map rulA ([] : List Rul)) = [] from rfl, List.take_zero]) (by simp [DropTm, DropV, below, belowM, belowL, rlB, rulB, allBelow_cons, allBelow_nil, below, belowM, belowL, show (List.map rulA ([] : List Rul)) = [] from rfl, List.take_zero])
  rintro ⟨k, hk⟩
  simp only [q0, q1, q2, q3, q4, q5, q6, q7, q8, q9, zr0, zr1, zr2, zr3, zq0, zq1, zq2, zq3, zq4, Nat.reduceAdd, Nat.reduceSub, lenA, convA, indexA, indexS, Int.reduceToNat, cond_true, cond_false, ↓reduceIte, reduceCtorEq, Nat.reduceLT, Nat.reduceLeDiff, Nat.reduceMul, Nat.reduceEqDiff, exists_eq', implies_true, exists_true_left, tys0, tys1, tys2, tys3, tys4, und0, und1, und2, und3, md61, Tryz.ntmps61, Tryz.results61, rlB, rulB, List.length_map]
  refine br_intro (fun h => ?_) (fun h => ?_) <;> simp only [q0, q1, q2, q3, q4, q5, q6, q7, q8, q9, zr0, zr1, zr2, zr3, zq0, zq1, zq2, zq3, zq4, Nat.reduceAdd, Nat.reduceSub, lenA, convA, indexA, indexS, Int.reduceToNat, cond_true, cond_false, ↓reduceIte, reduceCtorEq, Nat.reduceLT, Nat.reduceLeDiff, Nat.reduceMul, Nat.reduceEqDiff, exists_eq', implies_true, exists_true_left, tys0, tys1, tys2, tys3, tys4, und0, und1, und2, und3, md61, Tryz.ntmps61, Tryz.results61, rlB, rulB, List.length_map]
  · have hk' : k < R.length := by simpa using h
    have h6 := (hR.ok _ (List.getElem_mem hk')).2.1.1
    have cc := clone_call R[k] h6
    have wk := w64_succ k (by omega)
    have et : (R.take (k + 1)).map rulA = (R.take k).map rulA ++ [rulA R[k]] := by rw [take_snoc _ _ hk', List.map_append]; rfl
    refine ⟨hk', ?_⟩
    simp only [q0, q1, q2, q3, q4, q5, q6, q7, q8, q9, zr0, zr1, zr2, zr3, zq0, zq1, zq2, zq3, zq4, Nat.reduceAdd, Nat.reduceSub, lenA, convA, indexA, indexS, Int.reduceToNat, cond_true, cond_false, ↓reduceIte, reduceCtorEq, Nat.reduceLT, Nat.reduceLeDiff, Nat.reduceMul, Nat.reduceEqDiff, exists_eq', implies_true, exists_true_left, tys0, tys1, tys2, tys3, tys4, und0, und1, und2, und3, md61, Tryz.ntmps61, Tryz.results61, rlB, rulB, List.length_map, List.getElem_map, rulA]
    refine call_ret cc rfl rfl ?_
    simp only [q0, q1, q2, q3, q4, q5, q6, q7, q8, q9, zr0, zr1, zr2, zr3, zq0, zq1, zq2, zq3, zq4, Nat.reduceAdd, Nat.reduceSub, lenA, convA, indexA, indexS, Int.reduceToNat, cond_true, cond_false, ↓reduceIte, reduceCtorEq, Nat.reduceLT, Nat.reduceLeDiff, Nat.reduceMul, Nat.reduceEqDiff, exists_eq', implies_true, exists_true_left, tys0, tys1, tys2, tys3, tys4, und0, und1, und2, und3, md61, Tryz.ntmps61, Tryz.results61, rlB, rulB, List.length_map, List.getElem_map, rulA, allW_int, fits, List.isEmpty_cons, brk_false, Nat.reduceMul]
    have ts := take_snoc R k hk'
    refine ⟨by rw [List.length_take]; omega, fun v hv => (by rw [List.mem_singleton.1 hv]; exact ⟨rfl, rfl⟩), by omega, ⟨k + 1, by omega⟩, by show R.length - (k + 1) < _; omega, ?_⟩
    show Weak 0 _ ⟨_, _⟩
    rw [kill_rul 0, wk, ← ts]
    dsimp only
    generalize R.take (k + 1) = T2
    exact weak_drop (by simp) (by simp [DropHp, ints_below, flts_below, rlB, rulB, ruls_below, allBelow_cons, allBelow_nil, below, belowM, belowL]) (by simp [DropTm, DropV, below, belowM, belowL, rlB, rulB, ruls_below, allBelow_cons, allBelow_nil, below, belowM, belowL])
  · have hk' : k = R.length := by simp at h; omega
    subst hk'
    rw [List.take_length]
    exact PostR.same ⟨rfl, rfl⟩
def cutR (R : List Rul) (i : Nat) (d : Int) : List Rul := R.set i ((rkR R i).1, (rkR R i).2.1, (rkR R i).2.2.1, d, (rkR R i).2.2.2.2)
def endB (R : List Rul) (i : Nat) (day : Int) : Bool := decide ((rkR R i).2.2.1 < day) && decide (day ≤ (rkR R i).2.2.2.1)
theorem ended_call (R : List Rul) (hR : Rls R) (rb : rulesB R = true) (i : Nat) (hi : i < R.length) (day : Int) (hd : inR 0 100000 day = true) :
    CallA Tryz.prog 40 [.ro (R.map rulA), .int .i64 i, .int .i64 day] [] (fun r hp => if endB R i day = true then r = .tup [.sl 0 0 R.length, .bool true] ∧ hp = [rlB (cutR R i (day - 1))] else r = .tup [.nils, .bool false] ∧ hp = []) := by
  have hl := hR.len
  have c1 := areRules_call R (by omega) (fun r h => by have := (hR.ok r h).2.1.1; omega)
  rw [rb] at c1
  have c2 := isDate_call day
  rw [hd] at c2
  have wl : IntKind.i64.wrap ((R.length : Int) - 1) = (R.length : Int) - 1 := w64 (by omega) (by omega)
  have c3 := within_call (i : Int) 0 ((R.length : Int) - 1)
  rw [show inR 0 ((R.length : Int) - 1) (i : Int) = true from by unfold inR; rw [decide_eq_true (by omega), decide_eq_true (by omega)]; rfl] at c3
  have hri := rkR_at R i hi
  refine CallP.out (t := .mk) (go_in (md := md40) mixed Tryz.func40 rfl go40 (by kernel_rfl) ?_)
  simp only [q0, q1, q2, q3, q4, q5, q6, q7, q8, q9, zr0, zr1, zr2, zr3, zq0, zq1, zq2, zq3, zq4, Nat.reduceAdd, Nat.reduceSub, lenA, convA, indexA, indexS, Int.reduceToNat, cond_true, cond_false, ↓reduceIte, reduceCtorEq, Nat.reduceLT, Nat.reduceLeDiff, Nat.reduceMul, Nat.reduceEqDiff, exists_eq', implies_true, exists_true_left, tys0, tys1, tys2, tys3, tys4, und0, und1, und2, und3, md40, Tryz.ntmps40, Tryz.results40]
  refine call_ret c1 rfl rfl ?_
  simp only [q0, q1, q2, q3, q4, q5, q6, q7, q8, q9, zr0, zr1, zr2, zr3, zq0, zq1, zq2, zq3, zq4, Nat.reduceAdd, Nat.reduceSub, lenA, convA, indexA, indexS, Int.reduceToNat, cond_true, cond_false, ↓reduceIte, reduceCtorEq, Nat.reduceLT, Nat.reduceLeDiff, Nat.reduceMul, Nat.reduceEqDiff, exists_eq', implies_true, exists_true_left, tys0, tys1, tys2, tys3, tys4, und0, und1, und2, und3, md40, Tryz.ntmps40, Tryz.results40]
  refine call_ret c2 rfl rfl ?_
  simp only [q0, q1, q2, q3, q4, q5, q6, q7, q8, q9, zr0, zr1, zr2, zr3, zq0, zq1, zq2, zq3, zq4, Nat.reduceAdd, Nat.reduceSub, lenA, convA, indexA, indexS, Int.reduceToNat, cond_true, cond_false, ↓reduceIte, reduceCtorEq, Nat.reduceLT, Nat.reduceLeDiff, Nat.reduceMul, Nat.reduceEqDiff, exists_eq', implies_true, exists_true_left, tys0, tys1, tys2, tys3, tys4, und0, und1, und2, und3, md40, Tryz.ntmps40, Tryz.results40, List.length_map, wl]
  refine call_ret c3 rfl rfl ?_
  simp only [q0, q1, q2, q3, q4, q5, q6, q7, q8, q9, zr0, zr1, zr2, zr3, zq0, zq1, zq2, zq3, zq4, Nat.reduceAdd, Nat.reduceSub, lenA, convA, indexA, indexS, Int.reduceToNat, cond_true, cond_false, ↓reduceIte, reduceCtorEq, Nat.reduceLT, Nat.reduceLeDiff, Nat.reduceMul, Nat.reduceEqDiff, exists_eq', implies_true, exists_true_left, tys0, tys1, tys2, tys3, tys4, und0, und1, und2, und3, md40, Tryz.ntmps40, Tryz.results40, List.length_map, List.getElem_map, rulA]
  refine ⟨hi, ?_⟩
  refine br_intro (fun b1 => ?_) (fun b1 => ?_) <;> simp only [q0, q1, q2, q3, q4, q5, q6, q7, q8, q9, zr0, zr1, zr2, zr3, zq0, zq1, zq2, zq3, zq4, Nat.reduceAdd, Nat.reduceSub, lenA, convA, indexA, indexS, Int.reduceToNat, cond_true, cond_false, ↓reduceIte, reduceCtorEq, Nat.reduceLT, Nat.reduceLeDiff, Nat.reduceMul, Nat.reduceEqDiff, exists_eq', implies_true, exists_true_left, tys0, tys1, tys2, tys3, tys4, und0, und1, und2, und3, md40, Tryz.ntmps40, Tryz.results40, List.length_map, List.getElem_map, rulA]
  · have e : endB R i day = false := by unfold endB; rw [hri, decide_eq_false (by have := of_decide_eq_true b1; omega)]; rfl
    exact PostR.pure (by rw [e, if_neg (by decide)]; exact ⟨rfl, rfl⟩) (by rfl)
  have a1 := of_decide_eq_false b1
  refine ⟨hi, ?_⟩
  refine br_intro (fun b2 => ?_) (fun b2 => ?_) <;> simp only [q0, q1, q2, q3, q4, q5, q6, q7, q8, q9, zr0, zr1, zr2, zr3, zq0, zq1, zq2, zq3, zq4, Nat.reduceAdd, Nat.reduceSub, lenA, convA, indexA, indexS, Int.reduceToNat, cond_true, cond_false, ↓reduceIte, reduceCtorEq, Nat.reduceLT, Nat.reduceLeDiff, Nat.reduceMul, Nat.reduceEqDiff, exists_eq', implies_true, exists_true_left, tys0, tys1, tys2, tys3, tys4, und0, und1, und2, und3, md40, Tryz.ntmps40, Tryz.results40, List.length_map, List.getElem_map, rulA]
  · have e : endB R i day = false := by unfold endB; rw [hri, decide_eq_false (show ¬ day ≤ R[i].2.2.2.1 from by have := of_decide_eq_true b2; omega), Bool.and_false]
    exact PostR.pure (by rw [e, if_neg (by decide)]; exact ⟨rfl, rfl⟩) (by rfl)
  have a2 := of_decide_eq_false b2
  have a3 : 0 ≤ day ∧ day ≤ 100000 := by unfold inR at hd; rw [Bool.and_eq_true, decide_eq_true_eq, decide_eq_true_eq] at hd; exact hd
  have wd : IntKind.i64.wrap (day - 1) = day - 1 := w64 (by omega) (by omega)
  have e : endB R i day = true := by unfold endB; rw [hri, decide_eq_true (by omega), decide_eq_true (by omega)]; rfl
  refine call_new (cloneRules_call R hR) rfl (by intro q hq; simp at hq; subst hq; exact ruls_below _ _) ?_
  simp only [q0, q1, q2, q3, q4, q5, q6, q7, q8, q9, zr0, zr1, zr2, zr3, zq0, zq1, zq2, zq3, zq4, Nat.reduceAdd, Nat.reduceSub, lenA, convA, indexA, indexS, Int.reduceToNat, cond_true, cond_false, ↓reduceIte, reduceCtorEq, Nat.reduceLT, Nat.reduceLeDiff, Nat.reduceMul, Nat.reduceEqDiff, exists_eq', implies_true, exists_true_left, tys0, tys1, tys2, tys3, tys4, und0, und1, und2, und3, md40, Tryz.ntmps40, Tryz.results40, rlB, rulB, ren, renM, renL, wd, List.length_map, List.getElem_map, rulA]
  have es : (R.map rulA).set i (.agg [.int .i64 R[i].1, .ro (ints R[i].2.1), .int .i64 R[i].2.2.1, .int .i64 (day - 1), .int .i64 R[i].2.2.2.2]) = (cutR R i (day - 1)).map rulA := by
    unfold cutR
    rw [List.map_set, hri]
    rfl
  refine ⟨by omega, hi, ?_⟩
  rw [es]
  exact PostR.same (by rw [e, if_pos rfl]; exact ⟨rfl, rfl⟩)
theorem cutR_len (R : List Rul) (i : Nat) (d : Int) : (cutR R i d).length = R.length := List.length_set
theorem view_rules (l : List Blk) (L : List Rul) : view 3 (rlB L :: l) (.sl 0 0 L.length) = .ro (L.map rulA) := by
  have lm : (L.map rulA).length = L.length := List.length_map _
  have hv : (L.map rulA).map (view 2 (rulB (L.map rulA) :: l)) = L.map rulA := by
    rw [List.map_map]
    exact List.map_congr_left fun r _ => rul_view 1 _ r
  have ht : List.take L.length (L.map rulA) = L.map rulA := by rw [← lm]; exact List.take_length
  simp only [rlB, rulB] at hv ⊢
  simp only [view_sl, List.getElem?_cons_zero, List.drop_zero, ht, hv, lm, Nat.zero_add, Nat.le_refl, decide_true, Bool.and_self, if_true]
theorem repeal_call (R : List Rul) (hR : Rls R) (rb : rulesB R = true) (i : Nat) (hi : i < R.length) (day : Int) (hd : inR 0 100000 day = true) :
    CallA Tryz.prog 18 [.ro (R.map rulA), .int .i64 i, .int .i64 day] [] (Ret (if endB R i day = true then .tup [.ro ((cutR R i (day - 1)).map rulA), .bool true] else .tup [.nils, .bool false]) []) := by
  have main : CallA Tryz.prog 18 [.ro (R.map rulA), .int .i64 i, .int .i64 day] [] (fun r hp => if endB R i day = true then r = .tup [.sl 0 0 R.length, .bool true] ∧ hp = [rlB (cutR R i (day - 1))] else r = .tup [.nils, .bool false] ∧ hp = []) := by
    refine CallP.out (t := .mk) (go_in (md := md18) mixed Tryz.func18 rfl go18 (by kernel_rfl) ?_)
    simp only [q0, q1, q2, q3, q4, q5, q6, q7, q8, q9, zr0, zr1, zr2, zr3, zq0, zq1, zq2, zq3, zq4, Nat.reduceAdd, Nat.reduceSub, lenA, convA, indexA, indexS, Int.reduceToNat, cond_true, cond_false, ↓reduceIte, reduceCtorEq, Nat.reduceLT, Nat.reduceLeDiff, Nat.reduceMul, Nat.reduceEqDiff, exists_eq', implies_true, exists_true_left, tys0, tys1, tys2, tys3, tys4, und0, und1, und2, und3, md18, Tryz.ntmps18, Tryz.results18]
    refine call_by (ended_call R hR rb i hi day hd) ?_
    intro r hp h
    cases e : endB R i day with
    | true =>
      rw [e, if_pos rfl] at h
      obtain ⟨rfl, rfl⟩ := h
      simp only [q0, q1, q2, q3, q4, q5, q6, q7, q8, q9, zr0, zr1, zr2, zr3, zq0, zq1, zq2, zq3, zq4, Nat.reduceAdd, Nat.reduceSub, lenA, convA, indexA, indexS, Int.reduceToNat, cond_true, cond_false, ↓reduceIte, reduceCtorEq, Nat.reduceLT, Nat.reduceLeDiff, Nat.reduceMul, Nat.reduceEqDiff, exists_eq', implies_true, exists_true_left, tys0, tys1, tys2, tys3, tys4, und0, und1, und2, und3, md18, Tryz.ntmps18, Tryz.results18]
      exact PostR.same (by first | exact ⟨rfl, rfl⟩ | (rw [e, if_pos rfl]; exact ⟨rfl, rfl⟩))
    | false =>
      rw [e, if_neg (by decide)] at h
      obtain ⟨rfl, rfl⟩ := h
      simp only [q0, q1, q2, q3, q4, q5, q6, q7, q8, q9, zr0, zr1, zr2, zr3, zq0, zq1, zq2, zq3, zq4, Nat.reduceAdd, Nat.reduceSub, lenA, convA, indexA, indexS, Int.reduceToNat, cond_true, cond_false, ↓reduceIte, reduceCtorEq, Nat.reduceLT, Nat.reduceLeDiff, Nat.reduceMul, Nat.reduceEqDiff, exists_eq', implies_true, exists_true_left, tys0, tys1, tys2, tys3, tys4, und0, und1, und2, und3, md18, Tryz.ntmps18, Tryz.results18]
      exact PostR.same (by first | exact ⟨rfl, rfl⟩ | (rw [e, if_neg (by decide)]; exact ⟨rfl, rfl⟩))
  refine (CallA.freezeQ 4 main).mono ?_
  rintro r hp ⟨r0, new, h, rfl, rfl⟩
  cases e : endB R i day with
  | true =>
    rw [e, if_pos rfl] at h
    obtain ⟨rfl, rfl⟩ := h
    rw [if_pos rfl]
    refine ⟨?_, rfl⟩
    show AV.tup [view 3 _ _, view 3 _ _] = _
    rw [← cutR_len R i (day - 1), view_rules]
    rfl
  | false =>
    rw [e, if_neg (by decide)] at h
    obtain ⟨rfl, rfl⟩ := h
    rw [if_neg (by decide)]
    exact ⟨rfl, rfl⟩
end Go.Proofs.YtmllengggncmkaaGreat
