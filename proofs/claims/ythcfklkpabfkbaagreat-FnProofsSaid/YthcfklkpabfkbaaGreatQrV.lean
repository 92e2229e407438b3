/- Clashes: the reference's. -/
import Derived.Test.YthcfklkpabfkbaaGreatQrU
set_option maxRecDepth 10000
set_option maxHeartbeats 8000000
set_option linter.unusedSimpArgs false
set_option linter.unusedVariables false
namespace Go.Proofs.YthcfklkpabfkbaaGreat
open Go Go.Abs

theorem prs_map {α β γ : Type} (f : β → β → List γ) (g : α → β) : ∀ l : List α, prs f (l.map g) = prs (fun x y => f (g x) (g y)) l
  | [] => rfl
  | x :: l => by rw [List.map_cons, prs_cons, prs_cons, prs_map f g l, List.flatMap_map]
def onN (R : List Rul) (day : Int) (i : Nat) : Bool := onB day (rkR R i)
def clN (R : List Rul) (day : Int) (i k : Nat) : List Int := if (onN R day i && onN R day k) = true then clP R i k else []
theorem prs_idxD (R : List Rul) (day : Int) : prs (clP R) (idxD R day R.length) = prs (clN R day) (List.range R.length) := by
  unfold idxD
  rw [prs_map, prs_filter]
  rfl
theorem range_drop (n i : Nat) (h : i < n) : (List.range n).drop i = i :: (List.range n).drop (i + 1) := by
  rw [drop_at _ i (by simpa using h)]
  simp
theorem opp_step (a b : Rul) (j : Nat) (h : j < a.2.1.length) : ((a.2.1.take (j + 1)).any fun w => decide (-w ∈ b.2.1)) = (((a.2.1.take j).any fun w => decide (-w ∈ b.2.1)) || decide (-a.2.1[j] ∈ b.2.1)) := by
  rw [take_snoc _ _ h, List.any_append]
  simp

theorem refClashes0_call (R : List Rul) (hR : Rls R) (rb : rulesB R = true) (day : Int) (hd : inR 0 100000 day = true) :
    CallA Tryz.prog 15 [.ro (R.map rulA), .int .i64 day] [] (Ret (.tup [.sl 0 0 (prs (clN R day) (List.range R.length)).length, .bool true]) [intB (prs (clN R day) (List.range R.length))]) := by
  have hl := hR.len
  have c1 := l05Rules_call R (by omega) (fun r h => by have := (hR.ok r h).2.1.1; omega)
  rw [rb] at c1
  have c3 := l05Day_call day
  rw [hd] at c3
  have hpl := prs_len (clN R day) (fun x y => by unfold clN clP; split <;> first | (split <;> simp) | simp) 24 (List.range R.length) (by simpa using hl)
  rw [List.length_range] at hpl
  have hpm : (prs (clN R day) (List.range R.length)).length ≤ 24 * (2 * 24) := Nat.le_trans hpl (Nat.mul_le_mul_right _ hl)
  refine CallP.out (t := .mk) (go_in (md := md15) mixed Tryz.func15 rfl go15 (by kernel_rfl) ?_)
  simp only [q0, q1, q2, q3, q4, q5, q6, q7, q8, q9, zr0, zr1, zr2, zr3, zq0, zq1, zq2, zq3, zq4, Nat.reduceAdd, Nat.reduceSub, lenA, convA, indexA, indexS, Int.reduceToNat, cond_true, cond_false, ↓reduceIte, reduceCtorEq, Nat.reduceLT, Nat.reduceLeDiff, Nat.reduceMul, Nat.reduceEqDiff, exists_eq', implies_true, exists_true_left, tys0, tys1, tys2, tys3, tys4, und0, und1, und2, und3, md15, Tryz.ntmps15, Tryz.results15]
  refine call_ret c1 rfl rfl ?_
  simp only [q0, q1, q2, q3, q4, q5, q6, q7, q8, q9, zr0, zr1, zr2, zr3, zq0, zq1, zq2, zq3, zq4, Nat.reduceAdd, Nat.reduceSub, lenA, convA, indexA, indexS, Int.reduceToNat, cond_true, cond_false, ↓reduceIte, reduceCtorEq, Nat.reduceLT, Nat.reduceLeDiff, Nat.reduceMul, Nat.reduceEqDiff, exists_eq', implies_true, exists_true_left, tys0, tys1, tys2, tys3, tys4, und0, und1, und2, und3, md15, Tryz.ntmps15, Tryz.results15]
  refine call_ret c3 rfl rfl ?_
  simp only [q0, q1, q2, q3, q4, q5, q6, q7, q8, q9, zr0, zr1, zr2, zr3, zq0, zq1, zq2, zq3, zq4, Nat.reduceAdd, Nat.reduceSub, lenA, convA, indexA, indexS, Int.reduceToNat, cond_true, cond_false, ↓reduceIte, reduceCtorEq, Nat.reduceLT, Nat.reduceLeDiff, Nat.reduceMul, Nat.reduceEqDiff, exists_eq', implies_true, exists_true_left, tys0, tys1, tys2, tys3, tys4, und0, und1, und2, und3, md15, Tryz.ntmps15, Tryz.results15, List.length_map]
  refine go_round (md := md15) mixed (by kernel_rfl) (fun s : {s : Nat × List Int // s.1 ≤ R.length ∧ s.2 ++ prs (clN R day) ((List.range R.length).drop s.1) = prs (clN R day) (List.range R.length)} => ⟨[.ro (R.map rulA), .int .i64 day, .any, .any, .any, .any, .sl 0 0 s.1.2.length, .any, .any, .any, .any, .any, .any, .any, .any, .any, .any, .any, .any, .any, .any, .any, .any, .int .i64 R.length, .int .i64 s.1.1, .any, .any, .any, .any, .any, .any, .any, .any, .any, .any, .any, .any, .any, .any, .any, .any, .any, .any, .any, .any, .any, .any, .any, .any, .any, .any, .any, .any, .any, .any, .any, .any, .any, .any, .any, .any, .any, .any, .any, .any, .any, .any, .any, .any, .any, .any, .any, .any, .any, .any, .any, .any, .any, .any, .any, .any, .any, .any, .any, .any, .any, .any, .any, .any, .any, .any, .any, .any, .any, .any, .any, .any, .any, .any, .any, .any, .any, .any, .any], [intB s.1.2]⟩) (fun s => R.length - s.1.1) ⟨(0, []), Nat.zero_le _, rfl⟩ ?_ ?_
  · exact weak_drop (by simp) (by simp [DropHp, ints_below, flts_below, intB, allBelow_cons, allBelow_nil, below, belowM, belowL, show ints [] = [] from rfl]) (by simp [DropTm, DropV, below, belowM, belowL, intB, allBelow_cons, allBelow_nil, below, belowM, belowL, show ints [] = [] from rfl])
  rintro ⟨⟨i, out⟩, hi, he⟩
  dsimp only at hi he ⊢
  simp only [q0, q1, q2, q3, q4, q5, q6, q7, q8, q9, zr0, zr1, zr2, zr3, zq0, zq1, zq2, zq3, zq4, Nat.reduceAdd, Nat.reduceSub, lenA, convA, indexA, indexS, Int.reduceToNat, cond_true, cond_false, ↓reduceIte, reduceCtorEq, Nat.reduceLT, Nat.reduceLeDiff, Nat.reduceMul, Nat.reduceEqDiff, exists_eq', implies_true, exists_true_left, tys0, tys1, tys2, tys3, tys4, und0, und1, und2, und3, md15, Tryz.ntmps15, Tryz.results15, intB, ints_len, List.length_map]
  refine br_intro (fun h => ?_) (fun h => ?_) <;> simp only [q0, q1, q2, q3, q4, q5, q6, q7, q8, q9, zr0, zr1, zr2, zr3, zq0, zq1, zq2, zq3, zq4, Nat.reduceAdd, Nat.reduceSub, lenA, convA, indexA, indexS, Int.reduceToNat, cond_true, cond_false, ↓reduceIte, reduceCtorEq, Nat.reduceLT, Nat.reduceLeDiff, Nat.reduceMul, Nat.reduceEqDiff, exists_eq', implies_true, exists_true_left, tys0, tys1, tys2, tys3, tys4, und0, und1, und2, und3, md15, Tryz.ntmps15, Tryz.results15, intB, ints_len, List.length_map]
  · have hi' : i < R.length := by simpa using h
    rw [range_drop _ i hi', prs_cons] at he
    have wi := w64_succ i (by omega)
    refine go_round (md := md15) mixed (by kernel_rfl) (fun s : {s : Nat × List Int // i + 1 ≤ s.1 ∧ s.1 ≤ R.length ∧ s.2 ++ (((List.range R.length).drop s.1).flatMap (clN R day i) ++ prs (clN R day) ((List.range R.length).drop (i + 1))) = prs (clN R day) (List.range R.length)} => ⟨[.ro (R.map rulA), .int .i64 day, .any, .any, .any, .any, .sl 0 0 s.1.2.length, .int .i64 i, .int .i64 s.1.1, .any, .any, .any, .any, .any, .any, .any, .any, .any, .any, .any, .any, .any, .any, .int .i64 R.length, .int .i64 i, .any, .any, .any, .any, .any, .any, .any, .any, .any, .any, .any, .any, .any, .any, .any, .any, .any, .any, .any, .any, .any, .any, .any, .any, .any, .any, .any, .any, .any, .any, .any, .any, .any, .any, .any, .any, .any, .any, .any, .any, .any, .any, .any, .any, .any, .any, .any, .any, .any, .any, .any, .any, .any, .any, .any, .any, .any, .any, .any, .any, .any, .any, .any, .any, .any, .any, .any, .any, .any, .any, .any, .any, .any, .any, .any, .any, .any, .any, .any], [intB s.1.2]⟩) (fun s => R.length - s.1.1) ⟨(i + 1, out), Nat.le_refl _, hi', he⟩ ?_ ?_
    · exact weak_drop (by simp) (by simp [DropHp, ints_below, flts_below, intB, allBelow_cons, allBelow_nil, below, belowM, belowL, wi]) (by simp [DropTm, DropV, below, belowM, belowL, intB, allBelow_cons, allBelow_nil, below, belowM, belowL, wi])
    clear he
    clear out
    rintro ⟨⟨k, out⟩, hik, hk, he⟩
    dsimp only at hik hk he ⊢
    simp only [q0, q1, q2, q3, q4, q5, q6, q7, q8, q9, zr0, zr1, zr2, zr3, zq0, zq1, zq2, zq3, zq4, Nat.reduceAdd, Nat.reduceSub, lenA, convA, indexA, indexS, Int.reduceToNat, cond_true, cond_false, ↓reduceIte, reduceCtorEq, Nat.reduceLT, Nat.reduceLeDiff, Nat.reduceMul, Nat.reduceEqDiff, exists_eq', implies_true, exists_true_left, tys0, tys1, tys2, tys3, tys4, und0, und1, und2, und3, md15, Tryz.ntmps15, Tryz.results15, intB, ints_len, List.length_map]
    refine br_intro (fun h2 => ?_) (fun h2 => ?_) <;> simp only [q0, q1, q2, q3, q4, q5, q6, q7, q8, q9, zr0, zr1, zr2, zr3, zq0, zq1, zq2, zq3, zq4, Nat.reduceAdd, Nat.reduceSub, lenA, convA, indexA, indexS, Int.reduceToNat, cond_true, cond_false, ↓reduceIte, reduceCtorEq, Nat.reduceLT, Nat.reduceLeDiff, Nat.reduceMul, Nat.reduceEqDiff, exists_eq', implies_true, exists_true_left, tys0, tys1, tys2, tys3, tys4, und0, und1, und2, und3, md15, Tryz.ntmps15, Tryz.results15, intB, ints_len, List.length_map]
    · have hk' : k < R.length := by simpa using h2
      have wk := w64_succ k (by omega)
      rw [range_drop _ k hk', List.flatMap_cons] at he
      have hol : out.length ≤ (prs (clN R day) (List.range R.length)).length := by rw [← he, List.length_append]; omega
      have r1 := hR.ok _ (List.getElem_mem hi')
      have r2 := hR.ok _ (List.getElem_mem hk')
      have l1 := r1.2.1.1
      have l2 := r2.2.1.1
      have cl : clN R day i k = if (onB day R[i] && onB day R[k]) = true then (if ((R[i].1 == IntKind.i64.wrap (0 - R[k].1) && R[i].2.2.2.2 == R[k].2.2.2.2) && !oppB R[i] R[k]) = true then [(i : Int), (k : Int)] else []) else [] := by
        have en : IntKind.i64.wrap (0 - R[k].1) = -R[k].1 := by
          have := wordB_low r2.1
          rw [w64 (by omega) (by omega), Int.zero_sub]
        unfold clN onN clP clB
        rw [Int.toNat_natCast, Int.toNat_natCast, rkR_at R _ hi', rkR_at R _ hk', en]
      have no : clN R day i k = [] → out ++ (((List.range R.length).drop (k + 1)).flatMap (clN R day i) ++ prs (clN R day) ((List.range R.length).drop (i + 1))) = prs (clN R day) (List.range R.length) := fun e => by
        rw [e, List.nil_append] at he
        exact he
      refine ⟨hi', ?_⟩
      simp only [q0, q1, q2, q3, q4, q5, q6, q7, q8, q9, zr0, zr1, zr2, zr3, zq0, zq1, zq2, zq3, zq4, Nat.reduceAdd, Nat.reduceSub, lenA, convA, indexA, indexS, Int.reduceToNat, cond_true, cond_false, ↓reduceIte, reduceCtorEq, Nat.reduceLT, Nat.reduceLeDiff, Nat.reduceMul, Nat.reduceEqDiff, exists_eq', implies_true, exists_true_left, tys0, tys1, tys2, tys3, tys4, und0, und1, und2, und3, md15, Tryz.ntmps15, Tryz.results15, List.getElem_map, rulA, intB, ints_len]
      refine ⟨hk', ?_⟩
      refine callr_ret (l05On_call R[i] day) (by rfl) rfl ?_
      simp only [q0, q1, q2, q3, q4, q5, q6, q7, q8, q9, zr0, zr1, zr2, zr3, zq0, zq1, zq2, zq3, zq4, Nat.reduceAdd, Nat.reduceSub, lenA, convA, indexA, indexS, Int.reduceToNat, cond_true, cond_false, ↓reduceIte, reduceCtorEq, Nat.reduceLT, Nat.reduceLeDiff, Nat.reduceMul, Nat.reduceEqDiff, exists_eq', implies_true, exists_true_left, tys0, tys1, tys2, tys3, tys4, und0, und1, und2, und3, md15, Tryz.ntmps15, Tryz.results15, List.getElem_map, rulA, intB, ints_len]
      refine br_intro (fun b1 => ?_) (fun b1 => ?_) <;> simp only [q0, q1, q2, q3, q4, q5, q6, q7, q8, q9, zr0, zr1, zr2, zr3, zq0, zq1, zq2, zq3, zq4, Nat.reduceAdd, Nat.reduceSub, lenA, convA, indexA, indexS, Int.reduceToNat, cond_true, cond_false, ↓reduceIte, reduceCtorEq, Nat.reduceLT, Nat.reduceLeDiff, Nat.reduceMul, Nat.reduceEqDiff, exists_eq', implies_true, exists_true_left, tys0, tys1, tys2, tys3, tys4, und0, und1, und2, und3, md15, Tryz.ntmps15, Tryz.results15, List.getElem_map, rulA, intB, ints_len]
      rotate_left
      · refine ⟨⟨(k + 1, out), by show i + 1 ≤ k + 1; omega, by show k + 1 ≤ R.length; omega, no (by rw [cl, b1]; rfl)⟩, by show R.length - (k + 1) < _; omega, ?_⟩
        exact weak_drop (by simp) (by simp [DropHp, ints_below, flts_below, intB, allBelow_cons, allBelow_nil, below, belowM, belowL, wk]) (by simp [DropTm, DropV, below, belowM, belowL, intB, allBelow_cons, allBelow_nil, below, belowM, belowL, wk])
      refine callr_ret (l05On_call R[k] day) (by rfl) rfl ?_
      simp only [q0, q1, q2, q3, q4, q5, q6, q7, q8, q9, zr0, zr1, zr2, zr3, zq0, zq1, zq2, zq3, zq4, Nat.reduceAdd, Nat.reduceSub, lenA, convA, indexA, indexS, Int.reduceToNat, cond_true, cond_false, ↓reduceIte, reduceCtorEq, Nat.reduceLT, Nat.reduceLeDiff, Nat.reduceMul, Nat.reduceEqDiff, exists_eq', implies_true, exists_true_left, tys0, tys1, tys2, tys3, tys4, und0, und1, und2, und3, md15, Tryz.ntmps15, Tryz.results15, List.getElem_map, rulA, intB, ints_len]
      refine br_intro (fun b2 => ?_) (fun b2 => ?_) <;> simp only [q0, q1, q2, q3, q4, q5, q6, q7, q8, q9, zr0, zr1, zr2, zr3, zq0, zq1, zq2, zq3, zq4, Nat.reduceAdd, Nat.reduceSub, lenA, convA, indexA, indexS, Int.reduceToNat, cond_true, cond_false, ↓reduceIte, reduceCtorEq, Nat.reduceLT, Nat.reduceLeDiff, Nat.reduceMul, Nat.reduceEqDiff, exists_eq', implies_true, exists_true_left, tys0, tys1, tys2, tys3, tys4, und0, und1, und2, und3, md15, Tryz.ntmps15, Tryz.results15, List.getElem_map, rulA, intB, ints_len]
      rotate_left
      · refine ⟨⟨(k + 1, out), by show i + 1 ≤ k + 1; omega, by show k + 1 ≤ R.length; omega, no (by rw [cl, b1, b2]; rfl)⟩, by show R.length - (k + 1) < _; omega, ?_⟩
        exact weak_drop (by simp) (by simp [DropHp, ints_below, flts_below, intB, allBelow_cons, allBelow_nil, below, belowM, belowL, wk]) (by simp [DropTm, DropV, below, belowM, belowL, intB, allBelow_cons, allBelow_nil, below, belowM, belowL, wk])
      refine br_intro (fun b3 => ?_) (fun b3 => ?_) <;> simp only [q0, q1, q2, q3, q4, q5, q6, q7, q8, q9, zr0, zr1, zr2, zr3, zq0, zq1, zq2, zq3, zq4, Nat.reduceAdd, Nat.reduceSub, lenA, convA, indexA, indexS, Int.reduceToNat, cond_true, cond_false, ↓reduceIte, reduceCtorEq, Nat.reduceLT, Nat.reduceLeDiff, Nat.reduceMul, Nat.reduceEqDiff, exists_eq', implies_true, exists_true_left, tys0, tys1, tys2, tys3, tys4, und0, und1, und2, und3, md15, Tryz.ntmps15, Tryz.results15, List.getElem_map, rulA, intB, ints_len]
      · have n3 : (R[i].1 == IntKind.i64.wrap (0 - R[k].1)) = false := by simpa using b3
        refine ⟨⟨(k + 1, out), by show i + 1 ≤ k + 1; omega, by show k + 1 ≤ R.length; omega, no (by rw [cl, b1, b2, n3]; rfl)⟩, by show R.length - (k + 1) < _; omega, ?_⟩
        exact weak_drop (by simp) (by simp [DropHp, ints_below, flts_below, intB, allBelow_cons, allBelow_nil, below, belowM, belowL, wk]) (by simp [DropTm, DropV, below, belowM, belowL, intB, allBelow_cons, allBelow_nil, below, belowM, belowL, wk])
      have y3 : (R[i].1 == IntKind.i64.wrap (0 - R[k].1)) = true := by simpa using b3
      refine br_intro (fun b4 => ?_) (fun b4 => ?_) <;> simp only [q0, q1, q2, q3, q4, q5, q6, q7, q8, q9, zr0, zr1, zr2, zr3, zq0, zq1, zq2, zq3, zq4, Nat.reduceAdd, Nat.reduceSub, lenA, convA, indexA, indexS, Int.reduceToNat, cond_true, cond_false, ↓reduceIte, reduceCtorEq, Nat.reduceLT, Nat.reduceLeDiff, Nat.reduceMul, Nat.reduceEqDiff, exists_eq', implies_true, exists_true_left, tys0, tys1, tys2, tys3, tys4, und0, und1, und2, und3, md15, Tryz.ntmps15, Tryz.results15, List.getElem_map, rulA, intB, ints_len]
      · have n4 : (R[i].2.2.2.2 == R[k].2.2.2.2) = false := by simpa using b4
        refine ⟨⟨(k + 1, out), by show i + 1 ≤ k + 1; omega, by show k + 1 ≤ R.length; omega, no (by rw [cl, b1, b2, y3, n4]; rfl)⟩, by show R.length - (k + 1) < _; omega, ?_⟩
        exact weak_drop (by simp) (by simp [DropHp, ints_below, flts_below, intB, allBelow_cons, allBelow_nil, below, belowM, belowL, wk]) (by simp [DropTm, DropV, below, belowM, belowL, intB, allBelow_cons, allBelow_nil, below, belowM, belowL, wk])
      have y4 : (R[i].2.2.2.2 == R[k].2.2.2.2) = true := by simpa using b4
      refine go_round (md := md15) mixed (by kernel_rfl) (fun j : {j : Nat // j ≤ R[i].2.1.length} => ⟨[.ro (R.map rulA), .int .i64 day, .any, .any, .any, .any, .sl 0 0 out.length, .int .i64 i, .int .i64 k, ruP R[i], ruP R[k], .bool (!((R[i].2.1.take j.1).any fun w => decide (-w ∈ R[k].2.1))), .any, .any, .any, .any, .any, .any, .any, .any, .any, .any, .any, .int .i64 R.length, .int .i64 i, .any, .any, .any, .any, .any, .any, .any, .any, .any, .any, .any, .any, .any, .any, .any, .any, .any, .any, .any, .any, .any, .any, .any, .any, .any, .any, .any, .any, .any, .any, .any, .any, .any, .any, .any, .any, .any, .any, .any, .any, .any, .any, .any, .any, .any, .any, .any, .any, .any, .any, .any, .any, .any, .int .i64 R[i].2.1.length, .int .i64 j.1, .any, .any, .any, .any, .any, .any, .any, .any, .any, .any, .any, .any, .any, .any, .any, .any, .any, .any, .any, .any, .any, .any, .any, .any], [intB out]⟩) (fun j => R[i].2.1.length - j.1) ⟨0, Nat.zero_le _⟩ ?_ ?_
      · exact weak_drop (by simp) (by simp [DropHp, ints_below, flts_below, intB, allBelow_cons, allBelow_nil, below, belowM, belowL, ruP]) (by simp [DropTm, DropV, below, belowM, belowL, intB, allBelow_cons, allBelow_nil, below, belowM, belowL, ruP])
      rintro ⟨j, hj⟩
      simp only [q0, q1, q2, q3, q4, q5, q6, q7, q8, q9, zr0, zr1, zr2, zr3, zq0, zq1, zq2, zq3, zq4, Nat.reduceAdd, Nat.reduceSub, lenA, convA, indexA, indexS, Int.reduceToNat, cond_true, cond_false, ↓reduceIte, reduceCtorEq, Nat.reduceLT, Nat.reduceLeDiff, Nat.reduceMul, Nat.reduceEqDiff, exists_eq', implies_true, exists_true_left, tys0, tys1, tys2, tys3, tys4, und0, und1, und2, und3, md15, Tryz.ntmps15, Tryz.results15, intB, ruP, ints_len]
      refine br_intro (fun h3 => ?_) (fun h3 => ?_) <;> simp only [q0, q1, q2, q3, q4, q5, q6, q7, q8, q9, zr0, zr1, zr2, zr3, zq0, zq1, zq2, zq3, zq4, Nat.reduceAdd, Nat.reduceSub, lenA, convA, indexA, indexS, Int.reduceToNat, cond_true, cond_false, ↓reduceIte, reduceCtorEq, Nat.reduceLT, Nat.reduceLeDiff, Nat.reduceMul, Nat.reduceEqDiff, exists_eq', implies_true, exists_true_left, tys0, tys1, tys2, tys3, tys4, und0, und1, und2, und3, md15, Tryz.ntmps15, Tryz.results15, intB, ruP, ints_len]
      · have hj' : j < R[i].2.1.length := by simpa using h3
        have wj := w64_succ j (by omega)
        have es := opp_step R[i] R[k] j hj'
        have en2 : IntKind.i64.wrap (0 - R[i].2.1[j]) = -R[i].2.1[j] := by
          have := wordB_low (r1.2.1.2 _ (List.getElem_mem hj'))
          rw [w64 (by omega) (by omega), Int.zero_sub]
        refine ⟨hj', ?_⟩
        simp only [q0, q1, q2, q3, q4, q5, q6, q7, q8, q9, zr0, zr1, zr2, zr3, zq0, zq1, zq2, zq3, zq4, Nat.reduceAdd, Nat.reduceSub, lenA, convA, indexA, indexS, Int.reduceToNat, cond_true, cond_false, ↓reduceIte, reduceCtorEq, Nat.reduceLT, Nat.reduceLeDiff, Nat.reduceMul, Nat.reduceEqDiff, exists_eq', implies_true, exists_true_left, tys0, tys1, tys2, tys3, tys4, und0, und1, und2, und3, md15, Tryz.ntmps15, Tryz.results15, intB, ruP, ints_len, en2]
        refine callr_ret (l00Has_call R[k].2.1 (-R[i].2.1[j]) (by omega)) (by rfl) rfl ?_
        simp only [q0, q1, q2, q3, q4, q5, q6, q7, q8, q9, zr0, zr1, zr2, zr3, zq0, zq1, zq2, zq3, zq4, Nat.reduceAdd, Nat.reduceSub, lenA, convA, indexA, indexS, Int.reduceToNat, cond_true, cond_false, ↓reduceIte, reduceCtorEq, Nat.reduceLT, Nat.reduceLeDiff, Nat.reduceMul, Nat.reduceEqDiff, exists_eq', implies_true, exists_true_left, tys0, tys1, tys2, tys3, tys4, und0, und1, und2, und3, md15, Tryz.ntmps15, Tryz.results15, intB, ruP, ints_len]
        refine br_intro (fun b5 => ?_) (fun b5 => ?_) <;> simp only [q0, q1, q2, q3, q4, q5, q6, q7, q8, q9, zr0, zr1, zr2, zr3, zq0, zq1, zq2, zq3, zq4, Nat.reduceAdd, Nat.reduceSub, lenA, convA, indexA, indexS, Int.reduceToNat, cond_true, cond_false, ↓reduceIte, reduceCtorEq, Nat.reduceLT, Nat.reduceLeDiff, Nat.reduceMul, Nat.reduceEqDiff, exists_eq', implies_true, exists_true_left, tys0, tys1, tys2, tys3, tys4, und0, und1, und2, und3, md15, Tryz.ntmps15, Tryz.results15, intB, ruP, ints_len]
        · rw [b5, Bool.or_true] at es
          refine ⟨⟨j + 1, by omega⟩, by show _ - (j + 1) < _; omega, ?_⟩
          exact weak_drop (by simp) (by simp [DropHp, ints_below, flts_below, intB, allBelow_cons, allBelow_nil, below, belowM, belowL, wj, es]) (by simp [DropTm, DropV, below, belowM, belowL, intB, allBelow_cons, allBelow_nil, below, belowM, belowL, wj, es])
        · rw [b5, Bool.or_false] at es
          refine ⟨⟨j + 1, by omega⟩, by show _ - (j + 1) < _; omega, ?_⟩
          exact weak_drop (by simp) (by simp [DropHp, ints_below, flts_below, intB, allBelow_cons, allBelow_nil, below, belowM, belowL, wj, es]) (by simp [DropTm, DropV, below, belowM, belowL, intB, allBelow_cons, allBelow_nil, below, belowM, belowL, wj, es])
      · have hj' : j = R[i].2.1.length := by simp at h3; omega
        subst hj'
        rw [List.take_length]
        refine br_intro (fun b6 => ?_) (fun b6 => ?_) <;> simp only [q0, q1, q2, q3, q4, q5, q6, q7, q8, q9, zr0, zr1, zr2, zr3, zq0, zq1, zq2, zq3, zq4, Nat.reduceAdd, Nat.reduceSub, lenA, convA, indexA, indexS, Int.reduceToNat, cond_true, cond_false, ↓reduceIte, reduceCtorEq, Nat.reduceLT, Nat.reduceLeDiff, Nat.reduceMul, Nat.reduceEqDiff, exists_eq', implies_true, exists_true_left, tys0, tys1, tys2, tys3, tys4, und0, und1, und2, und3, md15, Tryz.ntmps15, Tryz.results15, intB, ruP, ints_len, allW_int, fits, List.isEmpty_cons, brk_false, Nat.reduceMul]
        · refine ⟨⟨(k + 1, out), by show i + 1 ≤ k + 1; omega, by show k + 1 ≤ R.length; omega, no (by rw [cl, b1, b2, y3, y4, show oppB R[i] R[k] = true from b6]; rfl)⟩, by show R.length - (k + 1) < _; omega, ?_⟩
          exact weak_drop (by simp) (by simp [DropHp, ints_below, flts_below, intB, allBelow_cons, allBelow_nil, below, belowM, belowL, wk]) (by simp [DropTm, DropV, below, belowM, belowL, intB, allBelow_cons, allBelow_nil, below, belowM, belowL, wk])
        · have ey : clN R day i k = [(i : Int), (k : Int)] := by rw [cl, b1, b2, y3, y4, show oppB R[i] R[k] = false from b6]; rfl
          rw [ey] at he
          have el : (out ++ [(i : Int), (k : Int)]).length = out.length + 2 := by simp
          refine ⟨by rw [allW_two]; trivial, by omega, ⟨(k + 1, out ++ [(i : Int), (k : Int)]), by show i + 1 ≤ k + 1; omega, by show k + 1 ≤ R.length; omega, by rw [← he]; simp only [List.append_assoc]⟩, by show R.length - (k + 1) < _; omega, ?_⟩
          dsimp only
          rw [el, ← show ints (out ++ [(i : Int), (k : Int)]) = ints out ++ [.int .i64 i, .int .i64 k] from by simp [ints], ints_kill]
          exact weak_drop (by simp) (by simp [DropHp, ints_below, flts_below, intB, allBelow_cons, allBelow_nil, below, belowM, belowL, wk]) (by simp [DropTm, DropV, below, belowM, belowL, intB, allBelow_cons, allBelow_nil, below, belowM, belowL, wk])
    · have hk' : k = R.length := by simp at h2; omega
      subst hk'
      rw [show (List.range R.length).drop R.length = [] from List.drop_eq_nil_of_le (by simp)] at he
      refine ⟨⟨(i + 1, out), by show i + 1 ≤ R.length; omega, by simpa using he⟩, by show R.length - (i + 1) < _; omega, ?_⟩
      exact weak_drop (by simp) (by simp [DropHp, ints_below, flts_below, intB, allBelow_cons, allBelow_nil, below, belowM, belowL, wi]) (by simp [DropTm, DropV, below, belowM, belowL, intB, allBelow_cons, allBelow_nil, below, belowM, belowL, wi])
  · have hi' : i = R.length := by simp at h; omega
    subst hi'
    rw [show (List.range R.length).drop R.length = [] from List.drop_eq_nil_of_le (by simp), prs_nil, List.append_nil] at he
    subst he
    exact PostR.ret
theorem refClashes_call (R : List Rul) (hR : Rls R) (rb : rulesB R = true) (day : Int) (hd : inR 0 100000 day = true) : CallA Tryz.prog 15 [.ro (R.map rulA), .int .i64 day] [] (Ret (.tup [.ro (ints (prs (clP R) (idxD R day R.length))), .bool true]) []) := by
  rw [prs_idxD]
  refine (refClashes0_call R hR rb day hd).frozen 3 ?_
  show AV.tup [view 2 _ _, view 2 _ _] = _
  rw [view_intB]
  rfl
end Go.Proofs.YthcfklkpabfkbaaGreat
