/- The reference's answer: the least state. -/
import Derived.Test.YtmllengggncmkaaGreatQrE
set_option maxRecDepth 10000
set_option maxHeartbeats 8000000
set_option linter.unusedSimpArgs false
set_option linter.unusedVariables false
namespace Go.Proofs.YtmllengggncmkaaGreat
open Go Go.Abs

theorem zero96 : ([.bool false, .bool false, .bool false, .bool false, .bool false, .bool false, .bool false, .bool false, .bool false, .bool false, .bool false, .bool false, .bool false, .bool false, .bool false, .bool false, .bool false, .bool false, .bool false, .bool false, .bool false, .bool false, .bool false, .bool false, .bool false, .bool false, .bool false, .bool false, .bool false, .bool false, .bool false, .bool false, .bool false, .bool false, .bool false, .bool false, .bool false, .bool false, .bool false, .bool false, .bool false, .bool false, .bool false, .bool false, .bool false, .bool false, .bool false, .bool false, .bool false, .bool false, .bool false, .bool false, .bool false, .bool false, .bool false, .bool false, .bool false, .bool false, .bool false, .bool false, .bool false, .bool false, .bool false, .bool false, .bool false, .bool false, .bool false, .bool false, .bool false, .bool false, .bool false, .bool false, .bool false, .bool false, .bool false, .bool false, .bool false, .bool false, .bool false, .bool false, .bool false, .bool false, .bool false, .bool false, .bool false, .bool false, .bool false, .bool false, .bool false, .bool false, .bool false, .bool false, .bool false, .bool false, .bool false, .bool false] : List AV) = bC 96 (fun _ => false) := rfl
def stB (W : Nat → Bool) : Blk := { ty := 66, w := 96, els := [.agg (bC 96 W)] }
theorem bC_putS (n : Nat) (W : Nat → Bool) (j : Nat) (b : Bool) (h : j < n) : List.take j (bC n W) ++ [AV.bool b] ++ List.drop (j + 1) (bC n W) = bC n (updW W j b) := bC_put n W j b h
theorem bagg_below (N n : Nat) (W : Nat → Bool) : allBelow N [AV.agg (bC n W)] = true := by
  simp only [allBelow, List.all_cons, List.all_nil, Bool.and_true]
  exact bC_below N n W
theorem answer0_call (R : List Rul) (hR : Rls R) (fs : List Int) (hf : Fcs fs) :
    CallA Tryz.prog 33 [.ro (R.map rulA), .ro (ints fs)] [] (fun r hp => ∃ W, Inv R fs W ∧ Least R fs (yW W) (nW W) ∧ r = .ptr 0 0 0 ∧ hp = [stB W]) := by
  have hl := hR.len
  have hfl := hf.len
  refine CallP.out (t := .mk) (go_in (md := md33) mixed Tryz.func33 rfl go33 (by kernel_rfl) ?_)
  simp only [q0, q1, q2, q3, q4, q5, q6, q7, q8, q9, zr0, zr1, zr2, zr3, zq0, zq1, zq2, zq3, zq4, Nat.reduceAdd, Nat.reduceSub, lenA, convA, indexA, indexS, Int.reduceToNat, cond_true, cond_false, ↓reduceIte, reduceCtorEq, Nat.reduceLT, Nat.reduceLeDiff, Nat.reduceMul, Nat.reduceEqDiff, exists_eq', implies_true, exists_true_left, tys0, tys1, tys2, tys3, tys4, und0, und1, und2, und3, md33, Tryz.ntmps33, Tryz.results33, zero96, bC_one, bC_len]
  refine go_round (md := md33) mixed (by kernel_rfl) (fun k : {k : Nat // k ≤ fs.length} => ⟨[.ro (R.map rulA), .ro (ints fs), .any, .any, .any, .ptr 0 0 0, .any, .any, .any, .any, .any, .any, .any, .any, .any, .int .i64 fs.length, .int .i64 k.1, .any, .any, .any, .any, .any, .any, .any, .any, .any, .any, .any, .any, .any, .any, .any, .any, .any, .any, .any, .any, .any, .any, .any, .any, .any, .any, .any, .any, .any, .any, .any, .any, .any, .any, .any, .any, .any, .any, .any, .any, .any, .any, .any, .any, .any, .any, .any, .any, .any, .any, .any, .any, .any, .any, .any, .any, .any, .any, .any, .any, .any, .any, .any, .any, .any, .any, .any, .any, .any, .any, .any, .any, .any, .any, .any, .any, .any, .any, .any, .any, .any, .any, .any, .any, .any, .any, .any, .any, .any, .any, .any, .any, .any, .any, .any, .any, .any, .any], [stB (fW (fs.take k.1))]⟩) (fun k => fs.length - k.1) ⟨0, by simp⟩ ?_ ?_
  · exact weak_drop (by simp) (by simp [DropHp, ints_below, flts_below, stB, fW_nil, bagg_below]) (by simp [DropTm, DropV, below, belowM, belowL, stB, fW_nil, bagg_below])
  · intro ⟨k, hk⟩
    simp only [q0, q1, q2, q3, q4, q5, q6, q7, q8, q9, zr0, zr1, zr2, zr3, zq0, zq1, zq2, zq3, zq4, Nat.reduceAdd, Nat.reduceSub, lenA, convA, indexA, indexS, Int.reduceToNat, cond_true, cond_false, ↓reduceIte, reduceCtorEq, Nat.reduceLT, Nat.reduceLeDiff, Nat.reduceMul, Nat.reduceEqDiff, exists_eq', implies_true, exists_true_left, tys0, tys1, tys2, tys3, tys4, und0, und1, und2, und3, md33, Tryz.ntmps33, Tryz.results33, stB]
    refine br_intro (fun h => ?_) (fun h => ?_) <;> simp only [q0, q1, q2, q3, q4, q5, q6, q7, q8, q9, zr0, zr1, zr2, zr3, zq0, zq1, zq2, zq3, zq4, Nat.reduceAdd, Nat.reduceSub, lenA, convA, indexA, indexS, Int.reduceToNat, cond_true, cond_false, ↓reduceIte, reduceCtorEq, Nat.reduceLT, Nat.reduceLeDiff, Nat.reduceMul, Nat.reduceEqDiff, exists_eq', implies_true, exists_true_left, tys0, tys1, tys2, tys3, tys4, und0, und1, und2, und3, md33, Tryz.ntmps33, Tryz.results33, stB]
    · have hk' : k < fs.length := by simpa using h
      have hb := hf.ok _ (List.getElem_mem hk')
      have hbn := word_neg hb
      have p1 := plN_lt hb
      have p2 := plN_lt hbn
      have hd1 (W : Nat → Bool) := bC_putS 96 W (plN fs[k]) true (by omega)
      have hd2 (W : Nat → Bool) := bC_putS 96 W (64 + plN fs[k]) true (by omega)
      have hd3 (W : Nat → Bool) := bC_putS 96 W (32 + plN (-fs[k])) true (by omega)
      have hb' := wordB_low hb
      have wn : IntKind.i64.wrap (0 - fs[k]) = -fs[k] := by rw [w64 (by omega) (by omega)]; omega
      refine ⟨hk', callr_lent 1 (by rfl) (l05Place_call _ hb) rfl rfl ?_⟩
      simp only [q0, q1, q2, q3, q4, q5, q6, q7, q8, q9, zr0, zr1, zr2, zr3, zq0, zq1, zq2, zq3, zq4, Nat.reduceAdd, Nat.reduceSub, lenA, convA, indexA, indexS, Int.reduceToNat, cond_true, cond_false, ↓reduceIte, reduceCtorEq, Nat.reduceLT, Nat.reduceLeDiff, Nat.reduceMul, Nat.reduceEqDiff, exists_eq', implies_true, exists_true_left, tys0, tys1, tys2, tys3, tys4, und0, und1, und2, und3, md33, Tryz.ntmps33, Tryz.results33, stB, Nat.mul_one, bC_len, hd1]
      refine ⟨by omega, by omega, hk', callr_lent 1 (by rfl) (l05Place_call _ hb) rfl rfl ?_⟩
      simp only [q0, q1, q2, q3, q4, q5, q6, q7, q8, q9, zr0, zr1, zr2, zr3, zq0, zq1, zq2, zq3, zq4, Nat.reduceAdd, Nat.reduceSub, lenA, convA, indexA, indexS, Int.reduceToNat, cond_true, cond_false, ↓reduceIte, reduceCtorEq, Nat.reduceLT, Nat.reduceLeDiff, Nat.reduceMul, Nat.reduceEqDiff, exists_eq', implies_true, exists_true_left, tys0, tys1, tys2, tys3, tys4, und0, und1, und2, und3, md33, Tryz.ntmps33, Tryz.results33, stB, Nat.mul_one, bC_len, hd1, hd2]
      refine ⟨by omega, by omega, hk', ?_⟩
      simp only [q0, q1, q2, q3, q4, q5, q6, q7, q8, q9, zr0, zr1, zr2, zr3, zq0, zq1, zq2, zq3, zq4, Nat.reduceAdd, Nat.reduceSub, lenA, convA, indexA, indexS, Int.reduceToNat, cond_true, cond_false, ↓reduceIte, reduceCtorEq, Nat.reduceLT, Nat.reduceLeDiff, Nat.reduceMul, Nat.reduceEqDiff, exists_eq', implies_true, exists_true_left, tys0, tys1, tys2, tys3, tys4, und0, und1, und2, und3, md33, Tryz.ntmps33, Tryz.results33, stB, Nat.mul_one, bC_len, wn, hd1, hd2]
      refine callr_lent 1 (by rfl) (l05Place_call _ hbn) rfl rfl ?_
      simp only [q0, q1, q2, q3, q4, q5, q6, q7, q8, q9, zr0, zr1, zr2, zr3, zq0, zq1, zq2, zq3, zq4, Nat.reduceAdd, Nat.reduceSub, lenA, convA, indexA, indexS, Int.reduceToNat, cond_true, cond_false, ↓reduceIte, reduceCtorEq, Nat.reduceLT, Nat.reduceLeDiff, Nat.reduceMul, Nat.reduceEqDiff, exists_eq', implies_true, exists_true_left, tys0, tys1, tys2, tys3, tys4, und0, und1, und2, und3, md33, Tryz.ntmps33, Tryz.results33, stB, Nat.mul_one, bC_len, hd1, hd2, hd3]
      refine ⟨by omega, by omega, ?_⟩
      refine ⟨⟨k + 1, by omega⟩, by show fs.length - (k + 1) < _; omega, ?_⟩
      have e := fW_snoc (fs.take k) fs[k]
      rw [← take_snoc _ _ hk'] at e
      exact weak_drop (by simp) (by simp [DropHp, ints_below, flts_below, w64_succ k (by omega), stB, bagg_below, e]) (by simp [DropTm, DropV, below, belowM, belowL, w64_succ k (by omega), stB, bagg_below, e])
    · have hk' : k = fs.length := by simp at h; omega
      subst hk'
      rw [List.take_length]
      have I0 := inv_start (R := R) hf
      refine go_round (md := md33) mixed (by kernel_rfl) (fun p : {p : (Nat → Bool) × Bool // Inv R fs p.1 ∧ (p.2 = false → ∀ w, wordB w = true → Stab R fs p.1 w)} => ⟨[.ro (R.map rulA), .any, .any, .any, .any, .ptr 0 0 0, .any, .bool p.1.2, .any, .any, .any, .any, .any, .any, .any, .any, .any, .any, .any, .any, .any, .any, .any, .any, .any, .any, .any, .any, .any, .any, .any, .any, .any, .any, .any, .any, .any, .any, .any, .any, .any, .any, .any, .any, .any, .any, .any, .any, .any, .any, .any, .any, .any, .any, .any, .any, .any, .any, .any, .any, .any, .any, .any, .any, .any, .any, .any, .any, .any, .any, .any, .any, .any, .any, .any, .any, .any, .any, .any, .any, .any, .any, .any, .any, .any, .any, .any, .any, .any, .any, .any, .any, .any, .any, .any, .any, .any, .any, .any, .any, .any, .any, .any, .any, .any, .any, .any, .any, .any, .any, .any, .any, .any, .any, .any], [stB p.1.1]⟩) (fun p => if p.1.2 = true then 1 + cntW p.1.1 else 0) ⟨(fW fs, true), I0, by simp⟩ ?_ ?_
      · exact weak_drop (by simp) (by simp [DropHp, ints_below, flts_below, stB, bagg_below]) (by simp [DropTm, DropV, below, belowM, belowL, stB, bagg_below])
      rintro ⟨⟨W0, more⟩, I, hst⟩
      dsimp only at I hst
      simp only [q0, q1, q2, q3, q4, q5, q6, q7, q8, q9, zr0, zr1, zr2, zr3, zq0, zq1, zq2, zq3, zq4, Nat.reduceAdd, Nat.reduceSub, lenA, convA, indexA, indexS, Int.reduceToNat, cond_true, cond_false, ↓reduceIte, reduceCtorEq, Nat.reduceLT, Nat.reduceLeDiff, Nat.reduceMul, Nat.reduceEqDiff, exists_eq', implies_true, exists_true_left, tys0, tys1, tys2, tys3, tys4, und0, und1, und2, und3, md33, Tryz.ntmps33, Tryz.results33, stB, Nat.mul_one, bC_len, bC_drop, bC_drop_len, bC_get, Nat.zero_add]
      refine br_intro (fun g => ?_) (fun g => ?_) <;> simp only [q0, q1, q2, q3, q4, q5, q6, q7, q8, q9, zr0, zr1, zr2, zr3, zq0, zq1, zq2, zq3, zq4, Nat.reduceAdd, Nat.reduceSub, lenA, convA, indexA, indexS, Int.reduceToNat, cond_true, cond_false, ↓reduceIte, reduceCtorEq, Nat.reduceLT, Nat.reduceLeDiff, Nat.reduceMul, Nat.reduceEqDiff, exists_eq', implies_true, exists_true_left, tys0, tys1, tys2, tys3, tys4, und0, und1, und2, und3, md33, Tryz.ntmps33, Tryz.results33, stB, Nat.mul_one, bC_len, bC_drop, bC_drop_len, bC_get, Nat.zero_add]
      rotate_left
      · exact PostR.same ⟨W0, I, I.least (hst g), rfl, rfl⟩
      refine go_round (md := md33) mixed (by kernel_rfl) (fun p : {p : (Nat → Bool) × Bool × Nat // 1 ≤ p.2.2 ∧ p.2.2 ≤ 17 ∧ Pass R fs W0 p.1 p.2.1 (fun w => atomF w < (p.2.2 : Int))} => ⟨[.ro (R.map rulA), .any, .any, .any, .any, .ptr 0 0 0, .any, .bool p.1.2.1, .int .i64 p.1.2.2, .any, .any, .any, .any, .any, .any, .any, .any, .any, .any, .any, .any, .any, .any, .any, .any, .any, .any, .any, .any, .any, .any, .any, .any, .any, .any, .any, .any, .any, .any, .any, .any, .any, .any, .any, .any, .any, .any, .any, .any, .any, .any, .any, .any, .any, .any, .any, .any, .any, .any, .any, .any, .any, .any, .any, .any, .any, .any, .any, .any, .any, .any, .any, .any, .any, .any, .any, .any, .any, .any, .any, .any, .any, .any, .any, .any, .any, .any, .any, .any, .any, .any, .any, .any, .any, .any, .any, .any, .any, .any, .any, .any, .any, .any, .any, .any, .any, .any, .any, .any, .any, .any, .any, .any, .any, .any], [stB p.1.1]⟩) (fun p => 17 - p.1.2.2) ⟨(W0, false, 1), Nat.le_refl _, by show 1 ≤ 17; omega, ⟨I, Nat.le_refl _, (fun h => by cases h), fun _ w hw h => by
          have := wordB_low hw
          have h0 : w ≠ 0 := by unfold wordB at hw; simp at hw; exact hw.1
          exfalso
          have h : atomF w < 1 := h
          unfold atomF at h
          split at h <;> omega⟩⟩ ?_ ?_
      · exact weak_drop (by simp) (by simp [DropHp, ints_below, flts_below, stB, bagg_below]) (by simp [DropTm, DropV, below, belowM, belowL, stB, bagg_below])
      rintro ⟨⟨W1, m1, a⟩, a1, a17, P1⟩
      dsimp only at a1 a17 P1
      simp only [q0, q1, q2, q3, q4, q5, q6, q7, q8, q9, zr0, zr1, zr2, zr3, zq0, zq1, zq2, zq3, zq4, Nat.reduceAdd, Nat.reduceSub, lenA, convA, indexA, indexS, Int.reduceToNat, cond_true, cond_false, ↓reduceIte, reduceCtorEq, Nat.reduceLT, Nat.reduceLeDiff, Nat.reduceMul, Nat.reduceEqDiff, exists_eq', implies_true, exists_true_left, tys0, tys1, tys2, tys3, tys4, und0, und1, und2, und3, md33, Tryz.ntmps33, Tryz.results33, stB, Nat.mul_one, bC_len, bC_drop, bC_drop_len, bC_get, Nat.zero_add]
      refine br_intro (fun g2 => ?_) (fun g2 => ?_) <;> simp only [q0, q1, q2, q3, q4, q5, q6, q7, q8, q9, zr0, zr1, zr2, zr3, zq0, zq1, zq2, zq3, zq4, Nat.reduceAdd, Nat.reduceSub, lenA, convA, indexA, indexS, Int.reduceToNat, cond_true, cond_false, ↓reduceIte, reduceCtorEq, Nat.reduceLT, Nat.reduceLeDiff, Nat.reduceMul, Nat.reduceEqDiff, exists_eq', implies_true, exists_true_left, tys0, tys1, tys2, tys3, tys4, und0, und1, und2, und3, md33, Tryz.ntmps33, Tryz.results33, stB, Nat.mul_one, bC_len, bC_drop, bC_drop_len, bC_get, Nat.zero_add]
      rotate_left
      · have ha : a = 17 := by have := of_decide_eq_false g2; omega
        subst ha
        refine ⟨⟨(W1, m1), P1.inv, fun hm w hw => P1.st hm w hw (by
          have := wordB_low hw
          show atomF w < ((17 : Nat) : Int)
          unfold atomF
          split <;> omega)⟩, ?_, ?_⟩
        · show (if m1 = true then 1 + cntW W1 else 0) < if more = true then 1 + cntW W0 else 0
          rw [if_pos g]
          have := P1.le
          split
          · rename_i hm
            have := P1.lt hm
            omega
          · omega
        · exact weak_drop (by simp) (by simp [DropHp, ints_below, flts_below, stB, bagg_below]) (by simp [DropTm, DropV, below, belowM, belowL, stB, bagg_below])
      have ha : a ≤ 16 := by have := of_decide_eq_true g2; omega
      refine go_round (md := md33) mixed (by kernel_rfl) (fun p : {p : (Nat → Bool) × Bool × Int // (p.2.2 = 1 ∨ p.2.2 = -1 ∨ p.2.2 = -3) ∧ Pass R fs W0 p.1 p.2.1 (vis (a : Int) p.2.2)} => ⟨[.ro (R.map rulA), .any, .any, .any, .any, .ptr 0 0 0, .any, .bool p.1.2.1, .int .i64 a, .int .i64 p.1.2.2, .any, .any, .any, .any, .any, .any, .any, .any, .any, .any, .any, .any, .any, .any, .any, .any, .any, .any, .any, .any, .any, .any, .any, .any, .any, .any, .any, .any, .any, .any, .any, .any, .any, .any, .any, .any, .any, .any, .any, .any, .any, .any, .any, .any, .any, .any, .any, .any, .any, .any, .any, .any, .any, .any, .any, .any, .any, .any, .any, .any, .any, .any, .any, .any, .any, .any, .any, .any, .any, .any, .any, .any, .any, .any, .any, .any, .any, .any, .any, .any, .any, .any, .any, .any, .any, .any, .any, .any, .any, .any, .any, .any, .any, .any, .any, .any, .any, .any, .any, .any, .any, .any, .any, .any, .any], [stB p.1.1]⟩) (fun p => (p.1.2.2 + 3).toNat) ⟨(W1, m1, 1), .inl rfl, P1.mono fun w hw h => by
          unfold vis at h
          dsimp only at h ⊢
          rcases h with h | ⟨_, h⟩
          · exact h
          · split at h <;> omega⟩ ?_ ?_
      · exact weak_drop (by simp) (by simp [DropHp, ints_below, flts_below, stB, bagg_below]) (by simp [DropTm, DropV, below, belowM, belowL, stB, bagg_below])
      rintro ⟨⟨W, m, s⟩, hs, P⟩
      dsimp only at hs P
      simp only [q0, q1, q2, q3, q4, q5, q6, q7, q8, q9, zr0, zr1, zr2, zr3, zq0, zq1, zq2, zq3, zq4, Nat.reduceAdd, Nat.reduceSub, lenA, convA, indexA, indexS, Int.reduceToNat, cond_true, cond_false, ↓reduceIte, reduceCtorEq, Nat.reduceLT, Nat.reduceLeDiff, Nat.reduceMul, Nat.reduceEqDiff, exists_eq', implies_true, exists_true_left, tys0, tys1, tys2, tys3, tys4, und0, und1, und2, und3, md33, Tryz.ntmps33, Tryz.results33, stB, Nat.mul_one, bC_len, bC_drop, bC_drop_len, bC_get, Nat.zero_add]
      refine br_intro (fun g3 => ?_) (fun g3 => ?_) <;> simp only [q0, q1, q2, q3, q4, q5, q6, q7, q8, q9, zr0, zr1, zr2, zr3, zq0, zq1, zq2, zq3, zq4, Nat.reduceAdd, Nat.reduceSub, lenA, convA, indexA, indexS, Int.reduceToNat, cond_true, cond_false, ↓reduceIte, reduceCtorEq, Nat.reduceLT, Nat.reduceLeDiff, Nat.reduceMul, Nat.reduceEqDiff, exists_eq', implies_true, exists_true_left, tys0, tys1, tys2, tys3, tys4, und0, und1, und2, und3, md33, Tryz.ntmps33, Tryz.results33, stB, Nat.mul_one, bC_len, bC_drop, bC_drop_len, bC_get, Nat.zero_add]
      rotate_left
      · have hs3 : s = -3 := by have := of_decide_eq_false g3; omega
        subst hs3
        refine ⟨⟨(W, m, a + 1), by show 1 ≤ a + 1; omega, by show a + 1 ≤ 17; omega, P.mono fun w hw h => by
          unfold vis
          dsimp only at h
          by_cases e : atomF w < a
          · exact .inl e
          · right
            refine ⟨by omega, by split <;> omega⟩⟩, by show 17 - (a + 1) < 17 - a; omega, ?_⟩
        exact weak_drop (by simp) (by simp [DropHp, ints_below, flts_below, w64_succ a (by omega), stB, bagg_below]) (by simp [DropTm, DropV, below, belowM, belowL, w64_succ a (by omega), stB, bagg_below])
      have hs' : s = 1 ∨ s = -1 := by have := of_decide_eq_true g3; omega
      have hx : wordB (s * a) = true := by
        unfold wordB
        simp only [Bool.and_eq_true, bne_iff_ne, ne_eq]
        rcases hs' with rfl | rfl
        · exact ⟨by omega, inR_yes (by omega) (by omega)⟩
        · exact ⟨by omega, inR_yes (by omega) (by omega)⟩
      have hxn := word_neg hx
      have hlo := wordB_low hx
      have pl1 := plN_lt hx
      have pl2 := plN_lt hxn
      have wm : IntKind.i64.wrap (s * a) = s * a := w64 (by omega) (by omega)
      have wn : IntKind.i64.wrap (0 - s * a) = -(s * a) := by rw [w64 (by omega) (by omega)]; omega
      have ws : IntKind.i64.wrap (s - 2) = s - 2 := w64 (by omega) (by omega)
      have hdY (W : Nat → Bool) := bC_putS 96 W (plN (s * a)) true (by omega)
      have hdN (W : Nat → Bool) := bC_putS 96 W (32 + plN (s * a)) true (by omega)
      have hnx : s - 2 = 1 ∨ s - 2 = -1 ∨ s - 2 = -3 := by omega
      have hv := fun w hw h => vis_next (a := a) hs' w hw h
      have F1 := P.inv.fact _ hx
      have F2 := P.inv.fact _ hxn
      simp only [q0, q1, q2, q3, q4, q5, q6, q7, q8, q9, zr0, zr1, zr2, zr3, zq0, zq1, zq2, zq3, zq4, Nat.reduceAdd, Nat.reduceSub, lenA, convA, indexA, indexS, Int.reduceToNat, cond_true, cond_false, ↓reduceIte, reduceCtorEq, Nat.reduceLT, Nat.reduceLeDiff, Nat.reduceMul, Nat.reduceEqDiff, exists_eq', implies_true, exists_true_left, tys0, tys1, tys2, tys3, tys4, und0, und1, und2, und3, md33, Tryz.ntmps33, Tryz.results33, stB, Nat.mul_one, bC_len, bC_drop, bC_drop_len, bC_get, Nat.zero_add, wm]
      refine call_lent 1 (by rfl) (l05Place_call _ hx) rfl rfl ?_
      simp only [q0, q1, q2, q3, q4, q5, q6, q7, q8, q9, zr0, zr1, zr2, zr3, zq0, zq1, zq2, zq3, zq4, Nat.reduceAdd, Nat.reduceSub, lenA, convA, indexA, indexS, Int.reduceToNat, cond_true, cond_false, ↓reduceIte, reduceCtorEq, Nat.reduceLT, Nat.reduceLeDiff, Nat.reduceMul, Nat.reduceEqDiff, exists_eq', implies_true, exists_true_left, tys0, tys1, tys2, tys3, tys4, und0, und1, und2, und3, md33, Tryz.ntmps33, Tryz.results33, stB, Nat.mul_one, bC_len, bC_drop, bC_drop_len, bC_get, Nat.zero_add, wm]
      refine ⟨by omega, by omega, ?_⟩
      refine br_intro (fun f1 => ?_) (fun f1 => ?_) <;> simp only [q0, q1, q2, q3, q4, q5, q6, q7, q8, q9, zr0, zr1, zr2, zr3, zq0, zq1, zq2, zq3, zq4, Nat.reduceAdd, Nat.reduceSub, lenA, convA, indexA, indexS, Int.reduceToNat, cond_true, cond_false, ↓reduceIte, reduceCtorEq, Nat.reduceLT, Nat.reduceLeDiff, Nat.reduceMul, Nat.reduceEqDiff, exists_eq', implies_true, exists_true_left, tys0, tys1, tys2, tys3, tys4, und0, und1, und2, und3, md33, Tryz.ntmps33, Tryz.results33, stB, Nat.mul_one, bC_len, bC_drop, bC_drop_len, bC_get, Nat.zero_add, wn]
      · refine ⟨⟨(W, m, s - 2), hnx, pass_fact P (.inl (by rw [F1] at f1; exact of_decide_eq_true f1)) hv⟩, by show (s - 2 + 3).toNat < (s + 3).toNat; omega, ?_⟩
        exact weak_drop (by simp) (by simp [DropHp, ints_below, flts_below, ws, stB, bagg_below, hdY, hdN]) (by simp [DropTm, DropV, below, belowM, belowL, ws, stB, bagg_below, hdY, hdN])
      refine callr_lent 1 (by rfl) (l05Place_call _ hxn) rfl rfl ?_
      simp only [q0, q1, q2, q3, q4, q5, q6, q7, q8, q9, zr0, zr1, zr2, zr3, zq0, zq1, zq2, zq3, zq4, Nat.reduceAdd, Nat.reduceSub, lenA, convA, indexA, indexS, Int.reduceToNat, cond_true, cond_false, ↓reduceIte, reduceCtorEq, Nat.reduceLT, Nat.reduceLeDiff, Nat.reduceMul, Nat.reduceEqDiff, exists_eq', implies_true, exists_true_left, tys0, tys1, tys2, tys3, tys4, und0, und1, und2, und3, md33, Tryz.ntmps33, Tryz.results33, stB, Nat.mul_one, bC_len, bC_drop, bC_drop_len, bC_get, Nat.zero_add]
      refine ⟨by omega, by omega, ?_⟩
      refine br_intro (fun f2 => ?_) (fun f2 => ?_) <;> simp only [q0, q1, q2, q3, q4, q5, q6, q7, q8, q9, zr0, zr1, zr2, zr3, zq0, zq1, zq2, zq3, zq4, Nat.reduceAdd, Nat.reduceSub, lenA, convA, indexA, indexS, Int.reduceToNat, cond_true, cond_false, ↓reduceIte, reduceCtorEq, Nat.reduceLT, Nat.reduceLeDiff, Nat.reduceMul, Nat.reduceEqDiff, exists_eq', implies_true, exists_true_left, tys0, tys1, tys2, tys3, tys4, und0, und1, und2, und3, md33, Tryz.ntmps33, Tryz.results33, stB, Nat.mul_one, bC_len, bC_drop, bC_drop_len, bC_get, Nat.zero_add, wn]
      · refine ⟨⟨(W, m, s - 2), hnx, pass_fact P (.inr (by rw [F2] at f2; exact of_decide_eq_true f2)) hv⟩, by show (s - 2 + 3).toNat < (s + 3).toNat; omega, ?_⟩
        exact weak_drop (by simp) (by simp [DropHp, ints_below, flts_below, ws, stB, bagg_below, hdY, hdN]) (by simp [DropTm, DropV, below, belowM, belowL, ws, stB, bagg_below, hdY, hdN])
      rw [F1] at f1
      rw [F2] at f2
      replace f1 := of_decide_eq_false f1
      replace f2 := of_decide_eq_false f2
      refine ⟨by omega, by omega, ?_⟩
      refine br_intro (fun y1 => ?_) (fun y1 => ?_) <;> simp only [q0, q1, q2, q3, q4, q5, q6, q7, q8, q9, zr0, zr1, zr2, zr3, zq0, zq1, zq2, zq3, zq4, Nat.reduceAdd, Nat.reduceSub, lenA, convA, indexA, indexS, Int.reduceToNat, cond_true, cond_false, ↓reduceIte, reduceCtorEq, Nat.reduceLT, Nat.reduceLeDiff, Nat.reduceMul, Nat.reduceEqDiff, exists_eq', implies_true, exists_true_left, tys0, tys1, tys2, tys3, tys4, und0, und1, und2, und3, md33, Tryz.ntmps33, Tryz.results33, stB, Nat.mul_one, bC_len, bC_drop, bC_drop_len, bC_get, Nat.zero_add, hdY]
      · have PY := pass_y0 P y1
        refine ⟨by omega, by omega, ?_⟩
        refine br_intro (fun n1 => ?_) (fun n1 => ?_) <;> simp only [q0, q1, q2, q3, q4, q5, q6, q7, q8, q9, zr0, zr1, zr2, zr3, zq0, zq1, zq2, zq3, zq4, Nat.reduceAdd, Nat.reduceSub, lenA, convA, indexA, indexS, Int.reduceToNat, cond_true, cond_false, ↓reduceIte, reduceCtorEq, Nat.reduceLT, Nat.reduceLeDiff, Nat.reduceMul, Nat.reduceEqDiff, exists_eq', implies_true, exists_true_left, tys0, tys1, tys2, tys3, tys4, und0, und1, und2, und3, md33, Tryz.ntmps33, Tryz.results33, stB, Nat.mul_one, bC_len, bC_drop, bC_drop_len, bC_get, Nat.zero_add, hdY]
        · refine ⟨⟨(W, m, s - 2), hnx, pass_n0 PY n1 hv⟩, by show (s - 2 + 3).toNat < (s + 3).toNat; omega, ?_⟩
          exact weak_drop (by simp) (by simp [DropHp, ints_below, flts_below, ws, stB, bagg_below, hdY, hdN]) (by simp [DropTm, DropV, below, belowM, belowL, ws, stB, bagg_below, hdY, hdN])
        · refine call_lent 2 (by simp [view_ptr, view_int, view_ro, AV.cells, bC_view]) (l05Disproved_call (W) R hR (s * a) hx) rfl rfl ?_
          simp only [q0, q1, q2, q3, q4, q5, q6, q7, q8, q9, zr0, zr1, zr2, zr3, zq0, zq1, zq2, zq3, zq4, Nat.reduceAdd, Nat.reduceSub, lenA, convA, indexA, indexS, Int.reduceToNat, cond_true, cond_false, ↓reduceIte, reduceCtorEq, Nat.reduceLT, Nat.reduceLeDiff, Nat.reduceMul, Nat.reduceEqDiff, exists_eq', implies_true, exists_true_left, tys0, tys1, tys2, tys3, tys4, und0, und1, und2, und3, md33, Tryz.ntmps33, Tryz.results33, stB, Nat.mul_one, bC_len, bC_drop, bC_drop_len, bC_get, Nat.zero_add, hdY]
          refine br_intro (fun n2 => ?_) (fun n2 => ?_) <;> simp only [q0, q1, q2, q3, q4, q5, q6, q7, q8, q9, zr0, zr1, zr2, zr3, zq0, zq1, zq2, zq3, zq4, Nat.reduceAdd, Nat.reduceSub, lenA, convA, indexA, indexS, Int.reduceToNat, cond_true, cond_false, ↓reduceIte, reduceCtorEq, Nat.reduceLT, Nat.reduceLeDiff, Nat.reduceMul, Nat.reduceEqDiff, exists_eq', implies_true, exists_true_left, tys0, tys1, tys2, tys3, tys4, und0, und1, und2, und3, md33, Tryz.ntmps33, Tryz.results33, stB, Nat.mul_one, bC_len, bC_drop, bC_drop_len, bC_get, Nat.zero_add, hdY, hdN]
          · refine ⟨by omega, by omega, ?_⟩
            refine ⟨⟨(updW (W) (32 + plN (s * a)) true, true, s - 2), hnx, pass_n1 hR PY hx f1 f2 n1 n2⟩, by show (s - 2 + 3).toNat < (s + 3).toNat; omega, ?_⟩
            exact weak_drop (by simp) (by simp [DropHp, ints_below, flts_below, ws, stB, bagg_below, hdY, hdN]) (by simp [DropTm, DropV, below, belowM, belowL, ws, stB, bagg_below, hdY, hdN])
          · refine ⟨⟨(W, m, s - 2), hnx, pass_n2 PY n2 hv⟩, by show (s - 2 + 3).toNat < (s + 3).toNat; omega, ?_⟩
            exact weak_drop (by simp) (by simp [DropHp, ints_below, flts_below, ws, stB, bagg_below, hdY, hdN]) (by simp [DropTm, DropV, below, belowM, belowL, ws, stB, bagg_below, hdY, hdN])
      · refine call_lent 2 (by simp [view_ptr, view_int, view_ro, AV.cells, bC_view]) (l05Proved_call W R hR (s * a) hx) rfl rfl ?_
        simp only [q0, q1, q2, q3, q4, q5, q6, q7, q8, q9, zr0, zr1, zr2, zr3, zq0, zq1, zq2, zq3, zq4, Nat.reduceAdd, Nat.reduceSub, lenA, convA, indexA, indexS, Int.reduceToNat, cond_true, cond_false, ↓reduceIte, reduceCtorEq, Nat.reduceLT, Nat.reduceLeDiff, Nat.reduceMul, Nat.reduceEqDiff, exists_eq', implies_true, exists_true_left, tys0, tys1, tys2, tys3, tys4, und0, und1, und2, und3, md33, Tryz.ntmps33, Tryz.results33, stB, Nat.mul_one, bC_len, bC_drop, bC_drop_len, bC_get, Nat.zero_add, hdY]
        refine br_intro (fun y2 => ?_) (fun y2 => ?_) <;> simp only [q0, q1, q2, q3, q4, q5, q6, q7, q8, q9, zr0, zr1, zr2, zr3, zq0, zq1, zq2, zq3, zq4, Nat.reduceAdd, Nat.reduceSub, lenA, convA, indexA, indexS, Int.reduceToNat, cond_true, cond_false, ↓reduceIte, reduceCtorEq, Nat.reduceLT, Nat.reduceLeDiff, Nat.reduceMul, Nat.reduceEqDiff, exists_eq', implies_true, exists_true_left, tys0, tys1, tys2, tys3, tys4, und0, und1, und2, und3, md33, Tryz.ntmps33, Tryz.results33, stB, Nat.mul_one, bC_len, bC_drop, bC_drop_len, bC_get, Nat.zero_add, hdY]
        · refine ⟨by omega, by omega, ?_⟩
          have PY := pass_y1 hR P hx f1 f2 y1 y2
          refine ⟨by omega, by omega, ?_⟩
          refine br_intro (fun n1 => ?_) (fun n1 => ?_) <;> simp only [q0, q1, q2, q3, q4, q5, q6, q7, q8, q9, zr0, zr1, zr2, zr3, zq0, zq1, zq2, zq3, zq4, Nat.reduceAdd, Nat.reduceSub, lenA, convA, indexA, indexS, Int.reduceToNat, cond_true, cond_false, ↓reduceIte, reduceCtorEq, Nat.reduceLT, Nat.reduceLeDiff, Nat.reduceMul, Nat.reduceEqDiff, exists_eq', implies_true, exists_true_left, tys0, tys1, tys2, tys3, tys4, und0, und1, und2, und3, md33, Tryz.ntmps33, Tryz.results33, stB, Nat.mul_one, bC_len, bC_drop, bC_drop_len, bC_get, Nat.zero_add, hdY]
          · refine ⟨⟨(updW W (plN (s * a)) true, true, s - 2), hnx, pass_n0 PY n1 hv⟩, by show (s - 2 + 3).toNat < (s + 3).toNat; omega, ?_⟩
            exact weak_drop (by simp) (by simp [DropHp, ints_below, flts_below, ws, stB, bagg_below, hdY, hdN]) (by simp [DropTm, DropV, below, belowM, belowL, ws, stB, bagg_below, hdY, hdN])
          · refine call_lent 2 (by simp [view_ptr, view_int, view_ro, AV.cells, bC_view]) (l05Disproved_call (updW W (plN (s * a)) true) R hR (s * a) hx) rfl rfl ?_
            simp only [q0, q1, q2, q3, q4, q5, q6, q7, q8, q9, zr0, zr1, zr2, zr3, zq0, zq1, zq2, zq3, zq4, Nat.reduceAdd, Nat.reduceSub, lenA, convA, indexA, indexS, Int.reduceToNat, cond_true, cond_false, ↓reduceIte, reduceCtorEq, Nat.reduceLT, Nat.reduceLeDiff, Nat.reduceMul, Nat.reduceEqDiff, exists_eq', implies_true, exists_true_left, tys0, tys1, tys2, tys3, tys4, und0, und1, und2, und3, md33, Tryz.ntmps33, Tryz.results33, stB, Nat.mul_one, bC_len, bC_drop, bC_drop_len, bC_get, Nat.zero_add, hdY]
            refine br_intro (fun n2 => ?_) (fun n2 => ?_) <;> simp only [q0, q1, q2, q3, q4, q5, q6, q7, q8, q9, zr0, zr1, zr2, zr3, zq0, zq1, zq2, zq3, zq4, Nat.reduceAdd, Nat.reduceSub, lenA, convA, indexA, indexS, Int.reduceToNat, cond_true, cond_false, ↓reduceIte, reduceCtorEq, Nat.reduceLT, Nat.reduceLeDiff, Nat.reduceMul, Nat.reduceEqDiff, exists_eq', implies_true, exists_true_left, tys0, tys1, tys2, tys3, tys4, und0, und1, und2, und3, md33, Tryz.ntmps33, Tryz.results33, stB, Nat.mul_one, bC_len, bC_drop, bC_drop_len, bC_get, Nat.zero_add, hdY, hdN]
            · refine ⟨by omega, by omega, ?_⟩
              refine ⟨⟨(updW (updW W (plN (s * a)) true) (32 + plN (s * a)) true, true, s - 2), hnx, pass_n1 hR PY hx f1 f2 n1 n2⟩, by show (s - 2 + 3).toNat < (s + 3).toNat; omega, ?_⟩
              exact weak_drop (by simp) (by simp [DropHp, ints_below, flts_below, ws, stB, bagg_below, hdY, hdN]) (by simp [DropTm, DropV, below, belowM, belowL, ws, stB, bagg_below, hdY, hdN])
            · refine ⟨⟨(updW W (plN (s * a)) true, true, s - 2), hnx, pass_n2 PY n2 hv⟩, by show (s - 2 + 3).toNat < (s + 3).toNat; omega, ?_⟩
              exact weak_drop (by simp) (by simp [DropHp, ints_below, flts_below, ws, stB, bagg_below, hdY, hdN]) (by simp [DropTm, DropV, below, belowM, belowL, ws, stB, bagg_below, hdY, hdN])
        · have PY := pass_y2 P y2
          refine ⟨by omega, by omega, ?_⟩
          refine br_intro (fun n1 => ?_) (fun n1 => ?_) <;> simp only [q0, q1, q2, q3, q4, q5, q6, q7, q8, q9, zr0, zr1, zr2, zr3, zq0, zq1, zq2, zq3, zq4, Nat.reduceAdd, Nat.reduceSub, lenA, convA, indexA, indexS, Int.reduceToNat, cond_true, cond_false, ↓reduceIte, reduceCtorEq, Nat.reduceLT, Nat.reduceLeDiff, Nat.reduceMul, Nat.reduceEqDiff, exists_eq', implies_true, exists_true_left, tys0, tys1, tys2, tys3, tys4, und0, und1, und2, und3, md33, Tryz.ntmps33, Tryz.results33, stB, Nat.mul_one, bC_len, bC_drop, bC_drop_len, bC_get, Nat.zero_add, hdY]
          · refine ⟨⟨(W, m, s - 2), hnx, pass_n0 PY n1 hv⟩, by show (s - 2 + 3).toNat < (s + 3).toNat; omega, ?_⟩
            exact weak_drop (by simp) (by simp [DropHp, ints_below, flts_below, ws, stB, bagg_below, hdY, hdN]) (by simp [DropTm, DropV, below, belowM, belowL, ws, stB, bagg_below, hdY, hdN])
          · refine call_lent 2 (by simp [view_ptr, view_int, view_ro, AV.cells, bC_view]) (l05Disproved_call (W) R hR (s * a) hx) rfl rfl ?_
            simp only [q0, q1, q2, q3, q4, q5, q6, q7, q8, q9, zr0, zr1, zr2, zr3, zq0, zq1, zq2, zq3, zq4, Nat.reduceAdd, Nat.reduceSub, lenA, convA, indexA, indexS, Int.reduceToNat, cond_true, cond_false, ↓reduceIte, reduceCtorEq, Nat.reduceLT, Nat.reduceLeDiff, Nat.reduceMul, Nat.reduceEqDiff, exists_eq', implies_true, exists_true_left, tys0, tys1, tys2, tys3, tys4, und0, und1, und2, und3, md33, Tryz.ntmps33, Tryz.results33, stB, Nat.mul_one, bC_len, bC_drop, bC_drop_len, bC_get, Nat.zero_add, hdY]
            refine br_intro (fun n2 => ?_) (fun n2 => ?_) <;> simp only [q0, q1, q2, q3, q4, q5, q6, q7, q8, q9, zr0, zr1, zr2, zr3, zq0, zq1, zq2, zq3, zq4, Nat.reduceAdd, Nat.reduceSub, lenA, convA, indexA, indexS, Int.reduceToNat, cond_true, cond_false, ↓reduceIte, reduceCtorEq, Nat.reduceLT, Nat.reduceLeDiff, Nat.reduceMul, Nat.reduceEqDiff, exists_eq', implies_true, exists_true_left, tys0, tys1, tys2, tys3, tys4, und0, und1, und2, und3, md33, Tryz.ntmps33, Tryz.results33, stB, Nat.mul_one, bC_len, bC_drop, bC_drop_len, bC_get, Nat.zero_add, hdY, hdN]
            · refine ⟨by omega, by omega, ?_⟩
              refine ⟨⟨(updW (W) (32 + plN (s * a)) true, true, s - 2), hnx, pass_n1 hR PY hx f1 f2 n1 n2⟩, by show (s - 2 + 3).toNat < (s + 3).toNat; omega, ?_⟩
              exact weak_drop (by simp) (by simp [DropHp, ints_below, flts_below, ws, stB, bagg_below, hdY, hdN]) (by simp [DropTm, DropV, below, belowM, belowL, ws, stB, bagg_below, hdY, hdN])
            · refine ⟨⟨(W, m, s - 2), hnx, pass_n2 PY n2 hv⟩, by show (s - 2 + 3).toNat < (s + 3).toNat; omega, ?_⟩
              exact weak_drop (by simp) (by simp [DropHp, ints_below, flts_below, ws, stB, bagg_below, hdY, hdN]) (by simp [DropTm, DropV, below, belowM, belowL, ws, stB, bagg_below, hdY, hdN])
theorem answer_call (R : List Rul) (hR : Rls R) (fs : List Int) (hf : Fcs fs) :
    CallA Tryz.prog 33 [.ro (R.map rulA), .ro (ints fs)] [] (fun r hp => ∃ W, Inv R fs W ∧ Least R fs (yW W) (nW W) ∧ r = .rop (bC 96 W) ∧ hp = []) := by
  refine (CallA.freezeQ 2 (answer0_call R hR fs hf)).mono ?_
  rintro r hp ⟨r0, new, ⟨W, I, L, rfl, rfl⟩, rfl, rfl⟩
  exact ⟨W, I, L, by simp [view_ptr, stB, AV.cells, bC_view], rfl⟩
end Go.Proofs.YtmllengggncmkaaGreat
