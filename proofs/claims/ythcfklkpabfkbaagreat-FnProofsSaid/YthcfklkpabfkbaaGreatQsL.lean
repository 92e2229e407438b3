/- FnProofs. -/
import Derived.Test.YthcfklkpabfkbaaGreatQrZf
set_option maxRecDepth 10000
set_option maxHeartbeats 8000000
set_option linter.unusedSimpArgs false
set_option linter.unusedVariables false
namespace Go.Proofs.YthcfklkpabfkbaaGreat
open Go Go.Abs

theorem nodup_rng {R : List Rul} {day x : Int} {out : List Int} (B : NB R day x out) : out.length ≤ 17 := by
  have h := nodup_sub_len (a := out.map Int.toNat) (b := List.range 17) (by
    rw [List.nodup_iff_pairwise_ne, List.pairwise_map]
    refine (List.nodup_iff_pairwise_ne.1 B.nd).imp_of_mem ?_
    intro a b ha hb hab
    have := B.rng a ha
    have := B.rng b hb
    omega) (fun i hi => by
    obtain ⟨v, hv, rfl⟩ := List.mem_map.1 hi
    have := B.rng v hv
    exact List.mem_range.2 (by omega))
  simpa using h
theorem proofs_list (cd m : List Int) (hc : byteL cd) (hm : byteL m) (l1 : cd.length ≤ 1048576) (l2 : m.length ≤ 1048576) (big : (decide (1048576 < (cd.length : Int)) || decide (1048576 < (m.length : Int))) = false) : CallA Tryz.prog 3 [.ro (kint .u8 cd), .ro (kint .u8 m)] [] (Ret (.bool true) []) := by
  have bl := b10Long_call cd m
  rw [big] at bl
  refine CallP.out (t := .mk) (go_in (md := md3) mixed Tryz.func3 rfl go3 (by kernel_rfl) ?_)
  simp only [q0, q1, q2, q3, q4, q5, q6, q7, q8, q9, zr0, zr1, zr2, zr3, zq0, zq1, zq2, zq3, zq4, Nat.reduceAdd, Nat.reduceSub, lenA, convA, indexA, indexS, Int.reduceToNat, cond_true, cond_false, ↓reduceIte, reduceCtorEq, Nat.reduceLT, Nat.reduceLeDiff, Nat.reduceMul, Nat.reduceEqDiff, exists_eq', implies_true, exists_true_left, tys0, tys1, tys2, tys3, tys4, und0, und1, und2, und3, md3, Tryz.ntmps3, Tryz.results3]
  refine call_ret bl rfl rfl ?_
  simp only [q0, q1, q2, q3, q4, q5, q6, q7, q8, q9, zr0, zr1, zr2, zr3, zq0, zq1, zq2, zq3, zq4, Nat.reduceAdd, Nat.reduceSub, lenA, convA, indexA, indexS, Int.reduceToNat, cond_true, cond_false, ↓reduceIte, reduceCtorEq, Nat.reduceLT, Nat.reduceLeDiff, Nat.reduceMul, Nat.reduceEqDiff, exists_eq', implies_true, exists_true_left, tys0, tys1, tys2, tys3, tys4, und0, und1, und2, und3, md3, Tryz.ntmps3, Tryz.results3]
  refine call_by (b10Rules_call cd hc l1) ?_
  rintro r hp ⟨L, hL, h8, rfl, rfl⟩
  simp only [q0, q1, q2, q3, q4, q5, q6, q7, q8, q9, zr0, zr1, zr2, zr3, zq0, zq1, zq2, zq3, zq4, Nat.reduceAdd, Nat.reduceSub, lenA, convA, indexA, indexS, Int.reduceToNat, cond_true, cond_false, ↓reduceIte, reduceCtorEq, Nat.reduceLT, Nat.reduceLeDiff, Nat.reduceMul, Nat.reduceEqDiff, exists_eq', implies_true, exists_true_left, tys0, tys1, tys2, tys3, tys4, und0, und1, und2, und3, md3, Tryz.ntmps3, Tryz.results3]
  refine call_by (b10Facts_call m hm l2) ?_
  rintro r hp ⟨fs, WF, rfl, rfl⟩
  obtain ⟨day, dc, d0, d1⟩ := b10At_call m hm l2 1 14 (by omega) (by omega) (by omega) (by omega)
  obtain ⟨y0, yc, y1, y2⟩ := b10At_call m hm l2 2 6 (by omega) (by omega) (by omega) (by omega)
  simp only [q0, q1, q2, q3, q4, q5, q6, q7, q8, q9, zr0, zr1, zr2, zr3, zq0, zq1, zq2, zq3, zq4, Nat.reduceAdd, Nat.reduceSub, lenA, convA, indexA, indexS, Int.reduceToNat, cond_true, cond_false, ↓reduceIte, reduceCtorEq, Nat.reduceLT, Nat.reduceLeDiff, Nat.reduceMul, Nat.reduceEqDiff, exists_eq', implies_true, exists_true_left, tys0, tys1, tys2, tys3, tys4, und0, und1, und2, und3, md3, Tryz.ntmps3, Tryz.results3]
  refine call_ret dc rfl rfl ?_
  have A := ask_of hL h8 WF d0 d1
  have RA := rls_act A.hR day
  have fl := WF.len
  simp only [q0, q1, q2, q3, q4, q5, q6, q7, q8, q9, zr0, zr1, zr2, zr3, zq0, zq1, zq2, zq3, zq4, Nat.reduceAdd, Nat.reduceSub, lenA, convA, indexA, indexS, Int.reduceToNat, cond_true, cond_false, ↓reduceIte, reduceCtorEq, Nat.reduceLT, Nat.reduceLeDiff, Nat.reduceMul, Nat.reduceEqDiff, exists_eq', implies_true, exists_true_left, tys0, tys1, tys2, tys3, tys4, und0, und1, und2, und3, md3, Tryz.ntmps3, Tryz.results3]
  refine call_by (answersOf_call L A.hR A.rb fs A.hf A.wb day A.hd) ?_
  rintro r hp ⟨W, I, Ls, rfl, rfl⟩
  have ll : (lstW (yW W) 16).length ≤ 1048576 := by have := lstW_len (yW W) 16; omega
  have hasY : ∀ x, wordB x = true → CallA Tryz.prog 11 [.ro (ints (lstW (yW W) 16)), .int .i64 x] [] (Ret (.bool (yW W x)) []) := fun x hx => by
    have h1 := b10Has_call (lstW (yW W) 16) x ll
    rwa [show decide (x ∈ lstW (yW W) 16) = yW W x from by rw [Bool.eq_iff_iff, decide_eq_true_eq]; exact lstW_mem (yW W) x hx] at h1
  have hasF := fun x => b10Has_call fs x (by omega)
  generalize lstW (yW W) 16 = ys at *
  simp only [q0, q1, q2, q3, q4, q5, q6, q7, q8, q9, zr0, zr1, zr2, zr3, zq0, zq1, zq2, zq3, zq4, Nat.reduceAdd, Nat.reduceSub, lenA, convA, indexA, indexS, Int.reduceToNat, cond_true, cond_false, ↓reduceIte, reduceCtorEq, Nat.reduceLT, Nat.reduceLeDiff, Nat.reduceMul, Nat.reduceEqDiff, exists_eq', implies_true, exists_true_left, tys0, tys1, tys2, tys3, tys4, und0, und1, und2, und3, md3, Tryz.ntmps3, Tryz.results3]
  refine go_round (md := md3) mixed (by kernel_rfl) (fun j : {j : Nat // j ≤ 6} => ⟨[.any, .ro (kint .u8 m), .any, .any, .any, .ro (L.map rulA), .ro (ints fs), .int .i64 day, .ro (ints ys), .any, .any, .int .i64 (1 + (j.1 : Int)), .any, .any, .any, .any, .any, .any, .any, .any, .any, .any, .any, .any, .any, .any, .any, .any, .any, .any, .any, .any, .any, .any, .any, .any, .any, .any, .any, .any, .any, .any, .any, .any, .any, .any, .any, .any, .any, .any, .any, .any, .any, .any, .any, .any, .any, .any, .any, .any, .any, .any, .any, .any, .any, .any, .any, .any, .any, .any, .any, .any, .any, .any, .any, .any, .any, .any, .any, .any, .any, .any, .any, .any, .any, .any, .any, .any, .any, .any, .any, .any, .any, .any, .any, .any, .any, .any, .any, .any, .any, .any, .any, .any, .any, .any, .any, .any, .any, .any, .any, .any, .any, .any, .any, .any, .any, .any, .any, .any, .any, .any, .any, .any, .any, .any, .any, .any, .any, .any, .any, .any, .any, .any, .any, .any, .any, .any, .any, .any, .any, .any, .any, .any, .any, .any, .any, .any, .any, .any, .any, .any, .any, .any, .any, .any, .any, .any, .any, .any, .any, .any, .any, .any, .any, .any, .any, .any, .any, .any, .any, .any, .any, .any, .any, .any, .any, .any, .any, .any, .any, .any, .any, .any, .any, .any, .any, .any, .any, .any, .any, .any, .any, .any, .any, .any, .any, .any, .any, .any, .any, .any, .any, .any, .any, .any, .any, .any, .any, .any, .any, .any, .any, .any, .any, .any, .any, .any, .any, .any, .any, .any, .any, .any, .any, .any, .any, .any, .any, .any, .any, .any, .any, .any, .any, .any, .any, .any, .any, .any, .any], []⟩) (fun j => 6 - j.1) ⟨0, Nat.zero_le _⟩ ?_ ?_
  · exact weak_drop (by simp) (by simp [DropHp, ints_below, flts_below]) (by simp [DropTm, DropV, below, belowM, belowL])
  rintro ⟨j, hj⟩
  simp only [q0, q1, q2, q3, q4, q5, q6, q7, q8, q9, zr0, zr1, zr2, zr3, zq0, zq1, zq2, zq3, zq4, Nat.reduceAdd, Nat.reduceSub, lenA, convA, indexA, indexS, Int.reduceToNat, cond_true, cond_false, ↓reduceIte, reduceCtorEq, Nat.reduceLT, Nat.reduceLeDiff, Nat.reduceMul, Nat.reduceEqDiff, exists_eq', implies_true, exists_true_left, tys0, tys1, tys2, tys3, tys4, und0, und1, und2, und3, md3, Tryz.ntmps3, Tryz.results3]
  refine br_intro (fun h => ?_) (fun h => ?_) <;> simp only [q0, q1, q2, q3, q4, q5, q6, q7, q8, q9, zr0, zr1, zr2, zr3, zq0, zq1, zq2, zq3, zq4, Nat.reduceAdd, Nat.reduceSub, lenA, convA, indexA, indexS, Int.reduceToNat, cond_true, cond_false, ↓reduceIte, reduceCtorEq, Nat.reduceLT, Nat.reduceLeDiff, Nat.reduceMul, Nat.reduceEqDiff, exists_eq', implies_true, exists_true_left, tys0, tys1, tys2, tys3, tys4, und0, und1, und2, und3, md3, Tryz.ntmps3, Tryz.results3]
  · have hj' : j < 6 := by have := of_decide_eq_true h; omega
    refine go_round (md := md3) mixed (by kernel_rfl) (fun k : {k : Nat // k ≤ 2} => ⟨[.any, .ro (kint .u8 m), .any, .any, .any, .ro (L.map rulA), .ro (ints fs), .int .i64 day, .ro (ints ys), .any, .any, .int .i64 (1 + (j : Int)), .int .i64 (-1 + 2 * (k.1 : Int)), .any, .any, .any, .any, .any, .any, .any, .any, .any, .any, .any, .any, .any, .any, .any, .any, .any, .any, .any, .any, .any, .any, .any, .any, .any, .any, .any, .any, .any, .any, .any, .any, .any, .any, .any, .any, .any, .any, .any, .any, .any, .any, .any, .any, .any, .any, .any, .any, .any, .any, .any, .any, .any, .any, .any, .any, .any, .any, .any, .any, .any, .any, .any, .any, .any, .any, .any, .any, .any, .any, .any, .any, .any, .any, .any, .any, .any, .any, .any, .any, .any, .any, .any, .any, .any, .any, .any, .any, .any, .any, .any, .any, .any, .any, .any, .any, .any, .any, .any, .any, .any, .any, .any, .any, .any, .any, .any, .any, .any, .any, .any, .any, .any, .any, .any, .any, .any, .any, .any, .any, .any, .any, .any, .any, .any, .any, .any, .any, .any, .any, .any, .any, .any, .any, .any, .any, .any, .any, .any, .any, .any, .any, .any, .any, .any, .any, .any, .any, .any, .any, .any, .any, .any, .any, .any, .any, .any, .any, .any, .any, .any, .any, .any, .any, .any, .any, .any, .any, .any, .any, .any, .any, .any, .any, .any, .any, .any, .any, .any, .any, .any, .any, .any, .any, .any, .any, .any, .any, .any, .any, .any, .any, .any, .any, .any, .any, .any, .any, .any, .any, .any, .any, .any, .any, .any, .any, .any, .any, .any, .any, .any, .any, .any, .any, .any, .any, .any, .any, .any, .any, .any, .any, .any, .any, .any, .any, .any, .any], []⟩) (fun k => 2 - k.1) ⟨0, Nat.zero_le _⟩ ?_ ?_
    · exact weak_drop (by simp) (by simp [DropHp, ints_below, flts_below]) (by simp [DropTm, DropV, below, belowM, belowL])
    rintro ⟨k, hk⟩
    simp only [q0, q1, q2, q3, q4, q5, q6, q7, q8, q9, zr0, zr1, zr2, zr3, zq0, zq1, zq2, zq3, zq4, Nat.reduceAdd, Nat.reduceSub, lenA, convA, indexA, indexS, Int.reduceToNat, cond_true, cond_false, ↓reduceIte, reduceCtorEq, Nat.reduceLT, Nat.reduceLeDiff, Nat.reduceMul, Nat.reduceEqDiff, exists_eq', implies_true, exists_true_left, tys0, tys1, tys2, tys3, tys4, und0, und1, und2, und3, md3, Tryz.ntmps3, Tryz.results3]
    refine br_intro (fun h2 => ?_) (fun h2 => ?_) <;> simp only [q0, q1, q2, q3, q4, q5, q6, q7, q8, q9, zr0, zr1, zr2, zr3, zq0, zq1, zq2, zq3, zq4, Nat.reduceAdd, Nat.reduceSub, lenA, convA, indexA, indexS, Int.reduceToNat, cond_true, cond_false, ↓reduceIte, reduceCtorEq, Nat.reduceLT, Nat.reduceLeDiff, Nat.reduceMul, Nat.reduceEqDiff, exists_eq', implies_true, exists_true_left, tys0, tys1, tys2, tys3, tys4, und0, und1, und2, und3, md3, Tryz.ntmps3, Tryz.results3]
    · have hk' : k < 2 := by have := of_decide_eq_true h2; omega
      have wx := side_word j hj' k hk'
      have wk : IntKind.i64.wrap (-1 + 2 * (k : Int) + 2) = -1 + 2 * ((k + 1 : Nat) : Int) := by rw [w64 (by omega) (by omega)]; omega
      generalize IntKind.i64.wrap ((-1 + 2 * (k : Int)) * (1 + (j : Int))) = x at *
      refine call_by (implProof_call A x wx) ?_
      rintro r hp ⟨Y1, N1, M1, e1⟩
      have s1 := (M1.same Ls x wx).1
      rcases e1 with ⟨u1, rfl, rfl⟩ | ⟨u1, out, P, rfl, rfl⟩
      · rw [u1] at s1
        have hy := hasY x wx
        rw [← s1] at hy
        simp only [q0, q1, q2, q3, q4, q5, q6, q7, q8, q9, zr0, zr1, zr2, zr3, zq0, zq1, zq2, zq3, zq4, Nat.reduceAdd, Nat.reduceSub, lenA, convA, indexA, indexS, Int.reduceToNat, cond_true, cond_false, ↓reduceIte, reduceCtorEq, Nat.reduceLT, Nat.reduceLeDiff, Nat.reduceMul, Nat.reduceEqDiff, exists_eq', implies_true, exists_true_left, tys0, tys1, tys2, tys3, tys4, und0, und1, und2, und3, md3, Tryz.ntmps3, Tryz.results3, beq_self_eq_true, bne_self_eq_false]
        refine call_by (refProof_call A x wx) ?_
        rintro r hp ⟨W2, M2, e2⟩
        have s2 := (M2.same Ls x wx).1
        rcases e2 with ⟨u2, rfl, rfl⟩ | ⟨u2, n, h0, rfl, rfl⟩
        · simp only [q0, q1, q2, q3, q4, q5, q6, q7, q8, q9, zr0, zr1, zr2, zr3, zq0, zq1, zq2, zq3, zq4, Nat.reduceAdd, Nat.reduceSub, lenA, convA, indexA, indexS, Int.reduceToNat, cond_true, cond_false, ↓reduceIte, reduceCtorEq, Nat.reduceLT, Nat.reduceLeDiff, Nat.reduceMul, Nat.reduceEqDiff, exists_eq', implies_true, exists_true_left, tys0, tys1, tys2, tys3, tys4, und0, und1, und2, und3, md3, Tryz.ntmps3, Tryz.results3, beq_self_eq_true, bne_self_eq_false]
          refine call_ret hy rfl rfl ?_
          simp only [q0, q1, q2, q3, q4, q5, q6, q7, q8, q9, zr0, zr1, zr2, zr3, zq0, zq1, zq2, zq3, zq4, Nat.reduceAdd, Nat.reduceSub, lenA, convA, indexA, indexS, Int.reduceToNat, cond_true, cond_false, ↓reduceIte, reduceCtorEq, Nat.reduceLT, Nat.reduceLeDiff, Nat.reduceMul, Nat.reduceEqDiff, exists_eq', implies_true, exists_true_left, tys0, tys1, tys2, tys3, tys4, und0, und1, und2, und3, md3, Tryz.ntmps3, Tryz.results3, beq_self_eq_true, bne_self_eq_false]
          refine ⟨⟨k + 1, by omega⟩, by show 2 - (k + 1) < _; omega, ?_⟩
          exact weak_drop (by simp) (by simp [DropHp, ints_below, flts_below, wk]) (by simp [DropTm, DropV, below, belowM, belowL, wk])
        · rw [u2, ← s1] at s2; cases s2
      · rw [u1] at s1
        have hy := hasY x wx
        rw [← s1] at hy
        simp only [q0, q1, q2, q3, q4, q5, q6, q7, q8, q9, zr0, zr1, zr2, zr3, zq0, zq1, zq2, zq3, zq4, Nat.reduceAdd, Nat.reduceSub, lenA, convA, indexA, indexS, Int.reduceToNat, cond_true, cond_false, ↓reduceIte, reduceCtorEq, Nat.reduceLT, Nat.reduceLeDiff, Nat.reduceMul, Nat.reduceEqDiff, exists_eq', implies_true, exists_true_left, tys0, tys1, tys2, tys3, tys4, und0, und1, und2, und3, md3, Tryz.ntmps3, Tryz.results3, beq_self_eq_true, bne_self_eq_false]
        refine call_by (refProof_call A x wx) ?_
        rintro r hp ⟨W2, M2, e2⟩
        have s2 := (M2.same Ls x wx).1
        rcases e2 with ⟨u2, rfl, rfl⟩ | ⟨u2, n, h0, rfl, rfl⟩
        · rw [u2, ← s1] at s2; cases s2
        have ps := proofs_same A.hR M1 M2 P h0
        have pr := proof_rng (R := L) (day := day) (fs := fs) (Y := yW W2) (x := x) (m := n)
        have pg := fun {Y' N' : Int → Bool} (L1 : Least (L.filter (onB day)) fs Y' N') => proof_good A.hR RA M2 L1 wx u2 h0
        rw [← ps] at pr pg
        have hol : out.length = (bk (rkR L) (fB fs) (tkN (actL L day) (rkR L) (yW W2) (fB fs) n).1.reverse (wan0 (fB fs) x) []).length := by rw [ps, nI_len]
        rw [← ps]
        generalize bk (rkR L) (fB fs) (tkN (actL L day) (rkR L) (yW W2) (fB fs) n).1.reverse (wan0 (fB fs) x) [] = PP at *
        have bi := b10Ints_call out (by omega)
        simp only [q0, q1, q2, q3, q4, q5, q6, q7, q8, q9, zr0, zr1, zr2, zr3, zq0, zq1, zq2, zq3, zq4, Nat.reduceAdd, Nat.reduceSub, lenA, convA, indexA, indexS, Int.reduceToNat, cond_true, cond_false, ↓reduceIte, reduceCtorEq, Nat.reduceLT, Nat.reduceLeDiff, Nat.reduceMul, Nat.reduceEqDiff, exists_eq', implies_true, exists_true_left, tys0, tys1, tys2, tys3, tys4, und0, und1, und2, und3, md3, Tryz.ntmps3, Tryz.results3, beq_self_eq_true, bne_self_eq_false]
        refine call_ret hy rfl rfl ?_
        simp only [q0, q1, q2, q3, q4, q5, q6, q7, q8, q9, zr0, zr1, zr2, zr3, zq0, zq1, zq2, zq3, zq4, Nat.reduceAdd, Nat.reduceSub, lenA, convA, indexA, indexS, Int.reduceToNat, cond_true, cond_false, ↓reduceIte, reduceCtorEq, Nat.reduceLT, Nat.reduceLeDiff, Nat.reduceMul, Nat.reduceEqDiff, exists_eq', implies_true, exists_true_left, tys0, tys1, tys2, tys3, tys4, und0, und1, und2, und3, md3, Tryz.ntmps3, Tryz.results3, beq_self_eq_true, bne_self_eq_false]
        refine call_ret bi rfl rfl ?_
        simp only [q0, q1, q2, q3, q4, q5, q6, q7, q8, q9, zr0, zr1, zr2, zr3, zq0, zq1, zq2, zq3, zq4, Nat.reduceAdd, Nat.reduceSub, lenA, convA, indexA, indexS, Int.reduceToNat, cond_true, cond_false, ↓reduceIte, reduceCtorEq, Nat.reduceLT, Nat.reduceLeDiff, Nat.reduceMul, Nat.reduceEqDiff, exists_eq', implies_true, exists_true_left, tys0, tys1, tys2, tys3, tys4, und0, und1, und2, und3, md3, Tryz.ntmps3, Tryz.results3, beq_self_eq_true, bne_self_eq_false]
        refine call_by (implIsProof_call A out pr.1 (by omega) x wx) ?_
        rintro r hp ⟨Y3, N3, M3, rfl, rfl⟩
        rw [(pg M3).1]
        have hz : (((out.length : Nat) : Int) == 0) = decide (x ∈ fs) := by
          rw [Bool.eq_iff_iff, decide_eq_true_eq, ← (pg M3).2, beq_iff_eq]
          constructor
          · intro h; exact List.eq_nil_of_length_eq_zero (by omega)
          · intro h; rw [hol, h]; rfl
        simp only [q0, q1, q2, q3, q4, q5, q6, q7, q8, q9, zr0, zr1, zr2, zr3, zq0, zq1, zq2, zq3, zq4, Nat.reduceAdd, Nat.reduceSub, lenA, convA, indexA, indexS, Int.reduceToNat, cond_true, cond_false, ↓reduceIte, reduceCtorEq, Nat.reduceLT, Nat.reduceLeDiff, Nat.reduceMul, Nat.reduceEqDiff, exists_eq', implies_true, exists_true_left, tys0, tys1, tys2, tys3, tys4, und0, und1, und2, und3, md3, Tryz.ntmps3, Tryz.results3, hz, ints_len]
        refine call_ret (hasF x) rfl rfl ?_
        simp only [q0, q1, q2, q3, q4, q5, q6, q7, q8, q9, zr0, zr1, zr2, zr3, zq0, zq1, zq2, zq3, zq4, Nat.reduceAdd, Nat.reduceSub, lenA, convA, indexA, indexS, Int.reduceToNat, cond_true, cond_false, ↓reduceIte, reduceCtorEq, Nat.reduceLT, Nat.reduceLeDiff, Nat.reduceMul, Nat.reduceEqDiff, exists_eq', implies_true, exists_true_left, tys0, tys1, tys2, tys3, tys4, und0, und1, und2, und3, md3, Tryz.ntmps3, Tryz.results3, hz, beq_self_eq_true, bne_self_eq_false]
        refine ⟨⟨k + 1, by omega⟩, by show 2 - (k + 1) < _; omega, ?_⟩
        exact weak_drop (by simp) (by simp [DropHp, ints_below, flts_below, wk]) (by simp [DropTm, DropV, below, belowM, belowL, wk])
    · have wj : IntKind.i64.wrap (1 + (j : Int) + 1) = 1 + ((j + 1 : Nat) : Int) := by rw [w64 (by omega) (by omega)]; omega
      refine ⟨⟨j + 1, by omega⟩, by show 6 - (j + 1) < _; omega, ?_⟩
      exact weak_drop (by simp) (by simp [DropHp, ints_below, flts_below, wj]) (by simp [DropTm, DropV, below, belowM, belowL, wj])
  · have hj' : j = 6 := by have := of_decide_eq_false h; omega
    have w16 : wordB 16 = true := by decide
    have c16 : CallA Tryz.prog 13 [.ro (L.map rulA), .ro (ints fs), .int .i64 day, .ro [], .int .i64 16] [] (Ret (.tup [.bool false, .bool true]) []) := by
      refine (implIsProof_call A [] (by simp) (by simp) 16 w16).mono ?_
      rintro r hp ⟨Y3, N3, M3, rfl, rfl⟩
      have h16 : isPrf L day Y3 (fB fs) [] 16 = false := by unfold isPrf fB; rw [if_pos (show ([] : List Int).length = 0 from rfl)]; exact no16 WF
      rw [h16]
      exact ⟨rfl, rfl⟩
    refine call_lent 3 (by simp [view_ro, view_int, view_sl, rop_view]) c16 rfl rfl ?_
    simp only [q0, q1, q2, q3, q4, q5, q6, q7, q8, q9, zr0, zr1, zr2, zr3, zq0, zq1, zq2, zq3, zq4, Nat.reduceAdd, Nat.reduceSub, lenA, convA, indexA, indexS, Int.reduceToNat, cond_true, cond_false, ↓reduceIte, reduceCtorEq, Nat.reduceLT, Nat.reduceLeDiff, Nat.reduceMul, Nat.reduceEqDiff, exists_eq', implies_true, exists_true_left, tys0, tys1, tys2, tys3, tys4, und0, und1, und2, und3, md3, Tryz.ntmps3, Tryz.results3]
    refine call_ret (implClashes_call L A.hR A.rb day A.hd) rfl rfl ?_
    simp only [q0, q1, q2, q3, q4, q5, q6, q7, q8, q9, zr0, zr1, zr2, zr3, zq0, zq1, zq2, zq3, zq4, Nat.reduceAdd, Nat.reduceSub, lenA, convA, indexA, indexS, Int.reduceToNat, cond_true, cond_false, ↓reduceIte, reduceCtorEq, Nat.reduceLT, Nat.reduceLeDiff, Nat.reduceMul, Nat.reduceEqDiff, exists_eq', implies_true, exists_true_left, tys0, tys1, tys2, tys3, tys4, und0, und1, und2, und3, md3, Tryz.ntmps3, Tryz.results3]
    refine call_ret (refClashes_call L A.hR A.rb day A.hd) rfl rfl ?_
    have xw : wordB (1 + y0) = true := by
      unfold wordB inR
      rw [decide_eq_true (by omega), decide_eq_true (by omega)]
      simp; omega
    have wy : IntKind.i64.wrap (1 + y0) = 1 + y0 := w64 (by omega) (by omega)
    simp only [q0, q1, q2, q3, q4, q5, q6, q7, q8, q9, zr0, zr1, zr2, zr3, zq0, zq1, zq2, zq3, zq4, Nat.reduceAdd, Nat.reduceSub, lenA, convA, indexA, indexS, Int.reduceToNat, cond_true, cond_false, ↓reduceIte, reduceCtorEq, Nat.reduceLT, Nat.reduceLeDiff, Nat.reduceMul, Nat.reduceEqDiff, exists_eq', implies_true, exists_true_left, tys0, tys1, tys2, tys3, tys4, und0, und1, und2, und3, md3, Tryz.ntmps3, Tryz.results3]
    refine call_ret yc rfl rfl ?_
    simp only [q0, q1, q2, q3, q4, q5, q6, q7, q8, q9, zr0, zr1, zr2, zr3, zq0, zq1, zq2, zq3, zq4, Nat.reduceAdd, Nat.reduceSub, lenA, convA, indexA, indexS, Int.reduceToNat, cond_true, cond_false, ↓reduceIte, reduceCtorEq, Nat.reduceLT, Nat.reduceLeDiff, Nat.reduceMul, Nat.reduceEqDiff, exists_eq', implies_true, exists_true_left, tys0, tys1, tys2, tys3, tys4, und0, und1, und2, und3, md3, Tryz.ntmps3, Tryz.results3, wy]
    refine call_newQ (implNeeds_call L A.hR A.rb day A.hd (1 + y0) xw) rfl ?_
    rintro r hp ⟨out, NBo, Dno, rfl, rfl⟩
    refine ⟨by simp, ?_⟩
    simp only [q0, q1, q2, q3, q4, q5, q6, q7, q8, q9, zr0, zr1, zr2, zr3, zq0, zq1, zq2, zq3, zq4, Nat.reduceAdd, Nat.reduceSub, lenA, convA, indexA, indexS, Int.reduceToNat, cond_true, cond_false, ↓reduceIte, reduceCtorEq, Nat.reduceLT, Nat.reduceLeDiff, Nat.reduceMul, Nat.reduceEqDiff, exists_eq', implies_true, exists_true_left, tys0, tys1, tys2, tys3, tys4, und0, und1, und2, und3, md3, Tryz.ntmps3, Tryz.results3, ren, renM, renL]
    refine call_ret yc rfl rfl ?_
    simp only [q0, q1, q2, q3, q4, q5, q6, q7, q8, q9, zr0, zr1, zr2, zr3, zq0, zq1, zq2, zq3, zq4, Nat.reduceAdd, Nat.reduceSub, lenA, convA, indexA, indexS, Int.reduceToNat, cond_true, cond_false, ↓reduceIte, reduceCtorEq, Nat.reduceLT, Nat.reduceLeDiff, Nat.reduceMul, Nat.reduceEqDiff, exists_eq', implies_true, exists_true_left, tys0, tys1, tys2, tys3, tys4, und0, und1, und2, und3, md3, Tryz.ntmps3, Tryz.results3, wy]
    refine call_newQ (refNeeds_call L A.hR A.rb day A.hd (1 + y0) xw) rfl ?_
    rintro r hp ⟨W4, BW4, CW4, rfl, rfl⟩
    refine ⟨by simp, ?_⟩
    rw [← needs_same A.hR xw NBo Dno BW4 CW4]
    have cl := clashes_len h8 day
    have co := clashes_ok L day
    generalize prs (clP L) (idxD L day L.length) = C at *
    have bi := b10Ints_call C (by omega)
    have bo := b10Ints_call (sortI out) (by rw [sortI_len]; have := nodup_rng NBo; omega)
    simp only [q0, q1, q2, q3, q4, q5, q6, q7, q8, q9, zr0, zr1, zr2, zr3, zq0, zq1, zq2, zq3, zq4, Nat.reduceAdd, Nat.reduceSub, lenA, convA, indexA, indexS, Int.reduceToNat, cond_true, cond_false, ↓reduceIte, reduceCtorEq, Nat.reduceLT, Nat.reduceLeDiff, Nat.reduceMul, Nat.reduceEqDiff, exists_eq', implies_true, exists_true_left, tys0, tys1, tys2, tys3, tys4, und0, und1, und2, und3, md3, Tryz.ntmps3, Tryz.results3, ren, renM, renL, beq_self_eq_true, bne_self_eq_false]
    refine call_ret bi rfl rfl ?_
    simp only [q0, q1, q2, q3, q4, q5, q6, q7, q8, q9, zr0, zr1, zr2, zr3, zq0, zq1, zq2, zq3, zq4, Nat.reduceAdd, Nat.reduceSub, lenA, convA, indexA, indexS, Int.reduceToNat, cond_true, cond_false, ↓reduceIte, reduceCtorEq, Nat.reduceLT, Nat.reduceLeDiff, Nat.reduceMul, Nat.reduceEqDiff, exists_eq', implies_true, exists_true_left, tys0, tys1, tys2, tys3, tys4, und0, und1, und2, und3, md3, Tryz.ntmps3, Tryz.results3, ren, renM, renL, beq_self_eq_true, bne_self_eq_false]
    refine call_ret bo rfl rfl ?_
    simp only [q0, q1, q2, q3, q4, q5, q6, q7, q8, q9, zr0, zr1, zr2, zr3, zq0, zq1, zq2, zq3, zq4, Nat.reduceAdd, Nat.reduceSub, lenA, convA, indexA, indexS, Int.reduceToNat, cond_true, cond_false, ↓reduceIte, reduceCtorEq, Nat.reduceLT, Nat.reduceLeDiff, Nat.reduceMul, Nat.reduceEqDiff, exists_eq', implies_true, exists_true_left, tys0, tys1, tys2, tys3, tys4, und0, und1, und2, und3, md3, Tryz.ntmps3, Tryz.results3, ren, renM, renL, beq_self_eq_true, bne_self_eq_false]
    refine go_round (md := md3) mixed (by kernel_rfl) (fun j : {j : Nat // 2 * j ≤ C.length} => ⟨[.any, .any, .any, .any, .any, .ro (L.map rulA), .any, .any, .any, .any, .any, .any, .any, .any, .any, .any, .any, .any, .any, .any, .any, .any, .ro (ints C), .any, .any, .any, .any, .any, .any, .any, .int .i64 ((2 * j.1 : Nat) : Int), .any, .any, .any, .any, .any, .any, .any, .any, .any, .any, .any, .any, .any, .any, .any, .any, .any, .any, .any, .any, .any, .any, .any, .any, .any, .any, .any, .any, .any, .any, .any, .any, .any, .any, .any, .any, .any, .any, .any, .any, .any, .any, .any, .any, .any, .any, .any, .any, .any, .any, .any, .any, .any, .any, .any, .any, .any, .any, .any, .any, .any, .any, .any, .any, .any, .any, .any, .any, .any, .any, .any, .any, .any, .any, .any, .any, .any, .any, .any, .any, .any, .any, .any, .any, .any, .any, .any, .any, .any, .any, .any, .any, .any, .any, .any, .any, .any, .any, .any, .any, .any, .any, .any, .any, .any, .any, .any, .any, .any, .any, .any, .any, .any, .any, .any, .any, .any, .any, .any, .any, .any, .any, .any, .any, .any, .any, .any, .any, .any, .any, .any, .any, .any, .any, .any, .any, .any, .any, .any, .any, .any, .any, .any, .any, .any, .any, .any, .any, .any, .any, .any, .any, .any, .any, .any, .any, .any, .any, .any, .any, .any, .any, .any, .any, .any, .any, .any, .any, .any, .any, .any, .any, .any, .any, .any, .any, .any, .any, .any, .any, .any, .any, .any, .any, .any, .any, .any, .any, .any, .any, .any, .any, .any, .any, .any, .any, .any, .any, .any, .any, .any, .any, .any, .any, .any, .any, .any, .any, .any, .any], []⟩) (fun j => C.length - 2 * j.1) ⟨0, by omega⟩ ?_ ?_
    · exact weak_drop (by simp) (by simp [DropHp, ints_below, flts_below]) (by simp [DropTm, DropV, below, belowM, belowL])
    clear j hj h hj'
    rintro ⟨j, hj⟩
    have ev := co.even
    have w1 : IntKind.i64.wrap (((2 * j : Nat) : Int) + 1) = ((2 * j + 1 : Nat) : Int) := by rw [w64 (by omega) (by omega)]; omega
    have w2 : IntKind.i64.wrap (((2 * j : Nat) : Int) + 2) = ((2 * (j + 1) : Nat) : Int) := by rw [w64 (by omega) (by omega)]; omega
    simp only [q0, q1, q2, q3, q4, q5, q6, q7, q8, q9, zr0, zr1, zr2, zr3, zq0, zq1, zq2, zq3, zq4, Nat.reduceAdd, Nat.reduceSub, lenA, convA, indexA, indexS, Int.reduceToNat, cond_true, cond_false, ↓reduceIte, reduceCtorEq, Nat.reduceLT, Nat.reduceLeDiff, Nat.reduceMul, Nat.reduceEqDiff, exists_eq', implies_true, exists_true_left, tys0, tys1, tys2, tys3, tys4, und0, und1, und2, und3, md3, Tryz.ntmps3, Tryz.results3, ints_len]
    refine br_intro (fun h4 => ?_) (fun h4 => ?_) <;> simp only [q0, q1, q2, q3, q4, q5, q6, q7, q8, q9, zr0, zr1, zr2, zr3, zq0, zq1, zq2, zq3, zq4, Nat.reduceAdd, Nat.reduceSub, lenA, convA, indexA, indexS, Int.reduceToNat, cond_true, cond_false, ↓reduceIte, reduceCtorEq, Nat.reduceLT, Nat.reduceLeDiff, Nat.reduceMul, Nat.reduceEqDiff, exists_eq', implies_true, exists_true_left, tys0, tys1, tys2, tys3, tys4, und0, und1, und2, und3, md3, Tryz.ntmps3, Tryz.results3, ints_len, w1]
    · have hj' : 2 * j < C.length := by have := of_decide_eq_true h4; omega
      obtain ⟨p1, p2, p3, p4, p5⟩ := co.at_ j (by omega)
      have ka := rkR_at L C[2 * j].toNat (by omega)
      have kb := rkR_at L C[2 * j + 1].toNat (by omega)
      rw [ka, kb] at p4 p5
      refine ⟨hj', p1, by rw [List.length_map]; omega, ?_⟩
      simp only [q0, q1, q2, q3, q4, q5, q6, q7, q8, q9, zr0, zr1, zr2, zr3, zq0, zq1, zq2, zq3, zq4, Nat.reduceAdd, Nat.reduceSub, lenA, convA, indexA, indexS, Int.reduceToNat, cond_true, cond_false, ↓reduceIte, reduceCtorEq, Nat.reduceLT, Nat.reduceLeDiff, Nat.reduceMul, Nat.reduceEqDiff, exists_eq', implies_true, exists_true_left, tys0, tys1, tys2, tys3, tys4, und0, und1, und2, und3, md3, Tryz.ntmps3, Tryz.results3, ints_len, List.getElem_map, rulA, w1, Int.toNat_natCast]
      have lw := wordB_low (A.hR.ok _ (List.getElem_mem (show C[2 * j + 1].toNat < L.length by omega))).1
      have wn : IntKind.i64.wrap (0 - L[C[2 * j + 1].toNat].1) = -L[C[2 * j + 1].toNat].1 := by rw [w64 (by omega) (by omega)]; omega
      refine ⟨by omega, by omega, by rw [List.length_map]; omega, ?_⟩
      simp only [q0, q1, q2, q3, q4, q5, q6, q7, q8, q9, zr0, zr1, zr2, zr3, zq0, zq1, zq2, zq3, zq4, Nat.reduceAdd, Nat.reduceSub, lenA, convA, indexA, indexS, Int.reduceToNat, cond_true, cond_false, ↓reduceIte, reduceCtorEq, Nat.reduceLT, Nat.reduceLeDiff, Nat.reduceMul, Nat.reduceEqDiff, exists_eq', implies_true, exists_true_left, tys0, tys1, tys2, tys3, tys4, und0, und1, und2, und3, md3, Tryz.ntmps3, Tryz.results3, ints_len, List.getElem_map, rulA, w1, Int.toNat_natCast, wn, p4, p5, bne_self_eq_false]
      have pd : decide (C[2 * j + 1] ≤ C[2 * j]) = false := decide_eq_false (by omega)
      refine ⟨by omega, by omega, ?_⟩
      simp only [pd]
      simp only [q0, q1, q2, q3, q4, q5, q6, q7, q8, q9, zr0, zr1, zr2, zr3, zq0, zq1, zq2, zq3, zq4, Nat.reduceAdd, Nat.reduceSub, lenA, convA, indexA, indexS, Int.reduceToNat, cond_true, cond_false, ↓reduceIte, reduceCtorEq, Nat.reduceLT, Nat.reduceLeDiff, Nat.reduceMul, Nat.reduceEqDiff, exists_eq', implies_true, exists_true_left, tys0, tys1, tys2, tys3, tys4, und0, und1, und2, und3, md3, Tryz.ntmps3, Tryz.results3, ints_len]
      refine ⟨⟨j + 1, by omega⟩, by show C.length - 2 * (j + 1) < _; omega, ?_⟩
      have w3 : IntKind.i64.wrap (2 * (j : Int) + 2) = 2 * ((j : Int) + 1) := by rw [w64 (by omega) (by omega)]; omega
      exact weak_drop (by simp) (by simp [DropHp, ints_below, flts_below, w2, w3]) (by simp [DropTm, DropV, below, belowM, belowL, w2, w3])
    · exact PostR.pure ⟨rfl, rfl⟩ rfl
theorem proofs_all (cd m : List Int) (hc : byteL cd) (hm : byteL m) : CallA Tryz.prog 3 [.ro (kint .u8 cd), .ro (kint .u8 m)] [] (Ret (.bool true) []) := by
  cases big : (decide (1048576 < (cd.length : Int)) || decide (1048576 < (m.length : Int))) with
  | false =>
    have b2 := big
    rw [Bool.or_eq_false_iff] at b2
    have h1 := of_decide_eq_false b2.1
    have h2 := of_decide_eq_false b2.2
    exact proofs_list cd m hc hm (by omega) (by omega) big
  | true =>
    have bl := b10Long_call cd m
    rw [big] at bl
    refine CallP.out (t := .mk) (go_in (md := md3) mixed Tryz.func3 rfl go3 (by kernel_rfl) ?_)
    simp only [q0, q1, q2, q3, q4, q5, q6, q7, q8, q9, zr0, zr1, zr2, zr3, zq0, zq1, zq2, zq3, zq4, Nat.reduceAdd, Nat.reduceSub, lenA, convA, indexA, indexS, Int.reduceToNat, cond_true, cond_false, ↓reduceIte, reduceCtorEq, Nat.reduceLT, Nat.reduceLeDiff, Nat.reduceMul, Nat.reduceEqDiff, exists_eq', implies_true, exists_true_left, tys0, tys1, tys2, tys3, tys4, und0, und1, und2, und3, md3, Tryz.ntmps3, Tryz.results3]
    refine call_ret bl rfl rfl ?_
    simp only [q0, q1, q2, q3, q4, q5, q6, q7, q8, q9, zr0, zr1, zr2, zr3, zq0, zq1, zq2, zq3, zq4, Nat.reduceAdd, Nat.reduceSub, lenA, convA, indexA, indexS, Int.reduceToNat, cond_true, cond_false, ↓reduceIte, reduceCtorEq, Nat.reduceLT, Nat.reduceLeDiff, Nat.reduceMul, Nat.reduceEqDiff, exists_eq', implies_true, exists_true_left, tys0, tys1, tys2, tys3, tys4, und0, und1, und2, und3, md3, Tryz.ntmps3, Tryz.results3]
    exact PostR.pure ⟨rfl, rfl⟩ rfl
theorem u8_wf {x : Int} (h : (Lit.int .u8 x).wf = true) : 0 ≤ x ∧ x ≤ 255 := by
  simp [Lit.wf, IntKind.min, IntKind.max, IntKind.bits, IntKind.signed] at h
  omega
theorem ofT_bytes {a : AV} (h : OfT Tryz.prog 8 22 [a]) : ∃ xs : List Int, a = .ro (kint .u8 xs) ∧ byteL xs := by
  obtain ⟨xs, h1, h2, h3⟩ := ofT_kint Tryz.underlying22 Tryz.underlying5 h
  exact ⟨xs, h1, fun x hx => u8_wf (h3 x hx)⟩
theorem proofsLaw (l0 l1 : AV) (of0 : OfT Tryz.prog 8 22 [l0]) (of1 : OfT Tryz.prog 8 22 [l1]) : CallA Tryz.prog 3 [l0, l1] [] (Ret (.bool true) []) := by
  obtain ⟨c, rfl, hc⟩ := ofT_bytes of0
  obtain ⟨m, rfl, hm⟩ := ofT_bytes of1
  exact proofs_all c m hc hm
end Go.Proofs.YthcfklkpabfkbaaGreat
