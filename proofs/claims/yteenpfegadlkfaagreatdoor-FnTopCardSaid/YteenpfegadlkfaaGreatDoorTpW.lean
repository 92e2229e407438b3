/- The desk that is drawn, the new desk. -/
import Derived.Test.YteenpfegadlkfaaGreatDoorTpU
set_option maxRecDepth 10000
set_option maxHeartbeats 8000000
set_option linter.unusedSimpArgs false
set_option linter.unusedVariables false
namespace Go.Proofs.YteenpfegadlkfaaGreatDoor
open Go Go.Abs
theorem dok_of {bs rs ps ra : List Int} {q : List Nat} (S : Scl bs rs) (P : Pys ps) (R : Rts ra) (T : Tbl q) (o : ∀ x ∈ q, okW x) : Dok bs rs ps ra q := by
  refine ⟨S, P, R, T, o, ?_⟩
  unfold validD
  rw [S.ok, R.ok, T.ok]
  have a : amountsB ps 60 = true := by
    unfold amountsB
    have h1 := P.one
    have h6 := P.six
    rw [decide_eq_true (show 1 ≤ ps.length ∧ ps.length ≤ 60 by omega), P.all 0 1000000000000 (by decide) (by decide)]
    rfl
  rw [a]; rfl
theorem desk_call (code : List Int) (hc : byteL code) (hl : code.length ≤ 1048576) : CallA Tryz.prog 25 [.ptr 0 0 0] [srcB code 0 0] (fun r hp => ∃ (bs rs ps ra : List Int) (q : List Nat) (a : Nat) (sd : Int), Dok bs rs ps ra q ∧ bs.length ≤ 4 ∧ (∀ b ∈ bs, b ≤ 16000) ∧ r = .agg [.sl 1 0 bs.length, .sl 2 0 bs.length, .sl 3 0 ps.length, .sl 4 0 ra.length, .sl 5 0 q.length] ∧ hp = [srcB code a sd, intB bs, intB rs, intB ps, intB ra, fltB q]) := by
  refine CallP.out (t := .mk) (go_in (md := md25) mixed Tryz.func25 rfl go25 (by kernel_rfl) ?_)
  simp only [q0, q1, q2, q3, q4, q5, q6, q7, q8, q9, zr0, zr1, zr2, zr3, zq0, zq1, zq2, zq3, zq4, Nat.reduceAdd, Nat.reduceSub, lenA, convA, indexA, flatP, nilI, ifaA, indexS, Int.reduceToNat, cond_true, cond_false, ↓reduceIte, reduceCtorEq, Nat.reduceLT, Nat.reduceLeDiff, Nat.reduceMul, Nat.reduceEqDiff, exists_eq', implies_true, exists_true_left, tys0, tys1, tys2, tys3, und0, und1, und2, und3, md25, Tryz.ntmps25, Tryz.results25]
  refine call_handedQ [0] (l02DrawOk_call code hc hl 0 rfl 0) (by decide) ⟨⟨rfl, rfl⟩, trivial⟩ rfl rfl ?_
  rintro r hps' ⟨bs, rs, a1, sd1, ⟨S, b4, b16⟩, ha1, rfl, rfl⟩
  refine ⟨?_, ?_⟩
  · intro y hy
    simp at hy
    rcases hy with rfl | rfl | rfl
    · rfl
    · exact ints_below _ _
    · exact ints_below _ _
  simp only [q0, q1, q2, q3, q4, q5, q6, q7, q8, q9, zr0, zr1, zr2, zr3, zq0, zq1, zq2, zq3, zq4, Nat.reduceAdd, Nat.reduceSub, lenA, convA, indexA, flatP, nilI, ifaA, indexS, Int.reduceToNat, cond_true, cond_false, ↓reduceIte, reduceCtorEq, Nat.reduceLT, Nat.reduceLeDiff, Nat.reduceMul, Nat.reduceEqDiff, exists_eq', implies_true, exists_true_left, tys0, tys1, tys2, tys3, und0, und1, und2, und3, md25, Tryz.ntmps25, Tryz.results25, ren, renM, renL, putF, upName]
  refine call_handedQ [0] (drawPays_call code hc hl a1 (by omega) sd1) (by decide) ⟨⟨rfl, rfl⟩, trivial⟩ rfl rfl ?_
  rintro r hps' ⟨ps, a2, sd2, ⟨p1, p5, pb⟩, ha2, rfl, rfl⟩
  refine ⟨?_, ?_⟩
  · intro y hy
    simp at hy
    rcases hy with rfl | rfl
    · rfl
    · exact ints_below _ _
  simp only [q0, q1, q2, q3, q4, q5, q6, q7, q8, q9, zr0, zr1, zr2, zr3, zq0, zq1, zq2, zq3, zq4, Nat.reduceAdd, Nat.reduceSub, lenA, convA, indexA, flatP, nilI, ifaA, indexS, Int.reduceToNat, cond_true, cond_false, ↓reduceIte, reduceCtorEq, Nat.reduceLT, Nat.reduceLeDiff, Nat.reduceMul, Nat.reduceEqDiff, exists_eq', implies_true, exists_true_left, tys0, tys1, tys2, tys3, und0, und1, und2, und3, md25, Tryz.ntmps25, Tryz.results25, ren, renM, renL, putF, upName]
  refine call_handedQ [0] (drawRates_call code hc hl a2 (by omega) sd2) (by decide) ⟨⟨rfl, rfl⟩, trivial⟩ rfl rfl ?_
  rintro r hps' ⟨ra, a3, sd3, ⟨r1, r5, rb⟩, ha3, rfl, rfl⟩
  refine ⟨?_, ?_⟩
  · intro y hy
    simp at hy
    rcases hy with rfl | rfl
    · rfl
    · exact ints_below _ _
  simp only [q0, q1, q2, q3, q4, q5, q6, q7, q8, q9, zr0, zr1, zr2, zr3, zq0, zq1, zq2, zq3, zq4, Nat.reduceAdd, Nat.reduceSub, lenA, convA, indexA, flatP, nilI, ifaA, indexS, Int.reduceToNat, cond_true, cond_false, ↓reduceIte, reduceCtorEq, Nat.reduceLT, Nat.reduceLeDiff, Nat.reduceMul, Nat.reduceEqDiff, exists_eq', implies_true, exists_true_left, tys0, tys1, tys2, tys3, und0, und1, und2, und3, md25, Tryz.ntmps25, Tryz.results25, ren, renM, renL, putF, upName]
  refine call_handedQ [0] (drawTable_call code hc hl a3 (by omega) sd3) (by decide) ⟨⟨rfl, rfl⟩, trivial⟩ rfl rfl ?_
  rintro r hps' ⟨q, a4, sd4, T, okq, rfl, rfl⟩
  refine ⟨?_, ?_⟩
  · intro y hy
    simp at hy
    rcases hy with rfl | rfl
    · rfl
    · exact flts_below _ _
  simp only [q0, q1, q2, q3, q4, q5, q6, q7, q8, q9, zr0, zr1, zr2, zr3, zq0, zq1, zq2, zq3, zq4, Nat.reduceAdd, Nat.reduceSub, lenA, convA, indexA, flatP, nilI, ifaA, indexS, Int.reduceToNat, cond_true, cond_false, ↓reduceIte, reduceCtorEq, Nat.reduceLT, Nat.reduceLeDiff, Nat.reduceMul, Nat.reduceEqDiff, exists_eq', implies_true, exists_true_left, tys0, tys1, tys2, tys3, und0, und1, und2, und3, md25, Tryz.ntmps25, Tryz.results25, ren, renM, renL, putF, upName]
  have P : Pys ps := ⟨p1, by omega, pb⟩
  have R : Rts ra := ⟨r1, by omega, fun x hx => by have := rb x hx; omega⟩
  refine PostR.tell [0, 2, 3, 5, 6, 7] (hp2 := [srcB code a4 sd4, intB bs, intB rs, intB ps, intB ra, fltB q]) (by decide) (by decide) (by decide) ?_ rfl rfl ⟨bs, rs, ps, ra, q, a4, sd4, dok_of S P R T okq, b4, b16, rfl, rfl⟩
  exact ⟨⟨rfl, rfl⟩, ⟨congrArg some (renB_flat (r := intB _) (ints_below _ _)).symm, ints_below _ _⟩, ⟨congrArg some (renB_flat (r := intB _) (ints_below _ _)).symm, ints_below _ _⟩, ⟨congrArg some (renB_flat (r := intB _) (ints_below _ _)).symm, ints_below _ _⟩, ⟨congrArg some (renB_flat (r := intB _) (ints_below _ _)).symm, ints_below _ _⟩, ⟨congrArg some (renB_flat (r := fltB _) (flts_below _ _)).symm, flts_below _ _⟩, trivial⟩
theorem r8Desk0_call (code : List Int) (hc : byteL code) (hl : code.length ≤ 1048576) : CallA Tryz.prog 5 [.ro (kint .u8 code)] [] (fun r hp => ∃ (bs rs ps ra : List Int) (q : List Nat), Dok bs rs ps ra q ∧ bs.length ≤ 4 ∧ (∀ b ∈ bs, b ≤ 16000) ∧ r = .agg [.sl 0 0 bs.length, .sl 1 0 bs.length, .sl 2 0 ps.length, .sl 3 0 ra.length, .sl 4 0 q.length] ∧ hp = [intB bs, intB rs, intB ps, intB ra, fltB q]) := by
  refine CallP.out (t := .mk) (go_in (md := md5) mixed Tryz.func5 rfl go5 (by kernel_rfl) ?_)
  simp only [q0, q1, q2, q3, q4, q5, q6, q7, q8, q9, zr0, zr1, zr2, zr3, zq0, zq1, zq2, zq3, zq4, Nat.reduceAdd, Nat.reduceSub, lenA, convA, indexA, flatP, nilI, ifaA, indexS, Int.reduceToNat, cond_true, cond_false, ↓reduceIte, reduceCtorEq, Nat.reduceLT, Nat.reduceLeDiff, Nat.reduceMul, Nat.reduceEqDiff, exists_eq', implies_true, exists_true_left, tys0, tys1, tys2, tys3, und0, und1, und2, und3, md5, Tryz.ntmps5, Tryz.results5]
  refine call_new (l00From_call code) rfl (by intro q hq; simp at hq; subst hq; rfl) ?_
  simp only [q0, q1, q2, q3, q4, q5, q6, q7, q8, q9, zr0, zr1, zr2, zr3, zq0, zq1, zq2, zq3, zq4, Nat.reduceAdd, Nat.reduceSub, lenA, convA, indexA, flatP, nilI, ifaA, indexS, Int.reduceToNat, cond_true, cond_false, ↓reduceIte, reduceCtorEq, Nat.reduceLT, Nat.reduceLeDiff, Nat.reduceMul, Nat.reduceEqDiff, exists_eq', implies_true, exists_true_left, tys0, tys1, tys2, tys3, und0, und1, und2, und3, md5, Tryz.ntmps5, Tryz.results5, ren, renM, renL]
  refine call_handedQ [1] (desk_call code hc hl) (by decide) ⟨⟨rfl, rfl⟩, trivial⟩ rfl rfl ?_
  rintro r hps' ⟨bs, rs, ps, ra, q, a, sd, D, b4, b16, rfl, rfl⟩
  refine ⟨?_, ?_⟩
  · intro y hy
    simp at hy
    rcases hy with rfl | rfl | rfl | rfl | rfl | rfl
    · rfl
    · exact ints_below _ _
    · exact ints_below _ _
    · exact ints_below _ _
    · exact ints_below _ _
    · exact flts_below _ _
  simp only [q0, q1, q2, q3, q4, q5, q6, q7, q8, q9, zr0, zr1, zr2, zr3, zq0, zq1, zq2, zq3, zq4, Nat.reduceAdd, Nat.reduceSub, lenA, convA, indexA, flatP, nilI, ifaA, indexS, Int.reduceToNat, cond_true, cond_false, ↓reduceIte, reduceCtorEq, Nat.reduceLT, Nat.reduceLeDiff, Nat.reduceMul, Nat.reduceEqDiff, exists_eq', implies_true, exists_true_left, tys0, tys1, tys2, tys3, und0, und1, und2, und3, md5, Tryz.ntmps5, Tryz.results5, ren, renM, renL, putF, upName]
  refine PostR.tell [2, 3, 4, 5, 6] (hp2 := [intB bs, intB rs, intB ps, intB ra, fltB q]) (by decide) (by decide) (by decide) ?_ rfl rfl ⟨bs, rs, ps, ra, q, D, b4, b16, rfl, rfl⟩
  exact ⟨⟨congrArg some (renB_flat (r := intB _) (ints_below _ _)).symm, ints_below _ _⟩, ⟨congrArg some (renB_flat (r := intB _) (ints_below _ _)).symm, ints_below _ _⟩, ⟨congrArg some (renB_flat (r := intB _) (ints_below _ _)).symm, ints_below _ _⟩, ⟨congrArg some (renB_flat (r := intB _) (ints_below _ _)).symm, ints_below _ _⟩, ⟨congrArg some (renB_flat (r := fltB _) (flts_below _ _)).symm, flts_below _ _⟩, trivial⟩
theorem view_desk (bs rs ps ra : List Int) (q : List Nat) : view 3 [intB bs, intB rs, intB ps, intB ra, fltB q] (.agg [.sl 0 0 bs.length, .sl 1 0 rs.length, .sl 2 0 ps.length, .sl 3 0 ra.length, .sl 4 0 q.length]) = deskV bs rs ps ra q := by
  unfold deskV
  simp only [view_agg, List.map_cons, List.map_nil, view_in (hp := [intB bs, intB rs, intB ps, intB ra, fltB q]) (i := 0) rfl rfl, view_in (hp := [intB bs, intB rs, intB ps, intB ra, fltB q]) (i := 1) rfl rfl, view_in (hp := [intB bs, intB rs, intB ps, intB ra, fltB q]) (i := 2) rfl rfl, view_in (hp := [intB bs, intB rs, intB ps, intB ra, fltB q]) (i := 3) rfl rfl, view_fl (hp := [intB bs, intB rs, intB ps, intB ra, fltB q]) (i := 4) rfl rfl]
theorem r8Desk_call (code : List Int) (hc : byteL code) (hl : code.length ≤ 1048576) : CallA Tryz.prog 5 [.ro (kint .u8 code)] [] (fun r hp => ∃ (bs rs ps ra : List Int) (q : List Nat), Dok bs rs ps ra q ∧ bs.length ≤ 4 ∧ (∀ b ∈ bs, b ≤ 16000) ∧ r = deskV bs rs ps ra q ∧ hp = []) := by
  refine (CallA.freezeQ 3 (r8Desk0_call code hc hl)).mono ?_
  rintro r hp ⟨r0, new, ⟨bs, rs, ps, ra, q, D, b4, b16, rfl, rfl⟩, rfl, rfl⟩
  refine ⟨bs, rs, ps, ra, q, D, b4, b16, ?_, rfl⟩
  have e := view_desk bs rs ps ra q
  rw [D.b1.2.2] at e
  exact e
theorem newDesk_call : CallA Tryz.prog 12 [] [] (Ret (deskV [0, 1000] [1000, 2000] [100, 250, 400] [500, 0, -500] [1056964608, 1056964608, 1065353216]) []) := by
  refine CallA.frozen 3 (r := .agg [.sl 0 0 2, .sl 1 0 2, .sl 2 0 3, .sl 3 0 3, .sl 4 0 3]) (new := [intB [0, 1000], intB [1000, 2000], intB [100, 250, 400], intB [500, 0, -500], fltB [1056964608, 1056964608, 1065353216]]) ?_ ?_
  · refine CallP.out (t := .mk) (go_in (md := md12) mixed Tryz.func12 rfl go12 (by kernel_rfl) ?_)
    have k1 : canon .f32 1056964608 = 1056964608 := by decide +kernel
    have k2 : canon .f32 1065353216 = 1065353216 := by decide +kernel
    simp only [q0, q1, q2, q3, q4, q5, q6, q7, q8, q9, zr0, zr1, zr2, zr3, zq0, zq1, zq2, zq3, zq4, Nat.reduceAdd, Nat.reduceSub, lenA, convA, indexA, flatP, nilI, ifaA, indexS, Int.reduceToNat, cond_true, cond_false, ↓reduceIte, reduceCtorEq, Nat.reduceLT, Nat.reduceLeDiff, Nat.reduceMul, Nat.reduceEqDiff, exists_eq', implies_true, exists_true_left, tys0, tys1, tys2, tys3, und0, und1, und2, und3, md12, Tryz.ntmps12, Tryz.results12, k1, k2]
    refine PostR.tell [1, 2, 3, 4, 5] (hp2 := [intB [0, 1000], intB [1000, 2000], intB [100, 250, 400], intB [500, 0, -500], fltB [1056964608, 1056964608, 1065353216]]) (by decide) (by decide) (by decide) ?_ rfl rfl ⟨rfl, rfl⟩
    exact ⟨⟨rfl, rfl⟩, ⟨rfl, rfl⟩, ⟨rfl, rfl⟩, ⟨rfl, rfl⟩, ⟨rfl, rfl⟩, trivial⟩
  · exact view_desk [0, 1000] [1000, 2000] [100, 250, 400] [500, 0, -500] [1056964608, 1056964608, 1065353216]
theorem newDesk_ok : Dok [0, 1000] [1000, 2000] [100, 250, 400] [500, 0, -500] [1056964608, 1056964608, 1065353216] := by
  refine dok_of ⟨?_, rfl, rfl, by decide, by decide, by decide⟩ ⟨by decide, by decide, by decide⟩ ⟨by decide, by decide, by decide⟩ (tab_of (out := [1056964608, 1056964608]) (by decide) ?_) ?_
  · exact ⟨by decide, trivial⟩
  · intro x hx
    simp at hx
    rcases hx with rfl
    decide +kernel
  · intro x hx
    simp at hx
    rcases hx with rfl | rfl
    · exact ⟨by decide, fun h => by revert h; decide +kernel⟩
    · exact ⟨by decide, fun h => by revert h; decide +kernel⟩
end Go.Proofs.YteenpfegadlkfaaGreatDoor
