/- FnAmended. -/
import Derived.Test.YtmllengggncmkaaGreatAmH
set_option maxRecDepth 10000
set_option maxHeartbeats 16000000
set_option linter.unusedSimpArgs false
set_option linter.unusedVariables false
namespace Go.Proofs.YtmllengggncmkaaGreat
open Go Go.Abs

theorem amended_list (cd m : List Int) (hc : byteL cd) (hm : byteL m) (l1 : cd.length ≤ 1048576) (l2 : m.length ≤ 1048576) (big : (decide (1048576 < (cd.length : Int)) || decide (1048576 < (m.length : Int))) = false) : CallA Tryz.prog 3 [.ro (kint .u8 cd), .ro (kint .u8 m)] [] (Ret (.bool true) []) := by
  have bl := b10Long_call cd m
  rw [big] at bl
  refine CallP.out (t := .mk) (go_in (md := md3) mixed Tryz.func3 rfl go3 (by kernel_rfl) ?_)
  simp only [q0, q1, q2, q3, q4, q5, q6, q7, q8, q9, zr0, zr1, zr2, zr3, zq0, zq1, zq2, zq3, zq4, Nat.reduceAdd, Nat.reduceSub, lenA, convA, indexA, indexS, Int.reduceToNat, cond_true, cond_false, ↓reduceIte, reduceCtorEq, Nat.reduceLT, Nat.reduceLeDiff, Nat.reduceMul, Nat.reduceEqDiff, exists_eq', implies_true, exists_true_left, tys0, tys1, tys2, tys3, tys4, und0, und1, und2, und3, md3, Tryz.ntmps3, Tryz.results3]
  refine call_ret bl rfl rfl ?_
  simp only [q0, q1, q2, q3, q4, q5, q6, q7, q8, q9, zr0, zr1, zr2, zr3, zq0, zq1, zq2, zq3, zq4, Nat.reduceAdd, Nat.reduceSub, lenA, convA, indexA, indexS, Int.reduceToNat, cond_true, cond_false, ↓reduceIte, reduceCtorEq, Nat.reduceLT, Nat.reduceLeDiff, Nat.reduceMul, Nat.reduceEqDiff, exists_eq', implies_true, exists_true_left, tys0, tys1, tys2, tys3, tys4, und0, und1, und2, und3, md3, Tryz.ntmps3, Tryz.results3]
  refine call_by (b10Rules_call cd hc l1) ?_
  rintro r hp ⟨L, hL, h8, rfl, rfl⟩
  have rb : rulesB L = true := by
    unfold rulesB
    rw [decide_eq_true (by omega), Bool.and_true, List.all_eq_true]
    exact hL
  have hR := rls_rb rb
  obtain ⟨C, hC⟩ : ∃ C, Chs L C := ⟨_, chs_dsR L⟩
  have cl := chs_len hC
  simp only [q0, q1, q2, q3, q4, q5, q6, q7, q8, q9, zr0, zr1, zr2, zr3, zq0, zq1, zq2, zq3, zq4, Nat.reduceAdd, Nat.reduceSub, lenA, convA, indexA, indexS, Int.reduceToNat, cond_true, cond_false, ↓reduceIte, reduceCtorEq, Nat.reduceLT, Nat.reduceLeDiff, Nat.reduceMul, Nat.reduceEqDiff, exists_eq', implies_true, exists_true_left, tys0, tys1, tys2, tys3, tys4, und0, und1, und2, und3, md3, Tryz.ntmps3, Tryz.results3]
  refine call_ret (implDays_call L hR rb hC) rfl rfl ?_
  simp only [q0, q1, q2, q3, q4, q5, q6, q7, q8, q9, zr0, zr1, zr2, zr3, zq0, zq1, zq2, zq3, zq4, Nat.reduceAdd, Nat.reduceSub, lenA, convA, indexA, indexS, Int.reduceToNat, cond_true, cond_false, ↓reduceIte, reduceCtorEq, Nat.reduceLT, Nat.reduceLeDiff, Nat.reduceMul, Nat.reduceEqDiff, exists_eq', implies_true, exists_true_left, tys0, tys1, tys2, tys3, tys4, und0, und1, und2, und3, md3, Tryz.ntmps3, Tryz.results3]
  refine call_ret (refDays_call L hR rb hC) rfl rfl ?_
  simp only [q0, q1, q2, q3, q4, q5, q6, q7, q8, q9, zr0, zr1, zr2, zr3, zq0, zq1, zq2, zq3, zq4, Nat.reduceAdd, Nat.reduceSub, lenA, convA, indexA, indexS, Int.reduceToNat, cond_true, cond_false, ↓reduceIte, reduceCtorEq, Nat.reduceLT, Nat.reduceLeDiff, Nat.reduceMul, Nat.reduceEqDiff, exists_eq', implies_true, exists_true_left, tys0, tys1, tys2, tys3, tys4, und0, und1, und2, und3, md3, Tryz.ntmps3, Tryz.results3]
  refine call_ret (b10Ints_call C (by omega)) rfl rfl ?_
  simp only [q0, q1, q2, q3, q4, q5, q6, q7, q8, q9, zr0, zr1, zr2, zr3, zq0, zq1, zq2, zq3, zq4, Nat.reduceAdd, Nat.reduceSub, lenA, convA, indexA, indexS, Int.reduceToNat, cond_true, cond_false, ↓reduceIte, reduceCtorEq, Nat.reduceLT, Nat.reduceLeDiff, Nat.reduceMul, Nat.reduceEqDiff, exists_eq', implies_true, exists_true_left, tys0, tys1, tys2, tys3, tys4, und0, und1, und2, und3, md3, Tryz.ntmps3, Tryz.results3]
  refine call_by (b10Facts_call m hm l2) ?_
  rintro r hp ⟨fs, WF, rfl, rfl⟩
  obtain ⟨x0, xc, x1, x2⟩ := b10At_call m hm l2 1 6 (by omega) (by omega) (by omega) (by omega)
  obtain ⟨y0, yc, y1, y2⟩ := b10At_call m hm l2 3 16 (by omega) (by omega) (by omega) (by omega)
  simp only [q0, q1, q2, q3, q4, q5, q6, q7, q8, q9, zr0, zr1, zr2, zr3, zq0, zq1, zq2, zq3, zq4, Nat.reduceAdd, Nat.reduceSub, lenA, convA, indexA, indexS, Int.reduceToNat, cond_true, cond_false, ↓reduceIte, reduceCtorEq, Nat.reduceLT, Nat.reduceLeDiff, Nat.reduceMul, Nat.reduceEqDiff, exists_eq', implies_true, exists_true_left, tys0, tys1, tys2, tys3, tys4, und0, und1, und2, und3, md3, Tryz.ntmps3, Tryz.results3]
  refine call_ret xc rfl rfl ?_
  have A0 := ask_of hL h8 WF (day := 0) (by omega) (by omega)
  have A10 := ask_of hL h8 WF (day := 10) (by omega) (by omega)
  have fl := WF.len
  have wx : IntKind.i64.wrap (1 + x0) = 1 + x0 := w64 (by omega) (by omega)
  have hx : wordB (1 + x0) = true := by
    unfold wordB inR
    rw [decide_eq_true (by omega), decide_eq_true (by omega)]
    simp; omega
  obtain ⟨p, hp⟩ := days_told L fs (1 + x0) hx
  have d1 := implDaysProved_call A0 (b := 20) (by decide) (by omega) (1 + x0) hx hC hp
  have d2 := implDaysProved_call A0 (b := 9) (by decide) (by omega) (1 + x0) hx hC hp
  have d3 := implDaysProved_call A10 (b := 20) (by decide) (by omega) (1 + x0) hx hC hp
  rw [show ((20 : Int) + 1 - 0).toNat = 21 from rfl] at d1
  rw [show ((9 : Int) + 1 - 0).toNat = 10 from rfl] at d2
  rw [show ((20 : Int) + 1 - 10).toNat = 11 from rfl] at d3
  have ca : cntP p 0 10 + cntP p 10 11 = cntP p 0 21 := (cntP_add p 0 10 11).symm
  have cb := fun n => cntP_le p 0 n
  have c21 := cb 21
  have wca : IntKind.i64.wrap (cntP p 0 10 + cntP p 10 11) = cntP p 0 21 := by rw [ca]; exact w64 (by omega) (by omega)
  simp only [q0, q1, q2, q3, q4, q5, q6, q7, q8, q9, zr0, zr1, zr2, zr3, zq0, zq1, zq2, zq3, zq4, Nat.reduceAdd, Nat.reduceSub, lenA, convA, indexA, indexS, Int.reduceToNat, cond_true, cond_false, ↓reduceIte, reduceCtorEq, Nat.reduceLT, Nat.reduceLeDiff, Nat.reduceMul, Nat.reduceEqDiff, exists_eq', implies_true, exists_true_left, tys0, tys1, tys2, tys3, tys4, und0, und1, und2, und3, md3, Tryz.ntmps3, Tryz.results3, wx]
  refine call_ret d1 rfl rfl ?_
  simp only [q0, q1, q2, q3, q4, q5, q6, q7, q8, q9, zr0, zr1, zr2, zr3, zq0, zq1, zq2, zq3, zq4, Nat.reduceAdd, Nat.reduceSub, lenA, convA, indexA, indexS, Int.reduceToNat, cond_true, cond_false, ↓reduceIte, reduceCtorEq, Nat.reduceLT, Nat.reduceLeDiff, Nat.reduceMul, Nat.reduceEqDiff, exists_eq', implies_true, exists_true_left, tys0, tys1, tys2, tys3, tys4, und0, und1, und2, und3, md3, Tryz.ntmps3, Tryz.results3, wx]
  refine call_ret d2 rfl rfl ?_
  simp only [q0, q1, q2, q3, q4, q5, q6, q7, q8, q9, zr0, zr1, zr2, zr3, zq0, zq1, zq2, zq3, zq4, Nat.reduceAdd, Nat.reduceSub, lenA, convA, indexA, indexS, Int.reduceToNat, cond_true, cond_false, ↓reduceIte, reduceCtorEq, Nat.reduceLT, Nat.reduceLeDiff, Nat.reduceMul, Nat.reduceEqDiff, exists_eq', implies_true, exists_true_left, tys0, tys1, tys2, tys3, tys4, und0, und1, und2, und3, md3, Tryz.ntmps3, Tryz.results3, wx]
  refine call_ret d3 rfl rfl ?_
  simp only [q0, q1, q2, q3, q4, q5, q6, q7, q8, q9, zr0, zr1, zr2, zr3, zq0, zq1, zq2, zq3, zq4, Nat.reduceAdd, Nat.reduceSub, lenA, convA, indexA, indexS, Int.reduceToNat, cond_true, cond_false, ↓reduceIte, reduceCtorEq, Nat.reduceLT, Nat.reduceLeDiff, Nat.reduceMul, Nat.reduceEqDiff, exists_eq', implies_true, exists_true_left, tys0, tys1, tys2, tys3, tys4, und0, und1, und2, und3, md3, Tryz.ntmps3, Tryz.results3, wca, bne_self_eq_false]
  refine call_ret (refActive_call L hR rb 0 (by decide)) rfl rfl ?_
  simp only [q0, q1, q2, q3, q4, q5, q6, q7, q8, q9, zr0, zr1, zr2, zr3, zq0, zq1, zq2, zq3, zq4, Nat.reduceAdd, Nat.reduceSub, lenA, convA, indexA, indexS, Int.reduceToNat, cond_true, cond_false, ↓reduceIte, reduceCtorEq, Nat.reduceLT, Nat.reduceLeDiff, Nat.reduceMul, Nat.reduceEqDiff, exists_eq', implies_true, exists_true_left, tys0, tys1, tys2, tys3, tys4, und0, und1, und2, und3, md3, Tryz.ntmps3, Tryz.results3]
  refine go_round (md := md3) mixed (by kernel_rfl) (fun d : {d : Nat // d ≤ 21} => ⟨[.any, .ro (kint .u8 m), .any, .any, .any, .ro (L.map rulA), .ro (ints C), .any, .any, .any, .ro (ints fs), .int .i64 (1 + x0), .int .i64 (cntP p 0 21), .any, .any, .any, .any, .any, .int .i64 (cntP p 0 d.1), .ro (ints (idxD L ((d.1 - 1 : Nat) : Int) L.length)), .bool true, .int .i64 d.1, .any, .any, .any, .any, .any, .any, .any, .any, .any, .any, .any, .any, .any, .any, .any, .any, .any, .any, .any, .any, .any, .any, .any, .any, .any, .any, .any, .any, .any, .any, .any, .any, .any, .any, .any, .any, .any, .any, .any, .any, .any, .any, .any, .any, .any, .any, .any, .any, .any, .any, .any, .any, .any, .any, .any, .any, .any, .any, .any, .any, .any, .any, .any, .any, .any, .any, .any, .any, .any, .any, .any, .any, .any, .any, .any, .any, .any, .any, .any, .any, .any, .any, .any, .any, .any, .any, .any, .any, .any, .any, .any, .any, .any, .any, .any, .any, .any, .any, .any, .any, .any, .any, .any, .any, .any, .any, .any, .any, .any, .any, .any, .any, .any, .any, .any, .any, .any, .any, .any, .any, .any, .any, .any, .any, .any, .any, .any, .any, .any, .any, .any, .any, .any, .any, .any, .any, .any, .any, .any, .any, .any, .any, .any, .any, .any, .any, .any, .any, .any, .any, .any, .any, .any, .any, .any, .any, .any, .any, .any, .any, .any, .any, .any, .any, .any, .any, .any, .any, .any, .any, .any, .any, .any, .any, .any, .any, .any, .any, .any, .any, .any, .any, .any, .any, .any, .any, .any, .any, .any, .any, .any, .any, .any, .any, .any, .any, .any, .any, .any, .any, .any, .any, .any, .any, .any, .any, .any, .any, .any, .any, .any, .any, .any, .any, .any, .any, .any, .any, .any, .any, .any, .any, .any, .any, .any, .any, .any, .any, .any, .any, .any, .any, .any, .any, .any, .any, .any, .any, .any, .any, .any, .any, .any, .any, .any, .any, .any, .any, .any, .any, .any, .any, .any, .any, .any, .any, .any, .any, .any, .any, .any, .any, .any, .any, .any, .any, .any, .any, .any, .any, .any, .any, .any, .any, .any, .any, .any, .any, .any, .any, .any, .any, .any, .any, .any, .any, .any, .any, .any, .any, .any, .any, .any, .any, .any, .any, .any, .any, .any, .any, .any, .any, .any, .any, .any, .any, .any, .any, .any, .any, .any, .any, .any, .any, .any, .any, .any], []⟩) (fun d => 21 - d.1) ⟨0, Nat.zero_le _⟩ ?_ ?_
  · exact weak_drop (by simp) (by simp [DropHp, ints_below, flts_below, show cntP p 0 0 = 0 from rfl]) (by simp [DropTm, DropV, below, belowM, belowL, show cntP p 0 0 = 0 from rfl])
  rintro ⟨d, hd⟩
  simp only [q0, q1, q2, q3, q4, q5, q6, q7, q8, q9, zr0, zr1, zr2, zr3, zq0, zq1, zq2, zq3, zq4, Nat.reduceAdd, Nat.reduceSub, lenA, convA, indexA, indexS, Int.reduceToNat, cond_true, cond_false, ↓reduceIte, reduceCtorEq, Nat.reduceLT, Nat.reduceLeDiff, Nat.reduceMul, Nat.reduceEqDiff, exists_eq', implies_true, exists_true_left, tys0, tys1, tys2, tys3, tys4, und0, und1, und2, und3, md3, Tryz.ntmps3, Tryz.results3]
  refine br_intro (fun h => ?_) (fun h => ?_) <;> simp only [q0, q1, q2, q3, q4, q5, q6, q7, q8, q9, zr0, zr1, zr2, zr3, zq0, zq1, zq2, zq3, zq4, Nat.reduceAdd, Nat.reduceSub, lenA, convA, indexA, indexS, Int.reduceToNat, cond_true, cond_false, ↓reduceIte, reduceCtorEq, Nat.reduceLT, Nat.reduceLeDiff, Nat.reduceMul, Nat.reduceEqDiff, exists_eq', implies_true, exists_true_left, tys0, tys1, tys2, tys3, tys4, und0, und1, und2, und3, md3, Tryz.ntmps3, Tryz.results3]
  · have hd' : d < 21 := by have := of_decide_eq_true h; omega
    have hdd : inR 0 100000 (d : Int) = true := by unfold inR; rw [decide_eq_true (by omega), decide_eq_true (by omega)]; rfl
    refine call_by (answersOf_call L hR rb fs A0.hf A0.wb d hdd) ?_
    rintro r hp' ⟨W, I0, Ls, rfl, rfl⟩
    have pd := hp _ _ _ Ls
    have ll : (lstW (yW W) 16).length ≤ 1048576 := by have := lstW_len (yW W) 16; omega
    have hasY : CallA Tryz.prog 14 [.ro (ints (lstW (yW W) 16)), .int .i64 (1 + x0)] [] (Ret (.bool (p d)) []) := by
      have h1 := b10Has_call (lstW (yW W) 16) (1 + x0) ll
      rwa [show decide (1 + x0 ∈ lstW (yW W) 16) = p d from by rw [← pd, Bool.eq_iff_iff, decide_eq_true_eq]; exact lstW_mem (yW W) _ hx] at h1
    generalize lstW (yW W) 16 = ys at *
    have il : (idxD L d L.length).length ≤ 8 := by
      have il := idxD_len L d L.length (Nat.le_refl _)
      have i2 : ((L.take L.length).filter (onB d)).length ≤ L.length := Nat.le_trans (List.length_filter_le _ _) (by simp)
      omega
    simp only [q0, q1, q2, q3, q4, q5, q6, q7, q8, q9, zr0, zr1, zr2, zr3, zq0, zq1, zq2, zq3, zq4, Nat.reduceAdd, Nat.reduceSub, lenA, convA, indexA, indexS, Int.reduceToNat, cond_true, cond_false, ↓reduceIte, reduceCtorEq, Nat.reduceLT, Nat.reduceLeDiff, Nat.reduceMul, Nat.reduceEqDiff, exists_eq', implies_true, exists_true_left, tys0, tys1, tys2, tys3, tys4, und0, und1, und2, und3, md3, Tryz.ntmps3, Tryz.results3]
    refine call_ret (refActive_call L hR rb d hdd) rfl rfl ?_
    simp only [q0, q1, q2, q3, q4, q5, q6, q7, q8, q9, zr0, zr1, zr2, zr3, zq0, zq1, zq2, zq3, zq4, Nat.reduceAdd, Nat.reduceSub, lenA, convA, indexA, indexS, Int.reduceToNat, cond_true, cond_false, ↓reduceIte, reduceCtorEq, Nat.reduceLT, Nat.reduceLeDiff, Nat.reduceMul, Nat.reduceEqDiff, exists_eq', implies_true, exists_true_left, tys0, tys1, tys2, tys3, tys4, und0, und1, und2, und3, md3, Tryz.ntmps3, Tryz.results3]
    --DAYS
    have hIm : ∀ i ∈ idxD L d L.length, 0 ≤ i ∧ i < (L.length : Int) := fun i hi => by
      obtain ⟨n, hn, rfl⟩ := List.mem_map.1 hi
      have := List.mem_range.1 (List.mem_filter.1 hn).1
      omega
    have al : (atR L d (idxD L d L.length)).length = (idxD L d L.length).length := List.length_map _
    have cd1 := cb d
    have wcn : IntKind.i64.wrap (cntP p 0 d + 1) = cntP p 0 d + 1 := w64 (by omega) (by omega)
    refine br_intro (fun h0 => ?_) (fun h0 => ?_) <;> simp only [q0, q1, q2, q3, q4, q5, q6, q7, q8, q9, zr0, zr1, zr2, zr3, zq0, zq1, zq2, zq3, zq4, Nat.reduceAdd, Nat.reduceSub, lenA, convA, indexA, indexS, Int.reduceToNat, cond_true, cond_false, ↓reduceIte, reduceCtorEq, Nat.reduceLT, Nat.reduceLeDiff, Nat.reduceMul, Nat.reduceEqDiff, exists_eq', implies_true, exists_true_left, tys0, tys1, tys2, tys3, tys4, und0, und1, und2, und3, md3, Tryz.ntmps3, Tryz.results3]
    · have h0' : 0 < d := by have := of_decide_eq_true h0; omega
      have il2 : (idxD L ((d - 1 : Nat) : Int) L.length).length ≤ 8 := by
        have il := idxD_len L ((d - 1 : Nat) : Int) L.length (Nat.le_refl _)
        have i2 : ((L.take L.length).filter (onB ((d - 1 : Nat) : Int))).length ≤ L.length := Nat.le_trans (List.length_filter_le _ _) (by simp)
        omega
      have b1 := b10IntsG_call (idxD L d L.length) (idxD L ((d - 1 : Nat) : Int) L.length) (by omega) (by omega)
      rw [show ((d - 1 : Nat) : Int) = (d : Int) - 1 by omega, idx_changes rb hC (by omega) (by omega), ← show ((d - 1 : Nat) : Int) = (d : Int) - 1 by omega] at b1
      have nb : ∀ b : Bool, ((!b) == b) = false := fun b => by cases b <;> rfl
      refine call_ret b1 rfl rfl ?_
      simp only [q0, q1, q2, q3, q4, q5, q6, q7, q8, q9, zr0, zr1, zr2, zr3, zq0, zq1, zq2, zq3, zq4, Nat.reduceAdd, Nat.reduceSub, lenA, convA, indexA, indexS, Int.reduceToNat, cond_true, cond_false, ↓reduceIte, reduceCtorEq, Nat.reduceLT, Nat.reduceLeDiff, Nat.reduceMul, Nat.reduceEqDiff, exists_eq', implies_true, exists_true_left, tys0, tys1, tys2, tys3, tys4, und0, und1, und2, und3, md3, Tryz.ntmps3, Tryz.results3]
      refine call_ret (b10Has_call C d (by omega)) rfl rfl ?_
      simp only [q0, q1, q2, q3, q4, q5, q6, q7, q8, q9, zr0, zr1, zr2, zr3, zq0, zq1, zq2, zq3, zq4, Nat.reduceAdd, Nat.reduceSub, lenA, convA, indexA, indexS, Int.reduceToNat, cond_true, cond_false, ↓reduceIte, reduceCtorEq, Nat.reduceLT, Nat.reduceLeDiff, Nat.reduceMul, Nat.reduceEqDiff, exists_eq', implies_true, exists_true_left, tys0, tys1, tys2, tys3, tys4, und0, und1, und2, und3, md3, Tryz.ntmps3, Tryz.results3, nb]
      refine call_ret hasY rfl rfl ?_
      cases hpd : p d with
      | true =>
        simp only [q0, q1, q2, q3, q4, q5, q6, q7, q8, q9, zr0, zr1, zr2, zr3, zq0, zq1, zq2, zq3, zq4, Nat.reduceAdd, Nat.reduceSub, lenA, convA, indexA, indexS, Int.reduceToNat, cond_true, cond_false, ↓reduceIte, reduceCtorEq, Nat.reduceLT, Nat.reduceLeDiff, Nat.reduceMul, Nat.reduceEqDiff, exists_eq', implies_true, exists_true_left, tys0, tys1, tys2, tys3, tys4, und0, und1, und2, und3, md3, Tryz.ntmps3, Tryz.results3]
        have ce : cntP p 0 (d + 1) = cntP p 0 d + 1 := by
          show cntP p 0 d + _ = _
          rw [show (0 : Int) + ((d : Nat) : Int) = d from Int.zero_add _, hpd]
          rfl
        refine call_ret (rulesAt_call L hR rb d hdd) rfl rfl ?_
        simp only [q0, q1, q2, q3, q4, q5, q6, q7, q8, q9, zr0, zr1, zr2, zr3, zq0, zq1, zq2, zq3, zq4, Nat.reduceAdd, Nat.reduceSub, lenA, convA, indexA, indexS, Int.reduceToNat, cond_true, cond_false, ↓reduceIte, reduceCtorEq, Nat.reduceLT, Nat.reduceLeDiff, Nat.reduceMul, Nat.reduceEqDiff, exists_eq', implies_true, exists_true_left, tys0, tys1, tys2, tys3, tys4, und0, und1, und2, und3, md3, Tryz.ntmps3, Tryz.results3, List.length_map, ints_len, al, bne_self_eq_false]
        refine go_round (md := md3) mixed (by kernel_rfl) (fun k : {k : Nat // k ≤ (idxD L d L.length).length} => ⟨[.any, .ro (kint .u8 m), .any, .any, .any, .ro (L.map rulA), .ro (ints C), .any, .any, .any, .ro (ints fs), .int .i64 (1 + x0), .int .i64 (cntP p 0 21), .any, .any, .any, .any, .any, .int .i64 (cntP p 0 (d + 1)), .ro (ints (idxD L d L.length)), .bool true, .int .i64 d, .any, .any, .any, .ro (ints (idxD L d L.length)), .any, .ro ((atR L d (idxD L d L.length)).map rulA), .any, .any, .any, .any, .any, .any, .any, .any, .any, .any, .any, .any, .any, .any, .any, .any, .any, .any, .any, .any, .any, .any, .any, .any, .any, .any, .any, .any, .any, .any, .any, .any, .any, .any, .any, .any, .any, .any, .any, .any, .any, .any, .any, .any, .any, .any, .any, .any, .any, .any, .any, .any, .any, .any, .any, .any, .any, .any, .any, .any, .any, .any, .any, .any, .any, .any, .any, .any, .any, .any, .any, .any, .any, .any, .any, .any, .any, .any, .any, .any, .any, .any, .any, .any, .any, .any, .any, .any, .any, .any, .any, .any, .any, .any, .any, .any, .any, .any, .any, .any, .any, .any, .any, .any, .any, .any, .any, .any, .any, .any, .any, .any, .any, .any, .any, .any, .any, .any, .any, .any, .any, .any, .any, .any, .any, .any, .any, .any, .any, .any, .any, .any, .any, .any, .any, .any, .any, .any, .any, .any, .any, .any, .any, .any, .any, .any, .any, .any, .any, .any, .any, .any, .any, .any, .int .i64 (idxD L d L.length).length, .int .i64 k.1, .any, .any, .any, .any, .any, .any, .any, .any, .any, .any, .any, .any, .any, .any, .any, .any, .any, .any, .any, .any, .any, .any, .any, .any, .any, .any, .any, .any, .any, .any, .any, .any, .any, .any, .any, .any, .any, .any, .any, .any, .any, .any, .any, .any, .any, .any, .any, .any, .any, .any, .any, .any, .any, .any, .any, .any, .any, .any, .any, .any, .any, .any, .any, .any, .any, .any, .any, .any, .any, .any, .any, .any, .any, .any, .any, .any, .any, .any, .any, .any, .any, .any, .any, .any, .any, .any, .any, .any, .any, .any, .any, .any, .any, .any, .any, .any, .any, .any, .any, .any, .any, .any, .any, .any, .any, .any, .any, .any, .any, .any, .any, .any, .any, .any, .any, .any, .any, .any, .any, .any, .any, .any, .any, .any, .any, .any, .any, .any, .any, .any, .any, .any, .any, .any, .any, .any, .any, .any, .any, .any, .any, .any, .any, .any, .any, .any, .any, .any, .any, .any, .any, .any, .any, .any, .any], []⟩) (fun k => (idxD L d L.length).length - k.1) ⟨0, Nat.zero_le _⟩ ?_ ?_
        · exact weak_drop (by simp) (by simp [DropHp, ints_below, flts_below, ce, wcn]) (by simp [DropTm, DropV, below, belowM, belowL, ce, wcn])
        rintro ⟨k, hk⟩
        simp only [q0, q1, q2, q3, q4, q5, q6, q7, q8, q9, zr0, zr1, zr2, zr3, zq0, zq1, zq2, zq3, zq4, Nat.reduceAdd, Nat.reduceSub, lenA, convA, indexA, indexS, Int.reduceToNat, cond_true, cond_false, ↓reduceIte, reduceCtorEq, Nat.reduceLT, Nat.reduceLeDiff, Nat.reduceMul, Nat.reduceEqDiff, exists_eq', implies_true, exists_true_left, tys0, tys1, tys2, tys3, tys4, und0, und1, und2, und3, md3, Tryz.ntmps3, Tryz.results3]
        refine br_intro (fun hk1 => ?_) (fun hk1 => ?_) <;> simp only [q0, q1, q2, q3, q4, q5, q6, q7, q8, q9, zr0, zr1, zr2, zr3, zq0, zq1, zq2, zq3, zq4, Nat.reduceAdd, Nat.reduceSub, lenA, convA, indexA, indexS, Int.reduceToNat, cond_true, cond_false, ↓reduceIte, reduceCtorEq, Nat.reduceLT, Nat.reduceLeDiff, Nat.reduceMul, Nat.reduceEqDiff, exists_eq', implies_true, exists_true_left, tys0, tys1, tys2, tys3, tys4, und0, und1, und2, und3, md3, Tryz.ntmps3, Tryz.results3]
        · have hk' : k < (idxD L d L.length).length := by have := of_decide_eq_true hk1; omega
          have hkt : k < (atR L d (idxD L d L.length)).length := by rw [al]; exact hk'
          have hi := hIm _ (List.getElem_mem hk')
          have tk : (atR L d (idxD L d L.length))[k] = ((rkR L (idxD L d L.length)[k].toNat).1, (rkR L (idxD L d L.length)[k].toNat).2.1, (d : Int), (d : Int), (rkR L (idxD L d L.length)[k].toNat).2.2.2.2) := by simp [atR]
          have hj : (idxD L d L.length)[k].toNat < L.length := by omega
          have hrk := rkR_at L _ hj
          have wk := w64_succ k (by omega)
          refine ⟨by rw [List.length_map]; exact hkt, ?_⟩
          simp only [q0, q1, q2, q3, q4, q5, q6, q7, q8, q9, zr0, zr1, zr2, zr3, zq0, zq1, zq2, zq3, zq4, Nat.reduceAdd, Nat.reduceSub, lenA, convA, indexA, indexS, Int.reduceToNat, cond_true, cond_false, ↓reduceIte, reduceCtorEq, Nat.reduceLT, Nat.reduceLeDiff, Nat.reduceMul, Nat.reduceEqDiff, exists_eq', implies_true, exists_true_left, tys0, tys1, tys2, tys3, tys4, und0, und1, und2, und3, md3, Tryz.ntmps3, Tryz.results3, List.getElem_map, rulA, tk, hrk, bne_self_eq_false]
          refine ⟨by rw [List.length_map]; exact hkt, by rw [List.length_map]; exact hkt, hk', hi.1, by rw [List.length_map]; exact hj, ⟨k + 1, by omega⟩, by show (idxD L d L.length).length - (k + 1) < _; omega, ?_⟩
          exact weak_drop (by simp) (by simp [DropHp, ints_below, flts_below, wk]) (by simp [DropTm, DropV, below, belowM, belowL, wk])
        · have hk' : k = (idxD L d L.length).length := by have := of_decide_eq_false hk1; omega
          have ws : IntKind.i64.wrap ((d : Int) + 1) = ((d + 1 : Nat) : Int) := w64_succ d (by omega)
          refine ⟨⟨d + 1, by omega⟩, by show 21 - (d + 1) < _; omega, ?_⟩
          exact weak_drop (by simp) (by simp [DropHp, ints_below, flts_below, ws, Nat.add_sub_cancel]) (by simp [DropTm, DropV, below, belowM, belowL, ws, Nat.add_sub_cancel])
      | false =>
        simp only [q0, q1, q2, q3, q4, q5, q6, q7, q8, q9, zr0, zr1, zr2, zr3, zq0, zq1, zq2, zq3, zq4, Nat.reduceAdd, Nat.reduceSub, lenA, convA, indexA, indexS, Int.reduceToNat, cond_true, cond_false, ↓reduceIte, reduceCtorEq, Nat.reduceLT, Nat.reduceLeDiff, Nat.reduceMul, Nat.reduceEqDiff, exists_eq', implies_true, exists_true_left, tys0, tys1, tys2, tys3, tys4, und0, und1, und2, und3, md3, Tryz.ntmps3, Tryz.results3]
        have ce : cntP p 0 (d + 1) = cntP p 0 d := by
          show cntP p 0 d + _ = _
          rw [show (0 : Int) + ((d : Nat) : Int) = d from Int.zero_add _, hpd]
          exact Int.add_zero _
        refine call_ret (rulesAt_call L hR rb d hdd) rfl rfl ?_
        simp only [q0, q1, q2, q3, q4, q5, q6, q7, q8, q9, zr0, zr1, zr2, zr3, zq0, zq1, zq2, zq3, zq4, Nat.reduceAdd, Nat.reduceSub, lenA, convA, indexA, indexS, Int.reduceToNat, cond_true, cond_false, ↓reduceIte, reduceCtorEq, Nat.reduceLT, Nat.reduceLeDiff, Nat.reduceMul, Nat.reduceEqDiff, exists_eq', implies_true, exists_true_left, tys0, tys1, tys2, tys3, tys4, und0, und1, und2, und3, md3, Tryz.ntmps3, Tryz.results3, List.length_map, ints_len, al, bne_self_eq_false]
        refine go_round (md := md3) mixed (by kernel_rfl) (fun k : {k : Nat // k ≤ (idxD L d L.length).length} => ⟨[.any, .ro (kint .u8 m), .any, .any, .any, .ro (L.map rulA), .ro (ints C), .any, .any, .any, .ro (ints fs), .int .i64 (1 + x0), .int .i64 (cntP p 0 21), .any, .any, .any, .any, .any, .int .i64 (cntP p 0 (d + 1)), .ro (ints (idxD L d L.length)), .bool true, .int .i64 d, .any, .any, .any, .ro (ints (idxD L d L.length)), .any, .ro ((atR L d (idxD L d L.length)).map rulA), .any, .any, .any, .any, .any, .any, .any, .any, .any, .any, .any, .any, .any, .any, .any, .any, .any, .any, .any, .any, .any, .any, .any, .any, .any, .any, .any, .any, .any, .any, .any, .any, .any, .any, .any, .any, .any, .any, .any, .any, .any, .any, .any, .any, .any, .any, .any, .any, .any, .any, .any, .any, .any, .any, .any, .any, .any, .any, .any, .any, .any, .any, .any, .any, .any, .any, .any, .any, .any, .any, .any, .any, .any, .any, .any, .any, .any, .any, .any, .any, .any, .any, .any, .any, .any, .any, .any, .any, .any, .any, .any, .any, .any, .any, .any, .any, .any, .any, .any, .any, .any, .any, .any, .any, .any, .any, .any, .any, .any, .any, .any, .any, .any, .any, .any, .any, .any, .any, .any, .any, .any, .any, .any, .any, .any, .any, .any, .any, .any, .any, .any, .any, .any, .any, .any, .any, .any, .any, .any, .any, .any, .any, .any, .any, .any, .any, .any, .any, .any, .any, .any, .any, .any, .any, .int .i64 (idxD L d L.length).length, .int .i64 k.1, .any, .any, .any, .any, .any, .any, .any, .any, .any, .any, .any, .any, .any, .any, .any, .any, .any, .any, .any, .any, .any, .any, .any, .any, .any, .any, .any, .any, .any, .any, .any, .any, .any, .any, .any, .any, .any, .any, .any, .any, .any, .any, .any, .any, .any, .any, .any, .any, .any, .any, .any, .any, .any, .any, .any, .any, .any, .any, .any, .any, .any, .any, .any, .any, .any, .any, .any, .any, .any, .any, .any, .any, .any, .any, .any, .any, .any, .any, .any, .any, .any, .any, .any, .any, .any, .any, .any, .any, .any, .any, .any, .any, .any, .any, .any, .any, .any, .any, .any, .any, .any, .any, .any, .any, .any, .any, .any, .any, .any, .any, .any, .any, .any, .any, .any, .any, .any, .any, .any, .any, .any, .any, .any, .any, .any, .any, .any, .any, .any, .any, .any, .any, .any, .any, .any, .any, .any, .any, .any, .any, .any, .any, .any, .any, .any, .any, .any, .any, .any, .any, .any, .any, .any, .any, .any], []⟩) (fun k => (idxD L d L.length).length - k.1) ⟨0, Nat.zero_le _⟩ ?_ ?_
        · exact weak_drop (by simp) (by simp [DropHp, ints_below, flts_below, ce, wcn]) (by simp [DropTm, DropV, below, belowM, belowL, ce, wcn])
        rintro ⟨k, hk⟩
        simp only [q0, q1, q2, q3, q4, q5, q6, q7, q8, q9, zr0, zr1, zr2, zr3, zq0, zq1, zq2, zq3, zq4, Nat.reduceAdd, Nat.reduceSub, lenA, convA, indexA, indexS, Int.reduceToNat, cond_true, cond_false, ↓reduceIte, reduceCtorEq, Nat.reduceLT, Nat.reduceLeDiff, Nat.reduceMul, Nat.reduceEqDiff, exists_eq', implies_true, exists_true_left, tys0, tys1, tys2, tys3, tys4, und0, und1, und2, und3, md3, Tryz.ntmps3, Tryz.results3]
        refine br_intro (fun hk1 => ?_) (fun hk1 => ?_) <;> simp only [q0, q1, q2, q3, q4, q5, q6, q7, q8, q9, zr0, zr1, zr2, zr3, zq0, zq1, zq2, zq3, zq4, Nat.reduceAdd, Nat.reduceSub, lenA, convA, indexA, indexS, Int.reduceToNat, cond_true, cond_false, ↓reduceIte, reduceCtorEq, Nat.reduceLT, Nat.reduceLeDiff, Nat.reduceMul, Nat.reduceEqDiff, exists_eq', implies_true, exists_true_left, tys0, tys1, tys2, tys3, tys4, und0, und1, und2, und3, md3, Tryz.ntmps3, Tryz.results3]
        · have hk' : k < (idxD L d L.length).length := by have := of_decide_eq_true hk1; omega
          have hkt : k < (atR L d (idxD L d L.length)).length := by rw [al]; exact hk'
          have hi := hIm _ (List.getElem_mem hk')
          have tk : (atR L d (idxD L d L.length))[k] = ((rkR L (idxD L d L.length)[k].toNat).1, (rkR L (idxD L d L.length)[k].toNat).2.1, (d : Int), (d : Int), (rkR L (idxD L d L.length)[k].toNat).2.2.2.2) := by simp [atR]
          have hj : (idxD L d L.length)[k].toNat < L.length := by omega
          have hrk := rkR_at L _ hj
          have wk := w64_succ k (by omega)
          refine ⟨by rw [List.length_map]; exact hkt, ?_⟩
          simp only [q0, q1, q2, q3, q4, q5, q6, q7, q8, q9, zr0, zr1, zr2, zr3, zq0, zq1, zq2, zq3, zq4, Nat.reduceAdd, Nat.reduceSub, lenA, convA, indexA, indexS, Int.reduceToNat, cond_true, cond_false, ↓reduceIte, reduceCtorEq, Nat.reduceLT, Nat.reduceLeDiff, Nat.reduceMul, Nat.reduceEqDiff, exists_eq', implies_true, exists_true_left, tys0, tys1, tys2, tys3, tys4, und0, und1, und2, und3, md3, Tryz.ntmps3, Tryz.results3, List.getElem_map, rulA, tk, hrk, bne_self_eq_false]
          refine ⟨by rw [List.length_map]; exact hkt, by rw [List.length_map]; exact hkt, hk', hi.1, by rw [List.length_map]; exact hj, ⟨k + 1, by omega⟩, by show (idxD L d L.length).length - (k + 1) < _; omega, ?_⟩
          exact weak_drop (by simp) (by simp [DropHp, ints_below, flts_below, wk]) (by simp [DropTm, DropV, below, belowM, belowL, wk])
        · have hk' : k = (idxD L d L.length).length := by have := of_decide_eq_false hk1; omega
          have ws : IntKind.i64.wrap ((d : Int) + 1) = ((d + 1 : Nat) : Int) := w64_succ d (by omega)
          refine ⟨⟨d + 1, by omega⟩, by show 21 - (d + 1) < _; omega, ?_⟩
          exact weak_drop (by simp) (by simp [DropHp, ints_below, flts_below, ws, Nat.add_sub_cancel]) (by simp [DropTm, DropV, below, belowM, belowL, ws, Nat.add_sub_cancel])
    · have h0' : d = 0 := by have := of_decide_eq_false h0; omega
      refine call_ret hasY rfl rfl ?_
      cases hpd : p d with
      | true =>
        simp only [q0, q1, q2, q3, q4, q5, q6, q7, q8, q9, zr0, zr1, zr2, zr3, zq0, zq1, zq2, zq3, zq4, Nat.reduceAdd, Nat.reduceSub, lenA, convA, indexA, indexS, Int.reduceToNat, cond_true, cond_false, ↓reduceIte, reduceCtorEq, Nat.reduceLT, Nat.reduceLeDiff, Nat.reduceMul, Nat.reduceEqDiff, exists_eq', implies_true, exists_true_left, tys0, tys1, tys2, tys3, tys4, und0, und1, und2, und3, md3, Tryz.ntmps3, Tryz.results3]
        have ce : cntP p 0 (d + 1) = cntP p 0 d + 1 := by
          show cntP p 0 d + _ = _
          rw [show (0 : Int) + ((d : Nat) : Int) = d from Int.zero_add _, hpd]
          rfl
        refine call_ret (rulesAt_call L hR rb d hdd) rfl rfl ?_
        simp only [q0, q1, q2, q3, q4, q5, q6, q7, q8, q9, zr0, zr1, zr2, zr3, zq0, zq1, zq2, zq3, zq4, Nat.reduceAdd, Nat.reduceSub, lenA, convA, indexA, indexS, Int.reduceToNat, cond_true, cond_false, ↓reduceIte, reduceCtorEq, Nat.reduceLT, Nat.reduceLeDiff, Nat.reduceMul, Nat.reduceEqDiff, exists_eq', implies_true, exists_true_left, tys0, tys1, tys2, tys3, tys4, und0, und1, und2, und3, md3, Tryz.ntmps3, Tryz.results3, List.length_map, ints_len, al, bne_self_eq_false]
        refine go_round (md := md3) mixed (by kernel_rfl) (fun k : {k : Nat // k ≤ (idxD L d L.length).length} => ⟨[.any, .ro (kint .u8 m), .any, .any, .any, .ro (L.map rulA), .ro (ints C), .any, .any, .any, .ro (ints fs), .int .i64 (1 + x0), .int .i64 (cntP p 0 21), .any, .any, .any, .any, .any, .int .i64 (cntP p 0 (d + 1)), .ro (ints (idxD L d L.length)), .bool true, .int .i64 d, .any, .any, .any, .ro (ints (idxD L d L.length)), .any, .ro ((atR L d (idxD L d L.length)).map rulA), .any, .any, .any, .any, .any, .any, .any, .any, .any, .any, .any, .any, .any, .any, .any, .any, .any, .any, .any, .any, .any, .any, .any, .any, .any, .any, .any, .any, .any, .any, .any, .any, .any, .any, .any, .any, .any, .any, .any, .any, .any, .any, .any, .any, .any, .any, .any, .any, .any, .any, .any, .any, .any, .any, .any, .any, .any, .any, .any, .any, .any, .any, .any, .any, .any, .any, .any, .any, .any, .any, .any, .any, .any, .any, .any, .any, .any, .any, .any, .any, .any, .any, .any, .any, .any, .any, .any, .any, .any, .any, .any, .any, .any, .any, .any, .any, .any, .any, .any, .any, .any, .any, .any, .any, .any, .any, .any, .any, .any, .any, .any, .any, .any, .any, .any, .any, .any, .any, .any, .any, .any, .any, .any, .any, .any, .any, .any, .any, .any, .any, .any, .any, .any, .any, .any, .any, .any, .any, .any, .any, .any, .any, .any, .any, .any, .any, .any, .any, .any, .any, .any, .any, .any, .any, .int .i64 (idxD L d L.length).length, .int .i64 k.1, .any, .any, .any, .any, .any, .any, .any, .any, .any, .any, .any, .any, .any, .any, .any, .any, .any, .any, .any, .any, .any, .any, .any, .any, .any, .any, .any, .any, .any, .any, .any, .any, .any, .any, .any, .any, .any, .any, .any, .any, .any, .any, .any, .any, .any, .any, .any, .any, .any, .any, .any, .any, .any, .any, .any, .any, .any, .any, .any, .any, .any, .any, .any, .any, .any, .any, .any, .any, .any, .any, .any, .any, .any, .any, .any, .any, .any, .any, .any, .any, .any, .any, .any, .any, .any, .any, .any, .any, .any, .any, .any, .any, .any, .any, .any, .any, .any, .any, .any, .any, .any, .any, .any, .any, .any, .any, .any, .any, .any, .any, .any, .any, .any, .any, .any, .any, .any, .any, .any, .any, .any, .any, .any, .any, .any, .any, .any, .any, .any, .any, .any, .any, .any, .any, .any, .any, .any, .any, .any, .any, .any, .any, .any, .any, .any, .any, .any, .any, .any, .any, .any, .any, .any, .any, .any], []⟩) (fun k => (idxD L d L.length).length - k.1) ⟨0, Nat.zero_le _⟩ ?_ ?_
        · exact weak_drop (by simp) (by simp [DropHp, ints_below, flts_below, ce, wcn]) (by simp [DropTm, DropV, below, belowM, belowL, ce, wcn])
        rintro ⟨k, hk⟩
        simp only [q0, q1, q2, q3, q4, q5, q6, q7, q8, q9, zr0, zr1, zr2, zr3, zq0, zq1, zq2, zq3, zq4, Nat.reduceAdd, Nat.reduceSub, lenA, convA, indexA, indexS, Int.reduceToNat, cond_true, cond_false, ↓reduceIte, reduceCtorEq, Nat.reduceLT, Nat.reduceLeDiff, Nat.reduceMul, Nat.reduceEqDiff, exists_eq', implies_true, exists_true_left, tys0, tys1, tys2, tys3, tys4, und0, und1, und2, und3, md3, Tryz.ntmps3, Tryz.results3]
        refine br_intro (fun hk1 => ?_) (fun hk1 => ?_) <;> simp only [q0, q1, q2, q3, q4, q5, q6, q7, q8, q9, zr0, zr1, zr2, zr3, zq0, zq1, zq2, zq3, zq4, Nat.reduceAdd, Nat.reduceSub, lenA, convA, indexA, indexS, Int.reduceToNat, cond_true, cond_false, ↓reduceIte, reduceCtorEq, Nat.reduceLT, Nat.reduceLeDiff, Nat.reduceMul, Nat.reduceEqDiff, exists_eq', implies_true, exists_true_left, tys0, tys1, tys2, tys3, tys4, und0, und1, und2, und3, md3, Tryz.ntmps3, Tryz.results3]
        · have hk' : k < (idxD L d L.length).length := by have := of_decide_eq_true hk1; omega
          have hkt : k < (atR L d (idxD L d L.length)).length := by rw [al]; exact hk'
          have hi := hIm _ (List.getElem_mem hk')
          have tk : (atR L d (idxD L d L.length))[k] = ((rkR L (idxD L d L.length)[k].toNat).1, (rkR L (idxD L d L.length)[k].toNat).2.1, (d : Int), (d : Int), (rkR L (idxD L d L.length)[k].toNat).2.2.2.2) := by simp [atR]
          have hj : (idxD L d L.length)[k].toNat < L.length := by omega
          have hrk := rkR_at L _ hj
          have wk := w64_succ k (by omega)
          refine ⟨by rw [List.length_map]; exact hkt, ?_⟩
          simp only [q0, q1, q2, q3, q4, q5, q6, q7, q8, q9, zr0, zr1, zr2, zr3, zq0, zq1, zq2, zq3, zq4, Nat.reduceAdd, Nat.reduceSub, lenA, convA, indexA, indexS, Int.reduceToNat, cond_true, cond_false, ↓reduceIte, reduceCtorEq, Nat.reduceLT, Nat.reduceLeDiff, Nat.reduceMul, Nat.reduceEqDiff, exists_eq', implies_true, exists_true_left, tys0, tys1, tys2, tys3, tys4, und0, und1, und2, und3, md3, Tryz.ntmps3, Tryz.results3, List.getElem_map, rulA, tk, hrk, bne_self_eq_false]
          refine ⟨by rw [List.length_map]; exact hkt, by rw [List.length_map]; exact hkt, hk', hi.1, by rw [List.length_map]; exact hj, ⟨k + 1, by omega⟩, by show (idxD L d L.length).length - (k + 1) < _; omega, ?_⟩
          exact weak_drop (by simp) (by simp [DropHp, ints_below, flts_below, wk]) (by simp [DropTm, DropV, below, belowM, belowL, wk])
        · have hk' : k = (idxD L d L.length).length := by have := of_decide_eq_false hk1; omega
          have ws : IntKind.i64.wrap ((d : Int) + 1) = ((d + 1 : Nat) : Int) := w64_succ d (by omega)
          refine ⟨⟨d + 1, by omega⟩, by show 21 - (d + 1) < _; omega, ?_⟩
          exact weak_drop (by simp) (by simp [DropHp, ints_below, flts_below, ws, Nat.add_sub_cancel]) (by simp [DropTm, DropV, below, belowM, belowL, ws, Nat.add_sub_cancel])
      | false =>
        simp only [q0, q1, q2, q3, q4, q5, q6, q7, q8, q9, zr0, zr1, zr2, zr3, zq0, zq1, zq2, zq3, zq4, Nat.reduceAdd, Nat.reduceSub, lenA, convA, indexA, indexS, Int.reduceToNat, cond_true, cond_false, ↓reduceIte, reduceCtorEq, Nat.reduceLT, Nat.reduceLeDiff, Nat.reduceMul, Nat.reduceEqDiff, exists_eq', implies_true, exists_true_left, tys0, tys1, tys2, tys3, tys4, und0, und1, und2, und3, md3, Tryz.ntmps3, Tryz.results3]
        have ce : cntP p 0 (d + 1) = cntP p 0 d := by
          show cntP p 0 d + _ = _
          rw [show (0 : Int) + ((d : Nat) : Int) = d from Int.zero_add _, hpd]
          exact Int.add_zero _
        refine call_ret (rulesAt_call L hR rb d hdd) rfl rfl ?_
        simp only [q0, q1, q2, q3, q4, q5, q6, q7, q8, q9, zr0, zr1, zr2, zr3, zq0, zq1, zq2, zq3, zq4, Nat.reduceAdd, Nat.reduceSub, lenA, convA, indexA, indexS, Int.reduceToNat, cond_true, cond_false, ↓reduceIte, reduceCtorEq, Nat.reduceLT, Nat.reduceLeDiff, Nat.reduceMul, Nat.reduceEqDiff, exists_eq', implies_true, exists_true_left, tys0, tys1, tys2, tys3, tys4, und0, und1, und2, und3, md3, Tryz.ntmps3, Tryz.results3, List.length_map, ints_len, al, bne_self_eq_false]
        refine go_round (md := md3) mixed (by kernel_rfl) (fun k : {k : Nat // k ≤ (idxD L d L.length).length} => ⟨[.any, .ro (kint .u8 m), .any, .any, .any, .ro (L.map rulA), .ro (ints C), .any, .any, .any, .ro (ints fs), .int .i64 (1 + x0), .int .i64 (cntP p 0 21), .any, .any, .any, .any, .any, .int .i64 (cntP p 0 (d + 1)), .ro (ints (idxD L d L.length)), .bool true, .int .i64 d, .any, .any, .any, .ro (ints (idxD L d L.length)), .any, .ro ((atR L d (idxD L d L.length)).map rulA), .any, .any, .any, .any, .any, .any, .any, .any, .any, .any, .any, .any, .any, .any, .any, .any, .any, .any, .any, .any, .any, .any, .any, .any, .any, .any, .any, .any, .any, .any, .any, .any, .any, .any, .any, .any, .any, .any, .any, .any, .any, .any, .any, .any, .any, .any, .any, .any, .any, .any, .any, .any, .any, .any, .any, .any, .any, .any, .any, .any, .any, .any, .any, .any, .any, .any, .any, .any, .any, .any, .any, .any, .any, .any, .any, .any, .any, .any, .any, .any, .any, .any, .any, .any, .any, .any, .any, .any, .any, .any, .any, .any, .any, .any, .any, .any, .any, .any, .any, .any, .any, .any, .any, .any, .any, .any, .any, .any, .any, .any, .any, .any, .any, .any, .any, .any, .any, .any, .any, .any, .any, .any, .any, .any, .any, .any, .any, .any, .any, .any, .any, .any, .any, .any, .any, .any, .any, .any, .any, .any, .any, .any, .any, .any, .any, .any, .any, .any, .any, .any, .any, .any, .any, .any, .int .i64 (idxD L d L.length).length, .int .i64 k.1, .any, .any, .any, .any, .any, .any, .any, .any, .any, .any, .any, .any, .any, .any, .any, .any, .any, .any, .any, .any, .any, .any, .any, .any, .any, .any, .any, .any, .any, .any, .any, .any, .any, .any, .any, .any, .any, .any, .any, .any, .any, .any, .any, .any, .any, .any, .any, .any, .any, .any, .any, .any, .any, .any, .any, .any, .any, .any, .any, .any, .any, .any, .any, .any, .any, .any, .any, .any, .any, .any, .any, .any, .any, .any, .any, .any, .any, .any, .any, .any, .any, .any, .any, .any, .any, .any, .any, .any, .any, .any, .any, .any, .any, .any, .any, .any, .any, .any, .any, .any, .any, .any, .any, .any, .any, .any, .any, .any, .any, .any, .any, .any, .any, .any, .any, .any, .any, .any, .any, .any, .any, .any, .any, .any, .any, .any, .any, .any, .any, .any, .any, .any, .any, .any, .any, .any, .any, .any, .any, .any, .any, .any, .any, .any, .any, .any, .any, .any, .any, .any, .any, .any, .any, .any, .any], []⟩) (fun k => (idxD L d L.length).length - k.1) ⟨0, Nat.zero_le _⟩ ?_ ?_
        · exact weak_drop (by simp) (by simp [DropHp, ints_below, flts_below, ce, wcn]) (by simp [DropTm, DropV, below, belowM, belowL, ce, wcn])
        rintro ⟨k, hk⟩
        simp only [q0, q1, q2, q3, q4, q5, q6, q7, q8, q9, zr0, zr1, zr2, zr3, zq0, zq1, zq2, zq3, zq4, Nat.reduceAdd, Nat.reduceSub, lenA, convA, indexA, indexS, Int.reduceToNat, cond_true, cond_false, ↓reduceIte, reduceCtorEq, Nat.reduceLT, Nat.reduceLeDiff, Nat.reduceMul, Nat.reduceEqDiff, exists_eq', implies_true, exists_true_left, tys0, tys1, tys2, tys3, tys4, und0, und1, und2, und3, md3, Tryz.ntmps3, Tryz.results3]
        refine br_intro (fun hk1 => ?_) (fun hk1 => ?_) <;> simp only [q0, q1, q2, q3, q4, q5, q6, q7, q8, q9, zr0, zr1, zr2, zr3, zq0, zq1, zq2, zq3, zq4, Nat.reduceAdd, Nat.reduceSub, lenA, convA, indexA, indexS, Int.reduceToNat, cond_true, cond_false, ↓reduceIte, reduceCtorEq, Nat.reduceLT, Nat.reduceLeDiff, Nat.reduceMul, Nat.reduceEqDiff, exists_eq', implies_true, exists_true_left, tys0, tys1, tys2, tys3, tys4, und0, und1, und2, und3, md3, Tryz.ntmps3, Tryz.results3]
        · have hk' : k < (idxD L d L.length).length := by have := of_decide_eq_true hk1; omega
          have hkt : k < (atR L d (idxD L d L.length)).length := by rw [al]; exact hk'
          have hi := hIm _ (List.getElem_mem hk')
          have tk : (atR L d (idxD L d L.length))[k] = ((rkR L (idxD L d L.length)[k].toNat).1, (rkR L (idxD L d L.length)[k].toNat).2.1, (d : Int), (d : Int), (rkR L (idxD L d L.length)[k].toNat).2.2.2.2) := by simp [atR]
          have hj : (idxD L d L.length)[k].toNat < L.length := by omega
          have hrk := rkR_at L _ hj
          have wk := w64_succ k (by omega)
          refine ⟨by rw [List.length_map]; exact hkt, ?_⟩
          simp only [q0, q1, q2, q3, q4, q5, q6, q7, q8, q9, zr0, zr1, zr2, zr3, zq0, zq1, zq2, zq3, zq4, Nat.reduceAdd, Nat.reduceSub, lenA, convA, indexA, indexS, Int.reduceToNat, cond_true, cond_false, ↓reduceIte, reduceCtorEq, Nat.reduceLT, Nat.reduceLeDiff, Nat.reduceMul, Nat.reduceEqDiff, exists_eq', implies_true, exists_true_left, tys0, tys1, tys2, tys3, tys4, und0, und1, und2, und3, md3, Tryz.ntmps3, Tryz.results3, List.getElem_map, rulA, tk, hrk, bne_self_eq_false]
          refine ⟨by rw [List.length_map]; exact hkt, by rw [List.length_map]; exact hkt, hk', hi.1, by rw [List.length_map]; exact hj, ⟨k + 1, by omega⟩, by show (idxD L d L.length).length - (k + 1) < _; omega, ?_⟩
          exact weak_drop (by simp) (by simp [DropHp, ints_below, flts_below, wk]) (by simp [DropTm, DropV, below, belowM, belowL, wk])
        · have hk' : k = (idxD L d L.length).length := by have := of_decide_eq_false hk1; omega
          have ws : IntKind.i64.wrap ((d : Int) + 1) = ((d + 1 : Nat) : Int) := w64_succ d (by omega)
          refine ⟨⟨d + 1, by omega⟩, by show 21 - (d + 1) < _; omega, ?_⟩
          exact weak_drop (by simp) (by simp [DropHp, ints_below, flts_below, ws, Nat.add_sub_cancel]) (by simp [DropTm, DropV, below, belowM, belowL, ws, Nat.add_sub_cancel])
    --DAYSEND
  · have hd21 : d = 21 := by have := of_decide_eq_false h; omega
    subst hd21
    simp only [q0, q1, q2, q3, q4, q5, q6, q7, q8, q9, zr0, zr1, zr2, zr3, zq0, zq1, zq2, zq3, zq4, Nat.reduceAdd, Nat.reduceSub, lenA, convA, indexA, indexS, Int.reduceToNat, cond_true, cond_false, ↓reduceIte, reduceCtorEq, Nat.reduceLT, Nat.reduceLeDiff, Nat.reduceMul, Nat.reduceEqDiff, exists_eq', implies_true, exists_true_left, tys0, tys1, tys2, tys3, tys4, und0, und1, und2, und3, md3, Tryz.ntmps3, Tryz.results3, bne_self_eq_false, List.length_map]
    refine br_intro (fun hz => ?_) (fun hz => ?_) <;> simp only [q0, q1, q2, q3, q4, q5, q6, q7, q8, q9, zr0, zr1, zr2, zr3, zq0, zq1, zq2, zq3, zq4, Nat.reduceAdd, Nat.reduceSub, lenA, convA, indexA, indexS, Int.reduceToNat, cond_true, cond_false, ↓reduceIte, reduceCtorEq, Nat.reduceLT, Nat.reduceLeDiff, Nat.reduceMul, Nat.reduceEqDiff, exists_eq', implies_true, exists_true_left, tys0, tys1, tys2, tys3, tys4, und0, und1, und2, und3, md3, Tryz.ntmps3, Tryz.results3, List.length_map]
    · exact PostR.pure ⟨rfl, rfl⟩ rfl
    have hz1 : 1 ≤ L.length := by have := ne_of_beq_false hz; omega
    obtain ⟨i0, ic, i1, i2⟩ := b10At_call m hm l2 2 L.length (by omega) (by omega) (by omega) (by omega)
    obtain ⟨i, hi, rfl⟩ : ∃ i : Nat, i < L.length ∧ i0 = (i : Int) := ⟨i0.toNat, by omega, by omega⟩
    have hdy : inR 0 100000 y0 = true := by unfold inR; rw [decide_eq_true (by omega), decide_eq_true (by omega)]; rfl
    have r0 := rul0_ok y1 (by omega)
    have rA := refAmend_call L hR rb (by omega) i hi y0 hdy rul0 r0 (fun e => amended_ok rb (by omega) hi e r0)
    have rB := amend_call L hR rb (by omega) i hi y0 hdy rul0 r0
    have rC := repeal_call L hR rb i hi y0 hdy
    refine call_ret ic rfl rfl ?_
    simp only [q0, q1, q2, q3, q4, q5, q6, q7, q8, q9, zr0, zr1, zr2, zr3, zq0, zq1, zq2, zq3, zq4, Nat.reduceAdd, Nat.reduceSub, lenA, convA, indexA, indexS, Int.reduceToNat, cond_true, cond_false, ↓reduceIte, reduceCtorEq, Nat.reduceLT, Nat.reduceLeDiff, Nat.reduceMul, Nat.reduceEqDiff, exists_eq', implies_true, exists_true_left, tys0, tys1, tys2, tys3, tys4, und0, und1, und2, und3, md3, Tryz.ntmps3, Tryz.results3]
    refine call_ret yc rfl rfl ?_
    simp only [q0, q1, q2, q3, q4, q5, q6, q7, q8, q9, zr0, zr1, zr2, zr3, zq0, zq1, zq2, zq3, zq4, Nat.reduceAdd, Nat.reduceSub, lenA, convA, indexA, indexS, Int.reduceToNat, cond_true, cond_false, ↓reduceIte, reduceCtorEq, Nat.reduceLT, Nat.reduceLeDiff, Nat.reduceMul, Nat.reduceEqDiff, exists_eq', implies_true, exists_true_left, tys0, tys1, tys2, tys3, tys4, und0, und1, und2, und3, md3, Tryz.ntmps3, Tryz.results3, intB]
    refine call_lent 2 (by simp [view_agg, view_int, view_sl, view_ro, rulA, rul0, ints]) rA rfl rfl ?_
    cases e : endB L i y0 with
    | false =>
      rw [e, if_neg (by decide)] at rB rC
      simp only [q0, q1, q2, q3, q4, q5, q6, q7, q8, q9, zr0, zr1, zr2, zr3, zq0, zq1, zq2, zq3, zq4, Nat.reduceAdd, Nat.reduceSub, lenA, convA, indexA, indexS, Int.reduceToNat, cond_true, cond_false, ↓reduceIte, reduceCtorEq, Nat.reduceLT, Nat.reduceLeDiff, Nat.reduceMul, Nat.reduceEqDiff, exists_eq', implies_true, exists_true_left, tys0, tys1, tys2, tys3, tys4, und0, und1, und2, und3, md3, Tryz.ntmps3, Tryz.results3, intB]
      refine call_handedQ [0] rB (by decide) ⟨⟨rfl, ints_below _ _⟩, trivial⟩ rfl rfl ?_
      rintro r hps' ⟨rfl, rfl⟩
      refine ⟨by intro q hq; simp at hq; subst hq; exact ints_below _ _, ?_⟩
      simp only [q0, q1, q2, q3, q4, q5, q6, q7, q8, q9, zr0, zr1, zr2, zr3, zq0, zq1, zq2, zq3, zq4, Nat.reduceAdd, Nat.reduceSub, lenA, convA, indexA, indexS, Int.reduceToNat, cond_true, cond_false, ↓reduceIte, reduceCtorEq, Nat.reduceLT, Nat.reduceLeDiff, Nat.reduceMul, Nat.reduceEqDiff, exists_eq', implies_true, exists_true_left, tys0, tys1, tys2, tys3, tys4, und0, und1, und2, und3, md3, Tryz.ntmps3, Tryz.results3, intB, ren, renM, renL, putF, upName]
      refine call_ret rC rfl rfl ?_
      simp only [q0, q1, q2, q3, q4, q5, q6, q7, q8, q9, zr0, zr1, zr2, zr3, zq0, zq1, zq2, zq3, zq4, Nat.reduceAdd, Nat.reduceSub, lenA, convA, indexA, indexS, Int.reduceToNat, cond_true, cond_false, ↓reduceIte, reduceCtorEq, Nat.reduceLT, Nat.reduceLeDiff, Nat.reduceMul, Nat.reduceEqDiff, exists_eq', implies_true, exists_true_left, tys0, tys1, tys2, tys3, tys4, und0, und1, und2, und3, md3, Tryz.ntmps3, Tryz.results3, intB, bne_self_eq_false, beq_self_eq_true]
      exact PostR.pure ⟨rfl, rfl⟩ rfl
    | true =>
      rw [e, if_pos rfl] at rB rC
      simp only [q0, q1, q2, q3, q4, q5, q6, q7, q8, q9, zr0, zr1, zr2, zr3, zq0, zq1, zq2, zq3, zq4, Nat.reduceAdd, Nat.reduceSub, lenA, convA, indexA, indexS, Int.reduceToNat, cond_true, cond_false, ↓reduceIte, reduceCtorEq, Nat.reduceLT, Nat.reduceLeDiff, Nat.reduceMul, Nat.reduceEqDiff, exists_eq', implies_true, exists_true_left, tys0, tys1, tys2, tys3, tys4, und0, und1, und2, und3, md3, Tryz.ntmps3, Tryz.results3, intB]
      refine call_handedQ [0] rB (by decide) ⟨⟨rfl, ints_below _ _⟩, trivial⟩ rfl rfl ?_
      rintro r hps' ⟨rfl, rfl⟩
      refine ⟨by intro q hq; simp at hq; subst hq; exact ints_below _ _, ?_⟩
      simp only [q0, q1, q2, q3, q4, q5, q6, q7, q8, q9, zr0, zr1, zr2, zr3, zq0, zq1, zq2, zq3, zq4, Nat.reduceAdd, Nat.reduceSub, lenA, convA, indexA, indexS, Int.reduceToNat, cond_true, cond_false, ↓reduceIte, reduceCtorEq, Nat.reduceLT, Nat.reduceLeDiff, Nat.reduceMul, Nat.reduceEqDiff, exists_eq', implies_true, exists_true_left, tys0, tys1, tys2, tys3, tys4, und0, und1, und2, und3, md3, Tryz.ntmps3, Tryz.results3, intB, ren, renM, renL, putF, upName]
      refine call_ret rC rfl rfl ?_
      simp only [q0, q1, q2, q3, q4, q5, q6, q7, q8, q9, zr0, zr1, zr2, zr3, zq0, zq1, zq2, zq3, zq4, Nat.reduceAdd, Nat.reduceSub, lenA, convA, indexA, indexS, Int.reduceToNat, cond_true, cond_false, ↓reduceIte, reduceCtorEq, Nat.reduceLT, Nat.reduceLeDiff, Nat.reduceMul, Nat.reduceEqDiff, exists_eq', implies_true, exists_true_left, tys0, tys1, tys2, tys3, tys4, und0, und1, und2, und3, md3, Tryz.ntmps3, Tryz.results3, intB, bne_self_eq_false, beq_self_eq_true]
      have ok := amended_ok rb (by omega) hi e r0
      have sm := amended_same (r := rul0) hi e
      have cln := cutR_len L i (y0 - 1)
      have g1 : ∀ h, (cutR L i (y0 - 1) ++ [onR rul0 y0])[i]'h = (L[i].1, L[i].2.1, L[i].2.2.1, y0 - 1, L[i].2.2.2.2) := fun h => by
        have := rkR_cut (day := y0) (r := rul0) hi i
        rw [if_pos hi, if_pos rfl, rkR_at _ _ h, rkR_at L i hi] at this
        exact this
      have g2 : ∀ h, (cutR L i (y0 - 1))[i]'h = (L[i].1, L[i].2.1, L[i].2.2.1, y0 - 1, L[i].2.2.2.2) := fun h => by
        rw [← g1 (by rw [List.length_append]; omega), List.getElem_append_left h]
      have g3 : ∀ h, (cutR L i (y0 - 1) ++ [onR rul0 y0])[L.length]'h = onR rul0 y0 := fun h => by
        rw [List.getElem_append_right (by omega)]
        simp
      have gl : (cutR L i (y0 - 1) ++ [onR rul0 y0]).length = L.length + 1 := by rw [List.length_append, cln]; rfl
      have he := e
      unfold endB at he
      rw [rkR_at L i hi, Bool.and_eq_true, decide_eq_true_eq, decide_eq_true_eq] at he
      have od := okDays rb _ (List.getElem_mem hi)
      have hdz : inR 0 100000 (y0 - 1) = true := by unfold inR; rw [decide_eq_true (by omega), decide_eq_true (by omega)]; rfl
      have rD := refActive_call (cutR L i (y0 - 1) ++ [onR rul0 y0]) (rls_rb ok) ok (y0 - 1) hdz
      rw [sm] at rD
      have rE := refActive_call L hR rb (y0 - 1) hdz
      generalize cutR L i (y0 - 1) ++ [onR rul0 y0] = A at *
      generalize cutR L i (y0 - 1) = B at *
      have w1 : IntKind.i64.wrap (((L.length + 1 : Nat) : Int) - 1) = L.length := by rw [w64 (by omega) (by omega)]; omega
      have w2 : IntKind.i64.wrap (((L.length : Nat) : Int) + 1) = ((L.length + 1 : Nat) : Int) := w64_succ _ (by omega)
      have w3 : IntKind.i64.wrap (y0 - 1) = y0 - 1 := w64 (by omega) (by omega)
      simp only [q0, q1, q2, q3, q4, q5, q6, q7, q8, q9, zr0, zr1, zr2, zr3, zq0, zq1, zq2, zq3, zq4, Nat.reduceAdd, Nat.reduceSub, lenA, convA, indexA, indexS, Int.reduceToNat, cond_true, cond_false, ↓reduceIte, reduceCtorEq, Nat.reduceLT, Nat.reduceLeDiff, Nat.reduceMul, Nat.reduceEqDiff, exists_eq', implies_true, exists_true_left, tys0, tys1, tys2, tys3, tys4, und0, und1, und2, und3, md3, Tryz.ntmps3, Tryz.results3, intB, bne_self_eq_false, beq_self_eq_true, List.length_map, gl, cln, w1, w2, w3, List.getElem_map, g1, g2, g3, rulA, onR, rul0]
      refine ⟨by omega, by omega, hi, ?_⟩
      have il : (idxD L (y0 - 1) L.length).length ≤ 1048576 := by
        have il := idxD_len L (y0 - 1) L.length (Nat.le_refl _)
        have i2 : ((L.take L.length).filter (onB (y0 - 1))).length ≤ L.length := Nat.le_trans (List.length_filter_le _ _) (by simp)
        omega
      refine call_ret rD rfl rfl ?_
      simp only [q0, q1, q2, q3, q4, q5, q6, q7, q8, q9, zr0, zr1, zr2, zr3, zq0, zq1, zq2, zq3, zq4, Nat.reduceAdd, Nat.reduceSub, lenA, convA, indexA, indexS, Int.reduceToNat, cond_true, cond_false, ↓reduceIte, reduceCtorEq, Nat.reduceLT, Nat.reduceLeDiff, Nat.reduceMul, Nat.reduceEqDiff, exists_eq', implies_true, exists_true_left, tys0, tys1, tys2, tys3, tys4, und0, und1, und2, und3, md3, Tryz.ntmps3, Tryz.results3, intB, w3]
      refine call_ret rE rfl rfl ?_
      simp only [q0, q1, q2, q3, q4, q5, q6, q7, q8, q9, zr0, zr1, zr2, zr3, zq0, zq1, zq2, zq3, zq4, Nat.reduceAdd, Nat.reduceSub, lenA, convA, indexA, indexS, Int.reduceToNat, cond_true, cond_false, ↓reduceIte, reduceCtorEq, Nat.reduceLT, Nat.reduceLeDiff, Nat.reduceMul, Nat.reduceEqDiff, exists_eq', implies_true, exists_true_left, tys0, tys1, tys2, tys3, tys4, und0, und1, und2, und3, md3, Tryz.ntmps3, Tryz.results3, intB, w3]
      refine call_ret (b10Ints_call (idxD L (y0 - 1) L.length) il) rfl rfl ?_
      simp only [q0, q1, q2, q3, q4, q5, q6, q7, q8, q9, zr0, zr1, zr2, zr3, zq0, zq1, zq2, zq3, zq4, Nat.reduceAdd, Nat.reduceSub, lenA, convA, indexA, indexS, Int.reduceToNat, cond_true, cond_false, ↓reduceIte, reduceCtorEq, Nat.reduceLT, Nat.reduceLeDiff, Nat.reduceMul, Nat.reduceEqDiff, exists_eq', implies_true, exists_true_left, tys0, tys1, tys2, tys3, tys4, und0, und1, und2, und3, md3, Tryz.ntmps3, Tryz.results3, intB, w3]
      exact PostR.pure ⟨rfl, rfl⟩ rfl
theorem amended_all (cd m : List Int) (hc : byteL cd) (hm : byteL m) : CallA Tryz.prog 3 [.ro (kint .u8 cd), .ro (kint .u8 m)] [] (Ret (.bool true) []) := by
  cases big : (decide (1048576 < (cd.length : Int)) || decide (1048576 < (m.length : Int))) with
  | false =>
    have b2 := big
    rw [Bool.or_eq_false_iff] at b2
    have h1 := of_decide_eq_false b2.1
    have h2 := of_decide_eq_false b2.2
    exact amended_list cd m hc hm (by omega) (by omega) big
  | true =>
    have bl := b10Long_call cd m
    rw [big] at bl
    refine CallP.out (t := .mk) (go_in (md := md3) mixed Tryz.func3 rfl go3 (by kernel_rfl) ?_)
    simp only [q0, q1, q2, q3, q4, q5, q6, q7, q8, q9, zr0, zr1, zr2, zr3, zq0, zq1, zq2, zq3, zq4, Nat.reduceAdd, Nat.reduceSub, lenA, convA, indexA, indexS, Int.reduceToNat, cond_true, cond_false, ↓reduceIte, reduceCtorEq, Nat.reduceLT, Nat.reduceLeDiff, Nat.reduceMul, Nat.reduceEqDiff, exists_eq', implies_true, exists_true_left, tys0, tys1, tys2, tys3, tys4, und0, und1, und2, und3, md3, Tryz.ntmps3, Tryz.results3]
    refine call_ret bl rfl rfl ?_
    simp only [q0, q1, q2, q3, q4, q5, q6, q7, q8, q9, zr0, zr1, zr2, zr3, zq0, zq1, zq2, zq3, zq4, Nat.reduceAdd, Nat.reduceSub, lenA, convA, indexA, indexS, Int.reduceToNat, cond_true, cond_false, ↓reduceIte, reduceCtorEq, Nat.reduceLT, Nat.reduceLeDiff, Nat.reduceMul, Nat.reduceEqDiff, exists_eq', implies_true, exists_true_left, tys0, tys1, tys2, tys3, tys4, und0, und1, und2, und3, md3, Tryz.ntmps3, Tryz.results3]
    exact PostR.pure ⟨rfl, rfl⟩ rfl
theorem u8_wf {x : Int} (h : (Lit.int .u8 x).wf = true) : 0 ≤ x ∧ x ≤ 255 := by
  simp [Lit.wf, IntKind.min, IntKind.max, IntKind.bits, IntKind.signed] at h
  omega
theorem ofT_bytes {a : AV} (h : OfT Tryz.prog 8 22 [a]) : ∃ xs : List Int, a = .ro (kint .u8 xs) ∧ byteL xs := by
  obtain ⟨xs, h1, h2, h3⟩ := ofT_kint Tryz.underlying22 Tryz.underlying5 h
  exact ⟨xs, h1, fun x hx => u8_wf (h3 x hx)⟩
theorem amendedLaw (l0 l1 : AV) (of0 : OfT Tryz.prog 8 22 [l0]) (of1 : OfT Tryz.prog 8 22 [l1]) : CallA Tryz.prog 3 [l0, l1] [] (Ret (.bool true) []) := by
  obtain ⟨c, rfl, hc⟩ := ofT_bytes of0
  obtain ⟨m, rfl, hm⟩ := ofT_bytes of1
  exact amended_all c m hc hm
end Go.Proofs.YtmllengggncmkaaGreat
