/- FnTop, for every argument. -/
import Derived.Test.YteenpfegadlkfaaGreatDoorTpL
import Derived.Test.YteenpfegadlkfaaGreatDoorAbsM5
set_option maxRecDepth 10000
set_option maxHeartbeats 16000000
set_option linter.unusedSimpArgs false
set_option linter.unusedVariables false
namespace Go.Proofs.YteenpfegadlkfaaGreatDoor
open Go Go.Abs
theorem call_str {P : Program} {f : FuncId} {a : AV} {s s' : List UInt8} {r : AV} {hp : List Blk} {Q : AV → List Blk → Prop} {t : Tok Q} (h : CallA P f [a, .str s] [] (Ret r [])) (e : s' = s) (ha : [a, .str s].all (below 0) = true) (hr : below 0 r = true) (hq : Q r hp) : CallP P f [a, .str s'] hp Q t := by
  subst e
  exact call_ret h ha hr hq
theorem sameD_self (a b c d : List Int) (f : List Nat) : sameD a b c d f a b c d f = true := by
  have p : sameAll f f = true := by
    unfold sameAll
    rw [decide_eq_true rfl, Bool.true_and]
    exact pref_iff.2 fun j _ => beq_self_eq_true _
  unfold sameD
  rw [p, beq_self_eq_true, beq_self_eq_true, beq_self_eq_true, beq_self_eq_true]; rfl
theorem top_call (c m : List Int) (hc : byteL c) (hm : byteL m) : CallA Tryz.prog 3 [.ro (kint .u8 c), .ro (kint .u8 m)] [] (Ret (.bool true) []) := by
  refine CallP.out (t := .mk) (go_in (md := md3) mixed Tryz.func3 rfl go3 (by kernel_rfl) ?_)
  simp only [q0, q1, q2, q3, q4, q5, q6, q7, q8, q9, zr0, zr1, zr2, zr3, zq0, zq1, zq2, zq3, zq4, Nat.reduceAdd, Nat.reduceSub, lenA, convA, indexA, flatP, nilI, ifaA, indexS, Int.reduceToNat, cond_true, cond_false, ↓reduceIte, reduceCtorEq, Nat.reduceLT, Nat.reduceLeDiff, Nat.reduceMul, Nat.reduceEqDiff, exists_eq', implies_true, exists_true_left, tys0, tys1, tys2, tys3, und0, und1, und2, und3, md3, Tryz.ntmps3, Tryz.results3]
  refine call_ret (r8Long_call c m) rfl rfl ?_
  simp only [q0, q1, q2, q3, q4, q5, q6, q7, q8, q9, zr0, zr1, zr2, zr3, zq0, zq1, zq2, zq3, zq4, Nat.reduceAdd, Nat.reduceSub, lenA, convA, indexA, flatP, nilI, ifaA, indexS, Int.reduceToNat, cond_true, cond_false, ↓reduceIte, reduceCtorEq, Nat.reduceLT, Nat.reduceLeDiff, Nat.reduceMul, Nat.reduceEqDiff, exists_eq', implies_true, exists_true_left, tys0, tys1, tys2, tys3, und0, und1, und2, und3, md3, Tryz.ntmps3, Tryz.results3]
  refine br_intro (fun h => ?_) (fun h => ?_) <;> simp only [q0, q1, q2, q3, q4, q5, q6, q7, q8, q9, zr0, zr1, zr2, zr3, zq0, zq1, zq2, zq3, zq4, Nat.reduceAdd, Nat.reduceSub, lenA, convA, indexA, flatP, nilI, ifaA, indexS, Int.reduceToNat, cond_true, cond_false, ↓reduceIte, reduceCtorEq, Nat.reduceLT, Nat.reduceLeDiff, Nat.reduceMul, Nat.reduceEqDiff, exists_eq', implies_true, exists_true_left, tys0, tys1, tys2, tys3, und0, und1, und2, und3, md3, Tryz.ntmps3, Tryz.results3]
  · exact PostR.pure ⟨rfl, rfl⟩ rfl
  have hh := Bool.or_eq_false_iff.1 h
  have l1 := of_decide_eq_false hh.1
  have l2 := of_decide_eq_false hh.2
  refine call_by (r8Desk_call c hc (by omega)) ?_
  rintro r hp' ⟨bs, rs, ps, ra, q, D, b4, b16, rfl, rfl⟩
  have R0 := at8_low (l := m) (k := 0) (n := 256) (by omega)
  have R1 := at8_low (l := m) (k := 1) (n := 4) (by omega)
  have k0 := r8At_call m hm (by omega) 0 256 (by omega) (by omega)
  have k1 := r8At_call m hm (by omega) 1 4 (by omega) (by omega)
  generalize at8 m 0 256 = x at *
  generalize at8 m 1 4 = w at *
  have en : IntKind.i64.wrap (x * 37) = x * 37 := w64 (by omega) (by omega)
  have H : Bds bs rs ps ra q (x * 37) w := ⟨D, by omega, by omega, by omega, by omega⟩
  simp only [q0, q1, q2, q3, q4, q5, q6, q7, q8, q9, zr0, zr1, zr2, zr3, zq0, zq1, zq2, zq3, zq4, Nat.reduceAdd, Nat.reduceSub, lenA, convA, indexA, flatP, nilI, ifaA, indexS, Int.reduceToNat, cond_true, cond_false, ↓reduceIte, reduceCtorEq, Nat.reduceLT, Nat.reduceLeDiff, Nat.reduceMul, Nat.reduceEqDiff, exists_eq', implies_true, exists_true_left, tys0, tys1, tys2, tys3, und0, und1, und2, und3, md3, Tryz.ntmps3, Tryz.results3, deskV]
  refine call_ret k0 rfl rfl ?_
  simp only [q0, q1, q2, q3, q4, q5, q6, q7, q8, q9, zr0, zr1, zr2, zr3, zq0, zq1, zq2, zq3, zq4, Nat.reduceAdd, Nat.reduceSub, lenA, convA, indexA, flatP, nilI, ifaA, indexS, Int.reduceToNat, cond_true, cond_false, ↓reduceIte, reduceCtorEq, Nat.reduceLT, Nat.reduceLeDiff, Nat.reduceMul, Nat.reduceEqDiff, exists_eq', implies_true, exists_true_left, tys0, tys1, tys2, tys3, und0, und1, und2, und3, md3, Tryz.ntmps3, Tryz.results3, en]
  generalize x * 37 = n at *
  refine call_ret k1 rfl rfl ?_
  simp only [q0, q1, q2, q3, q4, q5, q6, q7, q8, q9, zr0, zr1, zr2, zr3, zq0, zq1, zq2, zq3, zq4, Nat.reduceAdd, Nat.reduceSub, lenA, convA, indexA, flatP, nilI, ifaA, indexS, Int.reduceToNat, cond_true, cond_false, ↓reduceIte, reduceCtorEq, Nat.reduceLT, Nat.reduceLeDiff, Nat.reduceMul, Nat.reduceEqDiff, exists_eq', implies_true, exists_true_left, tys0, tys1, tys2, tys3, und0, und1, und2, und3, md3, Tryz.ntmps3, Tryz.results3]
  refine call_ret (scaleText_ok D) rfl rfl ?_
  simp only [q0, q1, q2, q3, q4, q5, q6, q7, q8, q9, zr0, zr1, zr2, zr3, zq0, zq1, zq2, zq3, zq4, Nat.reduceAdd, Nat.reduceSub, lenA, convA, indexA, flatP, nilI, ifaA, indexS, Int.reduceToNat, cond_true, cond_false, ↓reduceIte, reduceCtorEq, Nat.reduceLT, Nat.reduceLeDiff, Nat.reduceMul, Nat.reduceEqDiff, exists_eq', implies_true, exists_true_left, tys0, tys1, tys2, tys3, und0, und1, und2, und3, md3, Tryz.ntmps3, Tryz.results3]
  have L := H.len
  have z1 := L.l_sc
  have z2 := L.l_ps
  have z3 := L.l_ra
  have z4 := L.l_q
  have z5 := L.l_n
  have z6 := L.l_w
  obtain ⟨m1, m2, m3, m4, m5, m6⟩ := H.num
  refine call_ret (listText_call ps D.pys.one (by have := D.pys.six; omega) D.pm) rfl rfl ?_
  simp only [q0, q1, q2, q3, q4, q5, q6, q7, q8, q9, zr0, zr1, zr2, zr3, zq0, zq1, zq2, zq3, zq4, Nat.reduceAdd, Nat.reduceSub, lenA, convA, indexA, flatP, nilI, ifaA, indexS, Int.reduceToNat, cond_true, cond_false, ↓reduceIte, reduceCtorEq, Nat.reduceLT, Nat.reduceLeDiff, Nat.reduceMul, Nat.reduceEqDiff, exists_eq', implies_true, exists_true_left, tys0, tys1, tys2, tys3, und0, und1, und2, und3, md3, Tryz.ntmps3, Tryz.results3]
  refine call_ret (listText_call ra D.rts.one (by have := D.rts.six; omega) D.am) rfl rfl ?_
  simp only [q0, q1, q2, q3, q4, q5, q6, q7, q8, q9, zr0, zr1, zr2, zr3, zq0, zq1, zq2, zq3, zq4, Nat.reduceAdd, Nat.reduceSub, lenA, convA, indexA, flatP, nilI, ifaA, indexS, Int.reduceToNat, cond_true, cond_false, ↓reduceIte, reduceCtorEq, Nat.reduceLT, Nat.reduceLeDiff, Nat.reduceMul, Nat.reduceEqDiff, exists_eq', implies_true, exists_true_left, tys0, tys1, tys2, tys3, und0, und1, und2, und3, md3, Tryz.ntmps3, Tryz.results3]
  refine call_ret (numbersText_call q (by have := D.tab.six; omega) D.okw) rfl rfl ?_
  simp only [q0, q1, q2, q3, q4, q5, q6, q7, q8, q9, zr0, zr1, zr2, zr3, zq0, zq1, zq2, zq3, zq4, Nat.reduceAdd, Nat.reduceSub, lenA, convA, indexA, flatP, nilI, ifaA, indexS, Int.reduceToNat, cond_true, cond_false, ↓reduceIte, reduceCtorEq, Nat.reduceLT, Nat.reduceLeDiff, Nat.reduceMul, Nat.reduceEqDiff, exists_eq', implies_true, exists_true_left, tys0, tys1, tys2, tys3, und0, und1, und2, und3, md3, Tryz.ntmps3, Tryz.results3]
  refine call_ret (decimal_call n m1.i.1 m1.i.2) rfl rfl ?_
  simp only [q0, q1, q2, q3, q4, q5, q6, q7, q8, q9, zr0, zr1, zr2, zr3, zq0, zq1, zq2, zq3, zq4, Nat.reduceAdd, Nat.reduceSub, lenA, convA, indexA, flatP, nilI, ifaA, indexS, Int.reduceToNat, cond_true, cond_false, ↓reduceIte, reduceCtorEq, Nat.reduceLT, Nat.reduceLeDiff, Nat.reduceMul, Nat.reduceEqDiff, exists_eq', implies_true, exists_true_left, tys0, tys1, tys2, tys3, und0, und1, und2, und3, md3, Tryz.ntmps3, Tryz.results3]
  repeat (refine ⟨by first | omega | (simp only [List.length_append, List.length_cons, List.length_nil]; omega), ?_⟩)
  refine call_ret (decimal_call w m2.i.1 m2.i.2) rfl rfl ?_
  simp only [q0, q1, q2, q3, q4, q5, q6, q7, q8, q9, zr0, zr1, zr2, zr3, zq0, zq1, zq2, zq3, zq4, Nat.reduceAdd, Nat.reduceSub, lenA, convA, indexA, flatP, nilI, ifaA, indexS, Int.reduceToNat, cond_true, cond_false, ↓reduceIte, reduceCtorEq, Nat.reduceLT, Nat.reduceLeDiff, Nat.reduceMul, Nat.reduceEqDiff, exists_eq', implies_true, exists_true_left, tys0, tys1, tys2, tys3, und0, und1, und2, und3, md3, Tryz.ntmps3, Tryz.results3]
  repeat (refine ⟨by first | omega | (simp only [List.length_append, List.length_cons, List.length_nil]; omega), ?_⟩)
  refine call_ret (decimal_call w m2.i.1 m2.i.2) rfl rfl ?_
  simp only [q0, q1, q2, q3, q4, q5, q6, q7, q8, q9, zr0, zr1, zr2, zr3, zq0, zq1, zq2, zq3, zq4, Nat.reduceAdd, Nat.reduceSub, lenA, convA, indexA, flatP, nilI, ifaA, indexS, Int.reduceToNat, cond_true, cond_false, ↓reduceIte, reduceCtorEq, Nat.reduceLT, Nat.reduceLeDiff, Nat.reduceMul, Nat.reduceEqDiff, exists_eq', implies_true, exists_true_left, tys0, tys1, tys2, tys3, und0, und1, und2, und3, md3, Tryz.ntmps3, Tryz.results3]
  repeat (refine ⟨by first | omega | (simp only [List.length_append, List.length_cons, List.length_nil]; omega), ?_⟩)
  refine call_ret newDesk_call rfl rfl ?_
  simp only [q0, q1, q2, q3, q4, q5, q6, q7, q8, q9, zr0, zr1, zr2, zr3, zq0, zq1, zq2, zq3, zq4, Nat.reduceAdd, Nat.reduceSub, lenA, convA, indexA, flatP, nilI, ifaA, indexS, Int.reduceToNat, cond_true, cond_false, ↓reduceIte, reduceCtorEq, Nat.reduceLT, Nat.reduceLeDiff, Nat.reduceMul, Nat.reduceEqDiff, exists_eq', implies_true, exists_true_left, tys0, tys1, tys2, tys3, und0, und1, und2, und3, md3, Tryz.ntmps3, Tryz.results3]
  refine call_str (topRun_call H) (by simp [linT, topL, ln]) rfl rfl ?_
  simp only [q0, q1, q2, q3, q4, q5, q6, q7, q8, q9, zr0, zr1, zr2, zr3, zq0, zq1, zq2, zq3, zq4, Nat.reduceAdd, Nat.reduceSub, lenA, convA, indexA, flatP, nilI, ifaA, indexS, Int.reduceToNat, cond_true, cond_false, ↓reduceIte, reduceCtorEq, Nat.reduceLT, Nat.reduceLeDiff, Nat.reduceMul, Nat.reduceEqDiff, exists_eq', implies_true, exists_true_left, tys0, tys1, tys2, tys3, und0, und1, und2, und3, md3, Tryz.ntmps3, Tryz.results3, deskV]
  refine call_ret H.dt.vd rfl rfl ?_
  simp only [q0, q1, q2, q3, q4, q5, q6, q7, q8, q9, zr0, zr1, zr2, zr3, zq0, zq1, zq2, zq3, zq4, Nat.reduceAdd, Nat.reduceSub, lenA, convA, indexA, flatP, nilI, ifaA, indexS, Int.reduceToNat, cond_true, cond_false, ↓reduceIte, reduceCtorEq, Nat.reduceLT, Nat.reduceLeDiff, Nat.reduceMul, Nat.reduceEqDiff, exists_eq', implies_true, exists_true_left, tys0, tys1, tys2, tys3, und0, und1, und2, und3, md3, Tryz.ntmps3, Tryz.results3, deskV]
  refine call_ret (dueOf_call D.scl n w H.n0 (by have := H.n1; omega) H.w0 H.w3) rfl rfl ?_
  simp only [q0, q1, q2, q3, q4, q5, q6, q7, q8, q9, zr0, zr1, zr2, zr3, zq0, zq1, zq2, zq3, zq4, Nat.reduceAdd, Nat.reduceSub, lenA, convA, indexA, flatP, nilI, ifaA, indexS, Int.reduceToNat, cond_true, cond_false, ↓reduceIte, reduceCtorEq, Nat.reduceLT, Nat.reduceLeDiff, Nat.reduceMul, Nat.reduceEqDiff, exists_eq', implies_true, exists_true_left, tys0, tys1, tys2, tys3, und0, und1, und2, und3, md3, Tryz.ntmps3, Tryz.results3]
  refine call_ret (netOf_call D.scl n w H.n0 (by have := H.n1; omega) H.w0 H.w3) rfl rfl ?_
  simp only [q0, q1, q2, q3, q4, q5, q6, q7, q8, q9, zr0, zr1, zr2, zr3, zq0, zq1, zq2, zq3, zq4, Nat.reduceAdd, Nat.reduceSub, lenA, convA, indexA, flatP, nilI, ifaA, indexS, Int.reduceToNat, cond_true, cond_false, ↓reduceIte, reduceCtorEq, Nat.reduceLT, Nat.reduceLeDiff, Nat.reduceMul, Nat.reduceEqDiff, exists_eq', implies_true, exists_true_left, tys0, tys1, tys2, tys3, und0, und1, und2, und3, md3, Tryz.ntmps3, Tryz.results3]
  refine call_ret (rateAt_call D.scl n H.n0 (by have := H.n1; omega)) rfl rfl ?_
  simp only [q0, q1, q2, q3, q4, q5, q6, q7, q8, q9, zr0, zr1, zr2, zr3, zq0, zq1, zq2, zq3, zq4, Nat.reduceAdd, Nat.reduceSub, lenA, convA, indexA, flatP, nilI, ifaA, indexS, Int.reduceToNat, cond_true, cond_false, ↓reduceIte, reduceCtorEq, Nat.reduceLT, Nat.reduceLeDiff, Nat.reduceMul, Nat.reduceEqDiff, exists_eq', implies_true, exists_true_left, tys0, tys1, tys2, tys3, und0, und1, und2, und3, md3, Tryz.ntmps3, Tryz.results3]
  refine call_ret (withhold_call D.scl D.pys w H.w0 H.w3) rfl rfl ?_
  simp only [q0, q1, q2, q3, q4, q5, q6, q7, q8, q9, zr0, zr1, zr2, zr3, zq0, zq1, zq2, zq3, zq4, Nat.reduceAdd, Nat.reduceSub, lenA, convA, indexA, flatP, nilI, ifaA, indexS, Int.reduceToNat, cond_true, cond_false, ↓reduceIte, reduceCtorEq, Nat.reduceLT, Nat.reduceLeDiff, Nat.reduceMul, Nat.reduceEqDiff, exists_eq', implies_true, exists_true_left, tys0, tys1, tys2, tys3, und0, und1, und2, und3, md3, Tryz.ntmps3, Tryz.results3]
  refine call_ret (listText_call (whL bs rs ps w) (by rw [whL_len]; exact D.pys.one) (by rw [whL_len]; have := D.pys.six; omega) (wh_ok D.scl D.pys H.w0 H.w3)) rfl rfl ?_
  simp only [q0, q1, q2, q3, q4, q5, q6, q7, q8, q9, zr0, zr1, zr2, zr3, zq0, zq1, zq2, zq3, zq4, Nat.reduceAdd, Nat.reduceSub, lenA, convA, indexA, flatP, nilI, ifaA, indexS, Int.reduceToNat, cond_true, cond_false, ↓reduceIte, reduceCtorEq, Nat.reduceLT, Nat.reduceLeDiff, Nat.reduceMul, Nat.reduceEqDiff, exists_eq', implies_true, exists_true_left, tys0, tys1, tys2, tys3, und0, und1, und2, und3, md3, Tryz.ntmps3, Tryz.results3]
  refine call_ret (largest_call D.pys H.n0 H.n1) rfl rfl ?_
  simp only [q0, q1, q2, q3, q4, q5, q6, q7, q8, q9, zr0, zr1, zr2, zr3, zq0, zq1, zq2, zq3, zq4, Nat.reduceAdd, Nat.reduceSub, lenA, convA, indexA, flatP, nilI, ifaA, indexS, Int.reduceToNat, cond_true, cond_false, ↓reduceIte, reduceCtorEq, Nat.reduceLT, Nat.reduceLeDiff, Nat.reduceMul, Nat.reduceEqDiff, exists_eq', implies_true, exists_true_left, tys0, tys1, tys2, tys3, und0, und1, und2, und3, md3, Tryz.ntmps3, Tryz.results3]
  refine call_ret (listText_call (larL ps n) (by rw [larL_len]; exact D.pys.one) (by rw [larL_len]; have := D.pys.six; omega) (lar_bound D.pys H.n0 H.n1)) rfl rfl ?_
  simp only [q0, q1, q2, q3, q4, q5, q6, q7, q8, q9, zr0, zr1, zr2, zr3, zq0, zq1, zq2, zq3, zq4, Nat.reduceAdd, Nat.reduceSub, lenA, convA, indexA, flatP, nilI, ifaA, indexS, Int.reduceToNat, cond_true, cond_false, ↓reduceIte, reduceCtorEq, Nat.reduceLT, Nat.reduceLeDiff, Nat.reduceMul, Nat.reduceEqDiff, exists_eq', implies_true, exists_true_left, tys0, tys1, tys2, tys3, und0, und1, und2, und3, md3, Tryz.ntmps3, Tryz.results3]
  refine call_ret (safeDraw_call D.rts n H.n0 (by have := H.n1; omega)) rfl rfl ?_
  simp only [q0, q1, q2, q3, q4, q5, q6, q7, q8, q9, zr0, zr1, zr2, zr3, zq0, zq1, zq2, zq3, zq4, Nat.reduceAdd, Nat.reduceSub, lenA, convA, indexA, flatP, nilI, ifaA, indexS, Int.reduceToNat, cond_true, cond_false, ↓reduceIte, reduceCtorEq, Nat.reduceLT, Nat.reduceLeDiff, Nat.reduceMul, Nat.reduceEqDiff, exists_eq', implies_true, exists_true_left, tys0, tys1, tys2, tys3, und0, und1, und2, und3, md3, Tryz.ntmps3, Tryz.results3]
  refine call_ret (aliveShares_call D.tab) rfl rfl ?_
  simp only [q0, q1, q2, q3, q4, q5, q6, q7, q8, q9, zr0, zr1, zr2, zr3, zq0, zq1, zq2, zq3, zq4, Nat.reduceAdd, Nat.reduceSub, lenA, convA, indexA, flatP, nilI, ifaA, indexS, Int.reduceToNat, cond_true, cond_false, ↓reduceIte, reduceCtorEq, Nat.reduceLT, Nat.reduceLeDiff, Nat.reduceMul, Nat.reduceEqDiff, exists_eq', implies_true, exists_true_left, tys0, tys1, tys2, tys3, und0, und1, und2, und3, md3, Tryz.ntmps3, Tryz.results3]
  refine call_ret (numbersText_call (alvL q) (by rw [alvL_len]; have := D.tab.six; omega) (alv_okw q)) rfl rfl ?_
  simp only [q0, q1, q2, q3, q4, q5, q6, q7, q8, q9, zr0, zr1, zr2, zr3, zq0, zq1, zq2, zq3, zq4, Nat.reduceAdd, Nat.reduceSub, lenA, convA, indexA, flatP, nilI, ifaA, indexS, Int.reduceToNat, cond_true, cond_false, ↓reduceIte, reduceCtorEq, Nat.reduceLT, Nat.reduceLeDiff, Nat.reduceMul, Nat.reduceEqDiff, exists_eq', implies_true, exists_true_left, tys0, tys1, tys2, tys3, und0, und1, und2, und3, md3, Tryz.ntmps3, Tryz.results3]
  refine call_ret (trimF_call D.scl) rfl rfl ?_
  simp only [q0, q1, q2, q3, q4, q5, q6, q7, q8, q9, zr0, zr1, zr2, zr3, zq0, zq1, zq2, zq3, zq4, Nat.reduceAdd, Nat.reduceSub, lenA, convA, indexA, flatP, nilI, ifaA, indexS, Int.reduceToNat, cond_true, cond_false, ↓reduceIte, reduceCtorEq, Nat.reduceLT, Nat.reduceLeDiff, Nat.reduceMul, Nat.reduceEqDiff, exists_eq', implies_true, exists_true_left, tys0, tys1, tys2, tys3, und0, und1, und2, und3, md3, Tryz.ntmps3, Tryz.results3]
  have z7 := L.l_due
  have z8 := L.l_net
  have z9 := L.l_rt
  have z10 := L.l_wh
  have z11 := L.l_lar
  have z12 := L.l_saf
  have z13 := L.l_alv
  repeat (refine ⟨by first | omega | (simp only [List.length_append, List.length_cons, List.length_nil]; omega), ?_⟩)
  refine call_ret (decimal_call (dueF bs rs n w) m3.i.1 m3.i.2) rfl rfl ?_
  simp only [q0, q1, q2, q3, q4, q5, q6, q7, q8, q9, zr0, zr1, zr2, zr3, zq0, zq1, zq2, zq3, zq4, Nat.reduceAdd, Nat.reduceSub, lenA, convA, indexA, flatP, nilI, ifaA, indexS, Int.reduceToNat, cond_true, cond_false, ↓reduceIte, reduceCtorEq, Nat.reduceLT, Nat.reduceLeDiff, Nat.reduceMul, Nat.reduceEqDiff, exists_eq', implies_true, exists_true_left, tys0, tys1, tys2, tys3, und0, und1, und2, und3, md3, Tryz.ntmps3, Tryz.results3]
  repeat (refine ⟨by first | omega | (simp only [List.length_append, List.length_cons, List.length_nil]; omega), ?_⟩)
  refine call_ret (decimal_call (netF bs rs n w) m4.i.1 m4.i.2) rfl rfl ?_
  simp only [q0, q1, q2, q3, q4, q5, q6, q7, q8, q9, zr0, zr1, zr2, zr3, zq0, zq1, zq2, zq3, zq4, Nat.reduceAdd, Nat.reduceSub, lenA, convA, indexA, flatP, nilI, ifaA, indexS, Int.reduceToNat, cond_true, cond_false, ↓reduceIte, reduceCtorEq, Nat.reduceLT, Nat.reduceLeDiff, Nat.reduceMul, Nat.reduceEqDiff, exists_eq', implies_true, exists_true_left, tys0, tys1, tys2, tys3, und0, und1, und2, und3, md3, Tryz.ntmps3, Tryz.results3]
  repeat (refine ⟨by first | omega | (simp only [List.length_append, List.length_cons, List.length_nil]; omega), ?_⟩)
  refine call_ret (decimal_call (rtG bs rs n) m5.i.1 m5.i.2) rfl rfl ?_
  simp only [q0, q1, q2, q3, q4, q5, q6, q7, q8, q9, zr0, zr1, zr2, zr3, zq0, zq1, zq2, zq3, zq4, Nat.reduceAdd, Nat.reduceSub, lenA, convA, indexA, flatP, nilI, ifaA, indexS, Int.reduceToNat, cond_true, cond_false, ↓reduceIte, reduceCtorEq, Nat.reduceLT, Nat.reduceLeDiff, Nat.reduceMul, Nat.reduceEqDiff, exists_eq', implies_true, exists_true_left, tys0, tys1, tys2, tys3, und0, und1, und2, und3, md3, Tryz.ntmps3, Tryz.results3]
  repeat (refine ⟨by first | omega | (simp only [List.length_append, List.length_cons, List.length_nil]; omega), ?_⟩)
  refine call_ret (decimal_call (safV ra n) m6.i.1 m6.i.2) rfl rfl ?_
  simp only [q0, q1, q2, q3, q4, q5, q6, q7, q8, q9, zr0, zr1, zr2, zr3, zq0, zq1, zq2, zq3, zq4, Nat.reduceAdd, Nat.reduceSub, lenA, convA, indexA, flatP, nilI, ifaA, indexS, Int.reduceToNat, cond_true, cond_false, ↓reduceIte, reduceCtorEq, Nat.reduceLT, Nat.reduceLeDiff, Nat.reduceMul, Nat.reduceEqDiff, exists_eq', implies_true, exists_true_left, tys0, tys1, tys2, tys3, und0, und1, und2, und3, md3, Tryz.ntmps3, Tryz.results3]
  repeat (refine ⟨by first | omega | (simp only [List.length_append, List.length_cons, List.length_nil]; omega), ?_⟩)
  have co := implCount_call (linT 10 (topO bs rs ps ra q n w)) (by have := topO_len H; omega)
  rw [top_out H] at co
  refine call_ret co rfl rfl ?_
  have ed : IntKind.i64.wrap (dueF bs rs n w + netF bs rs n w) = n := by
    have nf : netF bs rs n w = n - dueF bs rs n w := rfl
    rw [w64 (by unfold okM at m3 m4; omega) (by unfold okM at m3 m4; omega), nf]; omega
  simp only [q0, q1, q2, q3, q4, q5, q6, q7, q8, q9, zr0, zr1, zr2, zr3, zq0, zq1, zq2, zq3, zq4, Nat.reduceAdd, Nat.reduceSub, lenA, convA, indexA, flatP, nilI, ifaA, indexS, Int.reduceToNat, cond_true, cond_false, ↓reduceIte, reduceCtorEq, Nat.reduceLT, Nat.reduceLeDiff, Nat.reduceMul, Nat.reduceEqDiff, exists_eq', implies_true, exists_true_left, tys0, tys1, tys2, tys3, und0, und1, und2, und3, md3, Tryz.ntmps3, Tryz.results3, ed]
  refine br_yes (beq_iff_eq.2 (by simp [linT, topO])) ?_
  simp only [q0, q1, q2, q3, q4, q5, q6, q7, q8, q9, zr0, zr1, zr2, zr3, zq0, zq1, zq2, zq3, zq4, Nat.reduceAdd, Nat.reduceSub, lenA, convA, indexA, flatP, nilI, ifaA, indexS, Int.reduceToNat, cond_true, cond_false, ↓reduceIte, reduceCtorEq, Nat.reduceLT, Nat.reduceLeDiff, Nat.reduceMul, Nat.reduceEqDiff, exists_eq', implies_true, exists_true_left, tys0, tys1, tys2, tys3, und0, und1, und2, und3, md3, Tryz.ntmps3, Tryz.results3, ed, beq_self_eq_true]
  repeat (refine br_yes rfl ?_; simp only [q0, q1, q2, q3, q4, q5, q6, q7, q8, q9, zr0, zr1, zr2, zr3, zq0, zq1, zq2, zq3, zq4, Nat.reduceAdd, Nat.reduceSub, lenA, convA, indexA, flatP, nilI, ifaA, indexS, Int.reduceToNat, cond_true, cond_false, ↓reduceIte, reduceCtorEq, Nat.reduceLT, Nat.reduceLeDiff, Nat.reduceMul, Nat.reduceEqDiff, exists_eq', implies_true, exists_true_left, tys0, tys1, tys2, tys3, und0, und1, und2, und3, md3, Tryz.ntmps3, Tryz.results3, ed, beq_self_eq_true])
  have sd := implSame_call (trB bs rs) (trR bs rs) ps ra q (trB bs rs) (trR bs rs) ps ra q (by have := H.dt.len; omega) (by have := H.dt.len; omega) (by have := H.dt.len; omega) (by have := H.dt.len; omega) (by have := H.dt.len; omega)
  rw [sameD_self] at sd
  refine call_ret sd rfl rfl ?_
  simp only [q0, q1, q2, q3, q4, q5, q6, q7, q8, q9, zr0, zr1, zr2, zr3, zq0, zq1, zq2, zq3, zq4, Nat.reduceAdd, Nat.reduceSub, lenA, convA, indexA, flatP, nilI, ifaA, indexS, Int.reduceToNat, cond_true, cond_false, ↓reduceIte, reduceCtorEq, Nat.reduceLT, Nat.reduceLeDiff, Nat.reduceMul, Nat.reduceEqDiff, exists_eq', implies_true, exists_true_left, tys0, tys1, tys2, tys3, und0, und1, und2, und3, md3, Tryz.ntmps3, Tryz.results3]
  exact PostR.pure ⟨rfl, rfl⟩ rfl
theorem u8_wf {x : Int} (h : (Lit.int .u8 x).wf = true) : 0 ≤ x ∧ x ≤ 255 := by
  simp [Lit.wf, IntKind.min, IntKind.max, IntKind.bits, IntKind.signed] at h
  omega
theorem ofT_bytes {a : AV} (h : OfT Tryz.prog 8 22 [a]) : ∃ xs : List Int, a = .ro (kint .u8 xs) ∧ byteL xs := by
  obtain ⟨xs, h1, h2, h3⟩ := ofT_kint Tryz.underlying22 Tryz.underlying5 h
  exact ⟨xs, h1, fun x hx => u8_wf (h3 x hx)⟩
theorem topLaw (l0 l1 : AV) (of0 : OfT Tryz.prog 8 22 [l0]) (of1 : OfT Tryz.prog 8 22 [l1]) : CallA Tryz.prog 3 [l0, l1] [] (Ret (.bool true) []) := by
  obtain ⟨c, rfl, hc⟩ := ofT_bytes of0
  obtain ⟨m, rfl, hm⟩ := ofT_bytes of1
  exact top_call c m hc hm
end Go.Proofs.YteenpfegadlkfaaGreatDoor
