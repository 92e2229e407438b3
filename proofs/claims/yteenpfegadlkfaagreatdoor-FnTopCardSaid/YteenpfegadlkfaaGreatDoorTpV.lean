/- A script that is run. -/
import Derived.Test.YteenpfegadlkfaaGreatDoorTpU
import Derived.Test.YteenpfegadlkfaaGreatDoorTzH1
set_option maxRecDepth 10000
set_option maxHeartbeats 8000000
set_option linter.unusedSimpArgs false
set_option linter.unusedVariables false
namespace Go.Proofs.YteenpfegadlkfaaGreatDoor
open Go Go.Abs
abbrev DV := List Int × List Int × List Int × List Int × List Nat
def dvA (d : DV) : AV := deskV d.1 d.2.1 d.2.2.1 d.2.2.2.1 d.2.2.2.2
structure Run (L O : List (List UInt8)) (S : Nat → DV) : Prop where
  no : ∀ x ∈ L, (10 : UInt8) ∉ x
  ol : O.length = L.length
  short : (linT 10 L).length ≤ 16000
  oshort : (linT 10 O).length ≤ 1000000
  valid : CallA Tryz.prog 13 [dvA (S 0)] [] (Ret (.bool true) [])
  clone : CallA Tryz.prog 33 [dvA (S 0)] [] (Ret (dvA (S 0)) [])
  cmd : ∀ i, (h : i < L.length) → CallA Tryz.prog 34 [dvA (S i), .str L[i]] [] (Ret (.tup [dvA (S (i + 1)), .str (O.getD i [])]) [])
theorem lin_len (c : UInt8) : ∀ (L : List (List UInt8)), L.length ≤ (linT c L).length
  | [] => Nat.le_refl _
  | x :: L => by
    have := lin_len c L
    have e : linT c (x :: L) = x ++ [c] ++ linT c L := by simp [linT]
    rw [e]; simp; omega
theorem linesF_call (L : List (List UInt8)) (h : ∀ x ∈ L, (10 : UInt8) ∉ x) (hs : (linT 10 L).length ≤ 16000) : CallA Tryz.prog 32 [.str (linT 10 L)] [] (Ret (.tup [.ro (strs L), .bool true]) []) := by
  have c := linesOf_call (linT 10 L) (by omega)
  have e := cutA_lines 10 L h
  have n : Lib.countByte (linT 10 L) 10 = L.length := by
    have := cutA_len 10 (linT 10 L) []
    rw [e] at this
    simp at this
    omega
  rw [n, e] at c
  have g : (L ++ [[]]).getD L.length [] = [] := by simp
  rw [g, decide_eq_true hs] at c
  refine CallA.frozen 3 c ?_
  have t : (strs (L ++ [[]])).take L.length = strs L := by simp [strs]
  have m : ((strs (L ++ [[]])).take L.length).map (view 1 [strB (L ++ [[]])]) = strs L := by
    rw [t]; simp [strs, view_str]
  have d : decide (0 + L.length ≤ (strs (L ++ [[]])).length) = true := decide_eq_true (by rw [strs_len]; simp)
  simp only [view_tup, List.map_cons, List.map_nil, view_bool, view_sl, strB, List.getElem?_cons_zero, List.drop_zero] at m ⊢
  rw [m, d]
  rfl
theorem lin_take (c : UInt8) (O : List (List UInt8)) (i : Nat) : (linT c (O.take i)).length ≤ (linT c O).length := by
  have e : linT c O = linT c (O.take i) ++ linT c (O.drop i) := by
    unfold linT
    rw [← List.flatMap_append, List.take_append_drop]
  rw [e]; simp
def dvB (d : DV) : Blk := { ty := 29, w := 5, els := [.agg [.ro (ints d.1), .ro (ints d.2.1), .ro (ints d.2.2.1), .ro (ints d.2.2.2.1), .ro (flts d.2.2.2.2)]] }
def resD : Blk := { ty := 29, w := 5, els := [.agg [.nils, .nils, .nils, .nils, .nils]] }
def stR (S : Nat → DV) (O : List (List UInt8)) : Nat → List Blk
  | 0 => [dvB (S 0), resD, bldB .nilp .nils]
  | i + 1 => [dvB (S (i + 1)), resD, bldB (.ptr 2 0 0) (.sl 3 0 (linT 10 (O.take (i + 1))).length), bytB (linT 10 (O.take (i + 1)))]
def RunS (D : DV) (hp : List Blk) : Prop := hp[0]? = some (dvB D) ∧ True
def mdR : Nat → List Bool := fun _ => []
theorem run_call {L O : List (List UInt8)} {S : Nat → DV} (H : Run L O S) (h1 : 1 ≤ L.length) : CallA Tryz.prog 11 [dvA (S 0), .str (linT 10 L)] [] (Ret (.tup [dvA (S L.length), .str (linT 10 O), .bool true]) []) := by
  have ll := lin_len 10 L
  have sh := H.short
  have lf := linesF_call L H.no H.short
  have vd := H.valid
  have cl := H.clone
  unfold dvA deskV at vd cl ⊢
  refine CallP.out (t := .mk) (go_in (md := mdR) mixed Tryz.func11 rfl go11 (by kernel_rfl) ?_)
  simp only [q0, q1, q2, q3, q4, q5, q6, q7, q8, q9, zr0, zr1, zr2, zr3, zq0, zq1, zq2, zq3, zq4, Nat.reduceAdd, Nat.reduceSub, lenA, convA, indexA, flatP, nilI, ifaA, indexS, Int.reduceToNat, cond_true, cond_false, ↓reduceIte, reduceCtorEq, Nat.reduceLT, Nat.reduceLeDiff, Nat.reduceMul, Nat.reduceEqDiff, exists_eq', implies_true, exists_true_left, tys0, tys1, tys2, tys3, und0, und1, und2, und3, md11, Tryz.ntmps11, Tryz.results11, mdR]
  refine call_ret lf rfl rfl ?_
  simp only [q0, q1, q2, q3, q4, q5, q6, q7, q8, q9, zr0, zr1, zr2, zr3, zq0, zq1, zq2, zq3, zq4, Nat.reduceAdd, Nat.reduceSub, lenA, convA, indexA, flatP, nilI, ifaA, indexS, Int.reduceToNat, cond_true, cond_false, ↓reduceIte, reduceCtorEq, Nat.reduceLT, Nat.reduceLeDiff, Nat.reduceMul, Nat.reduceEqDiff, exists_eq', implies_true, exists_true_left, tys0, tys1, tys2, tys3, und0, und1, und2, und3, md11, Tryz.ntmps11, Tryz.results11, mdR]
  refine call_ret vd rfl rfl ?_
  simp only [q0, q1, q2, q3, q4, q5, q6, q7, q8, q9, zr0, zr1, zr2, zr3, zq0, zq1, zq2, zq3, zq4, Nat.reduceAdd, Nat.reduceSub, lenA, convA, indexA, flatP, nilI, ifaA, indexS, Int.reduceToNat, cond_true, cond_false, ↓reduceIte, reduceCtorEq, Nat.reduceLT, Nat.reduceLeDiff, Nat.reduceMul, Nat.reduceEqDiff, exists_eq', implies_true, exists_true_left, tys0, tys1, tys2, tys3, und0, und1, und2, und3, md11, Tryz.ntmps11, Tryz.results11, mdR]
  refine call_ret cl rfl rfl ?_
  simp only [q0, q1, q2, q3, q4, q5, q6, q7, q8, q9, zr0, zr1, zr2, zr3, zq0, zq1, zq2, zq3, zq4, Nat.reduceAdd, Nat.reduceSub, lenA, convA, indexA, flatP, nilI, ifaA, indexS, Int.reduceToNat, cond_true, cond_false, ↓reduceIte, reduceCtorEq, Nat.reduceLT, Nat.reduceLeDiff, Nat.reduceMul, Nat.reduceEqDiff, exists_eq', implies_true, exists_true_left, tys0, tys1, tys2, tys3, und0, und1, und2, und3, md11, Tryz.ntmps11, Tryz.results11, mdR]
  refine go_round (md := md11) mixed (by kernel_rfl) (fun i : {i : Nat // i ≤ L.length} => ⟨[.any, .any, .ptr 0 0 0, .any, .ptr 1 0 0, .any, .any, .any, .any, .ptr 2 0 0, .any, .any, .any, .any, .any, .any, .any, .any, .any, .any, .any, .any, .any, .any, .any, .any, .any, .any, .any, .any, .any, .ro (strs L), .int .i64 (L.length : Int), .int .i64 (i.1 : Int), .any, .any, .any, .any, .any, .any, .any, .any, .any, .any, .any, .any, .any, .any, .any, .any, .any, .any], stR S O i.1⟩) (fun i => L.length - i.1) ⟨0, by omega⟩ ?_ ?_
  · exact weak_drop (by simp) (by simp [DropHp, ints_below, flts_below, stR, dvB, resD, bldB, strs_len, allBelow_cons, allBelow_nil, below, belowM, belowL]) (by simp [DropTm, DropV, below, belowM, belowL, stR, dvB, resD, bldB, strs_len, allBelow_cons, allBelow_nil, below, belowM, belowL])
  rintro ⟨i, hi⟩
  have os := H.oshort
  have sl := strs_len L
  have tk : (linT 10 (O.take i)).length ≤ 1000000 := by
    have := lin_take 10 O i
    omega
  simp only [q0, q1, q2, q3, q4, q5, q6, q7, q8, q9, zr0, zr1, zr2, zr3, zq0, zq1, zq2, zq3, zq4, Nat.reduceAdd, Nat.reduceSub, lenA, convA, indexA, flatP, nilI, ifaA, indexS, Int.reduceToNat, cond_true, cond_false, ↓reduceIte, reduceCtorEq, Nat.reduceLT, Nat.reduceLeDiff, Nat.reduceMul, Nat.reduceEqDiff, exists_eq', implies_true, exists_true_left, tys0, tys1, tys2, tys3, und0, und1, und2, und3, md11, Tryz.ntmps11, Tryz.results11, mdR, sl]
  refine br_intro (fun g => ?_) (fun g => ?_) <;> simp only [q0, q1, q2, q3, q4, q5, q6, q7, q8, q9, zr0, zr1, zr2, zr3, zq0, zq1, zq2, zq3, zq4, Nat.reduceAdd, Nat.reduceSub, lenA, convA, indexA, flatP, nilI, ifaA, indexS, Int.reduceToNat, cond_true, cond_false, ↓reduceIte, reduceCtorEq, Nat.reduceLT, Nat.reduceLeDiff, Nat.reduceMul, Nat.reduceEqDiff, exists_eq', implies_true, exists_true_left, tys0, tys1, tys2, tys3, und0, und1, und2, und3, md11, Tryz.ntmps11, Tryz.results11, mdR, sl]
  · have hi' : i < L.length := by have := of_decide_eq_true g; omega
    have hI : (i : Int) < (L.length : Int) := by omega
    have hc := H.cmd i hi'
    unfold dvA deskV at hc
    have ho : i < O.length := by have := H.ol; omega
    have og : O.getD i [] = O[i] := getD_at O [] i ho
    rw [og] at hc
    have tn : O.take (i + 1) = O.take i ++ [O[i]] := take_snoc _ _ ho
    have tl : (linT 10 (O.take (i + 1))).length ≤ 1000000 := by
      have := lin_take 10 O (i + 1)
      omega
    have tq : linT 10 (O.take (i + 1)) = linT 10 (O.take i) ++ (O[i] ++ [10]) := by rw [tn, linT_snoc]
    have w1 : IntKind.i64.wrap ((i : Int) + 1) = ((i + 1 : Nat) : Int) := w64_succ i (by omega)
    have ql : (linT 10 (O.take (i + 1))).length = (linT 10 (O.take i)).length + (O[i].length + 1) := by rw [tq]; simp
    cases i with
    | zero =>
      have z : linT 10 (O.take 0) = [] := rfl
      rw [z, List.nil_append] at tq
      simp only [q0, q1, q2, q3, q4, q5, q6, q7, q8, q9, zr0, zr1, zr2, zr3, zq0, zq1, zq2, zq3, zq4, Nat.reduceAdd, Nat.reduceSub, lenA, convA, indexA, flatP, nilI, ifaA, indexS, Int.reduceToNat, cond_true, cond_false, ↓reduceIte, reduceCtorEq, Nat.reduceLT, Nat.reduceLeDiff, Nat.reduceMul, Nat.reduceEqDiff, exists_eq', implies_true, exists_true_left, tys0, tys1, tys2, tys3, und0, und1, und2, und3, md11, Tryz.ntmps11, Tryz.results11, mdR, stR, dvB, resD, deskV, sl, hi', hI, strs_get]
      refine call_ret hc rfl rfl ?_
      simp only [q0, q1, q2, q3, q4, q5, q6, q7, q8, q9, zr0, zr1, zr2, zr3, zq0, zq1, zq2, zq3, zq4, Nat.reduceAdd, Nat.reduceSub, lenA, convA, indexA, flatP, nilI, ifaA, indexS, Int.reduceToNat, cond_true, cond_false, ↓reduceIte, reduceCtorEq, Nat.reduceLT, Nat.reduceLeDiff, Nat.reduceMul, Nat.reduceEqDiff, exists_eq', implies_true, exists_true_left, tys0, tys1, tys2, tys3, und0, und1, und2, und3, md11, Tryz.ntmps11, Tryz.results11, mdR, stR, dvB, resD, deskV, sl]
      refine ⟨by omega, ?_⟩
      refine call_subG [2] (write_fresh (O[0] ++ [10]) (by simp) (by simp; omega)) (by decide) ⟨⟨rfl, rfl⟩, trivial⟩ rfl rfl (hp2 := [dvB (S 1), resD, bldB (.ptr 2 0 0) (.sl 4 0 (O[0] ++ [10]).length), dvB (S 1), bytB (O[0] ++ [10])]) (by simp [subHp, putBack, renB, upName, ren, renM, renL, bldB, bytB, byts_ren, dvB, resD]) ?_
      simp only [q0, q1, q2, q3, q4, q5, q6, q7, q8, q9, zr0, zr1, zr2, zr3, zq0, zq1, zq2, zq3, zq4, Nat.reduceAdd, Nat.reduceSub, lenA, convA, indexA, flatP, nilI, ifaA, indexS, Int.reduceToNat, cond_true, cond_false, ↓reduceIte, reduceCtorEq, Nat.reduceLT, Nat.reduceLeDiff, Nat.reduceMul, Nat.reduceEqDiff, exists_eq', implies_true, exists_true_left, tys0, tys1, tys2, tys3, und0, und1, und2, und3, md11, Tryz.ntmps11, Tryz.results11, mdR, w1, ren, renM, renL]
      refine ⟨⟨0 + 1, by omega⟩, by show L.length - (0 + 1) < _; omega, ?_⟩
      show Weak _ _ ⟨_, _⟩
      exact weak_names [0, 1, 2, 4] (by decide) (by decide) (by decide) (by simp [SubG, renB, ints_ren, ints_below, kint_ren, kint_below, ren, renM, renL, tq, w1, stR, dvB, resD, bldB, bytB, byts_below, byts_ren, sl, allBelow_cons, allBelow_nil, below, belowM, belowL]) (by simp [LeTm, LeV, ren, renM, renL, below, belowM, belowL, tq, w1, stR, dvB, resD, bldB, bytB, byts_below, byts_ren, sl, allBelow_cons, allBelow_nil, below, belowM, belowL])
    | succ i =>
      simp only [q0, q1, q2, q3, q4, q5, q6, q7, q8, q9, zr0, zr1, zr2, zr3, zq0, zq1, zq2, zq3, zq4, Nat.reduceAdd, Nat.reduceSub, lenA, convA, indexA, flatP, nilI, ifaA, indexS, Int.reduceToNat, cond_true, cond_false, ↓reduceIte, reduceCtorEq, Nat.reduceLT, Nat.reduceLeDiff, Nat.reduceMul, Nat.reduceEqDiff, exists_eq', implies_true, exists_true_left, tys0, tys1, tys2, tys3, und0, und1, und2, und3, md11, Tryz.ntmps11, Tryz.results11, mdR, stR, dvB, resD, deskV, sl, hi', hI, strs_get]
      refine call_ret hc rfl rfl ?_
      simp only [q0, q1, q2, q3, q4, q5, q6, q7, q8, q9, zr0, zr1, zr2, zr3, zq0, zq1, zq2, zq3, zq4, Nat.reduceAdd, Nat.reduceSub, lenA, convA, indexA, flatP, nilI, ifaA, indexS, Int.reduceToNat, cond_true, cond_false, ↓reduceIte, reduceCtorEq, Nat.reduceLT, Nat.reduceLeDiff, Nat.reduceMul, Nat.reduceEqDiff, exists_eq', implies_true, exists_true_left, tys0, tys1, tys2, tys3, und0, und1, und2, und3, md11, Tryz.ntmps11, Tryz.results11, mdR, stR, dvB, resD, deskV, sl]
      refine ⟨by omega, ?_⟩
      refine call_subG [2, 3] (write_used (linT 10 (O.take (i + 1))) (O[i + 1] ++ [10]) (by simp; omega)) (by decide) ⟨⟨rfl, rfl⟩, ⟨by simp [renB, bytB, byts_ren], byts_below _ _⟩, trivial⟩ rfl rfl (hp2 := [dvB (S (i + 1 + 1)), resD, bldB (.ptr 2 0 0) (.sl 5 0 ((linT 10 (O.take (i + 1))).length + (O[i + 1] ++ [10]).length)), { bytB (linT 10 (O.take (i + 1))) with live := false }, dvB (S (i + 1 + 1)), bytB (linT 10 (O.take (i + 1)) ++ (O[i + 1] ++ [10]))]) (by simp [subHp, putBack, renB, upName, ren, renM, renL, bldB, bytB, byts_ren, dvB, resD]) ?_
      simp only [q0, q1, q2, q3, q4, q5, q6, q7, q8, q9, zr0, zr1, zr2, zr3, zq0, zq1, zq2, zq3, zq4, Nat.reduceAdd, Nat.reduceSub, lenA, convA, indexA, flatP, nilI, ifaA, indexS, Int.reduceToNat, cond_true, cond_false, ↓reduceIte, reduceCtorEq, Nat.reduceLT, Nat.reduceLeDiff, Nat.reduceMul, Nat.reduceEqDiff, exists_eq', implies_true, exists_true_left, tys0, tys1, tys2, tys3, und0, und1, und2, und3, md11, Tryz.ntmps11, Tryz.results11, mdR, w1, ren, renM, renL]
      refine ⟨⟨i + 1 + 1, by omega⟩, by show L.length - (i + 1 + 1) < _; omega, ?_⟩
      show Weak _ _ ⟨_, _⟩
      exact weak_names [0, 1, 2, 5] (by decide) (by decide) (by decide) (by simp [SubG, renB, ints_ren, ints_below, kint_ren, kint_below, ren, renM, renL, tq, w1, stR, dvB, resD, bldB, bytB, byts_below, byts_ren, List.length_append, sl, allBelow_cons, allBelow_nil, below, belowM, belowL]) (by simp [LeTm, LeV, ren, renM, renL, below, belowM, belowL, tq, w1, stR, dvB, resD, bldB, bytB, byts_below, byts_ren, List.length_append, sl, allBelow_cons, allBelow_nil, below, belowM, belowL])
  · have hi' : i = L.length := by have := of_decide_eq_false g; omega
    subst hi'
    obtain ⟨n, hn⟩ : ∃ n, L.length = n + 1 := ⟨L.length - 1, by omega⟩
    have tO : O.take L.length = O := by rw [← H.ol]; exact List.take_length
    have st : stR S O L.length = [dvB (S L.length), resD, bldB (.ptr 2 0 0) (.sl 3 0 (linT 10 O).length), bytB (linT 10 O)] := by
      rw [hn] at tO ⊢
      show [dvB (S (n + 1)), resD, bldB (.ptr 2 0 0) (.sl 3 0 (linT 10 (O.take (n + 1))).length), bytB (linT 10 (O.take (n + 1)))] = _
      rw [tO]
    have hne : linT 10 O ≠ [] := fun e => by
      have h7 := lin_len 10 O
      rw [e] at h7
      have h8 := H.ol
      have h9 : ([] : List UInt8).length = 0 := rfl
      omega
    rw [st]
    have hS : RunS (S L.length) [dvB (S L.length), resD, bldB (.ptr 2 0 0) (.sl 3 0 (linT 10 O).length), bytB (linT 10 O)] := ⟨rfl, trivial⟩
    generalize S L.length = D at *
    refine go_float mixed (RunS D) [0, 1, 2, 3, 4, 5] [0, 0, 2, 1, 1, 1] [] [] (by kernel_rfl) ?_
    refine om_still (by rfl) (by rfl) (by rfl) (by rfl) hS (v := .agg [.ro (ints D.1), .ro (ints D.2.1), .ro (ints D.2.2.1), .ro (ints D.2.2.2.1), .ro (flts D.2.2.2.2)]) (fun hp hH => by obtain ⟨h0, _⟩ := hH; simp only [q0, q1, q2, q3, q4, q5, q6, q7, q8, q9, zr0, zr1, zr2, zr3, zq0, zq1, zq2, zq3, zq4, Nat.reduceAdd, Nat.reduceSub, lenA, convA, indexA, flatP, nilI, ifaA, indexS, Int.reduceToNat, cond_true, cond_false, ↓reduceIte, reduceCtorEq, Nat.reduceLT, Nat.reduceLeDiff, Nat.reduceMul, Nat.reduceEqDiff, exists_eq', implies_true, exists_true_left, tys0, tys1, tys2, tys3, und0, und1, und2, und3, md11, Tryz.ntmps11, Tryz.results11, h0, dvB]) ?_; try simp only []; simp only [q0, q1, q2, q3, q4, q5, q6, q7, q8, q9, zr0, zr1, zr2, zr3, zq0, zq1, zq2, zq3, zq4, Nat.reduceAdd, Nat.reduceSub, lenA, convA, indexA, flatP, nilI, ifaA, indexS, Int.reduceToNat, cond_true, cond_false, ↓reduceIte, reduceCtorEq, Nat.reduceLT, Nat.reduceLeDiff, Nat.reduceMul, Nat.reduceEqDiff, exists_eq', implies_true, exists_true_left, tys0, tys1, tys2, tys3, und0, und1, und2, und3, md11, Tryz.ntmps11, Tryz.results11]
    refine om_still (by rfl) (by rfl) (by rfl) (by rfl) hS (v := .ptr 2 0 0) (fun hp hH => by obtain ⟨h0, _⟩ := hH; simp only [q0, q1, q2, q3, q4, q5, q6, q7, q8, q9, zr0, zr1, zr2, zr3, zq0, zq1, zq2, zq3, zq4, Nat.reduceAdd, Nat.reduceSub, lenA, convA, indexA, flatP, nilI, ifaA, indexS, Int.reduceToNat, cond_true, cond_false, ↓reduceIte, reduceCtorEq, Nat.reduceLT, Nat.reduceLeDiff, Nat.reduceMul, Nat.reduceEqDiff, exists_eq', implies_true, exists_true_left, tys0, tys1, tys2, tys3, und0, und1, und2, und3, md11, Tryz.ntmps11, Tryz.results11, h0]) ?_; try simp only []; simp only [q0, q1, q2, q3, q4, q5, q6, q7, q8, q9, zr0, zr1, zr2, zr3, zq0, zq1, zq2, zq3, zq4, Nat.reduceAdd, Nat.reduceSub, lenA, convA, indexA, flatP, nilI, ifaA, indexS, Int.reduceToNat, cond_true, cond_false, ↓reduceIte, reduceCtorEq, Nat.reduceLT, Nat.reduceLeDiff, Nat.reduceMul, Nat.reduceEqDiff, exists_eq', implies_true, exists_true_left, tys0, tys1, tys2, tys3, und0, und1, und2, und3, md11, Tryz.ntmps11, Tryz.results11]
    refine om_float (by rfl) (by rfl) (by rfl) ?_
    simp only [q0, q1, q2, q3, q4, q5, q6, q7, q8, q9, zr0, zr1, zr2, zr3, zq0, zq1, zq2, zq3, zq4, Nat.reduceAdd, Nat.reduceSub, lenA, convA, indexA, flatP, nilI, ifaA, indexS, Int.reduceToNat, cond_true, cond_false, ↓reduceIte, reduceCtorEq, Nat.reduceLT, Nat.reduceLeDiff, Nat.reduceMul, Nat.reduceEqDiff, exists_eq', implies_true, exists_true_left, tys0, tys1, tys2, tys3, und0, und1, und2, und3, md11, Tryz.ntmps11, Tryz.results11]
    refine call_subG [2, 3] (builderStringA (.ptr 0 0 0) (linT 10 O) hne (by omega)) (by decide) ⟨⟨rfl, rfl⟩, ⟨by simp [renB, bytB, byts_ren], byts_below _ _⟩, trivial⟩ rfl rfl (hp2 := [dvB D, resD, { bldB (.ptr 2 0 0) (.sl 3 0 (linT 10 O).length) with live := false }, { bytB (linT 10 O) with live := false }]) (by simp [subHp, putBack, renB, upName, ren, renM, renL, bldB, bytB, byts_ren, dvB, resD]) ?_
    simp only [q0, q1, q2, q3, q4, q5, q6, q7, q8, q9, zr0, zr1, zr2, zr3, zq0, zq1, zq2, zq3, zq4, Nat.reduceAdd, Nat.reduceSub, lenA, convA, indexA, flatP, nilI, ifaA, indexS, Int.reduceToNat, cond_true, cond_false, ↓reduceIte, reduceCtorEq, Nat.reduceLT, Nat.reduceLeDiff, Nat.reduceMul, Nat.reduceEqDiff, exists_eq', implies_true, exists_true_left, tys0, tys1, tys2, tys3, und0, und1, und2, und3, md11, Tryz.ntmps11, Tryz.results11, ren, renM, renL]
    refine ⟨.inl trivial, ⟨rfl, trivial⟩, ?_⟩
    refine om_one (by rfl) (by rfl) (by rfl) ?_; try simp only []; simp only [q0, q1, q2, q3, q4, q5, q6, q7, q8, q9, zr0, zr1, zr2, zr3, zq0, zq1, zq2, zq3, zq4, Nat.reduceAdd, Nat.reduceSub, lenA, convA, indexA, flatP, nilI, ifaA, indexS, Int.reduceToNat, cond_true, cond_false, ↓reduceIte, reduceCtorEq, Nat.reduceLT, Nat.reduceLeDiff, Nat.reduceMul, Nat.reduceEqDiff, exists_eq', implies_true, exists_true_left, tys0, tys1, tys2, tys3, und0, und1, und2, und3, md11, Tryz.ntmps11, Tryz.results11, dvB, resD]
    refine om_one (by rfl) (by rfl) (by rfl) ?_; try simp only []; simp only [q0, q1, q2, q3, q4, q5, q6, q7, q8, q9, zr0, zr1, zr2, zr3, zq0, zq1, zq2, zq3, zq4, Nat.reduceAdd, Nat.reduceSub, lenA, convA, indexA, flatP, nilI, ifaA, indexS, Int.reduceToNat, cond_true, cond_false, ↓reduceIte, reduceCtorEq, Nat.reduceLT, Nat.reduceLeDiff, Nat.reduceMul, Nat.reduceEqDiff, exists_eq', implies_true, exists_true_left, tys0, tys1, tys2, tys3, und0, und1, und2, und3, md11, Tryz.ntmps11, Tryz.results11]
    refine om_one (by rfl) (by rfl) (by rfl) ?_; try simp only []; simp only [q0, q1, q2, q3, q4, q5, q6, q7, q8, q9, zr0, zr1, zr2, zr3, zq0, zq1, zq2, zq3, zq4, Nat.reduceAdd, Nat.reduceSub, lenA, convA, indexA, flatP, nilI, ifaA, indexS, Int.reduceToNat, cond_true, cond_false, ↓reduceIte, reduceCtorEq, Nat.reduceLT, Nat.reduceLeDiff, Nat.reduceMul, Nat.reduceEqDiff, exists_eq', implies_true, exists_true_left, tys0, tys1, tys2, tys3, und0, und1, und2, und3, md11, Tryz.ntmps11, Tryz.results11]
    refine om_nil ?_
    simp only [q0, q1, q2, q3, q4, q5, q6, q7, q8, q9, zr0, zr1, zr2, zr3, zq0, zq1, zq2, zq3, zq4, Nat.reduceAdd, Nat.reduceSub, lenA, convA, indexA, flatP, nilI, ifaA, indexS, Int.reduceToNat, cond_true, cond_false, ↓reduceIte, reduceCtorEq, Nat.reduceLT, Nat.reduceLeDiff, Nat.reduceMul, Nat.reduceEqDiff, exists_eq', implies_true, exists_true_left, tys0, tys1, tys2, tys3, und0, und1, und2, und3, md11, Tryz.ntmps11, Tryz.results11, mdR]
    exact PostR.pure ⟨rfl, rfl⟩ rfl
end Go.Proofs.YteenpfegadlkfaaGreatDoor
