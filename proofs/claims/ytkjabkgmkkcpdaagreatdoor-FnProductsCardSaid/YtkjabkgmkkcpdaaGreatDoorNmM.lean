/- Lists of complex numbers as texts, and read back.  -/
import Derived.Test.YtkjabkgmkkcpdaaGreatDoorNmL
set_option maxRecDepth 10000
set_option maxHeartbeats 4000000
set_option linter.unusedSimpArgs false
set_option linter.unusedVariables false
namespace Go.Proofs.YtkjabkgmkkcpdaaGreatDoor
open Go Go.Abs
def cpxs (l : List (Nat × Nat)) : List AV := l.map fun p => .cpx .f32 p.1 p.2
theorem cpxs_len (l : List (Nat × Nat)) : (cpxs l).length = l.length := List.length_map ..
theorem cpxs_get (l : List (Nat × Nat)) (i : Nat) (h : i < (cpxs l).length) : (cpxs l)[i] = .cpx .f32 (l[i]'(by simpa [cpxs] using h)).1 (l[i]'(by simpa [cpxs] using h)).2 := by simp [cpxs]
theorem cpxs_snoc (l : List (Nat × Nat)) (a b : Nat) : cpxs l ++ [AV.cpx .f32 a b] = cpxs (l ++ [(a, b)]) := by simp [cpxs]
theorem cpxs_kill (b : Nat) (l : List (Nat × Nat)) : (cpxs l).map (kill b) = cpxs l := by
  unfold cpxs
  rw [List.map_map]
  exact List.map_congr_left fun x _ => rfl
theorem cpxs_below (N : Nat) (l : List (Nat × Nat)) : allBelow N (cpxs l) = true := by
  unfold cpxs
  induction l with
  | nil => rfl
  | cons a l ih => rw [List.map_cons, allBelow_cons, ih]; rfl
theorem cpxs_more (b : Nat) (L : List (Nat × Nat)) (x : Nat × Nat) : (cpxs L ++ [AV.cpx .f32 x.1 x.2]).map (kill b) = cpxs (L ++ [x]) := by
  rw [cpxs_snoc, cpxs_kill]
theorem allW_cpx (a b : Nat) : AllW 1 [AV.cpx .f32 a b] := by
  intro x ha
  rw [List.mem_singleton.1 ha]
  exact ⟨rfl, rfl⟩
def hex2 (x : Nat × Nat) : List UInt8 := hexT x.1 8 ++ hexT x.2 8
theorem hex2_len (x : Nat × Nat) : (hex2 x).length = 16 := by rw [hex2, List.length_append, hexT_len, hexT_len]
def hexC2 (xs : List (Nat × Nat)) : List (List UInt8) := xs.map hex2
theorem hexC2_len (xs : List (Nat × Nat)) : (hexC2 xs).length = xs.length := List.length_map ..
theorem hexC2_ok {xs : List (Nat × Nat)} (h : xs.length ≤ 256) : OkWds 16 (hexC2 xs) := by
  refine ⟨by rw [hexC2_len]; exact h, fun w hw => ?_⟩
  obtain ⟨x, _, rfl⟩ := List.mem_map.1 hw
  exact ⟨hex2_len x, fun m => (List.mem_append.1 m).elim (hexT_44 _ _) (hexT_44 _ _)⟩
def cpxB (l : List (Nat × Nat)) : Blk := { ty := 24, w := 1, els := cpxs l }
theorem complexText_call (xs : List (Nat × Nat)) (hl : xs.length ≤ 256) (ok : ∀ x ∈ xs, okW x.1 ∧ okW x.2) : CallA Tryz.prog 17 [.ro (cpxs xs)] [] (Ret (.tup [.str (wdsT (hexC2 xs)), .bool true]) []) := by
  have fl : (cpxs xs).length = xs.length := cpxs_len _
  refine CallP.out (t := .mk) (go_in (md := md17) mixed Tryz.func17 rfl go17 (by kernel_rfl) ?_)
  simp only [q0, q1, q2, q3, q4, q5, q6, q7, q8, q9, zr0, zr1, zr2, zr3, zq0, zq1, zq2, zq3, zq4, Nat.reduceAdd, Nat.reduceSub, lenA, convA, indexA, flatP, nilI, ifaA, indexS, sliceA, Int.reduceToNat, cond_true, cond_false, ↓reduceIte, reduceCtorEq, Nat.reduceLT, Nat.reduceLeDiff, Nat.reduceMul, Nat.reduceEqDiff, exists_eq', implies_true, exists_true_left, tys0, tys1, und0, und1, md17, Tryz.ntmps17, Tryz.results17, fl]
  refine br_no (by first | exact decide_eq_false (by omega) | exact beq_false_of_ne (by omega) | (simp only [bne_eq_false_iff_eq, beq_eq_false_iff_ne, ne_eq]; omega)) ?_; simp only [q0, q1, q2, q3, q4, q5, q6, q7, q8, q9, zr0, zr1, zr2, zr3, zq0, zq1, zq2, zq3, zq4, Nat.reduceAdd, Nat.reduceSub, lenA, convA, indexA, flatP, nilI, ifaA, indexS, sliceA, Int.reduceToNat, cond_true, cond_false, ↓reduceIte, reduceCtorEq, Nat.reduceLT, Nat.reduceLeDiff, Nat.reduceMul, Nat.reduceEqDiff, exists_eq', implies_true, exists_true_left, tys0, tys1, und0, und1, md17, Tryz.ntmps17, Tryz.results17, fl]
  refine go_round (md := md17) mixed (by kernel_rfl) (fun i : {i : Nat // i ≤ xs.length} => ⟨[.any, .any, .any, .any, .sl 0 0 i.1, .any, .any, .any, .any, .any, .any, .ro (cpxs xs), .int .i64 xs.length, .int .i64 i.1, .any, .any, .any, .any, .any, .any, .any, .any, .any, .any, .any, .any, .any, .any, .any, .any], [strB (hexC2 (xs.take i.1))]⟩) (fun i => xs.length - i.1) ⟨0, Nat.zero_le _⟩ ?_ ?_
  · exact weak_drop (by simp) (by simp [DropHp, ints_below, flts_below, strB, hexC2, strs, allBelow_cons, allBelow_nil, below, belowM, belowL]) (by simp [DropTm, DropV, below, belowM, belowL, strB, hexC2, strs, allBelow_cons, allBelow_nil, below, belowM, belowL])
  rintro ⟨i, hi⟩
  have ll : (strs (hexC2 (xs.take i))).length = i := by rw [strs_len, hexC2_len, List.length_take]; omega
  have nx := fun h : i < xs.length => (show hexC2 (xs.take i) ++ [hex2 xs[i]] = hexC2 (xs.take (i + 1)) by rw [take_snoc _ _ h, hexC2, hexC2, List.map_append]; rfl)
  simp only [q0, q1, q2, q3, q4, q5, q6, q7, q8, q9, zr0, zr1, zr2, zr3, zq0, zq1, zq2, zq3, zq4, Nat.reduceAdd, Nat.reduceSub, lenA, convA, indexA, flatP, nilI, ifaA, indexS, sliceA, Int.reduceToNat, cond_true, cond_false, ↓reduceIte, reduceCtorEq, Nat.reduceLT, Nat.reduceLeDiff, Nat.reduceMul, Nat.reduceEqDiff, exists_eq', implies_true, exists_true_left, tys0, tys1, und0, und1, md17, Tryz.ntmps17, Tryz.results17, strB]
  refine br_intro (fun h => ?_) (fun h => ?_) <;> simp only [q0, q1, q2, q3, q4, q5, q6, q7, q8, q9, zr0, zr1, zr2, zr3, zq0, zq1, zq2, zq3, zq4, Nat.reduceAdd, Nat.reduceSub, lenA, convA, indexA, flatP, nilI, ifaA, indexS, sliceA, Int.reduceToNat, cond_true, cond_false, ↓reduceIte, reduceCtorEq, Nat.reduceLT, Nat.reduceLeDiff, Nat.reduceMul, Nat.reduceEqDiff, exists_eq', implies_true, exists_true_left, tys0, tys1, und0, und1, md17, Tryz.ntmps17, Tryz.results17, strB]
  · have hi' : i < xs.length := by have := of_decide_eq_true h; omega
    have hI : (i : Int) < (xs.length : Int) := by omega
    have nx := nx hi'
    have w1 : IntKind.i64.wrap ((i : Int) + 1) = ((i + 1 : Nat) : Int) := by rw [w64 (by omega) (by omega)]; omega
    simp only [q0, q1, q2, q3, q4, q5, q6, q7, q8, q9, zr0, zr1, zr2, zr3, zq0, zq1, zq2, zq3, zq4, Nat.reduceAdd, Nat.reduceSub, lenA, convA, indexA, flatP, nilI, ifaA, indexS, sliceA, Int.reduceToNat, cond_true, cond_false, ↓reduceIte, reduceCtorEq, Nat.reduceLT, Nat.reduceLeDiff, Nat.reduceMul, Nat.reduceEqDiff, exists_eq', implies_true, exists_true_left, tys0, tys1, und0, und1, md17, Tryz.ntmps17, Tryz.results17, strB, hi', hI, fl, cpxs_get]
    refine call_ret (hex_call xs[i].1 (ok _ (List.getElem_mem hi')).1) rfl rfl ?_
    simp only [q0, q1, q2, q3, q4, q5, q6, q7, q8, q9, zr0, zr1, zr2, zr3, zq0, zq1, zq2, zq3, zq4, Nat.reduceAdd, Nat.reduceSub, lenA, convA, indexA, flatP, nilI, ifaA, indexS, sliceA, Int.reduceToNat, cond_true, cond_false, ↓reduceIte, reduceCtorEq, Nat.reduceLT, Nat.reduceLeDiff, Nat.reduceMul, Nat.reduceEqDiff, exists_eq', implies_true, exists_true_left, tys0, tys1, und0, und1, md17, Tryz.ntmps17, Tryz.results17, strB, hi', hI]
    refine call_ret (hex_call xs[i].2 (ok _ (List.getElem_mem hi')).2) rfl rfl ?_
    have hx : hex2 xs[i] = hexT xs[i].1 8 ++ hexT xs[i].2 8 := rfl
    have hz := hexT_len xs[i].1 8
    have hy := hexT_len xs[i].2 8
    generalize hexC2 (xs.take i) = T at ll nx
    simp only [q0, q1, q2, q3, q4, q5, q6, q7, q8, q9, zr0, zr1, zr2, zr3, zq0, zq1, zq2, zq3, zq4, Nat.reduceAdd, Nat.reduceSub, lenA, convA, indexA, flatP, nilI, ifaA, indexS, sliceA, Int.reduceToNat, cond_true, cond_false, ↓reduceIte, reduceCtorEq, Nat.reduceLT, Nat.reduceLeDiff, Nat.reduceMul, Nat.reduceEqDiff, exists_eq', implies_true, exists_true_left, tys0, tys1, und0, und1, md17, Tryz.ntmps17, Tryz.results17, strB, hi', hI, allW_int, fits, List.isEmpty_cons, brk_false, Nat.reduceMul, ll, w1, ← hx]
    refine ⟨by omega, allW_str _, by omega, ⟨i + 1, by omega⟩, by show xs.length - (i + 1) < _; omega, ?_⟩
    show Weak 0 _ ⟨_, _⟩
    rw [strs_more, nx]
    exact weak_drop (by simp) (by simp [DropHp, ints_below, flts_below, strB, strs_below, allBelow_cons, allBelow_nil, below, belowM, belowL]) (by simp [DropTm, DropV, below, belowM, belowL, strB, strs_below, allBelow_cons, allBelow_nil, below, belowM, belowL])
  · have hi' : i = xs.length := by have := of_decide_eq_false h; omega
    subst hi'
    rw [List.take_length] at ll ⊢
    have tk : (strs (hexC2 xs)).take xs.length = strs (hexC2 xs) := List.take_of_length_le (by rw [ll]; exact Nat.le_refl _)
    refine call_lent 2 (by simp [view_sl, view_str, strB, map_view_strs, hexC2_len, strs_len, tk]) (listed_call (by decide) (hexC2 xs) (hexC2_ok hl)) rfl rfl ?_
    simp only [q0, q1, q2, q3, q4, q5, q6, q7, q8, q9, zr0, zr1, zr2, zr3, zq0, zq1, zq2, zq3, zq4, Nat.reduceAdd, Nat.reduceSub, lenA, convA, indexA, flatP, nilI, ifaA, indexS, sliceA, Int.reduceToNat, cond_true, cond_false, ↓reduceIte, reduceCtorEq, Nat.reduceLT, Nat.reduceLeDiff, Nat.reduceMul, Nat.reduceEqDiff, exists_eq', implies_true, exists_true_left, tys0, tys1, und0, und1, md17, Tryz.ntmps17, Tryz.results17]
    exact PostR.pure ⟨rfl, rfl⟩ rfl
theorem readComplex_call (xs : List (Nat × Nat)) (hl : xs.length ≤ 256) (ok : ∀ x ∈ xs, okW x.1 ∧ okW x.2) : CallA Tryz.prog 18 [.str (wdsT (hexC2 xs))] [] (Ret (.tup [.sl 0 0 xs.length, .bool true]) [cpxB xs]) := by
  refine CallP.out (t := .mk) (go_in (md := md18) mixed Tryz.func18 rfl go18 (by kernel_rfl) ?_)
  simp only [q0, q1, q2, q3, q4, q5, q6, q7, q8, q9, zr0, zr1, zr2, zr3, zq0, zq1, zq2, zq3, zq4, Nat.reduceAdd, Nat.reduceSub, lenA, convA, indexA, flatP, nilI, ifaA, indexS, sliceA, Int.reduceToNat, cond_true, cond_false, ↓reduceIte, reduceCtorEq, Nat.reduceLT, Nat.reduceLeDiff, Nat.reduceMul, Nat.reduceEqDiff, exists_eq', implies_true, exists_true_left, tys0, tys1, und0, und1, md18, Tryz.ntmps18, Tryz.results18]
  refine call_ret (wordsOf_call (by decide) (by decide) (hexC2 xs) (hexC2_ok hl)) rfl rfl ?_
  simp only [q0, q1, q2, q3, q4, q5, q6, q7, q8, q9, zr0, zr1, zr2, zr3, zq0, zq1, zq2, zq3, zq4, Nat.reduceAdd, Nat.reduceSub, lenA, convA, indexA, flatP, nilI, ifaA, indexS, sliceA, Int.reduceToNat, cond_true, cond_false, ↓reduceIte, reduceCtorEq, Nat.reduceLT, Nat.reduceLeDiff, Nat.reduceMul, Nat.reduceEqDiff, exists_eq', implies_true, exists_true_left, tys0, tys1, und0, und1, md18, Tryz.ntmps18, Tryz.results18, strs_len, hexC2_len]
  repeat (refine br_no (by first | exact decide_eq_false (by omega) | exact beq_false_of_ne (by omega) | (simp only [bne_eq_false_iff_eq, beq_eq_false_iff_ne, ne_eq]; omega)) ?_; simp only [q0, q1, q2, q3, q4, q5, q6, q7, q8, q9, zr0, zr1, zr2, zr3, zq0, zq1, zq2, zq3, zq4, Nat.reduceAdd, Nat.reduceSub, lenA, convA, indexA, flatP, nilI, ifaA, indexS, sliceA, Int.reduceToNat, cond_true, cond_false, ↓reduceIte, reduceCtorEq, Nat.reduceLT, Nat.reduceLeDiff, Nat.reduceMul, Nat.reduceEqDiff, exists_eq', implies_true, exists_true_left, tys0, tys1, und0, und1, md18, Tryz.ntmps18, Tryz.results18, strs_len, hexC2_len])
  refine go_round (md := md18) mixed (by kernel_rfl) (fun i : {i : Nat // i ≤ xs.length} => ⟨[.any, .any, .any, .any, .any, .any, .sl 0 0 i.1, .any, .any, .any, .any, .any, .any, .any, .any, .any, .any, .any, .any, .any, .any, .ro (strs (hexC2 xs)), .int .i64 xs.length, .int .i64 i.1, .any, .any, .any, .any, .any, .any, .any, .any, .any, .any, .any, .any, .any, .any, .any, .any, .any, .any, .any, .any, .any, .any, .any, .any, .any, .any, .any, .any, .any, .any, .any, .any], [cpxB (xs.take i.1)]⟩) (fun i => xs.length - i.1) ⟨0, Nat.zero_le _⟩ ?_ ?_
  · exact weak_drop (by simp) (by simp [DropHp, ints_below, flts_below, cpxB, cpxs, allBelow_cons, allBelow_nil, below, belowM, belowL]) (by simp [DropTm, DropV, below, belowM, belowL, cpxB, cpxs, allBelow_cons, allBelow_nil, below, belowM, belowL])
  rintro ⟨i, hi⟩
  have ll : (cpxs (xs.take i)).length = i := by rw [cpxs_len, List.length_take]; omega
  have nx := fun h : i < xs.length => (show xs.take i ++ [xs[i]] = xs.take (i + 1) from (take_snoc _ _ h).symm)
  simp only [q0, q1, q2, q3, q4, q5, q6, q7, q8, q9, zr0, zr1, zr2, zr3, zq0, zq1, zq2, zq3, zq4, Nat.reduceAdd, Nat.reduceSub, lenA, convA, indexA, flatP, nilI, ifaA, indexS, sliceA, Int.reduceToNat, cond_true, cond_false, ↓reduceIte, reduceCtorEq, Nat.reduceLT, Nat.reduceLeDiff, Nat.reduceMul, Nat.reduceEqDiff, exists_eq', implies_true, exists_true_left, tys0, tys1, und0, und1, md18, Tryz.ntmps18, Tryz.results18, cpxB]
  refine br_intro (fun h => ?_) (fun h => ?_) <;> simp only [q0, q1, q2, q3, q4, q5, q6, q7, q8, q9, zr0, zr1, zr2, zr3, zq0, zq1, zq2, zq3, zq4, Nat.reduceAdd, Nat.reduceSub, lenA, convA, indexA, flatP, nilI, ifaA, indexS, sliceA, Int.reduceToNat, cond_true, cond_false, ↓reduceIte, reduceCtorEq, Nat.reduceLT, Nat.reduceLeDiff, Nat.reduceMul, Nat.reduceEqDiff, exists_eq', implies_true, exists_true_left, tys0, tys1, und0, und1, md18, Tryz.ntmps18, Tryz.results18, cpxB]
  · have hi' : i < xs.length := by have := of_decide_eq_true h; omega
    have hI : (i : Int) < (xs.length : Int) := by omega
    have nx := nx hi'
    have w1 : IntKind.i64.wrap ((i : Int) + 1) = ((i + 1 : Nat) : Int) := by rw [w64 (by omega) (by omega)]; omega
    have gw : ∀ h, (hexC2 xs)[i]'h = hex2 xs[i] := fun h => by simp [hexC2]
    simp only [q0, q1, q2, q3, q4, q5, q6, q7, q8, q9, zr0, zr1, zr2, zr3, zq0, zq1, zq2, zq3, zq4, Nat.reduceAdd, Nat.reduceSub, lenA, convA, indexA, flatP, nilI, ifaA, indexS, sliceA, Int.reduceToNat, cond_true, cond_false, ↓reduceIte, reduceCtorEq, Nat.reduceLT, Nat.reduceLeDiff, Nat.reduceMul, Nat.reduceEqDiff, exists_eq', implies_true, exists_true_left, tys0, tys1, und0, und1, md18, Tryz.ntmps18, Tryz.results18, cpxB, hi', hI, strs_len, hexC2_len, strs_get, gw]
    have hx : hex2 xs[i] = hexT xs[i].1 8 ++ hexT xs[i].2 8 := rfl
    have hz := hexT_len xs[i].1 8
    have hy := hexT_len xs[i].2 8
    have l16 := hex2_len xs[i]
    have t8 : (hex2 xs[i]).take 8 = hexT xs[i].1 8 := by rw [hx, List.take_left' hz]
    have d8 : (hex2 xs[i]).drop 8 = hexT xs[i].2 8 := by rw [hx, List.drop_left' hz]
    have t16 : (hex2 xs[i]).take 16 = hex2 xs[i] := List.take_of_length_le (by omega)
    repeat (refine br_no (by first | exact decide_eq_false (by omega) | exact beq_false_of_ne (by omega) | (simp only [bne_eq_false_iff_eq, beq_eq_false_iff_ne, ne_eq]; omega)) ?_; simp only [q0, q1, q2, q3, q4, q5, q6, q7, q8, q9, zr0, zr1, zr2, zr3, zq0, zq1, zq2, zq3, zq4, Nat.reduceAdd, Nat.reduceSub, lenA, convA, indexA, flatP, nilI, ifaA, indexS, sliceA, Int.reduceToNat, cond_true, cond_false, ↓reduceIte, reduceCtorEq, Nat.reduceLT, Nat.reduceLeDiff, Nat.reduceMul, Nat.reduceEqDiff, exists_eq', implies_true, exists_true_left, tys0, tys1, und0, und1, md18, Tryz.ntmps18, Tryz.results18, cpxB, l16])
    simp only [q0, q1, q2, q3, q4, q5, q6, q7, q8, q9, zr0, zr1, zr2, zr3, zq0, zq1, zq2, zq3, zq4, Nat.reduceAdd, Nat.reduceSub, lenA, convA, indexA, flatP, nilI, ifaA, indexS, sliceA, Int.reduceToNat, cond_true, cond_false, ↓reduceIte, reduceCtorEq, Nat.reduceLT, Nat.reduceLeDiff, Nat.reduceMul, Nat.reduceEqDiff, exists_eq', implies_true, exists_true_left, tys0, tys1, und0, und1, md18, Tryz.ntmps18, Tryz.results18, l16, Int.reduceLT, Int.reduceLE, Int.reduceNeg, Int.reduceEq, Int.reduceGT, Int.reduceGE, decide_true, decide_false, beq_self_eq_true, bne_self_eq_false, Int.reduceBEq, Int.reduceBNe, Int.reduceAdd, Int.reduceSub]
    refine ⟨by omega, ?_⟩
    rw [t8]
    refine call_ret (unhex_call xs[i].1 (ok _ (List.getElem_mem hi')).1) rfl rfl ?_
    simp only [q0, q1, q2, q3, q4, q5, q6, q7, q8, q9, zr0, zr1, zr2, zr3, zq0, zq1, zq2, zq3, zq4, Nat.reduceAdd, Nat.reduceSub, lenA, convA, indexA, flatP, nilI, ifaA, indexS, sliceA, Int.reduceToNat, cond_true, cond_false, ↓reduceIte, reduceCtorEq, Nat.reduceLT, Nat.reduceLeDiff, Nat.reduceMul, Nat.reduceEqDiff, exists_eq', implies_true, exists_true_left, tys0, tys1, und0, und1, md18, Tryz.ntmps18, Tryz.results18, l16, Int.reduceLT, Int.reduceLE, Int.reduceNeg, Int.reduceEq, Int.reduceGT, Int.reduceGE, decide_true, decide_false, beq_self_eq_true, bne_self_eq_false, Int.reduceBEq, Int.reduceBNe, Int.reduceAdd, Int.reduceSub, t8, d8]
    refine ⟨by omega, by omega, ?_⟩
    simp only [t16, d8]
    refine call_ret (unhex_call xs[i].2 (ok _ (List.getElem_mem hi')).2) rfl rfl ?_
    generalize xs.take i = T at ll nx
    simp only [q0, q1, q2, q3, q4, q5, q6, q7, q8, q9, zr0, zr1, zr2, zr3, zq0, zq1, zq2, zq3, zq4, Nat.reduceAdd, Nat.reduceSub, lenA, convA, indexA, flatP, nilI, ifaA, indexS, sliceA, Int.reduceToNat, cond_true, cond_false, ↓reduceIte, reduceCtorEq, Nat.reduceLT, Nat.reduceLeDiff, Nat.reduceMul, Nat.reduceEqDiff, exists_eq', implies_true, exists_true_left, tys0, tys1, und0, und1, md18, Tryz.ntmps18, Tryz.results18, cpxB, hi', hI, allW_int, fits, List.isEmpty_cons, brk_false, Nat.reduceMul, ll, w1]
    repeat (refine br_no (by first | exact decide_eq_false (by omega) | exact beq_false_of_ne (by omega) | (simp only [bne_eq_false_iff_eq, beq_eq_false_iff_ne, ne_eq]; omega)) ?_; simp only [q0, q1, q2, q3, q4, q5, q6, q7, q8, q9, zr0, zr1, zr2, zr3, zq0, zq1, zq2, zq3, zq4, Nat.reduceAdd, Nat.reduceSub, lenA, convA, indexA, flatP, nilI, ifaA, indexS, sliceA, Int.reduceToNat, cond_true, cond_false, ↓reduceIte, reduceCtorEq, Nat.reduceLT, Nat.reduceLeDiff, Nat.reduceMul, Nat.reduceEqDiff, exists_eq', implies_true, exists_true_left, tys0, tys1, und0, und1, md18, Tryz.ntmps18, Tryz.results18, cpxB, hi', hI, allW_int, fits, List.isEmpty_cons, brk_false, Nat.reduceMul, ll, w1])
    refine ⟨allW_cpx _ _, by omega, ⟨i + 1, by omega⟩, by show xs.length - (i + 1) < _; omega, ?_⟩
    show Weak 0 _ ⟨_, _⟩
    rw [cpxs_more, nx]
    exact weak_drop (by simp) (by simp [DropHp, ints_below, flts_below, cpxB, cpxs_below, allBelow_cons, allBelow_nil, below, belowM, belowL]) (by simp [DropTm, DropV, below, belowM, belowL, cpxB, cpxs_below, allBelow_cons, allBelow_nil, below, belowM, belowL])
  · have hi' : i = xs.length := by have := of_decide_eq_false h; omega
    subst hi'
    rw [List.take_length]
    exact PostR.ret
end Go.Proofs.YtkjabkgmkkcpdaaGreatDoor
