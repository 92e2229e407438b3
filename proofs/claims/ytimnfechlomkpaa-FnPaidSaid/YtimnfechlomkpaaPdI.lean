/- Cents that are parted by weights: the reference. -/
import Derived.Test.YtimnfechlomkpaaPdH
set_option maxRecDepth 10000
set_option maxHeartbeats 8000000
set_option linter.unusedSimpArgs false
set_option linter.unusedVariables false
namespace Go.Proofs.Ytimnfechlomkpaa
open Go Go.Abs

def mkF (W : List Int) (c : Int) (j : Nat) (i : Nat) : Int := mrk (reF W c) ((ordN (keyR W c) W.length).take j) i
def mkL (W : List Int) (c : Int) (j : Nat) : List Int := rngL (mkF W c j) W.length
theorem mk_zero (W : List Int) (c : Int) : mkL W c 0 = rngL (reF W c) W.length := by
  unfold mkL rngL
  apply List.map_congr_left
  intro i _
  simp [mkF, mrk]
theorem mk_get (W : List Int) (c : Int) (j i : Nat) (h : i < (mkL W c j).length) : (mkL W c j)[i] = mkF W c j i := by
  rw [← getD_at _ 0 i h]; exact rngL_get _ _ _ (by simpa [mkL, rngL_len] using h)
theorem mk_succ (W : List Int) (c : Int) (j : Nat) (hj : j < W.length) : (mkL W c j).set ((ordN (keyR W c) W.length)[j]'(by rw [ordN_len]; exact hj)) (-1) = mkL W c (j + 1) := by
  have hl := ordN_len (keyR W c) W.length
  have ht : (ordN (keyR W c) W.length).take (j + 1) = (ordN (keyR W c) W.length).take j ++ [(ordN (keyR W c) W.length)[j]'(by omega)] := by
    rw [List.take_add_one, List.getElem?_eq_getElem (by omega)]; rfl
  apply List.ext_getElem
  · simp [mkL, rngL_len]
  · intro i h1 h2
    rw [List.getElem_set, mk_get, mk_get]
    unfold mkF mrk
    rw [ht]
    generalize (ordN (keyR W c) W.length)[j]'(by omega) = o
    by_cases e : o = i
    · subst e
      rw [if_pos rfl, if_pos (by simp)]
    · rw [if_neg e]
      by_cases m : i ∈ (ordN (keyR W c) W.length).take j
      · rw [if_pos m, if_pos (List.mem_append_left _ m)]
      · rw [if_neg m, if_neg]
        intro x
        rcases List.mem_append.1 x with x | x
        · exact m x
        · exact e (List.mem_singleton.1 x).symm
theorem mk_best {W : List Int} {c : Int} (H : Wts W c) (j : Nat) (hj : j < W.length) : bstR (mkF W c j) W.length = (ordN (keyR W c) W.length)[j]'(by rw [ordN_len]; exact hj) :=
  bstR_ord (reF W c) (fun i => (H.re i).1) W.length j hj
theorem bst_low (R : Nat → Int) (i n : Nat) (h1 : 1 ≤ n) (hi : i ≤ n) : bstR R i < n := by
  rcases bstR_ok R i with ⟨_, h⟩ | ⟨h, _⟩ <;> omega
theorem split_call {W : List Int} {c : Int} (H : Wts W c) : CallA Try.prog 26 [.int .i64 c, .ro (ints W), .int .i64 (sumI W)] [] (Ret (.sl 0 0 W.length) [intB (prtL W c (lefF W c W.length).toNat)]) := by
  have h1 := H.one
  have h7 := H.seven
  have s := H.all
  have c0 := H.c0
  have c1 := H.c1
  have hl := H.less
  have d1 : IntKind.i64.wrap (c.tdiv (sumI W)) = 0 := by rw [Int.tdiv_eq_ediv_of_nonneg c0, Int.ediv_eq_zero_of_lt c0 hl]; decide
  have d2 : c.tmod (sumI W) = c := by rw [Int.tmod_eq_emod_of_nonneg c0]; exact Int.emod_eq_of_lt c0 hl
  have sn : sumI W ≠ 0 := by omega
  obtain ⟨L0, L1⟩ := lef_bounds H
  refine CallP.out (t := .mk) (go_in (md := md26) mixed Try.func26 rfl go26 (by kernel_rfl) ?_)
  simp only [q0, q1, q2, q3, q4, q5, q6, q7, q8, q9, zq0, zq1, zq2, zq3, zq4, guardSlot, quietA, nilC, nilA, quietB, St.ev, St.put, St.after, Nat.reduceAdd, Nat.reduceSub, ofV, ofL, lenA, binA, intBin, fltBin, strBin, cpxBin, unA, convA, convB, convO, pickV, resL, oneA, indexA, indexS, isQuiet, loadA, loadC, storeA, fieldA, partA, sliceA, boundA, buildA, placeA, setAll, appendA, readSl, newEl, AV.cells, AV.solid, AV.one, kill, killM, killL, notInt, Int.reduceToNat, cond_true, cond_false, ↓reduceIte, reduceCtorEq, Nat.reduceLT, Nat.reduceLeDiff, Nat.reduceMul, Nat.reduceEqDiff, exists_eq', putF, implies_true, exists_true_left, tys0, tys1, tys2, tys3, und0, und1, und2, md26, Try.ntmps26, Try.results26]
  refine go_round (md := md26) mixed (by kernel_rfl) (fun i : {i : Nat // i ≤ W.length} => ⟨[.int .i64 c, .ro (ints W), .int .i64 (sumI W), .any, .any, .any, .any, .sl 0 0 i.1, .sl 1 0 i.1, .int .i64 (lefF W c i.1), .any, .any, .any, .any, .any, .any, .any, .any, .any, .any, .int .i64 W.length, .int .i64 (i.1 : Int), .any, .any, .any, .any, .any, .any, .any, .any, .any, .any, .any, .any, .any, .any, .any, .any, .any, .any, .any, .any, .any, .any, .any, .any, .any, .any, .any, .any, .any, .any, .any, .any, .any, .any, .any, .any, .any, .any, .any, .any, .any, .any, .any, .any, .any, .any, .any, .any, .any, .any, .any, .any, .any, .any, .any, .any, .any, .any, .any, .any, .any, .any, .any, .any, .any, .any, .any, .any, .any, .any], [intB (rngL (quF W c) i.1), intB (rngL (reF W c) i.1)]⟩) (fun i => W.length - i.1) ⟨0, by omega⟩ ?_ ?_
  · have z1 : ∀ f, rngL f 0 = [] := fun _ => rfl
    have z3 : ints [] = [] := rfl
    have z5 : lefF W c 0 = c := by show c - 0 = c; omega
    rw [z1, z1, z5]
    exact weak_drop (by simp) (by simp [DropHp, ints_below, flts_below, intB, z3, allBelow_cons, allBelow_nil, below, belowM, belowL]) (by simp [DropTm, DropV, below, belowM, belowL, intB, z3, allBelow_cons, allBelow_nil, below, belowM, belowL])
  rintro ⟨i, hi⟩
  have lq : (rngL (quF W c) i).length = i := rngL_len _ _
  have lr : (rngL (reF W c) i).length = i := rngL_len _ _
  simp only [q0, q1, q2, q3, q4, q5, q6, q7, q8, q9, zq0, zq1, zq2, zq3, zq4, guardSlot, quietA, nilC, nilA, quietB, St.ev, St.put, St.after, Nat.reduceAdd, Nat.reduceSub, ofV, ofL, lenA, binA, intBin, fltBin, strBin, cpxBin, unA, convA, convB, convO, pickV, resL, oneA, indexA, indexS, isQuiet, loadA, loadC, storeA, fieldA, partA, sliceA, boundA, buildA, placeA, setAll, appendA, readSl, newEl, AV.cells, AV.solid, AV.one, kill, killM, killL, notInt, Int.reduceToNat, cond_true, cond_false, ↓reduceIte, reduceCtorEq, Nat.reduceLT, Nat.reduceLeDiff, Nat.reduceMul, Nat.reduceEqDiff, exists_eq', putF, implies_true, exists_true_left, tys0, tys1, tys2, tys3, und0, und1, und2, md26, Try.ntmps26, Try.results26, intB, ints_len, lq, lr, d1, d2]
  refine br_intro (fun g => ?_) (fun g => ?_) <;> simp only [q0, q1, q2, q3, q4, q5, q6, q7, q8, q9, zq0, zq1, zq2, zq3, zq4, guardSlot, quietA, nilC, nilA, quietB, St.ev, St.put, St.after, Nat.reduceAdd, Nat.reduceSub, ofV, ofL, lenA, binA, intBin, fltBin, strBin, cpxBin, unA, convA, convB, convO, pickV, resL, oneA, indexA, indexS, isQuiet, loadA, loadC, storeA, fieldA, partA, sliceA, boundA, buildA, placeA, setAll, appendA, readSl, newEl, AV.cells, AV.solid, AV.one, kill, killM, killL, notInt, Int.reduceToNat, cond_true, cond_false, ↓reduceIte, reduceCtorEq, Nat.reduceLT, Nat.reduceLeDiff, Nat.reduceMul, Nat.reduceEqDiff, exists_eq', putF, implies_true, exists_true_left, tys0, tys1, tys2, tys3, und0, und1, und2, md26, Try.ntmps26, Try.results26, intB, ints_len, lq, lr, d1, d2]
  · have hi' : i < W.length := by have := of_decide_eq_true g; omega
    have a := H.at_ i
    have p := H.prod i
    have qb := H.qu i
    have rb := H.re i
    have lm := lef_mid H i hi
    have lm2 := lef_mid H (i + 1) (by omega)
    rw [lef_succ] at lm2
    have gw := getD_at W 0 i hi'
    have qc := l03Quotient_call c W[i] (sumI W) c0 c1 (by rw [← gw]; omega) (by rw [← gw]; omega) (by omega) (by omega)
    have rc := l03Rest_call c W[i] (sumI W) c0 c1 (by rw [← gw]; omega) (by rw [← gw]; omega) (by omega) (by omega)
    have eq1 : c * W[i] / sumI W = quF W c i := by rw [← gw]; rfl
    have eq2 : rmd (c * W[i]) (sumI W) = reF W c i := by rw [← gw]; rfl
    rw [eq1] at qc
    rw [eq2] at rc
    have e5 : IntKind.i64.wrap (IntKind.i64.wrap (0 * W[i]) + quF W c i) = quF W c i := by rw [Int.zero_mul, show IntKind.i64.wrap 0 = 0 from by decide, Int.zero_add]; exact w64 (by omega) (by omega)
    have e6 : IntKind.i64.wrap (lefF W c i - quF W c i) = lefF W c (i + 1) := by rw [lef_succ]; exact w64 (by omega) (by omega)
    refine ⟨sn, sn, hi', hi', ?_⟩
    refine callr_ret qc rfl rfl ?_
    simp only [q0, q1, q2, q3, q4, q5, q6, q7, q8, q9, zq0, zq1, zq2, zq3, zq4, guardSlot, quietA, nilC, nilA, quietB, St.ev, St.put, St.after, Nat.reduceAdd, Nat.reduceSub, ofV, ofL, lenA, binA, intBin, fltBin, strBin, cpxBin, unA, convA, convB, convO, pickV, resL, oneA, indexA, indexS, isQuiet, loadA, loadC, storeA, fieldA, partA, sliceA, boundA, buildA, placeA, setAll, appendA, readSl, newEl, AV.cells, AV.solid, AV.one, kill, killM, killL, notInt, Int.reduceToNat, cond_true, cond_false, ↓reduceIte, reduceCtorEq, Nat.reduceLT, Nat.reduceLeDiff, Nat.reduceMul, Nat.reduceEqDiff, exists_eq', putF, implies_true, exists_true_left, tys0, tys1, tys2, tys3, und0, und1, und2, md26, Try.ntmps26, Try.results26, intB, ints_len, lq, lr, e5, e6, allW_int, fits, List.isEmpty_cons, brk_false, Nat.reduceMul]
    refine ⟨by omega, hi', ?_⟩
    refine call_ret rc rfl rfl ?_
    simp only [q0, q1, q2, q3, q4, q5, q6, q7, q8, q9, zq0, zq1, zq2, zq3, zq4, guardSlot, quietA, nilC, nilA, quietB, St.ev, St.put, St.after, Nat.reduceAdd, Nat.reduceSub, ofV, ofL, lenA, binA, intBin, fltBin, strBin, cpxBin, unA, convA, convB, convO, pickV, resL, oneA, indexA, indexS, isQuiet, loadA, loadC, storeA, fieldA, partA, sliceA, boundA, buildA, placeA, setAll, appendA, readSl, newEl, AV.cells, AV.solid, AV.one, kill, killM, killL, notInt, Int.reduceToNat, cond_true, cond_false, ↓reduceIte, reduceCtorEq, Nat.reduceLT, Nat.reduceLeDiff, Nat.reduceMul, Nat.reduceEqDiff, exists_eq', putF, implies_true, exists_true_left, tys0, tys1, tys2, tys3, und0, und1, und2, md26, Try.ntmps26, Try.results26, intB, ints_len, lq, lr, e6, allW_int, fits, List.isEmpty_cons, brk_false, Nat.reduceMul]
    have w1 : rngL (quF W c) i ++ [quF W c i] = rngL (quF W c) (i + 1) := rngL_succ _ _
    have w2 : rngL (reF W c) i ++ [reF W c i] = rngL (reF W c) (i + 1) := rngL_succ _ _
    refine ⟨by omega, ⟨i + 1, by omega⟩, by show W.length - (i + 1) < W.length - i; omega, ?_⟩
    show Weak 0 _ ⟨_, _⟩
    rw [w1, w2]
    exact weak_drop (by simp) (by simp [DropHp, ints_below, flts_below, w64_succ i (by omega), intB, allBelow_cons, allBelow_nil, below, belowM, belowL]) (by simp [DropTm, DropV, below, belowM, belowL, w64_succ i (by omega), intB, allBelow_cons, allBelow_nil, below, belowM, belowL])
  · have hi' : i = W.length := by have := of_decide_eq_false g; omega
    subst hi'
    obtain ⟨m, hm⟩ := Int.eq_ofNat_of_zero_le L0
    rw [hm, Int.toNat_natCast]
    rw [hm] at L0 L1
    have kn := ordN_len (keyR W c) W.length
    refine go_round (md := md26) mixed (by kernel_rfl) (fun j : {j : Nat // j ≤ m} => ⟨[.any, .any, .any, .any, .any, .any, .any, .sl 0 0 W.length, .sl 1 0 W.length, .int .i64 ((m - j.1 : Nat) : Int), .any, .any, .any, .any, .any, .any, .any, .any, .any, .any, .any, .any, .any, .any, .any, .any, .any, .any, .any, .any, .any, .any, .any, .any, .any, .any, .any, .any, .any, .any, .any, .any, .any, .any, .any, .any, .any, .any, .any, .any, .any, .any, .any, .any, .any, .any, .any, .any, .any, .any, .any, .any, .any, .any, .any, .any, .any, .any, .any, .any, .any, .any, .any, .any, .any, .any, .any, .any, .any, .any, .any, .any, .any, .any, .any, .any, .any, .any, .any, .any, .any, .any], [intB (prtL W c j.1), intB (mkL W c j.1)]⟩) (fun j => m - j.1) ⟨0, by omega⟩ ?_ ?_
    · rw [prt_zero, mk_zero]
      exact weak_drop (by simp) (by simp [DropHp, ints_below, flts_below, intB, hm, Nat.sub_zero, allBelow_cons, allBelow_nil, below, belowM, belowL]) (by simp [DropTm, DropV, below, belowM, belowL, intB, hm, Nat.sub_zero, allBelow_cons, allBelow_nil, below, belowM, belowL])
    rintro ⟨j, hj⟩
    have pl : (prtL W c j).length = W.length := rngL_len _ _
    have ml : (mkL W c j).length = W.length := rngL_len _ _
    simp only [q0, q1, q2, q3, q4, q5, q6, q7, q8, q9, zq0, zq1, zq2, zq3, zq4, guardSlot, quietA, nilC, nilA, quietB, St.ev, St.put, St.after, Nat.reduceAdd, Nat.reduceSub, ofV, ofL, lenA, binA, intBin, fltBin, strBin, cpxBin, unA, convA, convB, convO, pickV, resL, oneA, indexA, indexS, isQuiet, loadA, loadC, storeA, fieldA, partA, sliceA, boundA, buildA, placeA, setAll, appendA, readSl, newEl, AV.cells, AV.solid, AV.one, kill, killM, killL, notInt, Int.reduceToNat, cond_true, cond_false, ↓reduceIte, reduceCtorEq, Nat.reduceLT, Nat.reduceLeDiff, Nat.reduceMul, Nat.reduceEqDiff, exists_eq', putF, implies_true, exists_true_left, tys0, tys1, tys2, tys3, und0, und1, und2, md26, Try.ntmps26, Try.results26, intB, ints_len, pl, ml]
    refine br_intro (fun g => ?_) (fun g => ?_) <;> simp only [q0, q1, q2, q3, q4, q5, q6, q7, q8, q9, zq0, zq1, zq2, zq3, zq4, guardSlot, quietA, nilC, nilA, quietB, St.ev, St.put, St.after, Nat.reduceAdd, Nat.reduceSub, ofV, ofL, lenA, binA, intBin, fltBin, strBin, cpxBin, unA, convA, convB, convO, pickV, resL, oneA, indexA, indexS, isQuiet, loadA, loadC, storeA, fieldA, partA, sliceA, boundA, buildA, placeA, setAll, appendA, readSl, newEl, AV.cells, AV.solid, AV.one, kill, killM, killL, notInt, Int.reduceToNat, cond_true, cond_false, ↓reduceIte, reduceCtorEq, Nat.reduceLT, Nat.reduceLeDiff, Nat.reduceMul, Nat.reduceEqDiff, exists_eq', putF, implies_true, exists_true_left, tys0, tys1, tys2, tys3, und0, und1, und2, md26, Try.ntmps26, Try.results26, intB, ints_len, pl, ml]
    · have hj' : j < m := by have := of_decide_eq_true g; omega
      have hj2 : j < W.length := by omega
      refine go_round (md := md26) mixed (by kernel_rfl) (fun i : {i : Nat // i ≤ W.length} => ⟨[.any, .any, .any, .any, .any, .any, .any, .sl 0 0 W.length, .sl 1 0 W.length, .int .i64 ((m - j : Nat) : Int), .any, .any, .any, .any, .int .i64 ((bstR (mkF W c j) i.1 : Nat) : Int), .any, .any, .any, .any, .any, .any, .any, .any, .any, .any, .any, .any, .any, .any, .any, .any, .any, .any, .any, .any, .any, .any, .any, .any, .any, .any, .any, .any, .any, .any, .any, .any, .any, .any, .any, .any, .any, .any, .any, .any, .any, .any, .any, .any, .any, .any, .any, .any, .any, .any, .any, .any, .int .i64 W.length, .int .i64 (i.1 : Int), .any, .any, .any, .any, .any, .any, .any, .any, .any, .any, .any, .any, .any, .any, .any, .any, .any, .any, .any, .any, .any, .any, .any], [intB (prtL W c j), intB (mkL W c j)]⟩) (fun i => W.length - i.1) ⟨0, by omega⟩ ?_ ?_
      · have z : bstR (mkF W c j) 0 = 0 := rfl
        rw [z]
        exact weak_drop (by simp) (by simp [DropHp, ints_below, flts_below, intB, allBelow_cons, allBelow_nil, below, belowM, belowL]) (by simp [DropTm, DropV, below, belowM, belowL, intB, allBelow_cons, allBelow_nil, below, belowM, belowL])
      rintro ⟨i, hi⟩
      have bl := bst_low (mkF W c j) i W.length h1 hi
      have gb := mk_get W c j (bstR (mkF W c j) i) (by omega)
      simp only [q0, q1, q2, q3, q4, q5, q6, q7, q8, q9, zq0, zq1, zq2, zq3, zq4, guardSlot, quietA, nilC, nilA, quietB, St.ev, St.put, St.after, Nat.reduceAdd, Nat.reduceSub, ofV, ofL, lenA, binA, intBin, fltBin, strBin, cpxBin, unA, convA, convB, convO, pickV, resL, oneA, indexA, indexS, isQuiet, loadA, loadC, storeA, fieldA, partA, sliceA, boundA, buildA, placeA, setAll, appendA, readSl, newEl, AV.cells, AV.solid, AV.one, kill, killM, killL, notInt, Int.reduceToNat, cond_true, cond_false, ↓reduceIte, reduceCtorEq, Nat.reduceLT, Nat.reduceLeDiff, Nat.reduceMul, Nat.reduceEqDiff, exists_eq', putF, implies_true, exists_true_left, tys0, tys1, tys2, tys3, und0, und1, und2, md26, Try.ntmps26, Try.results26, intB, ints_len, pl, ml]
      refine br_intro (fun f => ?_) (fun f => ?_) <;> simp only [q0, q1, q2, q3, q4, q5, q6, q7, q8, q9, zq0, zq1, zq2, zq3, zq4, guardSlot, quietA, nilC, nilA, quietB, St.ev, St.put, St.after, Nat.reduceAdd, Nat.reduceSub, ofV, ofL, lenA, binA, intBin, fltBin, strBin, cpxBin, unA, convA, convB, convO, pickV, resL, oneA, indexA, indexS, isQuiet, loadA, loadC, storeA, fieldA, partA, sliceA, boundA, buildA, placeA, setAll, appendA, readSl, newEl, AV.cells, AV.solid, AV.one, kill, killM, killL, notInt, Int.reduceToNat, cond_true, cond_false, ↓reduceIte, reduceCtorEq, Nat.reduceLT, Nat.reduceLeDiff, Nat.reduceMul, Nat.reduceEqDiff, exists_eq', putF, implies_true, exists_true_left, tys0, tys1, tys2, tys3, und0, und1, und2, md26, Try.ntmps26, Try.results26, intB, ints_len, pl, ml, mk_get]
      · have hi' : i < W.length := by have := of_decide_eq_true f; omega
        refine ⟨by omega, hi', by omega, bl, ?_⟩
        refine br_intro (fun u => ?_) (fun u => ?_) <;> simp only [q0, q1, q2, q3, q4, q5, q6, q7, q8, q9, zq0, zq1, zq2, zq3, zq4, guardSlot, quietA, nilC, nilA, quietB, St.ev, St.put, St.after, Nat.reduceAdd, Nat.reduceSub, ofV, ofL, lenA, binA, intBin, fltBin, strBin, cpxBin, unA, convA, convB, convO, pickV, resL, oneA, indexA, indexS, isQuiet, loadA, loadC, storeA, fieldA, partA, sliceA, boundA, buildA, placeA, setAll, appendA, readSl, newEl, AV.cells, AV.solid, AV.one, kill, killM, killL, notInt, Int.reduceToNat, cond_true, cond_false, ↓reduceIte, reduceCtorEq, Nat.reduceLT, Nat.reduceLeDiff, Nat.reduceMul, Nat.reduceEqDiff, exists_eq', putF, implies_true, exists_true_left, tys0, tys1, tys2, tys3, und0, und1, und2, md26, Try.ntmps26, Try.results26, intB]
        · have e : bstR (mkF W c j) (i + 1) = i := by rw [bstR, if_pos (of_decide_eq_true u)]
          refine ⟨⟨i + 1, by omega⟩, by show W.length - (i + 1) < W.length - i; omega, ?_⟩
          exact weak_drop (by simp) (by simp [DropHp, ints_below, flts_below, w64_succ i (by omega), e, intB, allBelow_cons, allBelow_nil, below, belowM, belowL]) (by simp [DropTm, DropV, below, belowM, belowL, w64_succ i (by omega), e, intB, allBelow_cons, allBelow_nil, below, belowM, belowL])
        · have e : bstR (mkF W c j) (i + 1) = bstR (mkF W c j) i := by rw [bstR, if_neg (of_decide_eq_false u)]
          refine ⟨⟨i + 1, by omega⟩, by show W.length - (i + 1) < W.length - i; omega, ?_⟩
          exact weak_drop (by simp) (by simp [DropHp, ints_below, flts_below, w64_succ i (by omega), e, intB, allBelow_cons, allBelow_nil, below, belowM, belowL]) (by simp [DropTm, DropV, below, belowM, belowL, w64_succ i (by omega), e, intB, allBelow_cons, allBelow_nil, below, belowM, belowL])
      · have hi' : i = W.length := by have := of_decide_eq_false f; omega
        subst hi'
        have mb := mk_best H j hj2
        have st := prt_succ W c j hj2
        have mt := mk_succ W c j hj2
        have om : (ordN (keyR W c) W.length)[j]'(by omega) < W.length := ordN_mem.1 (List.getElem_mem _)
        generalize (ordN (keyR W c) W.length)[j]'(by omega) = o at *
        rw [mb]
        have hp : o < (prtL W c j).length := by omega
        rw [getD_at (prtL W c j) 0 _ hp] at st
        have pb := prt_bound H j o
        have pe : (prtL W c j)[o] = prtF W c j o := by
          rw [← getD_at (prtL W c j) 0 _ hp]; exact rngL_get _ _ _ om
        have e7 : IntKind.i64.wrap ((prtL W c j)[o] + 1) = (prtL W c j)[o] + 1 := by rw [pe]; exact w64 (by omega) (by omega)
        have ek : IntKind.i64.wrap (((m - j : Nat) : Int) - 1) = ((m - (j + 1) : Nat) : Int) := by rw [w64 (by omega) (by omega)]; omega
        refine ⟨by omega, om, by omega, om, by omega, om, ⟨j + 1, by omega⟩, by show m - (j + 1) < m - j; omega, ?_⟩
        show Weak 0 _ ⟨_, _⟩
        rw [e7, ints_set, ints_set, st, mt]
        exact weak_drop (by simp) (by simp [DropHp, ints_below, flts_below, ek, intB, allBelow_cons, allBelow_nil, below, belowM, belowL]) (by simp [DropTm, DropV, below, belowM, belowL, ek, intB, allBelow_cons, allBelow_nil, below, belowM, belowL])
    · have hj' : j = m := by have := of_decide_eq_false g; omega
      subst hj'
      exact PostR.tell [0] (hp2 := [intB (prtL W c j)]) (by decide) (by decide) (by decide) ⟨⟨congrArg some (renB_flat (r := intB _) (ints_below _ _)).symm, ints_below _ _⟩, trivial⟩ rfl rfl ⟨rfl, rfl⟩
end Go.Proofs.Ytimnfechlomkpaa
