/- Cents that are parted by weights: plain numbers, and the program's order of rests. -/
import Derived.Test.YtimnfechlomkpaaPdF
import Derived.Test.YtimnfechlomkpaaPdE
set_option maxRecDepth 10000
set_option maxHeartbeats 8000000
set_option linter.unusedSimpArgs false
set_option linter.unusedVariables false
namespace Go.Proofs.Ytimnfechlomkpaa
open Go Go.Abs

def quF (W : List Int) (c : Int) (i : Nat) : Int := c * W.getD i 0 / sumI W
def reF (W : List Int) (c : Int) (i : Nat) : Int := rmd (c * W.getD i 0) (sumI W)
def keyR (W : List Int) (c : Int) (i : Nat) : Int := -reF W c i
structure Wts (W : List Int) (c : Int) : Prop where
  one : 1 ≤ W.length
  seven : W.length ≤ 7
  sml : Sml 300 W
  c0 : 0 ≤ c
  c1 : c ≤ 2000
  less : c < sumI W
theorem sumI_rng_succ (f : Nat → Int) (i : Nat) : sumI (rngL f (i + 1)) = sumI (rngL f i) + f i := by
  rw [← rngL_succ, sumI_snoc]
theorem Wts.at_ {W : List Int} {c : Int} (H : Wts W c) (i : Nat) : 0 ≤ W.getD i 0 ∧ W.getD i 0 < 300 := by
  by_cases h : i < W.length
  · rw [getD_at W 0 i h]; exact H.sml _ (List.getElem_mem h)
  · simp [List.getD_eq_getElem?_getD, List.getElem?_eq_none (show W.length ≤ i by omega)]
theorem Wts.all {W : List Int} {c : Int} (H : Wts W c) : 1 ≤ sumI W ∧ sumI W ≤ 2100 := by
  have s := H.sml.sum
  have l := H.less
  have c0 := H.c0
  have h7 := H.seven
  omega
theorem Wts.prod {W : List Int} {c : Int} (H : Wts W c) (i : Nat) : 0 ≤ c * W.getD i 0 ∧ c * W.getD i 0 ≤ 600000 := by
  have a := H.at_ i
  have c0 := H.c0
  have x := Int.mul_le_mul_of_nonneg_right H.c1 a.1
  have y := Int.mul_nonneg c0 a.1
  omega
theorem Wts.qu {W : List Int} {c : Int} (H : Wts W c) (i : Nat) : 0 ≤ quF W c i ∧ quF W c i ≤ W.getD i 0 ∧ (0 < reF W c i → quF W c i + 1 ≤ W.getD i 0) := by
  have a := H.at_ i
  have s := H.all
  have p := H.prod i
  have hl := H.less
  have q0 : 0 ≤ quF W c i := Int.ediv_nonneg p.1 (by omega)
  have e := Int.mul_ediv_add_emod (c * W.getD i 0) (sumI W)
  have r0 : 0 ≤ reF W c i := Int.emod_nonneg _ (by omega)
  have m := Int.mul_le_mul_of_nonneg_right (show c ≤ sumI W by omega) a.1
  have e' : sumI W * quF W c i + reF W c i = c * W.getD i 0 := e
  generalize W.getD i 0 = w at *
  generalize quF W c i = q at *
  generalize reF W c i = r at *
  refine ⟨q0, ?_, fun hr => ?_⟩
  · apply Classical.byContradiction
    intro h
    have := Int.mul_le_mul_of_nonneg_left (show w + 1 ≤ q by omega) (show 0 ≤ sumI W by omega)
    rw [Int.mul_add] at this
    omega
  · apply Classical.byContradiction
    intro h
    have := Int.mul_le_mul_of_nonneg_left (show w ≤ q by omega) (show 0 ≤ sumI W by omega)
    omega
theorem Wts.re {W : List Int} {c : Int} (H : Wts W c) (i : Nat) : 0 ≤ reF W c i ∧ reF W c i < sumI W := by
  have s := H.all
  exact ⟨Int.emod_nonneg _ (by omega), Int.emod_lt_of_pos _ (by omega)⟩
theorem rng_self (W : List Int) : rngL (fun i => W.getD i 0) W.length = W := by
  apply List.ext_getElem
  · exact rngL_len _ _
  · intro i h1 h2
    rw [← getD_at _ 0 i h1, rngL_get _ _ _ h2, getD_at W 0 i h2]
def lefF (W : List Int) (c : Int) (i : Nat) : Int := c - sumI (rngL (quF W c) i)
theorem left_rests {W : List Int} {c : Int} (H : Wts W c) : sumI W * lefF W c W.length = sumI (rngL (reF W c) W.length) := by
  have key : ∀ i, sumI W * sumI (rngL (quF W c) i) + sumI (rngL (reF W c) i) = c * sumI (rngL (fun i => W.getD i 0) i) := by
    intro i
    induction i with
    | zero => show sumI W * 0 + 0 = c * 0; omega
    | succ i ih =>
      rw [sumI_rng_succ, sumI_rng_succ, sumI_rng_succ, Int.mul_add, Int.mul_add, ← ih]
      have e : sumI W * quF W c i + reF W c i = c * W.getD i 0 := Int.mul_ediv_add_emod _ _
      omega
  have k := key W.length
  rw [rng_self] at k
  unfold lefF
  rw [Int.mul_sub, Int.mul_comm (sumI W) c]
  omega
theorem lef_bounds {W : List Int} {c : Int} (H : Wts W c) : 0 ≤ lefF W c W.length ∧ lefF W c W.length < W.length := by
  have s := H.all
  have h1 := H.one
  have e := left_rests H
  have low : ∀ i, 0 ≤ sumI (rngL (reF W c) i) ∧ sumI (rngL (reF W c) i) ≤ (sumI W - 1) * (i : Int) := by
    intro i
    induction i with
    | zero => exact ⟨by show (0 : Int) ≤ 0; omega, by show (0 : Int) ≤ _ * 0; omega⟩
    | succ i ih =>
      rw [sumI_rng_succ]
      have r := H.re i
      have : (sumI W - 1) * ((i + 1 : Nat) : Int) = (sumI W - 1) * (i : Int) + (sumI W - 1) := by rw [Int.natCast_add, Int.mul_add]; show _ + _ * 1 = _; omega
      omega
  obtain ⟨l0, l1⟩ := low W.length
  rw [← e] at l0 l1
  generalize lefF W c W.length = L at *
  generalize sumI W = S at *
  constructor
  · apply Classical.byContradiction
    intro h
    have := Int.mul_lt_mul_of_pos_left (show L < 0 by omega) (show 0 < S by omega)
    omega
  · apply Classical.byContradiction
    intro h
    have := Int.mul_le_mul_of_nonneg_left (show (W.length : Int) ≤ L by omega) (show 0 ≤ S by omega)
    have e2 : (S - 1) * (W.length : Int) = S * (W.length : Int) - W.length := by rw [Int.sub_mul]; omega
    omega
theorem lef_mid {W : List Int} {c : Int} (H : Wts W c) (i : Nat) (hi : i ≤ W.length) : -10000 ≤ lefF W c i ∧ lefF W c i ≤ 2000 := by
  have low : ∀ i, 0 ≤ sumI (rngL (quF W c) i) ∧ sumI (rngL (quF W c) i) ≤ 300 * (i : Int) := by
    intro i
    induction i with
    | zero => exact ⟨by show (0 : Int) ≤ 0; omega, by show (0 : Int) ≤ _ * 0; omega⟩
    | succ i ih =>
      rw [sumI_rng_succ]
      have r := H.qu i
      have a := H.at_ i
      omega
  have l := low i
  have c0 := H.c0
  have c1 := H.c1
  have h7 := H.seven
  unfold lefF
  omega
theorem lef_succ (W : List Int) (c : Int) (i : Nat) : lefF W c (i + 1) = lefF W c i - quF W c i := by
  unfold lefF
  rw [sumI_rng_succ]
  omega
def prtF (W : List Int) (c : Int) (j i : Nat) : Int := quF W c i + (if i ∈ (ordN (keyR W c) W.length).take j then 1 else 0)
def prtL (W : List Int) (c : Int) (j : Nat) : List Int := rngL (prtF W c j) W.length
theorem prt_zero (W : List Int) (c : Int) : prtL W c 0 = rngL (quF W c) W.length := by
  unfold prtL rngL
  apply List.map_congr_left
  intro i _
  simp [prtF]
theorem prt_succ (W : List Int) (c : Int) (j : Nat) (hj : j < W.length) : (prtL W c j).set ((ordN (keyR W c) W.length)[j]'(by rw [ordN_len]; exact hj)) ((prtL W c j).getD ((ordN (keyR W c) W.length)[j]'(by rw [ordN_len]; exact hj)) 0 + 1) = prtL W c (j + 1) := by
  have hl := ordN_len (keyR W c) W.length
  have om : (ordN (keyR W c) W.length)[j]'(by omega) < W.length := ordN_mem.1 (List.getElem_mem _)
  have fr := ordN_fresh (keyR W c) W.length j hj
  apply List.ext_getElem
  · simp [prtL, rngL_len]
  · intro i h1 h2
    have hi : i < W.length := by simpa [prtL, rngL_len] using h2
    have g : ∀ j, (prtL W c j).getD i 0 = prtF W c j i := fun j => rngL_get _ _ _ hi
    rw [← getD_at (prtL W c (j + 1)) 0 i h2, g, List.getElem_set]
    have ht : (ordN (keyR W c) W.length).take (j + 1) = (ordN (keyR W c) W.length).take j ++ [(ordN (keyR W c) W.length)[j]'(by omega)] := by
      rw [List.take_add_one, List.getElem?_eq_getElem (by omega)]; rfl
    generalize (ordN (keyR W c) W.length)[j]'(by omega) = o at *
    by_cases e : o = i
    · subst e
      rw [if_pos rfl, g]
      unfold prtF
      rw [ht, if_neg fr, if_pos (by simp)]
      omega
    · rw [if_neg e]
      have h3 : i < (prtL W c j).length := by simpa [prtL, rngL_len] using hi
      rw [← getD_at (prtL W c j) 0 i h3, g]
      unfold prtF
      rw [ht]
      congr 1
      by_cases m : i ∈ (ordN (keyR W c) W.length).take j
      · rw [if_pos m, if_pos (List.mem_append_left _ m)]
      · rw [if_neg m, if_neg]
        intro x
        rcases List.mem_append.1 x with x | x
        · exact m x
        · exact e (List.mem_singleton.1 x).symm
theorem prt_bound {W : List Int} {c : Int} (H : Wts W c) (j i : Nat) : 0 ≤ prtF W c j i ∧ prtF W c j i ≤ 300 := by
  have q := H.qu i
  have a := H.at_ i
  unfold prtF
  split <;> omega

def parM (W : List Int) (c : Int) (x y : Int) : Int := if reF W c y.toNat < reF W c x.toNat then -1 else if reF W c x.toNat < reF W c y.toNat then 1 else 0
theorem parLt (W : List Int) (c : Int) : ltC (parM W c) = lk (keyR W c) := by
  funext x y
  unfold ltC lk parM keyR
  rw [Bool.eq_iff_iff]
  simp only [decide_eq_true_eq]
  split
  · omega
  · split <;> omega
def rstB (l : List Int) : Blk := { ty := 57, w := 1, els := kint .u64 l }
def parC (W : List Int) (c : Int) : List Blk := [cel 61 (.sl 2 0 W.length), rstB (rngL (reF W c) W.length)]
theorem parCmp_call {W : List Int} {c : Int} (q : Blk) (hq : allBelow 3 q.els = true) (x y : Int) (hx : inN W.length x) (hy : inN W.length y) :
    CallA Try.prog 41 [.int .i64 x, .int .i64 y, .ptr 1 0 0] (q :: parC W c) (Ret (.int .i64 (parM W c x y)) (q :: parC W c)) := by
  obtain ⟨x0, x1⟩ := hx
  obtain ⟨y0, y1⟩ := hy
  obtain ⟨a, rfl⟩ := Int.eq_ofNat_of_zero_le x0
  obtain ⟨b, rfl⟩ := Int.eq_ofNat_of_zero_le y0
  have ha : a < W.length := by omega
  have hb : b < W.length := by omega
  have rl : (rngL (reF W c) W.length).length = W.length := rngL_len _ _
  have ga : ∀ i (h : i < (rngL (reF W c) W.length).length), (rngL (reF W c) W.length)[i] = reF W c i := fun i h => by
    rw [← getD_at _ 0 i h]; exact rngL_get _ _ _ (by omega)
  refine CallP.out (t := .mk) (go_in (md := md41) mixed Try.func41 rfl go41 (by kernel_rfl) ?_)
  simp only [q0, q1, q2, q3, q4, q5, q6, q7, q8, q9, zq0, zq1, zq2, zq3, zq4, guardSlot, quietA, nilC, nilA, quietB, St.ev, St.put, St.after, Nat.reduceAdd, Nat.reduceSub, ofV, ofL, lenA, binA, intBin, fltBin, strBin, cpxBin, unA, convA, convB, convO, pickV, resL, oneA, indexA, indexS, isQuiet, loadA, loadC, storeA, fieldA, partA, sliceA, boundA, buildA, placeA, setAll, appendA, readSl, newEl, AV.cells, AV.solid, AV.one, kill, killM, killL, notInt, Int.reduceToNat, cond_true, cond_false, ↓reduceIte, reduceCtorEq, Nat.reduceLT, Nat.reduceLeDiff, Nat.reduceMul, Nat.reduceEqDiff, exists_eq', putF, implies_true, exists_true_left, tys0, tys1, tys2, tys3, und0, und1, und2, md41, Try.ntmps41, Try.results41, parC, cel, rstB, kint_len, kint_get, rl, ga]
  refine ⟨by omega, ha, by omega, hb, ?_⟩
  refine br_intro (fun g => ?_) (fun g => ?_) <;> simp only [q0, q1, q2, q3, q4, q5, q6, q7, q8, q9, zq0, zq1, zq2, zq3, zq4, guardSlot, quietA, nilC, nilA, quietB, St.ev, St.put, St.after, Nat.reduceAdd, Nat.reduceSub, ofV, ofL, lenA, binA, intBin, fltBin, strBin, cpxBin, unA, convA, convB, convO, pickV, resL, oneA, indexA, indexS, isQuiet, loadA, loadC, storeA, fieldA, partA, sliceA, boundA, buildA, placeA, setAll, appendA, readSl, newEl, AV.cells, AV.solid, AV.one, kill, killM, killL, notInt, Int.reduceToNat, cond_true, cond_false, ↓reduceIte, reduceCtorEq, Nat.reduceLT, Nat.reduceLeDiff, Nat.reduceMul, Nat.reduceEqDiff, exists_eq', putF, implies_true, exists_true_left, tys0, tys1, tys2, tys3, und0, und1, und2, md41, Try.ntmps41, Try.results41, parC, cel, rstB, kint_len, kint_get, rl, ga]
  · have g' := of_decide_eq_true g
    have e : parM W c (a : Int) (b : Int) = -1 := by unfold parM; rw [if_pos (by simpa using g')]
    rw [e]
    exact PostR.ret
  · have g' := of_decide_eq_false g
    refine ⟨by omega, ha, by omega, hb, ?_⟩
    refine br_intro (fun u => ?_) (fun u => ?_) <;> simp only [q0, q1, q2, q3, q4, q5, q6, q7, q8, q9, zq0, zq1, zq2, zq3, zq4, guardSlot, quietA, nilC, nilA, quietB, St.ev, St.put, St.after, Nat.reduceAdd, Nat.reduceSub, ofV, ofL, lenA, binA, intBin, fltBin, strBin, cpxBin, unA, convA, convB, convO, pickV, resL, oneA, indexA, indexS, isQuiet, loadA, loadC, storeA, fieldA, partA, sliceA, boundA, buildA, placeA, setAll, appendA, readSl, newEl, AV.cells, AV.solid, AV.one, kill, killM, killL, notInt, Int.reduceToNat, cond_true, cond_false, ↓reduceIte, reduceCtorEq, Nat.reduceLT, Nat.reduceLeDiff, Nat.reduceMul, Nat.reduceEqDiff, exists_eq', putF, implies_true, exists_true_left, tys0, tys1, tys2, tys3, und0, und1, und2, md41, Try.ntmps41, Try.results41, parC, cel, rstB, kint_len, kint_get, rl, ga]
    · have u' := of_decide_eq_true u
      have e : parM W c (a : Int) (b : Int) = 1 := by unfold parM; rw [if_neg (by simpa using g'), if_pos (by simpa using u')]
      rw [e]
      exact PostR.ret
    · have u' := of_decide_eq_false u
      have e : parM W c (a : Int) (b : Int) = 0 := by unfold parM; rw [if_neg (by simpa using g'), if_neg (by simpa using u')]
      rw [e]
      exact PostR.ret
theorem parCmp_ok (W : List Int) (c : Int) (e : TypeId) : Cmpr 41 [.ptr 1 0 0] (parC W c) e (inN W.length) (parM W c) where
  call := fun l x y hx hy => parCmp_call _ (ints_below _ _) x y hx hy
  low := rfl
  flat := by
    intro q hq
    simp only [parC, List.mem_cons, List.not_mem_nil, or_false] at hq
    rcases hq with rfl | rfl
    · rfl
    · exact kint_below _
theorem parSort_call {W : List Int} {c : Int} (H : Wts W c) : CallA Try.prog 21 [.sl 0 0 W.length, .fn 41 [.ptr 1 0 0]] (plcB (idL W.length) :: parC W c) (Ret (.tup []) (plcB (ordK (keyR W c) W.length) :: parC W c)) := by
  have l : (idL W.length).length = W.length := rngL_len _ _
  have h1 := H.one
  have h7 := H.seven
  have s := stable_call (parCmp_ok W c 3) (idL W.length) (by omega) (by omega) (fun x hx => idL_mem.1 hx)
  rw [l, parLt] at s
  exact s
theorem l03Quotient_call (a b c : Int) (a0 : 0 ≤ a) (a1 : a ≤ 2000) (b0 : 0 ≤ b) (b1 : b ≤ 2000) (c0 : 1 ≤ c) (c1 : c ≤ 100000) : CallA Try.prog 45 [.int .i64 a, .int .i64 b, .int .i64 c] [] (Ret (.int .i64 (a * b / c)) []) := by
  refine CallP.out (t := .mk) (go_in (md := md45) mixed Try.func45 rfl go45 (by kernel_rfl) ?_)
  simp only [q0, q1, q2, q3, q4, q5, q6, q7, q8, q9, zq0, zq1, zq2, zq3, zq4, guardSlot, quietA, nilC, nilA, quietB, St.ev, St.put, St.after, Nat.reduceAdd, Nat.reduceSub, ofV, ofL, lenA, binA, intBin, fltBin, strBin, cpxBin, unA, convA, convB, convO, pickV, resL, oneA, indexA, indexS, isQuiet, loadA, loadC, storeA, fieldA, partA, sliceA, boundA, buildA, placeA, setAll, appendA, readSl, newEl, AV.cells, AV.solid, AV.one, kill, killM, killL, notInt, Int.reduceToNat, cond_true, cond_false, ↓reduceIte, reduceCtorEq, Nat.reduceLT, Nat.reduceLeDiff, Nat.reduceMul, Nat.reduceEqDiff, exists_eq', putF, implies_true, exists_true_left, tys0, tys1, tys2, tys3, und0, und1, und2, md45, Try.ntmps45, Try.results45]
  refine call_ret (twice_call a b c a0 a1 b0 b1 c0 c1) rfl rfl ?_
  simp only [q0, q1, q2, q3, q4, q5, q6, q7, q8, q9, zq0, zq1, zq2, zq3, zq4, guardSlot, quietA, nilC, nilA, quietB, St.ev, St.put, St.after, Nat.reduceAdd, Nat.reduceSub, ofV, ofL, lenA, binA, intBin, fltBin, strBin, cpxBin, unA, convA, convB, convO, pickV, resL, oneA, indexA, indexS, isQuiet, loadA, loadC, storeA, fieldA, partA, sliceA, boundA, buildA, placeA, setAll, appendA, readSl, newEl, AV.cells, AV.solid, AV.one, kill, killM, killL, notInt, Int.reduceToNat, cond_true, cond_false, ↓reduceIte, reduceCtorEq, Nat.reduceLT, Nat.reduceLeDiff, Nat.reduceMul, Nat.reduceEqDiff, exists_eq', putF, implies_true, exists_true_left, tys0, tys1, tys2, tys3, und0, und1, und2, md45, Try.ntmps45, Try.results45]
  exact PostR.ret
theorem l03Rest_call (a b c : Int) (a0 : 0 ≤ a) (a1 : a ≤ 2000) (b0 : 0 ≤ b) (b1 : b ≤ 2000) (c0 : 1 ≤ c) (c1 : c ≤ 100000) : CallA Try.prog 46 [.int .i64 a, .int .i64 b, .int .i64 c] [] (Ret (.int .i64 (rmd (a * b) c)) []) := by
  refine CallP.out (t := .mk) (go_in (md := md46) mixed Try.func46 rfl go46 (by kernel_rfl) ?_)
  simp only [q0, q1, q2, q3, q4, q5, q6, q7, q8, q9, zq0, zq1, zq2, zq3, zq4, guardSlot, quietA, nilC, nilA, quietB, St.ev, St.put, St.after, Nat.reduceAdd, Nat.reduceSub, ofV, ofL, lenA, binA, intBin, fltBin, strBin, cpxBin, unA, convA, convB, convO, pickV, resL, oneA, indexA, indexS, isQuiet, loadA, loadC, storeA, fieldA, partA, sliceA, boundA, buildA, placeA, setAll, appendA, readSl, newEl, AV.cells, AV.solid, AV.one, kill, killM, killL, notInt, Int.reduceToNat, cond_true, cond_false, ↓reduceIte, reduceCtorEq, Nat.reduceLT, Nat.reduceLeDiff, Nat.reduceMul, Nat.reduceEqDiff, exists_eq', putF, implies_true, exists_true_left, tys0, tys1, tys2, tys3, und0, und1, und2, md46, Try.ntmps46, Try.results46]
  refine call_ret (twice_call a b c a0 a1 b0 b1 c0 c1) rfl rfl ?_
  simp only [q0, q1, q2, q3, q4, q5, q6, q7, q8, q9, zq0, zq1, zq2, zq3, zq4, guardSlot, quietA, nilC, nilA, quietB, St.ev, St.put, St.after, Nat.reduceAdd, Nat.reduceSub, ofV, ofL, lenA, binA, intBin, fltBin, strBin, cpxBin, unA, convA, convB, convO, pickV, resL, oneA, indexA, indexS, isQuiet, loadA, loadC, storeA, fieldA, partA, sliceA, boundA, buildA, placeA, setAll, appendA, readSl, newEl, AV.cells, AV.solid, AV.one, kill, killM, killL, notInt, Int.reduceToNat, cond_true, cond_false, ↓reduceIte, reduceCtorEq, Nat.reduceLT, Nat.reduceLeDiff, Nat.reduceMul, Nat.reduceEqDiff, exists_eq', putF, implies_true, exists_true_left, tys0, tys1, tys2, tys3, und0, und1, und2, md46, Try.ntmps46, Try.results46]
  exact PostR.ret
end Go.Proofs.Ytimnfechlomkpaa
