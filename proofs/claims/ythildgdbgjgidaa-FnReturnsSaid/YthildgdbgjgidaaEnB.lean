/- Logarithms: what the program and its reference compute. -/
import Derived.Test.YthildgdbgjgidaaFrA
import Derived.Test.YthildgdbgjgidaaEnP
set_option maxRecDepth 10000
set_option maxHeartbeats 4000000
set_option linter.unusedSimpArgs false
set_option linter.unusedVariables false
namespace Go.Proofs.Ythildgdbgjgidaa
open Go Go.Abs

theorem c0 : canon .f64 0 = 0 := rfl
theorem c1 : canon .f64 4607182418800017408 = 4607182418800017408 := by decide +kernel
theorem c2 : canon .f64 4611686018427387904 = 4611686018427387904 := by decide +kernel
theorem c15 : canon .f64 4609434218613702656 = 4609434218613702656 := by decide +kernel
theorem c75 : canon .f64 4604930618986332160 = 4604930618986332160 := by decide +kernel
theorem c25 : canon .f64 4627730092099895296 = 4627730092099895296 := by decide +kernel
theorem cln : canon .f64 4604418534313441775 = 4604418534313441775 := by decide +kernel
theorem e25 : eF 25 = 4627730092099895296 := by decide +kernel
theorem e00 : eF 0 = 0 := by decide +kernel
structure WayH (y : Nat) (p : Nat × Nat) : Prop where
  h : Hi p.1 p.2
  fin : hlvF (60 - p.1) p.2 (p.1 : Int) = hlvF 60 y 0
structure WayL (R : Nat × Int) (e0 : Int) (p : Nat × Nat) : Prop where
  h : Lo p.1 p.2
  fin : dblF (60 - p.1) p.2 (e0 - (p.1 : Int)) = R
theorem WayH.more {y : Nat} {p : Nat × Nat} (W : WayH y p) (h : fge .f64 p.2 w15 = true) : WayH y (p.1 + 1, fdiv .f64 p.2 two64) := by
  have hm := W.h.more h
  refine ⟨hm, ?_⟩
  rw [← W.fin]
  have : p.1 + 1 ≤ 40 := hm.hi
  rw [show 60 - p.1 = (60 - (p.1 + 1)) + 1 by omega, hlvF, if_pos h]
  rfl
theorem WayH.done {y : Nat} {p : Nat × Nat} (W : WayH y p) (h : fge .f64 p.2 w15 = false) : hlvF 60 y 0 = (p.2, (p.1 : Int)) := by
  rw [← W.fin]
  have := W.h.hi
  rw [show 60 - p.1 = (60 - (p.1 + 1)) + 1 by omega, hlvF, if_neg (by rw [h]; decide)]
theorem WayL.more {R : Nat × Int} {e0 : Int} {p : Nat × Nat} (W : WayL R e0 p) (h : flt .f64 p.2 w075 = true) : WayL R e0 (p.1 + 1, fmul .f64 p.2 two64) := by
  have hm := W.h.more h
  refine ⟨hm, ?_⟩
  rw [← W.fin]
  have : p.1 + 1 ≤ 40 := hm.hj
  rw [show 60 - p.1 = (60 - (p.1 + 1)) + 1 by omega, dblF, if_pos h]
  show dblF _ _ (e0 - ((p.1 + 1 : Nat) : Int)) = _
  congr 1
  omega
theorem WayL.done {R : Nat × Int} {e0 : Int} {p : Nat × Nat} (W : WayL R e0 p) (h : flt .f64 p.2 w075 = false) : R = (p.2, e0 - (p.1 : Int)) := by
  rw [← W.fin]
  have := W.h.hj
  rw [show 60 - p.1 = (60 - (p.1 + 1)) + 1 by omega, dblF, if_neg (by rw [h]; decide)]
theorem logarithm_call (y : Nat) (H : Hi 0 y) : CallA Try.prog 31 [.flt .f64 y] [] (Ret (.flt .f64 (logF y)) []) := by
  refine CallP.out (t := .mk) (go_in (md := md31) mixed Try.func31 rfl go31 (by kernel_rfl) ?_)
  simp only [q0, q1, q2, q3, q4, q5, q6, q7, q8, q9, zq0, zq1, zq2, zq3, zq4, guardSlot, quietA, nilC, nilA, quietB, St.ev, St.put, St.after, Nat.reduceAdd, Nat.reduceSub, ofV, ofL, lenA, binA, intBin, fltBin, strBin, cpxBin, unA, convA, convB, convO, pickV, resL, oneA, indexA, indexS, isQuiet, loadA, loadC, storeA, fieldA, partA, sliceA, boundA, buildA, placeA, setAll, appendA, readSl, newEl, AV.cells, AV.solid, AV.one, kill, killM, killL, notInt, Int.reduceToNat, cond_true, cond_false, ↓reduceIte, reduceCtorEq, Nat.reduceLT, Nat.reduceLeDiff, Nat.reduceMul, Nat.reduceEqDiff, exists_eq', putF, implies_true, exists_true_left, tys0, tys1, tys2, und0, und1, und2, md31, Try.ntmps31, Try.results31, c0, c1, c2, c15, c75, c25, cln]
  refine go_round (md := md31) mixed (by kernel_rfl) (fun p : {p : Nat × Nat // WayH y p} => ⟨[.flt .f64 p.1.2, .any, .any, .flt .f64 (eF (p.1.1 : Int)), .any, .any, .any, .any, .any, .any, .any, .any, .any, .any, .any, .any, .any, .any, .any, .any, .any, .any, .any, .any, .any, .any, .any, .any, .any, .any, .any, .any, .any, .any, .any, .any, .any, .any, .any, .any, .any, .any, .any, .any, .any], []⟩) (fun p => 60 - p.1.1) ⟨(0, y), ⟨H, rfl⟩⟩ ?_ ?_
  · exact weak_drop (by simp) (by simp [DropHp, ints_below, flts_below, e00]) (by simp [DropTm, DropV, below, belowM, belowL, e00])
  rintro ⟨⟨i, x⟩, W⟩
  simp only [q0, q1, q2, q3, q4, q5, q6, q7, q8, q9, zq0, zq1, zq2, zq3, zq4, guardSlot, quietA, nilC, nilA, quietB, St.ev, St.put, St.after, Nat.reduceAdd, Nat.reduceSub, ofV, ofL, lenA, binA, intBin, fltBin, strBin, cpxBin, unA, convA, convB, convO, pickV, resL, oneA, indexA, indexS, isQuiet, loadA, loadC, storeA, fieldA, partA, sliceA, boundA, buildA, placeA, setAll, appendA, readSl, newEl, AV.cells, AV.solid, AV.one, kill, killM, killL, notInt, Int.reduceToNat, cond_true, cond_false, ↓reduceIte, reduceCtorEq, Nat.reduceLT, Nat.reduceLeDiff, Nat.reduceMul, Nat.reduceEqDiff, exists_eq', putF, implies_true, exists_true_left, tys0, tys1, tys2, und0, und1, und2, md31, Try.ntmps31, Try.results31, c0, c1, c2, c15, c75, c25, cln]
  refine br_intro (fun h => ?_) (fun h => ?_) <;> simp only [q0, q1, q2, q3, q4, q5, q6, q7, q8, q9, zq0, zq1, zq2, zq3, zq4, guardSlot, quietA, nilC, nilA, quietB, St.ev, St.put, St.after, Nat.reduceAdd, Nat.reduceSub, ofV, ofL, lenA, binA, intBin, fltBin, strBin, cpxBin, unA, convA, convB, convO, pickV, resL, oneA, indexA, indexS, isQuiet, loadA, loadC, storeA, fieldA, partA, sliceA, boundA, buildA, placeA, setAll, appendA, readSl, newEl, AV.cells, AV.solid, AV.one, kill, killM, killL, notInt, Int.reduceToNat, cond_true, cond_false, ↓reduceIte, reduceCtorEq, Nat.reduceLT, Nat.reduceLeDiff, Nat.reduceMul, Nat.reduceEqDiff, exists_eq', putF, implies_true, exists_true_left, tys0, tys1, tys2, und0, und1, und2, md31, Try.ntmps31, Try.results31, c0, c1, c2, c15, c75, c25, cln]
  · have hi : i + 1 ≤ 40 := (W.h.more h).hi
    have a1 : fadd .f64 (eF (i : Int)) 4607182418800017408 = eF ((i : Int) + 1) := eF_up i (by omega)
    refine ⟨⟨(i + 1, fdiv .f64 x two64), W.more h⟩, by show 60 - (i + 1) < 60 - i; omega, ?_⟩
    exact weak_drop (by simp) (by simp [DropHp, ints_below, flts_below, a1, two64]) (by simp [DropTm, DropV, below, belowM, belowL, a1, two64])
  have hd := W.done h
  have L := W.h.done h
  simp only [] at hd L
  have hi : i ≤ 40 := W.h.hi
  refine go_round (md := md31) mixed (by kernel_rfl) (fun p : {p : Nat × Nat // WayL (dblF 60 x (i : Int)) (i : Int) p} => ⟨[.flt .f64 p.1.2, .any, .any, .flt .f64 (eF ((i : Int) - (p.1.1 : Int))), .any, .any, .any, .any, .any, .any, .any, .any, .any, .any, .any, .any, .any, .any, .any, .any, .any, .any, .any, .any, .any, .any, .any, .any, .any, .any, .any, .any, .any, .any, .any, .any, .any, .any, .any, .any, .any, .any, .any, .any, .any], []⟩) (fun p => 60 - p.1.1) ⟨(0, x), ⟨L, by simp⟩⟩ ?_ ?_
  · exact weak_drop (by simp) (by simp [DropHp, ints_below, flts_below, Int.sub_zero]) (by simp [DropTm, DropV, below, belowM, belowL, Int.sub_zero])
  rintro ⟨⟨j, z⟩, V⟩
  simp only [q0, q1, q2, q3, q4, q5, q6, q7, q8, q9, zq0, zq1, zq2, zq3, zq4, guardSlot, quietA, nilC, nilA, quietB, St.ev, St.put, St.after, Nat.reduceAdd, Nat.reduceSub, ofV, ofL, lenA, binA, intBin, fltBin, strBin, cpxBin, unA, convA, convB, convO, pickV, resL, oneA, indexA, indexS, isQuiet, loadA, loadC, storeA, fieldA, partA, sliceA, boundA, buildA, placeA, setAll, appendA, readSl, newEl, AV.cells, AV.solid, AV.one, kill, killM, killL, notInt, Int.reduceToNat, cond_true, cond_false, ↓reduceIte, reduceCtorEq, Nat.reduceLT, Nat.reduceLeDiff, Nat.reduceMul, Nat.reduceEqDiff, exists_eq', putF, implies_true, exists_true_left, tys0, tys1, tys2, und0, und1, und2, md31, Try.ntmps31, Try.results31, c0, c1, c2, c15, c75, c25, cln]
  refine br_intro (fun g => ?_) (fun g => ?_) <;> simp only [q0, q1, q2, q3, q4, q5, q6, q7, q8, q9, zq0, zq1, zq2, zq3, zq4, guardSlot, quietA, nilC, nilA, quietB, St.ev, St.put, St.after, Nat.reduceAdd, Nat.reduceSub, ofV, ofL, lenA, binA, intBin, fltBin, strBin, cpxBin, unA, convA, convB, convO, pickV, resL, oneA, indexA, indexS, isQuiet, loadA, loadC, storeA, fieldA, partA, sliceA, boundA, buildA, placeA, setAll, appendA, readSl, newEl, AV.cells, AV.solid, AV.one, kill, killM, killL, notInt, Int.reduceToNat, cond_true, cond_false, ↓reduceIte, reduceCtorEq, Nat.reduceLT, Nat.reduceLeDiff, Nat.reduceMul, Nat.reduceEqDiff, exists_eq', putF, implies_true, exists_true_left, tys0, tys1, tys2, und0, und1, und2, md31, Try.ntmps31, Try.results31, c0, c1, c2, c15, c75, c25, cln]
  · have hj : j + 1 ≤ 40 := (V.h.more g).hj
    have a1 : fsub .f64 (eF ((i : Int) - (j : Int))) 4607182418800017408 = eF ((i : Int) - ((j + 1 : Nat) : Int)) := by
      have h := eF_dn (i + 40 - j) (by omega)
      rw [show ((i + 40 - j : Nat) : Int) - 40 = (i : Int) - j by omega, show (i : Int) - j - 1 = (i : Int) - ((j + 1 : Nat) : Int) by omega] at h
      exact h
    refine ⟨⟨(j + 1, fmul .f64 z two64), V.more g⟩, by show 60 - (j + 1) < 60 - j; omega, ?_⟩
    exact weak_drop (by simp) (by simp [DropHp, ints_below, flts_below, a1, two64]) (by simp [DropTm, DropV, below, belowM, belowL, a1, two64])
  have gd := V.done g
  have M := V.h.done g
  simp only [] at gd M
  have eo : logF y = outF z ((i : Int) - (j : Int)) := by rw [logF, hd, gd]
  rw [eo]
  refine go_round (md := md31) mixed (by kernel_rfl) (fun r : {r : Nat // r ≤ 13} => ⟨[.any, .any, .any, .flt .f64 (eF ((i : Int) - (j : Int))), .flt .f64 (sF z), .flt .f64 (fmul .f64 (sF z) (sF z)), .flt .f64 (qF (fmul .f64 (sF z) (sF z)) r.1), .flt .f64 (eF (25 - 2 * (r.1 : Int))), .any, .any, .any, .any, .any, .any, .any, .any, .any, .any, .any, .any, .any, .any, .any, .any, .any, .any, .any, .any, .any, .any, .any, .any, .any, .any, .any, .any, .any, .any, .any, .any, .any, .any, .any, .any, .any], []⟩) (fun r => 13 - r.1) ⟨0, by omega⟩ ?_ ?_
  · exact weak_drop (by simp) (by simp [DropHp, ints_below, flts_below, e25, sF, one64, qF]) (by simp [DropTm, DropV, below, belowM, belowL, e25, sF, one64, qF])
  rintro ⟨r, hr⟩
  obtain ⟨k1, k2⟩ := eF_k r (by omega)
  have k1 : fge .f64 (eF (25 - 2 * (r : Int))) 4607182418800017408 = decide (r < 13) := k1
  have k2 : fsub .f64 (eF (25 - 2 * (r : Int))) 4611686018427387904 = eF (25 - 2 * ((r : Int) + 1)) := k2
  simp only [q0, q1, q2, q3, q4, q5, q6, q7, q8, q9, zq0, zq1, zq2, zq3, zq4, guardSlot, quietA, nilC, nilA, quietB, St.ev, St.put, St.after, Nat.reduceAdd, Nat.reduceSub, ofV, ofL, lenA, binA, intBin, fltBin, strBin, cpxBin, unA, convA, convB, convO, pickV, resL, oneA, indexA, indexS, isQuiet, loadA, loadC, storeA, fieldA, partA, sliceA, boundA, buildA, placeA, setAll, appendA, readSl, newEl, AV.cells, AV.solid, AV.one, kill, killM, killL, notInt, Int.reduceToNat, cond_true, cond_false, ↓reduceIte, reduceCtorEq, Nat.reduceLT, Nat.reduceLeDiff, Nat.reduceMul, Nat.reduceEqDiff, exists_eq', putF, implies_true, exists_true_left, tys0, tys1, tys2, und0, und1, und2, md31, Try.ntmps31, Try.results31, c0, c1, c2, c15, c75, c25, cln, k1, k2]
  refine br_intro (fun t => ?_) (fun t => ?_) <;> simp only [q0, q1, q2, q3, q4, q5, q6, q7, q8, q9, zq0, zq1, zq2, zq3, zq4, guardSlot, quietA, nilC, nilA, quietB, St.ev, St.put, St.after, Nat.reduceAdd, Nat.reduceSub, ofV, ofL, lenA, binA, intBin, fltBin, strBin, cpxBin, unA, convA, convB, convO, pickV, resL, oneA, indexA, indexS, isQuiet, loadA, loadC, storeA, fieldA, partA, sliceA, boundA, buildA, placeA, setAll, appendA, readSl, newEl, AV.cells, AV.solid, AV.one, kill, killM, killL, notInt, Int.reduceToNat, cond_true, cond_false, ↓reduceIte, reduceCtorEq, Nat.reduceLT, Nat.reduceLeDiff, Nat.reduceMul, Nat.reduceEqDiff, exists_eq', putF, implies_true, exists_true_left, tys0, tys1, tys2, und0, und1, und2, md31, Try.ntmps31, Try.results31, c0, c1, c2, c15, c75, c25, cln, k1, k2]
  · have ht := of_decide_eq_true t
    refine ⟨⟨r + 1, by omega⟩, by show 13 - (r + 1) < 13 - r; omega, ?_⟩
    have qs : qF (fmul .f64 (sF z) (sF z)) (r + 1) = fadd .f64 (fdiv .f64 4607182418800017408 (eF (25 - 2 * (r : Int)))) (fmul .f64 (fmul .f64 (sF z) (sF z)) (qF (fmul .f64 (sF z) (sF z)) r)) := rfl
    exact weak_drop (by simp) (by simp [DropHp, ints_below, flts_below, qs]) (by simp [DropTm, DropV, below, belowM, belowL, qs])
  · have ht := of_decide_eq_false t
    have hr13 : r = 13 := by omega
    subst hr13
    exact PostR.pure ⟨rfl, rfl⟩ rfl
end Go.Proofs.Ythildgdbgjgidaa
