/- Funds: returns that are drawn, funds that run, what is worth now: both sides. -/
import Derived.Test.YtobjnmdofgbacaaFuA
set_option maxRecDepth 10000
set_option maxHeartbeats 4000000
set_option linter.unusedSimpArgs false
set_option linter.unusedVariables false
namespace Go.Proofs.Ytobjnmdofgbacaa
open Go Go.Abs

def fltB (xs : List Nat) : Blk := { ty := 26, w := 1, els := flts xs }
theorem f0 : canon .f32 0 = 0 := by decide +kernel
theorem f1 : canon .f32 1065353216 = 1065353216 := by decide +kernel
def sd (s : Int) : Int := (1664525 * s + 1013904223) % 4294967296
def sdn (s : Int) : Nat → Int
  | 0 => s
  | k + 1 => sd (sdn s k)
theorem sdn_add (s : Int) (a b : Nat) : sdn (sdn s a) b = sdn s (a + b) := by
  induction b with
  | zero => rfl
  | succ b ih => show sd (sdn (sdn s a) b) = sd (sdn s (a + b)); rw [ih]
theorem sd_low (s : Int) : 0 ≤ sd s ∧ sd s ≤ 4294967295 := by unfold sd; omega
theorem sdn_low {s : Int} (h : 0 ≤ s ∧ s ≤ 4294967295) (k : Nat) : 0 ≤ sdn s k ∧ sdn s k ≤ 4294967295 := by
  cases k with
  | zero => exact h
  | succ k => exact sd_low _
def drF (s : Int) : Nat := fsub .f32 (fmul .f32 (iF (s / 256)) 864026624) 1056964608
def dsF (s : Int) : Nat := fsub .f32 (fdiv .f32 (iF (s / 256)) 1266679808) 1056964608
def smD (s : Int) : Nat → Nat
  | 0 => 0
  | k + 1 => fadd .f32 (smD s k) (drF (sdn s (k + 1)))
def reW (m w : Nat) (s : Int) : Nat := fadd .f32 m (fmul .f32 w (smD s 4))
def reL (m w : Nat) (s : Int) (i : Nat) : List Nat := (List.range i).map fun j => reW m w (sdn s (4 * j))
theorem reL_len (m w : Nat) (s : Int) (i : Nat) : (reL m w s i).length = i := by simp [reL]
theorem reL_succ (m w : Nat) (s : Int) (i : Nat) : reL m w s (i + 1) = reL m w s i ++ [reW m w (sdn s (4 * i))] := by simp [reL, List.range_succ]
theorem flts_snoc (xs : List Nat) (x : Nat) : flts (xs ++ [x]) = flts xs ++ [.flt .f32 x] := by simp [flts]
theorem sd_step {s : Int} (h : 0 ≤ s ∧ s ≤ 4294967295) : IntKind.i64.wrap (IntKind.i64.wrap (1664525 * s) + 1013904223) = 1664525 * s + 1013904223 ∧ (1664525 * s + 1013904223).tmod 4294967296 = sd s ∧ (sd s).tdiv 256 = sd s / 256 ∧ IntKind.i64.wrap (sd s / 256) = sd s / 256 := by
  have l := sd_low s
  refine ⟨?_, ?_, ?_, ?_⟩
  · rw [w64 (n := 1664525 * s) (by omega) (by omega), w64 (by omega) (by omega)]
  · exact Int.tmod_eq_emod_of_nonneg (by omega)
  · exact Int.tdiv_eq_ediv_of_nonneg l.1
  · exact w64 (by omega) (by omega)
theorem implDrawn_call (m w : Nat) (s : Int) (n : Nat) (hm : finB .f32 m = true) (hw : finB .f32 w = true) (hs : 0 ≤ s ∧ s ≤ 4294967295) (n1 : 1 ≤ n) (n2 : n ≤ 64) (hf : (reL m w s n).all (finB .f32) = true) :
    CallA Try.prog 6 [.flt .f32 m, .flt .f32 w, .int .i64 s, .int .i64 n] [] (Ret (.tup [.sl 0 0 n, .int .i64 (sdn s (4 * n)), .bool true]) [fltB (reL m w s n)]) := by
  refine CallP.out (t := .mk) (go_in (md := md6) mixed Try.func6 rfl go6 (by kernel_rfl) ?_)
  simp only [q0, q1, q2, q3, q4, q5, q6, q7, q8, q9, zq0, zq1, zq2, zq3, zq4, guardSlot, quietA, nilC, nilA, quietB, St.ev, St.put, St.after, Nat.reduceAdd, Nat.reduceSub, ofV, ofL, lenA, binA, intBin, fltBin, strBin, cpxBin, unA, convA, convB, convO, pickV, resL, oneA, indexA, indexS, isQuiet, loadA, loadC, storeA, fieldA, partA, sliceA, boundA, buildA, placeA, setAll, appendA, readSl, newEl, AV.cells, AV.solid, AV.one, kill, killM, killL, notInt, Int.reduceToNat, cond_true, cond_false, ↓reduceIte, reduceCtorEq, Nat.reduceLT, Nat.reduceLeDiff, Nat.reduceMul, Nat.reduceEqDiff, exists_eq', putF, implies_true, exists_true_left, tys0, tys1, tys2, und0, und1, md6, Try.ntmps6, Try.results6]
  refine call_ret (isFinite_call m) rfl rfl ?_
  simp only [q0, q1, q2, q3, q4, q5, q6, q7, q8, q9, zq0, zq1, zq2, zq3, zq4, guardSlot, quietA, nilC, nilA, quietB, St.ev, St.put, St.after, Nat.reduceAdd, Nat.reduceSub, ofV, ofL, lenA, binA, intBin, fltBin, strBin, cpxBin, unA, convA, convB, convO, pickV, resL, oneA, indexA, indexS, isQuiet, loadA, loadC, storeA, fieldA, partA, sliceA, boundA, buildA, placeA, setAll, appendA, readSl, newEl, AV.cells, AV.solid, AV.one, kill, killM, killL, notInt, Int.reduceToNat, cond_true, cond_false, ↓reduceIte, reduceCtorEq, Nat.reduceLT, Nat.reduceLeDiff, Nat.reduceMul, Nat.reduceEqDiff, exists_eq', putF, implies_true, exists_true_left, tys0, tys1, tys2, und0, und1, md6, Try.ntmps6, Try.results6]
  refine br_yes hm ?_
  simp only [q0, q1, q2, q3, q4, q5, q6, q7, q8, q9, zq0, zq1, zq2, zq3, zq4, guardSlot, quietA, nilC, nilA, quietB, St.ev, St.put, St.after, Nat.reduceAdd, Nat.reduceSub, ofV, ofL, lenA, binA, intBin, fltBin, strBin, cpxBin, unA, convA, convB, convO, pickV, resL, oneA, indexA, indexS, isQuiet, loadA, loadC, storeA, fieldA, partA, sliceA, boundA, buildA, placeA, setAll, appendA, readSl, newEl, AV.cells, AV.solid, AV.one, kill, killM, killL, notInt, Int.reduceToNat, cond_true, cond_false, ↓reduceIte, reduceCtorEq, Nat.reduceLT, Nat.reduceLeDiff, Nat.reduceMul, Nat.reduceEqDiff, exists_eq', putF, implies_true, exists_true_left, tys0, tys1, tys2, und0, und1, md6, Try.ntmps6, Try.results6]
  refine call_ret (isFinite_call w) rfl rfl ?_
  simp only [q0, q1, q2, q3, q4, q5, q6, q7, q8, q9, zq0, zq1, zq2, zq3, zq4, guardSlot, quietA, nilC, nilA, quietB, St.ev, St.put, St.after, Nat.reduceAdd, Nat.reduceSub, ofV, ofL, lenA, binA, intBin, fltBin, strBin, cpxBin, unA, convA, convB, convO, pickV, resL, oneA, indexA, indexS, isQuiet, loadA, loadC, storeA, fieldA, partA, sliceA, boundA, buildA, placeA, setAll, appendA, readSl, newEl, AV.cells, AV.solid, AV.one, kill, killM, killL, notInt, Int.reduceToNat, cond_true, cond_false, ↓reduceIte, reduceCtorEq, Nat.reduceLT, Nat.reduceLeDiff, Nat.reduceMul, Nat.reduceEqDiff, exists_eq', putF, implies_true, exists_true_left, tys0, tys1, tys2, und0, und1, md6, Try.ntmps6, Try.results6]
  refine br_yes hw ?_
  simp only [q0, q1, q2, q3, q4, q5, q6, q7, q8, q9, zq0, zq1, zq2, zq3, zq4, guardSlot, quietA, nilC, nilA, quietB, St.ev, St.put, St.after, Nat.reduceAdd, Nat.reduceSub, ofV, ofL, lenA, binA, intBin, fltBin, strBin, cpxBin, unA, convA, convB, convO, pickV, resL, oneA, indexA, indexS, isQuiet, loadA, loadC, storeA, fieldA, partA, sliceA, boundA, buildA, placeA, setAll, appendA, readSl, newEl, AV.cells, AV.solid, AV.one, kill, killM, killL, notInt, Int.reduceToNat, cond_true, cond_false, ↓reduceIte, reduceCtorEq, Nat.reduceLT, Nat.reduceLeDiff, Nat.reduceMul, Nat.reduceEqDiff, exists_eq', putF, implies_true, exists_true_left, tys0, tys1, tys2, und0, und1, md6, Try.ntmps6, Try.results6]
  refine call_ret (within_call _ _ _) rfl rfl ?_
  simp only [q0, q1, q2, q3, q4, q5, q6, q7, q8, q9, zq0, zq1, zq2, zq3, zq4, guardSlot, quietA, nilC, nilA, quietB, St.ev, St.put, St.after, Nat.reduceAdd, Nat.reduceSub, ofV, ofL, lenA, binA, intBin, fltBin, strBin, cpxBin, unA, convA, convB, convO, pickV, resL, oneA, indexA, indexS, isQuiet, loadA, loadC, storeA, fieldA, partA, sliceA, boundA, buildA, placeA, setAll, appendA, readSl, newEl, AV.cells, AV.solid, AV.one, kill, killM, killL, notInt, Int.reduceToNat, cond_true, cond_false, ↓reduceIte, reduceCtorEq, Nat.reduceLT, Nat.reduceLeDiff, Nat.reduceMul, Nat.reduceEqDiff, exists_eq', putF, implies_true, exists_true_left, tys0, tys1, tys2, und0, und1, md6, Try.ntmps6, Try.results6]
  refine br_yes (by simp only [Bool.and_eq_true, decide_eq_true_eq]; exact hs) ?_
  simp only [q0, q1, q2, q3, q4, q5, q6, q7, q8, q9, zq0, zq1, zq2, zq3, zq4, guardSlot, quietA, nilC, nilA, quietB, St.ev, St.put, St.after, Nat.reduceAdd, Nat.reduceSub, ofV, ofL, lenA, binA, intBin, fltBin, strBin, cpxBin, unA, convA, convB, convO, pickV, resL, oneA, indexA, indexS, isQuiet, loadA, loadC, storeA, fieldA, partA, sliceA, boundA, buildA, placeA, setAll, appendA, readSl, newEl, AV.cells, AV.solid, AV.one, kill, killM, killL, notInt, Int.reduceToNat, cond_true, cond_false, ↓reduceIte, reduceCtorEq, Nat.reduceLT, Nat.reduceLeDiff, Nat.reduceMul, Nat.reduceEqDiff, exists_eq', putF, implies_true, exists_true_left, tys0, tys1, tys2, und0, und1, md6, Try.ntmps6, Try.results6]
  refine call_ret (within_call _ _ _) rfl rfl ?_
  simp only [q0, q1, q2, q3, q4, q5, q6, q7, q8, q9, zq0, zq1, zq2, zq3, zq4, guardSlot, quietA, nilC, nilA, quietB, St.ev, St.put, St.after, Nat.reduceAdd, Nat.reduceSub, ofV, ofL, lenA, binA, intBin, fltBin, strBin, cpxBin, unA, convA, convB, convO, pickV, resL, oneA, indexA, indexS, isQuiet, loadA, loadC, storeA, fieldA, partA, sliceA, boundA, buildA, placeA, setAll, appendA, readSl, newEl, AV.cells, AV.solid, AV.one, kill, killM, killL, notInt, Int.reduceToNat, cond_true, cond_false, ↓reduceIte, reduceCtorEq, Nat.reduceLT, Nat.reduceLeDiff, Nat.reduceMul, Nat.reduceEqDiff, exists_eq', putF, implies_true, exists_true_left, tys0, tys1, tys2, und0, und1, md6, Try.ntmps6, Try.results6]
  refine br_yes (by simp only [Bool.and_eq_true, decide_eq_true_eq]; omega) ?_
  simp only [q0, q1, q2, q3, q4, q5, q6, q7, q8, q9, zq0, zq1, zq2, zq3, zq4, guardSlot, quietA, nilC, nilA, quietB, St.ev, St.put, St.after, Nat.reduceAdd, Nat.reduceSub, ofV, ofL, lenA, binA, intBin, fltBin, strBin, cpxBin, unA, convA, convB, convO, pickV, resL, oneA, indexA, indexS, isQuiet, loadA, loadC, storeA, fieldA, partA, sliceA, boundA, buildA, placeA, setAll, appendA, readSl, newEl, AV.cells, AV.solid, AV.one, kill, killM, killL, notInt, Int.reduceToNat, cond_true, cond_false, ↓reduceIte, reduceCtorEq, Nat.reduceLT, Nat.reduceLeDiff, Nat.reduceMul, Nat.reduceEqDiff, exists_eq', putF, implies_true, exists_true_left, tys0, tys1, tys2, und0, und1, md6, Try.ntmps6, Try.results6]
  refine go_round (md := md6) mixed (by kernel_rfl) (fun i : {i : Nat // i ≤ n} => ⟨[.flt .f32 m, .flt .f32 w, .int .i64 (sdn s (4 * i.1)), .any, .any, .any, .any, .any, .any, .any, .any, .sl 0 0 i.1, .any, .any, .any, .any, .any, .any, .any, .any, .any, .any, .any, .any, .any, .any, .any, .any, .any, .any, .any, .any, .any, .int .i64 n, .int .i64 (i.1 : Int), .any, .any, .any, .any, .any, .any, .any, .any, .any, .any, .any, .any, .any, .any, .any, .any, .any, .any, .any, .any, .any, .any, .any, .any, .any, .any, .any, .any, .any, .any], [fltB (reL m w s i.1)]⟩) (fun i => n - i.1) ⟨0, by omega⟩ ?_ ?_
  · have e : reL m w s 0 = [] := rfl
    have e2 : sdn s (4 * 0) = s := rfl
    have e3 : flts [] = [] := rfl
    rw [e, e2]
    exact weak_drop (by simp) (by simp [DropHp, ints_below, flts_below, fltB, e3, allBelow_cons, allBelow_nil, below, belowM, belowL]) (by simp [DropTm, DropV, below, belowM, belowL, fltB, e3, allBelow_cons, allBelow_nil, below, belowM, belowL])
  rintro ⟨i, hi⟩
  have ll := reL_len m w s i
  simp only [q0, q1, q2, q3, q4, q5, q6, q7, q8, q9, zq0, zq1, zq2, zq3, zq4, guardSlot, quietA, nilC, nilA, quietB, St.ev, St.put, St.after, Nat.reduceAdd, Nat.reduceSub, ofV, ofL, lenA, binA, intBin, fltBin, strBin, cpxBin, unA, convA, convB, convO, pickV, resL, oneA, indexA, indexS, isQuiet, loadA, loadC, storeA, fieldA, partA, sliceA, boundA, buildA, placeA, setAll, appendA, readSl, newEl, AV.cells, AV.solid, AV.one, kill, killM, killL, notInt, Int.reduceToNat, cond_true, cond_false, ↓reduceIte, reduceCtorEq, Nat.reduceLT, Nat.reduceLeDiff, Nat.reduceMul, Nat.reduceEqDiff, exists_eq', putF, implies_true, exists_true_left, tys0, tys1, tys2, und0, und1, md6, Try.ntmps6, Try.results6, f0]
  refine br_intro (fun h => ?_) (fun h => ?_) <;> simp only [q0, q1, q2, q3, q4, q5, q6, q7, q8, q9, zq0, zq1, zq2, zq3, zq4, guardSlot, quietA, nilC, nilA, quietB, St.ev, St.put, St.after, Nat.reduceAdd, Nat.reduceSub, ofV, ofL, lenA, binA, intBin, fltBin, strBin, cpxBin, unA, convA, convB, convO, pickV, resL, oneA, indexA, indexS, isQuiet, loadA, loadC, storeA, fieldA, partA, sliceA, boundA, buildA, placeA, setAll, appendA, readSl, newEl, AV.cells, AV.solid, AV.one, kill, killM, killL, notInt, Int.reduceToNat, cond_true, cond_false, ↓reduceIte, reduceCtorEq, Nat.reduceLT, Nat.reduceLeDiff, Nat.reduceMul, Nat.reduceEqDiff, exists_eq', putF, implies_true, exists_true_left, tys0, tys1, tys2, und0, und1, md6, Try.ntmps6, Try.results6, f0]
  · have hi' : i < n := by have := of_decide_eq_true h; omega
    refine go_round (md := md6) mixed (by kernel_rfl) (fun k : {k : Nat // k ≤ 4} => ⟨[.flt .f32 m, .flt .f32 w, .int .i64 (sdn s (4 * i + k.1)), .any, .any, .any, .any, .any, .any, .any, .any, .sl 0 0 i, .flt .f32 (smD (sdn s (4 * i)) k.1), .any, .any, .any, .any, .any, .any, .any, .any, .any, .any, .any, .any, .any, .any, .any, .any, .any, .any, .any, .any, .int .i64 n, .int .i64 (i : Int), .any, .int .i64 (k.1 : Int), .any, .any, .any, .any, .any, .any, .any, .any, .any, .any, .any, .any, .any, .any, .any, .any, .any, .any, .any, .any, .any, .any, .any, .any, .any, .any, .any, .any], [fltB (reL m w s i)]⟩) (fun k => 4 - k.1) ⟨0, by omega⟩ ?_ ?_
    · have e : smD (sdn s (4 * i)) 0 = 0 := rfl
      rw [e]
      exact weak_drop (by simp) (by simp [DropHp, ints_below, flts_below, fltB, Nat.add_zero]) (by simp [DropTm, DropV, below, belowM, belowL, fltB, Nat.add_zero])
    rintro ⟨k, hk⟩
    have L := sdn_low hs (4 * i + k)
    obtain ⟨s1, s2, s3, s4⟩ := sd_step L
    have z1 : (4294967296 : Int) ≠ 0 := by decide
    have z2 : (256 : Int) ≠ 0 := by decide
    have c1 : canon .f32 864026624 = 864026624 := by decide +kernel
    have c2 : canon .f32 1056964608 = 1056964608 := by decide +kernel
    simp only [q0, q1, q2, q3, q4, q5, q6, q7, q8, q9, zq0, zq1, zq2, zq3, zq4, guardSlot, quietA, nilC, nilA, quietB, St.ev, St.put, St.after, Nat.reduceAdd, Nat.reduceSub, ofV, ofL, lenA, binA, intBin, fltBin, strBin, cpxBin, unA, convA, convB, convO, pickV, resL, oneA, indexA, indexS, isQuiet, loadA, loadC, storeA, fieldA, partA, sliceA, boundA, buildA, placeA, setAll, appendA, readSl, newEl, AV.cells, AV.solid, AV.one, kill, killM, killL, notInt, Int.reduceToNat, cond_true, cond_false, ↓reduceIte, reduceCtorEq, Nat.reduceLT, Nat.reduceLeDiff, Nat.reduceMul, Nat.reduceEqDiff, exists_eq', putF, implies_true, exists_true_left, tys0, tys1, tys2, und0, und1, md6, Try.ntmps6, Try.results6, fltB, flts_len, ll, s1, s2, s3, s4, c1, c2]
    refine br_intro (fun g => ?_) (fun g => ?_) <;> simp only [q0, q1, q2, q3, q4, q5, q6, q7, q8, q9, zq0, zq1, zq2, zq3, zq4, guardSlot, quietA, nilC, nilA, quietB, St.ev, St.put, St.after, Nat.reduceAdd, Nat.reduceSub, ofV, ofL, lenA, binA, intBin, fltBin, strBin, cpxBin, unA, convA, convB, convO, pickV, resL, oneA, indexA, indexS, isQuiet, loadA, loadC, storeA, fieldA, partA, sliceA, boundA, buildA, placeA, setAll, appendA, readSl, newEl, AV.cells, AV.solid, AV.one, kill, killM, killL, notInt, Int.reduceToNat, cond_true, cond_false, ↓reduceIte, reduceCtorEq, Nat.reduceLT, Nat.reduceLeDiff, Nat.reduceMul, Nat.reduceEqDiff, exists_eq', putF, implies_true, exists_true_left, tys0, tys1, tys2, und0, und1, md6, Try.ntmps6, Try.results6, fltB, flts_len, ll, s1, s2, s3, s4, c1, c2]
    · have hk' : k < 4 := by have := of_decide_eq_true g; omega
      have e1 : sd (sdn s (4 * i + k)) = sdn s (4 * i + (k + 1)) := rfl
      have e2 : smD (sdn s (4 * i)) (k + 1) = fadd .f32 (smD (sdn s (4 * i)) k) (drF (sdn s (4 * i + (k + 1)))) := by
        show fadd .f32 _ (drF (sdn (sdn s (4 * i)) (k + 1))) = _
        rw [sdn_add]
      have e3 : ∀ z, canon .f32 (FloatKind.nearest .f32 z) = iF z := fun z => rfl
      refine ⟨z1, z2, ⟨k + 1, by omega⟩, by show 4 - (k + 1) < 4 - k; omega, ?_⟩
      rw [e2]
      simp only [drF]
      exact weak_drop (by simp) (by simp [DropHp, ints_below, flts_below, e1, e3, w64_succ k (by omega), flts_below, allBelow_cons, allBelow_nil, below, belowM, belowL]) (by simp [DropTm, DropV, below, belowM, belowL, e1, e3, w64_succ k (by omega), flts_below, allBelow_cons, allBelow_nil, below, belowM, belowL])
    · have hk' : k = 4 := by have := of_decide_eq_false g; omega
      subst hk'
      refine ⟨flts_allW [_], by rw [fits]; omega, ⟨i + 1, by omega⟩, by show n - (i + 1) < n - i; omega, ?_⟩
      have e1 : 4 * (i + 1) = 4 * i + 4 := by omega
      have e2 := reL_succ m w s i
      have e5 : reW m w (sdn s (4 * i)) = fadd .f32 m (fmul .f32 w (smD (sdn s (4 * i)) 4)) := rfl
      rw [e1, e2, e5]
      generalize reL m w s i ++ [fadd .f32 m (fmul .f32 w (smD (sdn s (4 * i)) 4))] = W
      exact weak_drop (by simp) (by simp [DropHp, ints_below, flts_below, w64_succ i (by omega), fltB, flts_below, allBelow_cons, allBelow_nil, below, belowM, belowL]) (by simp [DropTm, DropV, below, belowM, belowL, w64_succ i (by omega), fltB, flts_below, allBelow_cons, allBelow_nil, below, belowM, belowL])
  · have hi' : i = n := by have := of_decide_eq_false h; omega
    subst hi'
    refine call_lent 2 (by simp [fltB, view_sl, map_view_flts, flts_len, ll, List.take_of_length_le]) (areFinite_call (reL m w s i) (by rw [ll]; omega)) rfl rfl ?_
    simp only [q0, q1, q2, q3, q4, q5, q6, q7, q8, q9, zq0, zq1, zq2, zq3, zq4, guardSlot, quietA, nilC, nilA, quietB, St.ev, St.put, St.after, Nat.reduceAdd, Nat.reduceSub, ofV, ofL, lenA, binA, intBin, fltBin, strBin, cpxBin, unA, convA, convB, convO, pickV, resL, oneA, indexA, indexS, isQuiet, loadA, loadC, storeA, fieldA, partA, sliceA, boundA, buildA, placeA, setAll, appendA, readSl, newEl, AV.cells, AV.solid, AV.one, kill, killM, killL, notInt, Int.reduceToNat, cond_true, cond_false, ↓reduceIte, reduceCtorEq, Nat.reduceLT, Nat.reduceLeDiff, Nat.reduceMul, Nat.reduceEqDiff, exists_eq', putF, implies_true, exists_true_left, tys0, tys1, tys2, und0, und1, md6, Try.ntmps6, Try.results6]
    refine br_yes hf ?_
    simp only [q0, q1, q2, q3, q4, q5, q6, q7, q8, q9, zq0, zq1, zq2, zq3, zq4, guardSlot, quietA, nilC, nilA, quietB, St.ev, St.put, St.after, Nat.reduceAdd, Nat.reduceSub, ofV, ofL, lenA, binA, intBin, fltBin, strBin, cpxBin, unA, convA, convB, convO, pickV, resL, oneA, indexA, indexS, isQuiet, loadA, loadC, storeA, fieldA, partA, sliceA, boundA, buildA, placeA, setAll, appendA, readSl, newEl, AV.cells, AV.solid, AV.one, kill, killM, killL, notInt, Int.reduceToNat, cond_true, cond_false, ↓reduceIte, reduceCtorEq, Nat.reduceLT, Nat.reduceLeDiff, Nat.reduceMul, Nat.reduceEqDiff, exists_eq', putF, implies_true, exists_true_left, tys0, tys1, tys2, und0, und1, md6, Try.ntmps6, Try.results6]
    exact PostR.ret
theorem view_fltB (W : List Nat) {n : Nat} (h : W.length = n) : view 2 [fltB W] (.sl 0 0 n) = .ro (flts W) := by
  subst h
  simp [view_sl, map_view_flts, take_flts, flts_len, fltB]
theorem implDrawn_ro (m w : Nat) (s : Int) (n : Nat) (hm : finB .f32 m = true) (hw : finB .f32 w = true) (hs : 0 ≤ s ∧ s ≤ 4294967295) (n1 : 1 ≤ n) (n2 : n ≤ 64) (hf : (reL m w s n).all (finB .f32) = true) :
    CallA Try.prog 6 [.flt .f32 m, .flt .f32 w, .int .i64 s, .int .i64 n] [] (Ret (.tup [.ro (flts (reL m w s n)), .int .i64 (sdn s (4 * n)), .bool true]) []) :=
  (implDrawn_call m w s n hm hw hs n1 n2 hf).frozen 3 (by
    have h1 := view_fltB (reL m w s n) (reL_len m w s n)
    have h2 : view 2 [fltB (reL m w s n)] (.int .i64 (sdn s (4 * n))) = .int .i64 (sdn s (4 * n)) := view_int _ _ _ _
    have h3 : view 2 [fltB (reL m w s n)] (.bool true) = .bool true := view_bool _ _ _
    show AV.tup [view 2 [fltB (reL m w s n)] (.sl 0 0 n), view 2 [fltB (reL m w s n)] (.int .i64 (sdn s (4 * n))), view 2 [fltB (reL m w s n)] (.bool true)] = _
    rw [h1, h2, h3])
theorem specDrawn_call (m w : Nat) (s : Int) (n : Nat) (hd : ∀ j : Nat, drF (sdn s (j + 1)) = dsF (sdn s (j + 1))) (hm : finB .f32 m = true) (hw : finB .f32 w = true) (hs : 0 ≤ s ∧ s ≤ 4294967295) (n1 : 1 ≤ n) (n2 : n ≤ 64) (hf : (reL m w s n).all (finB .f32) = true) :
    CallA Try.prog 7 [.flt .f32 m, .flt .f32 w, .int .i64 s, .int .i64 n] [] (Ret (.tup [.sl 0 0 n, .int .i64 (sdn s (4 * n)), .bool true]) [fltB (reL m w s n)]) := by
  refine CallP.out (t := .mk) (go_in (md := md7) mixed Try.func7 rfl go7 (by kernel_rfl) ?_)
  simp only [q0, q1, q2, q3, q4, q5, q6, q7, q8, q9, zq0, zq1, zq2, zq3, zq4, guardSlot, quietA, nilC, nilA, quietB, St.ev, St.put, St.after, Nat.reduceAdd, Nat.reduceSub, ofV, ofL, lenA, binA, intBin, fltBin, strBin, cpxBin, unA, convA, convB, convO, pickV, resL, oneA, indexA, indexS, isQuiet, loadA, loadC, storeA, fieldA, partA, sliceA, boundA, buildA, placeA, setAll, appendA, readSl, newEl, AV.cells, AV.solid, AV.one, kill, killM, killL, notInt, Int.reduceToNat, cond_true, cond_false, ↓reduceIte, reduceCtorEq, Nat.reduceLT, Nat.reduceLeDiff, Nat.reduceMul, Nat.reduceEqDiff, exists_eq', putF, implies_true, exists_true_left, tys0, tys1, tys2, und0, und1, md7, Try.ntmps7, Try.results7]
  refine call_ret (l01Finite_call m) rfl rfl ?_
  simp only [q0, q1, q2, q3, q4, q5, q6, q7, q8, q9, zq0, zq1, zq2, zq3, zq4, guardSlot, quietA, nilC, nilA, quietB, St.ev, St.put, St.after, Nat.reduceAdd, Nat.reduceSub, ofV, ofL, lenA, binA, intBin, fltBin, strBin, cpxBin, unA, convA, convB, convO, pickV, resL, oneA, indexA, indexS, isQuiet, loadA, loadC, storeA, fieldA, partA, sliceA, boundA, buildA, placeA, setAll, appendA, readSl, newEl, AV.cells, AV.solid, AV.one, kill, killM, killL, notInt, Int.reduceToNat, cond_true, cond_false, ↓reduceIte, reduceCtorEq, Nat.reduceLT, Nat.reduceLeDiff, Nat.reduceMul, Nat.reduceEqDiff, exists_eq', putF, implies_true, exists_true_left, tys0, tys1, tys2, und0, und1, md7, Try.ntmps7, Try.results7]
  refine br_yes hm ?_
  simp only [q0, q1, q2, q3, q4, q5, q6, q7, q8, q9, zq0, zq1, zq2, zq3, zq4, guardSlot, quietA, nilC, nilA, quietB, St.ev, St.put, St.after, Nat.reduceAdd, Nat.reduceSub, ofV, ofL, lenA, binA, intBin, fltBin, strBin, cpxBin, unA, convA, convB, convO, pickV, resL, oneA, indexA, indexS, isQuiet, loadA, loadC, storeA, fieldA, partA, sliceA, boundA, buildA, placeA, setAll, appendA, readSl, newEl, AV.cells, AV.solid, AV.one, kill, killM, killL, notInt, Int.reduceToNat, cond_true, cond_false, ↓reduceIte, reduceCtorEq, Nat.reduceLT, Nat.reduceLeDiff, Nat.reduceMul, Nat.reduceEqDiff, exists_eq', putF, implies_true, exists_true_left, tys0, tys1, tys2, und0, und1, md7, Try.ntmps7, Try.results7]
  refine call_ret (l01Finite_call w) rfl rfl ?_
  simp only [q0, q1, q2, q3, q4, q5, q6, q7, q8, q9, zq0, zq1, zq2, zq3, zq4, guardSlot, quietA, nilC, nilA, quietB, St.ev, St.put, St.after, Nat.reduceAdd, Nat.reduceSub, ofV, ofL, lenA, binA, intBin, fltBin, strBin, cpxBin, unA, convA, convB, convO, pickV, resL, oneA, indexA, indexS, isQuiet, loadA, loadC, storeA, fieldA, partA, sliceA, boundA, buildA, placeA, setAll, appendA, readSl, newEl, AV.cells, AV.solid, AV.one, kill, killM, killL, notInt, Int.reduceToNat, cond_true, cond_false, ↓reduceIte, reduceCtorEq, Nat.reduceLT, Nat.reduceLeDiff, Nat.reduceMul, Nat.reduceEqDiff, exists_eq', putF, implies_true, exists_true_left, tys0, tys1, tys2, und0, und1, md7, Try.ntmps7, Try.results7]
  refine br_yes hw ?_
  simp only [q0, q1, q2, q3, q4, q5, q6, q7, q8, q9, zq0, zq1, zq2, zq3, zq4, guardSlot, quietA, nilC, nilA, quietB, St.ev, St.put, St.after, Nat.reduceAdd, Nat.reduceSub, ofV, ofL, lenA, binA, intBin, fltBin, strBin, cpxBin, unA, convA, convB, convO, pickV, resL, oneA, indexA, indexS, isQuiet, loadA, loadC, storeA, fieldA, partA, sliceA, boundA, buildA, placeA, setAll, appendA, readSl, newEl, AV.cells, AV.solid, AV.one, kill, killM, killL, notInt, Int.reduceToNat, cond_true, cond_false, ↓reduceIte, reduceCtorEq, Nat.reduceLT, Nat.reduceLeDiff, Nat.reduceMul, Nat.reduceEqDiff, exists_eq', putF, implies_true, exists_true_left, tys0, tys1, tys2, und0, und1, md7, Try.ntmps7, Try.results7]
  refine call_ret (l00In_call _ _ _) rfl rfl ?_
  simp only [q0, q1, q2, q3, q4, q5, q6, q7, q8, q9, zq0, zq1, zq2, zq3, zq4, guardSlot, quietA, nilC, nilA, quietB, St.ev, St.put, St.after, Nat.reduceAdd, Nat.reduceSub, ofV, ofL, lenA, binA, intBin, fltBin, strBin, cpxBin, unA, convA, convB, convO, pickV, resL, oneA, indexA, indexS, isQuiet, loadA, loadC, storeA, fieldA, partA, sliceA, boundA, buildA, placeA, setAll, appendA, readSl, newEl, AV.cells, AV.solid, AV.one, kill, killM, killL, notInt, Int.reduceToNat, cond_true, cond_false, ↓reduceIte, reduceCtorEq, Nat.reduceLT, Nat.reduceLeDiff, Nat.reduceMul, Nat.reduceEqDiff, exists_eq', putF, implies_true, exists_true_left, tys0, tys1, tys2, und0, und1, md7, Try.ntmps7, Try.results7]
  refine br_yes (by simp only [Bool.and_eq_true, decide_eq_true_eq]; exact hs) ?_
  simp only [q0, q1, q2, q3, q4, q5, q6, q7, q8, q9, zq0, zq1, zq2, zq3, zq4, guardSlot, quietA, nilC, nilA, quietB, St.ev, St.put, St.after, Nat.reduceAdd, Nat.reduceSub, ofV, ofL, lenA, binA, intBin, fltBin, strBin, cpxBin, unA, convA, convB, convO, pickV, resL, oneA, indexA, indexS, isQuiet, loadA, loadC, storeA, fieldA, partA, sliceA, boundA, buildA, placeA, setAll, appendA, readSl, newEl, AV.cells, AV.solid, AV.one, kill, killM, killL, notInt, Int.reduceToNat, cond_true, cond_false, ↓reduceIte, reduceCtorEq, Nat.reduceLT, Nat.reduceLeDiff, Nat.reduceMul, Nat.reduceEqDiff, exists_eq', putF, implies_true, exists_true_left, tys0, tys1, tys2, und0, und1, md7, Try.ntmps7, Try.results7]
  refine call_ret (l00In_call _ _ _) rfl rfl ?_
  simp only [q0, q1, q2, q3, q4, q5, q6, q7, q8, q9, zq0, zq1, zq2, zq3, zq4, guardSlot, quietA, nilC, nilA, quietB, St.ev, St.put, St.after, Nat.reduceAdd, Nat.reduceSub, ofV, ofL, lenA, binA, intBin, fltBin, strBin, cpxBin, unA, convA, convB, convO, pickV, resL, oneA, indexA, indexS, isQuiet, loadA, loadC, storeA, fieldA, partA, sliceA, boundA, buildA, placeA, setAll, appendA, readSl, newEl, AV.cells, AV.solid, AV.one, kill, killM, killL, notInt, Int.reduceToNat, cond_true, cond_false, ↓reduceIte, reduceCtorEq, Nat.reduceLT, Nat.reduceLeDiff, Nat.reduceMul, Nat.reduceEqDiff, exists_eq', putF, implies_true, exists_true_left, tys0, tys1, tys2, und0, und1, md7, Try.ntmps7, Try.results7]
  refine br_yes (by simp only [Bool.and_eq_true, decide_eq_true_eq]; omega) ?_
  simp only [q0, q1, q2, q3, q4, q5, q6, q7, q8, q9, zq0, zq1, zq2, zq3, zq4, guardSlot, quietA, nilC, nilA, quietB, St.ev, St.put, St.after, Nat.reduceAdd, Nat.reduceSub, ofV, ofL, lenA, binA, intBin, fltBin, strBin, cpxBin, unA, convA, convB, convO, pickV, resL, oneA, indexA, indexS, isQuiet, loadA, loadC, storeA, fieldA, partA, sliceA, boundA, buildA, placeA, setAll, appendA, readSl, newEl, AV.cells, AV.solid, AV.one, kill, killM, killL, notInt, Int.reduceToNat, cond_true, cond_false, ↓reduceIte, reduceCtorEq, Nat.reduceLT, Nat.reduceLeDiff, Nat.reduceMul, Nat.reduceEqDiff, exists_eq', putF, implies_true, exists_true_left, tys0, tys1, tys2, und0, und1, md7, Try.ntmps7, Try.results7]
  refine go_round (md := md7) mixed (by kernel_rfl) (fun i : {i : Nat // i ≤ n} => ⟨[.flt .f32 m, .flt .f32 w, .int .i64 (sdn s (4 * i.1)), .int .i64 ((n - i.1 : Nat) : Int), .any, .any, .any, .any, .any, .any, .any, .sl 0 0 i.1, .any, .any, .any, .any, .any, .any, .any, .any, .any, .any, .any, .any, .any, .any, .any, .any, .any, .any, .any, .any, .any, .any, .any, .any, .any, .any, .any, .any, .any, .any, .any, .any, .any, .any, .any, .any, .any, .any, .any, .any, .any, .any, .any, .any, .any, .any, .any, .any, .any, .any, .any, .any, .any], [fltB (reL m w s i.1)]⟩) (fun i => n - i.1) ⟨0, by omega⟩ ?_ ?_
  · have e : reL m w s 0 = [] := rfl
    have e2 : sdn s (4 * 0) = s := rfl
    have e3 : flts [] = [] := rfl
    rw [e, e2]
    exact weak_drop (by simp) (by simp [DropHp, ints_below, flts_below, fltB, e3, allBelow_cons, allBelow_nil, below, belowM, belowL]) (by simp [DropTm, DropV, below, belowM, belowL, fltB, e3, allBelow_cons, allBelow_nil, below, belowM, belowL])
  rintro ⟨i, hi⟩
  have ll := reL_len m w s i
  simp only [q0, q1, q2, q3, q4, q5, q6, q7, q8, q9, zq0, zq1, zq2, zq3, zq4, guardSlot, quietA, nilC, nilA, quietB, St.ev, St.put, St.after, Nat.reduceAdd, Nat.reduceSub, ofV, ofL, lenA, binA, intBin, fltBin, strBin, cpxBin, unA, convA, convB, convO, pickV, resL, oneA, indexA, indexS, isQuiet, loadA, loadC, storeA, fieldA, partA, sliceA, boundA, buildA, placeA, setAll, appendA, readSl, newEl, AV.cells, AV.solid, AV.one, kill, killM, killL, notInt, Int.reduceToNat, cond_true, cond_false, ↓reduceIte, reduceCtorEq, Nat.reduceLT, Nat.reduceLeDiff, Nat.reduceMul, Nat.reduceEqDiff, exists_eq', putF, implies_true, exists_true_left, tys0, tys1, tys2, und0, und1, md7, Try.ntmps7, Try.results7, f0]
  refine br_intro (fun h => ?_) (fun h => ?_) <;> simp only [q0, q1, q2, q3, q4, q5, q6, q7, q8, q9, zq0, zq1, zq2, zq3, zq4, guardSlot, quietA, nilC, nilA, quietB, St.ev, St.put, St.after, Nat.reduceAdd, Nat.reduceSub, ofV, ofL, lenA, binA, intBin, fltBin, strBin, cpxBin, unA, convA, convB, convO, pickV, resL, oneA, indexA, indexS, isQuiet, loadA, loadC, storeA, fieldA, partA, sliceA, boundA, buildA, placeA, setAll, appendA, readSl, newEl, AV.cells, AV.solid, AV.one, kill, killM, killL, notInt, Int.reduceToNat, cond_true, cond_false, ↓reduceIte, reduceCtorEq, Nat.reduceLT, Nat.reduceLeDiff, Nat.reduceMul, Nat.reduceEqDiff, exists_eq', putF, implies_true, exists_true_left, tys0, tys1, tys2, und0, und1, md7, Try.ntmps7, Try.results7, f0]
  · have hi' : i < n := by have := of_decide_eq_true h; omega
    refine go_round (md := md7) mixed (by kernel_rfl) (fun k : {k : Nat // k ≤ 4} => ⟨[.flt .f32 m, .flt .f32 w, .int .i64 (sdn s (4 * i + k.1)), .int .i64 ((n - i : Nat) : Int), .any, .any, .any, .any, .any, .any, .any, .sl 0 0 i, .flt .f32 (smD (sdn s (4 * i)) k.1), .int .i64 (k.1 : Int), .any, .any, .any, .any, .any, .any, .any, .any, .any, .any, .any, .any, .any, .any, .any, .any, .any, .any, .any, .any, .any, .any, .any, .any, .any, .any, .any, .any, .any, .any, .any, .any, .any, .any, .any, .any, .any, .any, .any, .any, .any, .any, .any, .any, .any, .any, .any, .any, .any, .any, .any], [fltB (reL m w s i)]⟩) (fun k => 4 - k.1) ⟨0, by omega⟩ ?_ ?_
    · have e : smD (sdn s (4 * i)) 0 = 0 := rfl
      rw [e]
      exact weak_drop (by simp) (by simp [DropHp, ints_below, flts_below, fltB, Nat.add_zero]) (by simp [DropTm, DropV, below, belowM, belowL, fltB, Nat.add_zero])
    rintro ⟨k, hk⟩
    have L := sdn_low hs (4 * i + k)
    obtain ⟨s1, s2, s3, s4⟩ := sd_step L
    have z1 : (4294967296 : Int) ≠ 0 := by decide
    have z2 : (256 : Int) ≠ 0 := by decide
    have c1 : canon .f32 1266679808 = 1266679808 := by decide +kernel
    have c2 : canon .f32 1056964608 = 1056964608 := by decide +kernel
    simp only [q0, q1, q2, q3, q4, q5, q6, q7, q8, q9, zq0, zq1, zq2, zq3, zq4, guardSlot, quietA, nilC, nilA, quietB, St.ev, St.put, St.after, Nat.reduceAdd, Nat.reduceSub, ofV, ofL, lenA, binA, intBin, fltBin, strBin, cpxBin, unA, convA, convB, convO, pickV, resL, oneA, indexA, indexS, isQuiet, loadA, loadC, storeA, fieldA, partA, sliceA, boundA, buildA, placeA, setAll, appendA, readSl, newEl, AV.cells, AV.solid, AV.one, kill, killM, killL, notInt, Int.reduceToNat, cond_true, cond_false, ↓reduceIte, reduceCtorEq, Nat.reduceLT, Nat.reduceLeDiff, Nat.reduceMul, Nat.reduceEqDiff, exists_eq', putF, implies_true, exists_true_left, tys0, tys1, tys2, und0, und1, md7, Try.ntmps7, Try.results7, fltB, flts_len, ll, s1, s2, s3, s4, c1, c2]
    refine br_intro (fun g => ?_) (fun g => ?_) <;> simp only [q0, q1, q2, q3, q4, q5, q6, q7, q8, q9, zq0, zq1, zq2, zq3, zq4, guardSlot, quietA, nilC, nilA, quietB, St.ev, St.put, St.after, Nat.reduceAdd, Nat.reduceSub, ofV, ofL, lenA, binA, intBin, fltBin, strBin, cpxBin, unA, convA, convB, convO, pickV, resL, oneA, indexA, indexS, isQuiet, loadA, loadC, storeA, fieldA, partA, sliceA, boundA, buildA, placeA, setAll, appendA, readSl, newEl, AV.cells, AV.solid, AV.one, kill, killM, killL, notInt, Int.reduceToNat, cond_true, cond_false, ↓reduceIte, reduceCtorEq, Nat.reduceLT, Nat.reduceLeDiff, Nat.reduceMul, Nat.reduceEqDiff, exists_eq', putF, implies_true, exists_true_left, tys0, tys1, tys2, und0, und1, md7, Try.ntmps7, Try.results7, fltB, flts_len, ll, s1, s2, s3, s4, c1, c2]
    · have hk' : k < 4 := by have := of_decide_eq_true g; omega
      have e1 : sd (sdn s (4 * i + k)) = sdn s (4 * i + (k + 1)) := rfl
      have e2 : smD (sdn s (4 * i)) (k + 1) = fadd .f32 (smD (sdn s (4 * i)) k) (dsF (sdn s (4 * i + (k + 1)))) := by
        show fadd .f32 _ (drF (sdn (sdn s (4 * i)) (k + 1))) = _
        rw [sdn_add]
        exact congrArg _ (hd (4 * i + k))
      have e3 : ∀ z, canon .f32 (FloatKind.nearest .f32 z) = iF z := fun z => rfl
      refine ⟨z1, z2, ⟨k + 1, by omega⟩, by show 4 - (k + 1) < 4 - k; omega, ?_⟩
      rw [e2]
      simp only [dsF]
      exact weak_drop (by simp) (by simp [DropHp, ints_below, flts_below, e1, e3, w64_succ k (by omega), flts_below, allBelow_cons, allBelow_nil, below, belowM, belowL]) (by simp [DropTm, DropV, below, belowM, belowL, e1, e3, w64_succ k (by omega), flts_below, allBelow_cons, allBelow_nil, below, belowM, belowL])
    · have hk' : k = 4 := by have := of_decide_eq_false g; omega
      subst hk'
      have e4 : IntKind.i64.wrap (((n - i : Nat) : Int) - 1) = ((n - (i + 1) : Nat) : Int) := by rw [w64 (by omega) (by omega)]; omega
      refine ⟨flts_allW [_], by rw [fits]; omega, ⟨i + 1, by omega⟩, by show n - (i + 1) < n - i; omega, ?_⟩
      have e1 : 4 * (i + 1) = 4 * i + 4 := by omega
      have e2 := reL_succ m w s i
      have e5 : reW m w (sdn s (4 * i)) = fadd .f32 m (fmul .f32 w (smD (sdn s (4 * i)) 4)) := rfl
      rw [e1, e2, e5]
      generalize reL m w s i ++ [fadd .f32 m (fmul .f32 w (smD (sdn s (4 * i)) 4))] = W
      exact weak_drop (by simp) (by simp [DropHp, ints_below, flts_below, e4, fltB, flts_below, allBelow_cons, allBelow_nil, below, belowM, belowL]) (by simp [DropTm, DropV, below, belowM, belowL, e4, fltB, flts_below, allBelow_cons, allBelow_nil, below, belowM, belowL])
  · have hi' : i = n := by have := of_decide_eq_false h; omega
    subst hi'
    refine call_lent 2 (by simp [fltB, view_sl, map_view_flts, flts_len, ll, List.take_of_length_le]) (l02Finite_call (reL m w s i) (by rw [ll]; omega)) rfl rfl ?_
    simp only [q0, q1, q2, q3, q4, q5, q6, q7, q8, q9, zq0, zq1, zq2, zq3, zq4, guardSlot, quietA, nilC, nilA, quietB, St.ev, St.put, St.after, Nat.reduceAdd, Nat.reduceSub, ofV, ofL, lenA, binA, intBin, fltBin, strBin, cpxBin, unA, convA, convB, convO, pickV, resL, oneA, indexA, indexS, isQuiet, loadA, loadC, storeA, fieldA, partA, sliceA, boundA, buildA, placeA, setAll, appendA, readSl, newEl, AV.cells, AV.solid, AV.one, kill, killM, killL, notInt, Int.reduceToNat, cond_true, cond_false, ↓reduceIte, reduceCtorEq, Nat.reduceLT, Nat.reduceLeDiff, Nat.reduceMul, Nat.reduceEqDiff, exists_eq', putF, implies_true, exists_true_left, tys0, tys1, tys2, und0, und1, md7, Try.ntmps7, Try.results7]
    refine br_yes hf ?_
    simp only [q0, q1, q2, q3, q4, q5, q6, q7, q8, q9, zq0, zq1, zq2, zq3, zq4, guardSlot, quietA, nilC, nilA, quietB, St.ev, St.put, St.after, Nat.reduceAdd, Nat.reduceSub, ofV, ofL, lenA, binA, intBin, fltBin, strBin, cpxBin, unA, convA, convB, convO, pickV, resL, oneA, indexA, indexS, isQuiet, loadA, loadC, storeA, fieldA, partA, sliceA, boundA, buildA, placeA, setAll, appendA, readSl, newEl, AV.cells, AV.solid, AV.one, kill, killM, killL, notInt, Int.reduceToNat, cond_true, cond_false, ↓reduceIte, reduceCtorEq, Nat.reduceLT, Nat.reduceLeDiff, Nat.reduceMul, Nat.reduceEqDiff, exists_eq', putF, implies_true, exists_true_left, tys0, tys1, tys2, und0, und1, md7, Try.ntmps7, Try.results7]
    exact PostR.ret
theorem specDrawn_ro (m w : Nat) (s : Int) (n : Nat) (hd : ∀ j : Nat, drF (sdn s (j + 1)) = dsF (sdn s (j + 1))) (hm : finB .f32 m = true) (hw : finB .f32 w = true) (hs : 0 ≤ s ∧ s ≤ 4294967295) (n1 : 1 ≤ n) (n2 : n ≤ 64) (hf : (reL m w s n).all (finB .f32) = true) :
    CallA Try.prog 7 [.flt .f32 m, .flt .f32 w, .int .i64 s, .int .i64 n] [] (Ret (.tup [.ro (flts (reL m w s n)), .int .i64 (sdn s (4 * n)), .bool true]) []) :=
  (specDrawn_call m w s n hd hm hw hs n1 n2 hf).frozen 3 (by
    have h1 := view_fltB (reL m w s n) (reL_len m w s n)
    have h2 : view 2 [fltB (reL m w s n)] (.int .i64 (sdn s (4 * n))) = .int .i64 (sdn s (4 * n)) := view_int _ _ _ _
    have h3 : view 2 [fltB (reL m w s n)] (.bool true) = .bool true := view_bool _ _ _
    show AV.tup [view 2 [fltB (reL m w s n)] (.sl 0 0 n), view 2 [fltB (reL m w s n)] (.int .i64 (sdn s (4 * n))), view 2 [fltB (reL m w s n)] (.bool true)] = _
    rw [h1, h2, h3])

theorem implRun_ro (s : Nat) (is os rs : List Nat) (hB : fundB s is os rs = true) (hO : okR s is os rs one32 = true) (m1 : is.length ≤ 64) :
    CallA Try.prog 8 [.flt .f32 s, .ro (flts is), .ro (flts os), .ro (flts rs)] [] (Ret (.tup [.ro (flts (runL s is os rs one32 is.length)), .bool true]) []) := by
  have hl : 1 ≤ is.length ∧ is.length ≤ 64 ∧ os.length = is.length ∧ rs.length = is.length := by
    simp only [fundB, Bool.and_eq_true, decide_eq_true_eq] at hB
    exact hB.1.1.1.1.2
  have hq := hB
  rw [← fundQ_eq, Bool.and_eq_true] at hq
  refine CallA.frozen (r := .tup [.sl 0 0 is.length, .bool true]) (new := [fltB (runL s is os rs one32 is.length)]) 3 ?_ (by
    have h1 := view_fltB (runL s is os rs one32 is.length) (runL_len _ _ _ _ _ _)
    have h3 : view 2 [fltB (runL s is os rs one32 is.length)] (.bool true) = .bool true := view_bool _ _ _
    show AV.tup [view 2 [fltB (runL s is os rs one32 is.length)] (.sl 0 0 is.length), view 2 [fltB (runL s is os rs one32 is.length)] (.bool true)] = _
    rw [h1, h3])
  refine CallP.out (t := .mk) (go_in (md := md8) mixed Try.func8 rfl go8 (by kernel_rfl) ?_)
  simp only [q0, q1, q2, q3, q4, q5, q6, q7, q8, q9, zq0, zq1, zq2, zq3, zq4, guardSlot, quietA, nilC, nilA, quietB, St.ev, St.put, St.after, Nat.reduceAdd, Nat.reduceSub, ofV, ofL, lenA, binA, intBin, fltBin, strBin, cpxBin, unA, convA, convB, convO, pickV, resL, oneA, indexA, indexS, isQuiet, loadA, loadC, storeA, fieldA, partA, sliceA, boundA, buildA, placeA, setAll, appendA, readSl, newEl, AV.cells, AV.solid, AV.one, kill, killM, killL, notInt, Int.reduceToNat, cond_true, cond_false, ↓reduceIte, reduceCtorEq, Nat.reduceLT, Nat.reduceLeDiff, Nat.reduceMul, Nat.reduceEqDiff, exists_eq', putF, implies_true, exists_true_left, tys0, tys1, tys2, und0, und1, md8, Try.ntmps8, Try.results8]
  refine call_ret (isFinite_call _) rfl rfl ?_
  simp only [q0, q1, q2, q3, q4, q5, q6, q7, q8, q9, zq0, zq1, zq2, zq3, zq4, guardSlot, quietA, nilC, nilA, quietB, St.ev, St.put, St.after, Nat.reduceAdd, Nat.reduceSub, ofV, ofL, lenA, binA, intBin, fltBin, strBin, cpxBin, unA, convA, convB, convO, pickV, resL, oneA, indexA, indexS, isQuiet, loadA, loadC, storeA, fieldA, partA, sliceA, boundA, buildA, placeA, setAll, appendA, readSl, newEl, AV.cells, AV.solid, AV.one, kill, killM, killL, notInt, Int.reduceToNat, cond_true, cond_false, ↓reduceIte, reduceCtorEq, Nat.reduceLT, Nat.reduceLeDiff, Nat.reduceMul, Nat.reduceEqDiff, exists_eq', putF, implies_true, exists_true_left, tys0, tys1, tys2, und0, und1, md8, Try.ntmps8, Try.results8]
  refine br_yes hq.1 ?_
  simp only [q0, q1, q2, q3, q4, q5, q6, q7, q8, q9, zq0, zq1, zq2, zq3, zq4, guardSlot, quietA, nilC, nilA, quietB, St.ev, St.put, St.after, Nat.reduceAdd, Nat.reduceSub, ofV, ofL, lenA, binA, intBin, fltBin, strBin, cpxBin, unA, convA, convB, convO, pickV, resL, oneA, indexA, indexS, isQuiet, loadA, loadC, storeA, fieldA, partA, sliceA, boundA, buildA, placeA, setAll, appendA, readSl, newEl, AV.cells, AV.solid, AV.one, kill, killM, killL, notInt, Int.reduceToNat, cond_true, cond_false, ↓reduceIte, reduceCtorEq, Nat.reduceLT, Nat.reduceLeDiff, Nat.reduceMul, Nat.reduceEqDiff, exists_eq', putF, implies_true, exists_true_left, tys0, tys1, tys2, und0, und1, md8, Try.ntmps8, Try.results8]
  refine call_lent 2 (by rfl) (isFund_call is os rs (by omega) (by omega) (by omega)) rfl rfl ?_
  simp only [q0, q1, q2, q3, q4, q5, q6, q7, q8, q9, zq0, zq1, zq2, zq3, zq4, guardSlot, quietA, nilC, nilA, quietB, St.ev, St.put, St.after, Nat.reduceAdd, Nat.reduceSub, ofV, ofL, lenA, binA, intBin, fltBin, strBin, cpxBin, unA, convA, convB, convO, pickV, resL, oneA, indexA, indexS, isQuiet, loadA, loadC, storeA, fieldA, partA, sliceA, boundA, buildA, placeA, setAll, appendA, readSl, newEl, AV.cells, AV.solid, AV.one, kill, killM, killL, notInt, Int.reduceToNat, cond_true, cond_false, ↓reduceIte, reduceCtorEq, Nat.reduceLT, Nat.reduceLeDiff, Nat.reduceMul, Nat.reduceEqDiff, exists_eq', putF, implies_true, exists_true_left, tys0, tys1, tys2, und0, und1, md8, Try.ntmps8, Try.results8]
  refine br_yes hq.2 ?_
  simp only [q0, q1, q2, q3, q4, q5, q6, q7, q8, q9, zq0, zq1, zq2, zq3, zq4, guardSlot, quietA, nilC, nilA, quietB, St.ev, St.put, St.after, Nat.reduceAdd, Nat.reduceSub, ofV, ofL, lenA, binA, intBin, fltBin, strBin, cpxBin, unA, convA, convB, convO, pickV, resL, oneA, indexA, indexS, isQuiet, loadA, loadC, storeA, fieldA, partA, sliceA, boundA, buildA, placeA, setAll, appendA, readSl, newEl, AV.cells, AV.solid, AV.one, kill, killM, killL, notInt, Int.reduceToNat, cond_true, cond_false, ↓reduceIte, reduceCtorEq, Nat.reduceLT, Nat.reduceLeDiff, Nat.reduceMul, Nat.reduceEqDiff, exists_eq', putF, implies_true, exists_true_left, tys0, tys1, tys2, und0, und1, md8, Try.ntmps8, Try.results8, f1]
  have fc := funded_call s is os rs one32 (by omega) (by omega) (by omega)
  rw [hl.2.2.2] at fc
  have ho : (runL s is os rs one32 is.length).all (finB .f32) = true := hO
  rw [ho] at fc
  refine call_new fc rfl (by simp [flts_below]) ?_
  simp only [q0, q1, q2, q3, q4, q5, q6, q7, q8, q9, zq0, zq1, zq2, zq3, zq4, guardSlot, quietA, nilC, nilA, quietB, St.ev, St.put, St.after, Nat.reduceAdd, Nat.reduceSub, ofV, ofL, lenA, binA, intBin, fltBin, strBin, cpxBin, unA, convA, convB, convO, pickV, resL, oneA, indexA, indexS, isQuiet, loadA, loadC, storeA, fieldA, partA, sliceA, boundA, buildA, placeA, setAll, appendA, readSl, newEl, AV.cells, AV.solid, AV.one, kill, killM, killL, notInt, Int.reduceToNat, cond_true, cond_false, ↓reduceIte, reduceCtorEq, Nat.reduceLT, Nat.reduceLeDiff, Nat.reduceMul, Nat.reduceEqDiff, exists_eq', putF, implies_true, exists_true_left, tys0, tys1, tys2, und0, und1, md8, Try.ntmps8, Try.results8, ren, renM, renL]
  exact PostR.pick (hp2 := [fltB (runL s is os rs one32 is.length)]) (r2 := .tup [.sl 0 0 is.length, .bool true]) [1] (by decide) (by decide) (by decide) ⟨⟨rfl, flts_below _ _⟩, trivial⟩ rfl rfl ⟨rfl, rfl⟩
theorem specRun_ro (s : Nat) (is os rs : List Nat) (hB : fundB s is os rs = true) (hO : okR s is os rs one32 = true) (m1 : is.length ≤ 64) :
    CallA Try.prog 9 [.flt .f32 s, .ro (flts is), .ro (flts os), .ro (flts rs)] [] (Ret (.tup [.ro (flts (runL s is os rs one32 is.length)), .bool true]) []) := by
  have hl : 1 ≤ is.length ∧ is.length ≤ 64 ∧ os.length = is.length ∧ rs.length = is.length := by
    simp only [fundB, Bool.and_eq_true, decide_eq_true_eq] at hB
    exact hB.1.1.1.1.2
  refine CallA.frozen (r := .tup [.sl 0 0 is.length, .bool true]) (new := [fltB (runL s is os rs one32 is.length)]) 3 ?_ (by
    have h1 := view_fltB (runL s is os rs one32 is.length) (runL_len _ _ _ _ _ _)
    have h3 : view 2 [fltB (runL s is os rs one32 is.length)] (.bool true) = .bool true := view_bool _ _ _
    show AV.tup [view 2 [fltB (runL s is os rs one32 is.length)] (.sl 0 0 is.length), view 2 [fltB (runL s is os rs one32 is.length)] (.bool true)] = _
    rw [h1, h3])
  refine CallP.out (t := .mk) (go_in (md := md9) mixed Try.func9 rfl go9 (by kernel_rfl) ?_)
  simp only [q0, q1, q2, q3, q4, q5, q6, q7, q8, q9, zq0, zq1, zq2, zq3, zq4, guardSlot, quietA, nilC, nilA, quietB, St.ev, St.put, St.after, Nat.reduceAdd, Nat.reduceSub, ofV, ofL, lenA, binA, intBin, fltBin, strBin, cpxBin, unA, convA, convB, convO, pickV, resL, oneA, indexA, indexS, isQuiet, loadA, loadC, storeA, fieldA, partA, sliceA, boundA, buildA, placeA, setAll, appendA, readSl, newEl, AV.cells, AV.solid, AV.one, kill, killM, killL, notInt, Int.reduceToNat, cond_true, cond_false, ↓reduceIte, reduceCtorEq, Nat.reduceLT, Nat.reduceLeDiff, Nat.reduceMul, Nat.reduceEqDiff, exists_eq', putF, implies_true, exists_true_left, tys0, tys1, tys2, und0, und1, md9, Try.ntmps9, Try.results9]
  refine call_ret (l07Fund_call _ _ _ _ (by omega) (by omega) (by omega)) rfl rfl ?_
  simp only [q0, q1, q2, q3, q4, q5, q6, q7, q8, q9, zq0, zq1, zq2, zq3, zq4, guardSlot, quietA, nilC, nilA, quietB, St.ev, St.put, St.after, Nat.reduceAdd, Nat.reduceSub, ofV, ofL, lenA, binA, intBin, fltBin, strBin, cpxBin, unA, convA, convB, convO, pickV, resL, oneA, indexA, indexS, isQuiet, loadA, loadC, storeA, fieldA, partA, sliceA, boundA, buildA, placeA, setAll, appendA, readSl, newEl, AV.cells, AV.solid, AV.one, kill, killM, killL, notInt, Int.reduceToNat, cond_true, cond_false, ↓reduceIte, reduceCtorEq, Nat.reduceLT, Nat.reduceLeDiff, Nat.reduceMul, Nat.reduceEqDiff, exists_eq', putF, implies_true, exists_true_left, tys0, tys1, tys2, und0, und1, md9, Try.ntmps9, Try.results9]
  refine br_yes hB ?_
  simp only [q0, q1, q2, q3, q4, q5, q6, q7, q8, q9, zq0, zq1, zq2, zq3, zq4, guardSlot, quietA, nilC, nilA, quietB, St.ev, St.put, St.after, Nat.reduceAdd, Nat.reduceSub, ofV, ofL, lenA, binA, intBin, fltBin, strBin, cpxBin, unA, convA, convB, convO, pickV, resL, oneA, indexA, indexS, isQuiet, loadA, loadC, storeA, fieldA, partA, sliceA, boundA, buildA, placeA, setAll, appendA, readSl, newEl, AV.cells, AV.solid, AV.one, kill, killM, killL, notInt, Int.reduceToNat, cond_true, cond_false, ↓reduceIte, reduceCtorEq, Nat.reduceLT, Nat.reduceLeDiff, Nat.reduceMul, Nat.reduceEqDiff, exists_eq', putF, implies_true, exists_true_left, tys0, tys1, tys2, und0, und1, md9, Try.ntmps9, Try.results9, f1]
  have ho : (runL s is os rs one32 is.length).all (finB .f32) = true := hO
  refine call_new (l07Run_call s is os rs one32 (by omega) (by omega) (by omega)) rfl (by simp [flts_below]) ?_
  simp only [q0, q1, q2, q3, q4, q5, q6, q7, q8, q9, zq0, zq1, zq2, zq3, zq4, guardSlot, quietA, nilC, nilA, quietB, St.ev, St.put, St.after, Nat.reduceAdd, Nat.reduceSub, ofV, ofL, lenA, binA, intBin, fltBin, strBin, cpxBin, unA, convA, convB, convO, pickV, resL, oneA, indexA, indexS, isQuiet, loadA, loadC, storeA, fieldA, partA, sliceA, boundA, buildA, placeA, setAll, appendA, readSl, newEl, AV.cells, AV.solid, AV.one, kill, killM, killL, notInt, Int.reduceToNat, cond_true, cond_false, ↓reduceIte, reduceCtorEq, Nat.reduceLT, Nat.reduceLeDiff, Nat.reduceMul, Nat.reduceEqDiff, exists_eq', putF, implies_true, exists_true_left, tys0, tys1, tys2, und0, und1, md9, Try.ntmps9, Try.results9, ren, renM, renL]
  refine call_lent 2 (by simp [view_sl, map_view_flts, flts_len, runL_len, List.take_of_length_le]) (l02Finite_call (runL s is os rs one32 is.length) (by rw [runL_len]; omega)) rfl rfl ?_
  simp only [q0, q1, q2, q3, q4, q5, q6, q7, q8, q9, zq0, zq1, zq2, zq3, zq4, guardSlot, quietA, nilC, nilA, quietB, St.ev, St.put, St.after, Nat.reduceAdd, Nat.reduceSub, ofV, ofL, lenA, binA, intBin, fltBin, strBin, cpxBin, unA, convA, convB, convO, pickV, resL, oneA, indexA, indexS, isQuiet, loadA, loadC, storeA, fieldA, partA, sliceA, boundA, buildA, placeA, setAll, appendA, readSl, newEl, AV.cells, AV.solid, AV.one, kill, killM, killL, notInt, Int.reduceToNat, cond_true, cond_false, ↓reduceIte, reduceCtorEq, Nat.reduceLT, Nat.reduceLeDiff, Nat.reduceMul, Nat.reduceEqDiff, exists_eq', putF, implies_true, exists_true_left, tys0, tys1, tys2, und0, und1, md9, Try.ntmps9, Try.results9]
  refine br_yes ho ?_
  simp only [q0, q1, q2, q3, q4, q5, q6, q7, q8, q9, zq0, zq1, zq2, zq3, zq4, guardSlot, quietA, nilC, nilA, quietB, St.ev, St.put, St.after, Nat.reduceAdd, Nat.reduceSub, ofV, ofL, lenA, binA, intBin, fltBin, strBin, cpxBin, unA, convA, convB, convO, pickV, resL, oneA, indexA, indexS, isQuiet, loadA, loadC, storeA, fieldA, partA, sliceA, boundA, buildA, placeA, setAll, appendA, readSl, newEl, AV.cells, AV.solid, AV.one, kill, killM, killL, notInt, Int.reduceToNat, cond_true, cond_false, ↓reduceIte, reduceCtorEq, Nat.reduceLT, Nat.reduceLeDiff, Nat.reduceMul, Nat.reduceEqDiff, exists_eq', putF, implies_true, exists_true_left, tys0, tys1, tys2, und0, und1, md9, Try.ntmps9, Try.results9]
  exact PostR.ret

def byW (rs : List Nat) : Nat → Nat
  | 0 => one32
  | i + 1 => fmul .f32 (byW rs i) (fadd .f32 one32 (rs.getD i 0))
def woW (os rs : List Nat) : Nat → Nat
  | 0 => 0
  | i + 1 => fadd .f32 (woW os rs i) (fdiv .f32 (os.getD i 0) (byW rs i))
theorem isFund1_yes (os rs : List Nat) (h1 : 1 ≤ rs.length) (h2 : rs.length ≤ 64) (h3 : os.length = rs.length) (h4 : rs.all (finB .f32) = true) (h5 : os.all (finB .f32) = true) (h6 : (rs.any fun r => fle .f32 r 3212836864) = false) :
    CallA Try.prog 23 [.ro (flts rs), .ro (rows [os])] [] (Ret (.bool true) []) := by
  refine CallP.out (t := .mk) (go_in (md := md23) mixed Try.func23 rfl go23 (by kernel_rfl) ?_)
  simp only [q0, q1, q2, q3, q4, q5, q6, q7, q8, q9, zq0, zq1, zq2, zq3, zq4, guardSlot, quietA, nilC, nilA, quietB, St.ev, St.put, St.after, Nat.reduceAdd, Nat.reduceSub, ofV, ofL, lenA, binA, intBin, fltBin, strBin, cpxBin, unA, convA, convB, convO, pickV, resL, oneA, indexA, indexS, isQuiet, loadA, loadC, storeA, fieldA, partA, sliceA, boundA, buildA, placeA, setAll, appendA, readSl, newEl, AV.cells, AV.solid, AV.one, kill, killM, killL, notInt, Int.reduceToNat, cond_true, cond_false, ↓reduceIte, reduceCtorEq, Nat.reduceLT, Nat.reduceLeDiff, Nat.reduceMul, Nat.reduceEqDiff, exists_eq', putF, implies_true, exists_true_left, tys0, tys1, tys2, und0, und1, md23, Try.ntmps23, Try.results23]
  refine br_no (decide_eq_false (by omega)) ?_
  simp only [q0, q1, q2, q3, q4, q5, q6, q7, q8, q9, zq0, zq1, zq2, zq3, zq4, guardSlot, quietA, nilC, nilA, quietB, St.ev, St.put, St.after, Nat.reduceAdd, Nat.reduceSub, ofV, ofL, lenA, binA, intBin, fltBin, strBin, cpxBin, unA, convA, convB, convO, pickV, resL, oneA, indexA, indexS, isQuiet, loadA, loadC, storeA, fieldA, partA, sliceA, boundA, buildA, placeA, setAll, appendA, readSl, newEl, AV.cells, AV.solid, AV.one, kill, killM, killL, notInt, Int.reduceToNat, cond_true, cond_false, ↓reduceIte, reduceCtorEq, Nat.reduceLT, Nat.reduceLeDiff, Nat.reduceMul, Nat.reduceEqDiff, exists_eq', putF, implies_true, exists_true_left, tys0, tys1, tys2, und0, und1, md23, Try.ntmps23, Try.results23]
  refine br_no (decide_eq_false (by omega)) ?_
  simp only [q0, q1, q2, q3, q4, q5, q6, q7, q8, q9, zq0, zq1, zq2, zq3, zq4, guardSlot, quietA, nilC, nilA, quietB, St.ev, St.put, St.after, Nat.reduceAdd, Nat.reduceSub, ofV, ofL, lenA, binA, intBin, fltBin, strBin, cpxBin, unA, convA, convB, convO, pickV, resL, oneA, indexA, indexS, isQuiet, loadA, loadC, storeA, fieldA, partA, sliceA, boundA, buildA, placeA, setAll, appendA, readSl, newEl, AV.cells, AV.solid, AV.one, kill, killM, killL, notInt, Int.reduceToNat, cond_true, cond_false, ↓reduceIte, reduceCtorEq, Nat.reduceLT, Nat.reduceLeDiff, Nat.reduceMul, Nat.reduceEqDiff, exists_eq', putF, implies_true, exists_true_left, tys0, tys1, tys2, und0, und1, md23, Try.ntmps23, Try.results23]
  refine call_ret (areFinite_call _ (by omega)) rfl rfl ?_
  simp only [q0, q1, q2, q3, q4, q5, q6, q7, q8, q9, zq0, zq1, zq2, zq3, zq4, guardSlot, quietA, nilC, nilA, quietB, St.ev, St.put, St.after, Nat.reduceAdd, Nat.reduceSub, ofV, ofL, lenA, binA, intBin, fltBin, strBin, cpxBin, unA, convA, convB, convO, pickV, resL, oneA, indexA, indexS, isQuiet, loadA, loadC, storeA, fieldA, partA, sliceA, boundA, buildA, placeA, setAll, appendA, readSl, newEl, AV.cells, AV.solid, AV.one, kill, killM, killL, notInt, Int.reduceToNat, cond_true, cond_false, ↓reduceIte, reduceCtorEq, Nat.reduceLT, Nat.reduceLeDiff, Nat.reduceMul, Nat.reduceEqDiff, exists_eq', putF, implies_true, exists_true_left, tys0, tys1, tys2, und0, und1, md23, Try.ntmps23, Try.results23]
  refine br_yes h4 ?_
  simp only [q0, q1, q2, q3, q4, q5, q6, q7, q8, q9, zq0, zq1, zq2, zq3, zq4, guardSlot, quietA, nilC, nilA, quietB, St.ev, St.put, St.after, Nat.reduceAdd, Nat.reduceSub, ofV, ofL, lenA, binA, intBin, fltBin, strBin, cpxBin, unA, convA, convB, convO, pickV, resL, oneA, indexA, indexS, isQuiet, loadA, loadC, storeA, fieldA, partA, sliceA, boundA, buildA, placeA, setAll, appendA, readSl, newEl, AV.cells, AV.solid, AV.one, kill, killM, killL, notInt, Int.reduceToNat, cond_true, cond_false, ↓reduceIte, reduceCtorEq, Nat.reduceLT, Nat.reduceLeDiff, Nat.reduceMul, Nat.reduceEqDiff, exists_eq', putF, implies_true, exists_true_left, tys0, tys1, tys2, und0, und1, md23, Try.ntmps23, Try.results23]
  refine call_ret (containsFunc_call _ [] _ rfl rfl isFund1_call rs (by omega)) rfl rfl ?_
  simp only [q0, q1, q2, q3, q4, q5, q6, q7, q8, q9, zq0, zq1, zq2, zq3, zq4, guardSlot, quietA, nilC, nilA, quietB, St.ev, St.put, St.after, Nat.reduceAdd, Nat.reduceSub, ofV, ofL, lenA, binA, intBin, fltBin, strBin, cpxBin, unA, convA, convB, convO, pickV, resL, oneA, indexA, indexS, isQuiet, loadA, loadC, storeA, fieldA, partA, sliceA, boundA, buildA, placeA, setAll, appendA, readSl, newEl, AV.cells, AV.solid, AV.one, kill, killM, killL, notInt, Int.reduceToNat, cond_true, cond_false, ↓reduceIte, reduceCtorEq, Nat.reduceLT, Nat.reduceLeDiff, Nat.reduceMul, Nat.reduceEqDiff, exists_eq', putF, implies_true, exists_true_left, tys0, tys1, tys2, und0, und1, md23, Try.ntmps23, Try.results23]
  refine br_no h6 ?_
  simp only [q0, q1, q2, q3, q4, q5, q6, q7, q8, q9, zq0, zq1, zq2, zq3, zq4, guardSlot, quietA, nilC, nilA, quietB, St.ev, St.put, St.after, Nat.reduceAdd, Nat.reduceSub, ofV, ofL, lenA, binA, intBin, fltBin, strBin, cpxBin, unA, convA, convB, convO, pickV, resL, oneA, indexA, indexS, isQuiet, loadA, loadC, storeA, fieldA, partA, sliceA, boundA, buildA, placeA, setAll, appendA, readSl, newEl, AV.cells, AV.solid, AV.one, kill, killM, killL, notInt, Int.reduceToNat, cond_true, cond_false, ↓reduceIte, reduceCtorEq, Nat.reduceLT, Nat.reduceLeDiff, Nat.reduceMul, Nat.reduceEqDiff, exists_eq', putF, implies_true, exists_true_left, tys0, tys1, tys2, und0, und1, md23, Try.ntmps23, Try.results23]
  refine call_lent 2 rfl (containsFuncL_call _ [.rop [.ro (flts rs)]] (fun l => !(decide (l.length = rs.length) && l.all (finB .f32))) rfl rfl [os] (fun x hx => isFund2_call rs x (by simp at hx; subst hx; omega)) (by simp)) rfl rfl ?_
  simp only [q0, q1, q2, q3, q4, q5, q6, q7, q8, q9, zq0, zq1, zq2, zq3, zq4, guardSlot, quietA, nilC, nilA, quietB, St.ev, St.put, St.after, Nat.reduceAdd, Nat.reduceSub, ofV, ofL, lenA, binA, intBin, fltBin, strBin, cpxBin, unA, convA, convB, convO, pickV, resL, oneA, indexA, indexS, isQuiet, loadA, loadC, storeA, fieldA, partA, sliceA, boundA, buildA, placeA, setAll, appendA, readSl, newEl, AV.cells, AV.solid, AV.one, kill, killM, killL, notInt, Int.reduceToNat, cond_true, cond_false, ↓reduceIte, reduceCtorEq, Nat.reduceLT, Nat.reduceLeDiff, Nat.reduceMul, Nat.reduceEqDiff, exists_eq', putF, implies_true, exists_true_left, tys0, tys1, tys2, und0, und1, md23, Try.ntmps23, Try.results23]
  exact PostR.pure ⟨by simp only [List.any_cons, List.any_nil, h5, h3, decide_true, Bool.and_self, Bool.not_true, Bool.or_self, Bool.not_false], rfl⟩ rfl
theorem implWorth_call (os rs : List Nat) (hB : fundB 0 os os rs = true) (hf : finB .f32 (woW os rs rs.length) = true) (hm : os.length ≤ 64) :
    CallA Try.prog 12 [.ro (flts os), .ro (flts rs)] [] (Ret (.tup [.flt .f32 (woW os rs rs.length), .bool true]) []) := by
  have hl : 1 ≤ os.length ∧ os.length ≤ 64 ∧ True ∧ rs.length = os.length := by
    simp only [fundB, Bool.and_eq_true, decide_eq_true_eq] at hB
    exact hB.1.1.1.1.2
  have hq := hB
  rw [← fundQ_eq, Bool.and_eq_true] at hq
  have hq2 := hq.2
  simp only [fundQ, Bool.and_eq_true, Bool.not_eq_true'] at hq2
  have h5 : os.all (finB .f32) = true := by
    have := hB
    simp only [fundB, Bool.and_eq_true] at this
    exact this.1.1.2
  refine CallP.out (t := .mk) (go_in (md := md12) mixed Try.func12 rfl go12 (by kernel_rfl) ?_)
  simp only [q0, q1, q2, q3, q4, q5, q6, q7, q8, q9, zq0, zq1, zq2, zq3, zq4, guardSlot, quietA, nilC, nilA, quietB, St.ev, St.put, St.after, Nat.reduceAdd, Nat.reduceSub, ofV, ofL, lenA, binA, intBin, fltBin, strBin, cpxBin, unA, convA, convB, convO, pickV, resL, oneA, indexA, indexS, isQuiet, loadA, loadC, storeA, fieldA, partA, sliceA, boundA, buildA, placeA, setAll, appendA, readSl, newEl, AV.cells, AV.solid, AV.one, kill, killM, killL, notInt, Int.reduceToNat, cond_true, cond_false, ↓reduceIte, reduceCtorEq, Nat.reduceLT, Nat.reduceLeDiff, Nat.reduceMul, Nat.reduceEqDiff, exists_eq', putF, implies_true, exists_true_left, tys0, tys1, tys2, und0, und1, md12, Try.ntmps12, Try.results12]
  refine call_lent 2 (by rfl) (isFund1_yes os rs (by omega) (by omega) (by omega) hq2.1.1.2 h5 hq2.1.2) rfl rfl ?_
  simp only [q0, q1, q2, q3, q4, q5, q6, q7, q8, q9, zq0, zq1, zq2, zq3, zq4, guardSlot, quietA, nilC, nilA, quietB, St.ev, St.put, St.after, Nat.reduceAdd, Nat.reduceSub, ofV, ofL, lenA, binA, intBin, fltBin, strBin, cpxBin, unA, convA, convB, convO, pickV, resL, oneA, indexA, indexS, isQuiet, loadA, loadC, storeA, fieldA, partA, sliceA, boundA, buildA, placeA, setAll, appendA, readSl, newEl, AV.cells, AV.solid, AV.one, kill, killM, killL, notInt, Int.reduceToNat, cond_true, cond_false, ↓reduceIte, reduceCtorEq, Nat.reduceLT, Nat.reduceLeDiff, Nat.reduceMul, Nat.reduceEqDiff, exists_eq', putF, implies_true, exists_true_left, tys0, tys1, tys2, und0, und1, md12, Try.ntmps12, Try.results12, f0, f1]
  refine go_round (md := md12) mixed (by kernel_rfl) (fun i : {i : Nat // i ≤ rs.length} => ⟨[.ro (flts os), .any, .any, .any, .any, .any, .flt .f32 (woW os rs i.1), .flt .f32 (byW rs i.1), .any, .any, .any, .any, .any, .any, .any, .ro (flts rs), .int .i64 rs.length, .int .i64 (i.1 : Int), .any, .any, .any, .any, .any, .any, .any, .any, .any, .any, .any, .any, .any, .any, .any, .any, .any, .any, .any, .any, .any], []⟩) (fun i => rs.length - i.1) ⟨0, by omega⟩ ?_ ?_
  · have e1 : woW os rs 0 = 0 := rfl
    have e2 : byW rs 0 = 1065353216 := rfl
    rw [e1, e2]
    exact weak_drop (by simp) (by simp [DropHp, ints_below, flts_below, flts_len]) (by simp [DropTm, DropV, below, belowM, belowL, flts_len])
  rintro ⟨i, hi⟩
  simp only [q0, q1, q2, q3, q4, q5, q6, q7, q8, q9, zq0, zq1, zq2, zq3, zq4, guardSlot, quietA, nilC, nilA, quietB, St.ev, St.put, St.after, Nat.reduceAdd, Nat.reduceSub, ofV, ofL, lenA, binA, intBin, fltBin, strBin, cpxBin, unA, convA, convB, convO, pickV, resL, oneA, indexA, indexS, isQuiet, loadA, loadC, storeA, fieldA, partA, sliceA, boundA, buildA, placeA, setAll, appendA, readSl, newEl, AV.cells, AV.solid, AV.one, kill, killM, killL, notInt, Int.reduceToNat, cond_true, cond_false, ↓reduceIte, reduceCtorEq, Nat.reduceLT, Nat.reduceLeDiff, Nat.reduceMul, Nat.reduceEqDiff, exists_eq', putF, implies_true, exists_true_left, tys0, tys1, tys2, und0, und1, md12, Try.ntmps12, Try.results12, flts_len, f1]
  refine br_intro (fun h => ?_) (fun h => ?_) <;> simp only [q0, q1, q2, q3, q4, q5, q6, q7, q8, q9, zq0, zq1, zq2, zq3, zq4, guardSlot, quietA, nilC, nilA, quietB, St.ev, St.put, St.after, Nat.reduceAdd, Nat.reduceSub, ofV, ofL, lenA, binA, intBin, fltBin, strBin, cpxBin, unA, convA, convB, convO, pickV, resL, oneA, indexA, indexS, isQuiet, loadA, loadC, storeA, fieldA, partA, sliceA, boundA, buildA, placeA, setAll, appendA, readSl, newEl, AV.cells, AV.solid, AV.one, kill, killM, killL, notInt, Int.reduceToNat, cond_true, cond_false, ↓reduceIte, reduceCtorEq, Nat.reduceLT, Nat.reduceLeDiff, Nat.reduceMul, Nat.reduceEqDiff, exists_eq', putF, implies_true, exists_true_left, tys0, tys1, tys2, und0, und1, md12, Try.ntmps12, Try.results12, flts_len, f1]
  · have hi' : i < rs.length := by have := of_decide_eq_true h; omega
    have hi2 : i < os.length := by omega
    have e1 : woW os rs (i + 1) = fadd .f32 (woW os rs i) (fdiv .f32 os[i] (byW rs i)) := by rw [woW, getD_at os 0 i hi2]
    have e2 : byW rs (i + 1) = fmul .f32 (byW rs i) (fadd .f32 1065353216 rs[i]) := by rw [byW, getD_at rs 0 i hi']; rfl
    refine ⟨hi', hi2, ⟨i + 1, by omega⟩, by show rs.length - (i + 1) < rs.length - i; omega, ?_⟩
    rw [e1, e2]
    exact weak_drop (by simp) (by simp [DropHp, ints_below, flts_below, w64_succ i (by omega)]) (by simp [DropTm, DropV, below, belowM, belowL, w64_succ i (by omega)])
  · have hi' : i = rs.length := by have := of_decide_eq_false h; omega
    subst hi'
    refine call_ret (finite_call _) rfl rfl ?_
    simp only [q0, q1, q2, q3, q4, q5, q6, q7, q8, q9, zq0, zq1, zq2, zq3, zq4, guardSlot, quietA, nilC, nilA, quietB, St.ev, St.put, St.after, Nat.reduceAdd, Nat.reduceSub, ofV, ofL, lenA, binA, intBin, fltBin, strBin, cpxBin, unA, convA, convB, convO, pickV, resL, oneA, indexA, indexS, isQuiet, loadA, loadC, storeA, fieldA, partA, sliceA, boundA, buildA, placeA, setAll, appendA, readSl, newEl, AV.cells, AV.solid, AV.one, kill, killM, killL, notInt, Int.reduceToNat, cond_true, cond_false, ↓reduceIte, reduceCtorEq, Nat.reduceLT, Nat.reduceLeDiff, Nat.reduceMul, Nat.reduceEqDiff, exists_eq', putF, implies_true, exists_true_left, tys0, tys1, tys2, und0, und1, md12, Try.ntmps12, Try.results12]
    exact PostR.pure ⟨by rw [if_pos hf, hf], rfl⟩ rfl
theorem specWorth_call (os rs : List Nat) (hB : fundB 0 os os rs = true) (hf : finB .f32 (woW os rs rs.length) = true) (hm : os.length ≤ 64) :
    CallA Try.prog 13 [.ro (flts os), .ro (flts rs)] [] (Ret (.tup [.flt .f32 (woW os rs rs.length), .bool true]) []) := by
  have hl : 1 ≤ os.length ∧ os.length ≤ 64 ∧ True ∧ rs.length = os.length := by
    simp only [fundB, Bool.and_eq_true, decide_eq_true_eq] at hB
    exact hB.1.1.1.1.2
  refine CallP.out (t := .mk) (go_in (md := md13) mixed Try.func13 rfl go13 (by kernel_rfl) ?_)
  simp only [q0, q1, q2, q3, q4, q5, q6, q7, q8, q9, zq0, zq1, zq2, zq3, zq4, guardSlot, quietA, nilC, nilA, quietB, St.ev, St.put, St.after, Nat.reduceAdd, Nat.reduceSub, ofV, ofL, lenA, binA, intBin, fltBin, strBin, cpxBin, unA, convA, convB, convO, pickV, resL, oneA, indexA, indexS, isQuiet, loadA, loadC, storeA, fieldA, partA, sliceA, boundA, buildA, placeA, setAll, appendA, readSl, newEl, AV.cells, AV.solid, AV.one, kill, killM, killL, notInt, Int.reduceToNat, cond_true, cond_false, ↓reduceIte, reduceCtorEq, Nat.reduceLT, Nat.reduceLeDiff, Nat.reduceMul, Nat.reduceEqDiff, exists_eq', putF, implies_true, exists_true_left, tys0, tys1, tys2, und0, und1, md13, Try.ntmps13, Try.results13, f0]
  refine call_ret (l07Fund_call _ _ _ _ (by omega) (by omega) (by omega)) rfl rfl ?_
  simp only [q0, q1, q2, q3, q4, q5, q6, q7, q8, q9, zq0, zq1, zq2, zq3, zq4, guardSlot, quietA, nilC, nilA, quietB, St.ev, St.put, St.after, Nat.reduceAdd, Nat.reduceSub, ofV, ofL, lenA, binA, intBin, fltBin, strBin, cpxBin, unA, convA, convB, convO, pickV, resL, oneA, indexA, indexS, isQuiet, loadA, loadC, storeA, fieldA, partA, sliceA, boundA, buildA, placeA, setAll, appendA, readSl, newEl, AV.cells, AV.solid, AV.one, kill, killM, killL, notInt, Int.reduceToNat, cond_true, cond_false, ↓reduceIte, reduceCtorEq, Nat.reduceLT, Nat.reduceLeDiff, Nat.reduceMul, Nat.reduceEqDiff, exists_eq', putF, implies_true, exists_true_left, tys0, tys1, tys2, und0, und1, md13, Try.ntmps13, Try.results13]
  refine br_yes hB ?_
  simp only [q0, q1, q2, q3, q4, q5, q6, q7, q8, q9, zq0, zq1, zq2, zq3, zq4, guardSlot, quietA, nilC, nilA, quietB, St.ev, St.put, St.after, Nat.reduceAdd, Nat.reduceSub, ofV, ofL, lenA, binA, intBin, fltBin, strBin, cpxBin, unA, convA, convB, convO, pickV, resL, oneA, indexA, indexS, isQuiet, loadA, loadC, storeA, fieldA, partA, sliceA, boundA, buildA, placeA, setAll, appendA, readSl, newEl, AV.cells, AV.solid, AV.one, kill, killM, killL, notInt, Int.reduceToNat, cond_true, cond_false, ↓reduceIte, reduceCtorEq, Nat.reduceLT, Nat.reduceLeDiff, Nat.reduceMul, Nat.reduceEqDiff, exists_eq', putF, implies_true, exists_true_left, tys0, tys1, tys2, und0, und1, md13, Try.ntmps13, Try.results13, f0, f1]
  refine go_round (md := md13) mixed (by kernel_rfl) (fun i : {i : Nat // i ≤ rs.length} => ⟨[.ro (flts os), .ro (flts rs), .any, .any, .any, .any, .flt .f32 (woW os rs i.1), .flt .f32 (byW rs i.1), .any, .any, .any, .any, .any, .any, .any, .any, .int .i64 os.length, .int .i64 (i.1 : Int), .any, .any, .any, .any, .any, .any, .any, .any, .any, .any, .any, .any, .any, .any, .any, .any, .any, .any, .any, .any, .any, .any, .any], []⟩) (fun i => rs.length - i.1) ⟨0, by omega⟩ ?_ ?_
  · have e1 : woW os rs 0 = 0 := rfl
    have e2 : byW rs 0 = 1065353216 := rfl
    rw [e1, e2]
    exact weak_drop (by simp) (by simp [DropHp, ints_below, flts_below, flts_len]) (by simp [DropTm, DropV, below, belowM, belowL, flts_len])
  rintro ⟨i, hi⟩
  simp only [q0, q1, q2, q3, q4, q5, q6, q7, q8, q9, zq0, zq1, zq2, zq3, zq4, guardSlot, quietA, nilC, nilA, quietB, St.ev, St.put, St.after, Nat.reduceAdd, Nat.reduceSub, ofV, ofL, lenA, binA, intBin, fltBin, strBin, cpxBin, unA, convA, convB, convO, pickV, resL, oneA, indexA, indexS, isQuiet, loadA, loadC, storeA, fieldA, partA, sliceA, boundA, buildA, placeA, setAll, appendA, readSl, newEl, AV.cells, AV.solid, AV.one, kill, killM, killL, notInt, Int.reduceToNat, cond_true, cond_false, ↓reduceIte, reduceCtorEq, Nat.reduceLT, Nat.reduceLeDiff, Nat.reduceMul, Nat.reduceEqDiff, exists_eq', putF, implies_true, exists_true_left, tys0, tys1, tys2, und0, und1, md13, Try.ntmps13, Try.results13, flts_len, f1]
  refine br_intro (fun h => ?_) (fun h => ?_) <;> simp only [q0, q1, q2, q3, q4, q5, q6, q7, q8, q9, zq0, zq1, zq2, zq3, zq4, guardSlot, quietA, nilC, nilA, quietB, St.ev, St.put, St.after, Nat.reduceAdd, Nat.reduceSub, ofV, ofL, lenA, binA, intBin, fltBin, strBin, cpxBin, unA, convA, convB, convO, pickV, resL, oneA, indexA, indexS, isQuiet, loadA, loadC, storeA, fieldA, partA, sliceA, boundA, buildA, placeA, setAll, appendA, readSl, newEl, AV.cells, AV.solid, AV.one, kill, killM, killL, notInt, Int.reduceToNat, cond_true, cond_false, ↓reduceIte, reduceCtorEq, Nat.reduceLT, Nat.reduceLeDiff, Nat.reduceMul, Nat.reduceEqDiff, exists_eq', putF, implies_true, exists_true_left, tys0, tys1, tys2, und0, und1, md13, Try.ntmps13, Try.results13, flts_len, f1]
  · have hi' : i < rs.length := by have := of_decide_eq_true h; omega
    have hi2 : i < os.length := by omega
    have e1 : woW os rs (i + 1) = fadd .f32 (woW os rs i) (fdiv .f32 os[i] (byW rs i)) := by rw [woW, getD_at os 0 i hi2]
    have e2 : byW rs (i + 1) = fmul .f32 (byW rs i) (fadd .f32 1065353216 rs[i]) := by rw [byW, getD_at rs 0 i hi']; rfl
    refine ⟨hi2, hi', ⟨i + 1, by omega⟩, by show rs.length - (i + 1) < rs.length - i; omega, ?_⟩
    rw [e1, e2]
    exact weak_drop (by simp) (by simp [DropHp, ints_below, flts_below, w64_succ i (by omega)]) (by simp [DropTm, DropV, below, belowM, belowL, w64_succ i (by omega)])
  · have hi' : i = rs.length := by have := of_decide_eq_false h; omega
    subst hi'
    refine call_ret (l02Number_call _) rfl rfl ?_
    simp only [q0, q1, q2, q3, q4, q5, q6, q7, q8, q9, zq0, zq1, zq2, zq3, zq4, guardSlot, quietA, nilC, nilA, quietB, St.ev, St.put, St.after, Nat.reduceAdd, Nat.reduceSub, ofV, ofL, lenA, binA, intBin, fltBin, strBin, cpxBin, unA, convA, convB, convO, pickV, resL, oneA, indexA, indexS, isQuiet, loadA, loadC, storeA, fieldA, partA, sliceA, boundA, buildA, placeA, setAll, appendA, readSl, newEl, AV.cells, AV.solid, AV.one, kill, killM, killL, notInt, Int.reduceToNat, cond_true, cond_false, ↓reduceIte, reduceCtorEq, Nat.reduceLT, Nat.reduceLeDiff, Nat.reduceMul, Nat.reduceEqDiff, exists_eq', putF, implies_true, exists_true_left, tys0, tys1, tys2, und0, und1, md13, Try.ntmps13, Try.results13]
    exact PostR.pure ⟨by rw [if_pos hf, hf], rfl⟩ rfl
end Go.Proofs.Ytobjnmdofgbacaa
