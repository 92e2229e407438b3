/- Lives: reserves, two lives. -/
import Derived.Test.YtpjifmfpddjeiaaAlC
set_option maxRecDepth 10000
set_option maxHeartbeats 8000000
set_option linter.unusedSimpArgs false
set_option linter.unusedVariables false
namespace Go.Proofs.Ytpjifmfpddjeiaa
open Go Go.Abs

def rvL (q : List Nat) (f k : Nat) : List Nat := (List.range q.length).map fun i => if q.length - k ≤ i then rvF q f (q.length - i) else 0
theorem rvL_len (q : List Nat) (f k : Nat) : (rvL q f k).length = q.length := by simp [rvL]
theorem rvL_zero (q : List Nat) (f : Nat) : rvL q f 0 = List.replicate q.length 0 := by
  apply List.ext_getElem
  · simp [rvL]
  · intro i h1 h2
    have : i < q.length := by simpa [rvL] using h1
    simp only [rvL, List.getElem_map, List.getElem_range, List.getElem_replicate]
    rw [if_neg (by omega)]
theorem rvL_set (q : List Nat) (f k : Nat) (h : k < q.length) : (rvL q f k).set (q.length - 1 - k) (rvF q f (k + 1)) = rvL q f (k + 1) := by
  apply List.ext_getElem
  · simp [rvL]
  · intro i h1 h2
    have : i < q.length := by simpa [rvL] using h2
    rw [List.getElem_set]
    simp only [rvL, List.getElem_map, List.getElem_range]
    by_cases e : q.length - 1 - k = i
    · rw [if_pos e, if_pos (by omega), show q.length - i = k + 1 by omega]
    · rw [if_neg e]
      by_cases g : q.length - k ≤ i
      · rw [if_pos g, if_pos (by omega)]
      · rw [if_neg g, if_neg (by omega)]
theorem rvL_get (q : List Nat) (f i : Nat) (h : i < q.length) : (rvL q f q.length).getD i 0 = rvF q f (q.length - i) := by
  simp [rvL, h]
theorem reserve0_call {q : List Nat} (T : Tab q) {r : Nat} (Y : U01 r) : CallA Try.prog 10 [.ro (flts q), .flt .f32 r] [] (Ret (.tup [.sl 0 0 q.length, .bool true]) [fltB (rvL q (facF r) q.length)]) := by
  have h6 := T.six
  have h1 := T.one
  have ef : fdiv .f32 1065353216 (fadd .f32 1065353216 r) = facF r := rfl
  refine CallP.out (t := .mk) (go_in (md := md10) mixed Try.func10 rfl go10 (by kernel_rfl) ?_)
  simp only [q0, q1, q2, q3, q4, q5, q6, q7, q8, q9, zq0, zq1, zq2, zq3, zq4, guardSlot, quietA, nilC, nilA, quietB, St.ev, St.put, St.after, Nat.reduceAdd, Nat.reduceSub, ofV, ofL, lenA, binA, intBin, fltBin, strBin, cpxBin, unA, convA, convB, convO, pickV, resL, oneA, indexA, indexS, isQuiet, loadA, loadC, storeA, fieldA, partA, sliceA, boundA, buildA, placeA, setAll, appendA, readSl, newEl, AV.cells, AV.solid, AV.one, kill, killM, killL, notInt, Int.reduceToNat, cond_true, cond_false, ↓reduceIte, reduceCtorEq, Nat.reduceLT, Nat.reduceLeDiff, Nat.reduceMul, Nat.reduceEqDiff, exists_eq', putF, implies_true, exists_true_left, tys0, tys1, tys2, und0, und1, und2, md10, Try.ntmps10, Try.results10, f0]
  refine call_ret (isTable_call T) rfl rfl ?_
  simp only [q0, q1, q2, q3, q4, q5, q6, q7, q8, q9, zq0, zq1, zq2, zq3, zq4, guardSlot, quietA, nilC, nilA, quietB, St.ev, St.put, St.after, Nat.reduceAdd, Nat.reduceSub, ofV, ofL, lenA, binA, intBin, fltBin, strBin, cpxBin, unA, convA, convB, convO, pickV, resL, oneA, indexA, indexS, isQuiet, loadA, loadC, storeA, fieldA, partA, sliceA, boundA, buildA, placeA, setAll, appendA, readSl, newEl, AV.cells, AV.solid, AV.one, kill, killM, killL, notInt, Int.reduceToNat, cond_true, cond_false, ↓reduceIte, reduceCtorEq, Nat.reduceLT, Nat.reduceLeDiff, Nat.reduceMul, Nat.reduceEqDiff, exists_eq', putF, implies_true, exists_true_left, tys0, tys1, tys2, und0, und1, und2, md10, Try.ntmps10, Try.results10, f0]
  refine call_ret (isYield_call Y) rfl rfl ?_
  simp only [q0, q1, q2, q3, q4, q5, q6, q7, q8, q9, zq0, zq1, zq2, zq3, zq4, guardSlot, quietA, nilC, nilA, quietB, St.ev, St.put, St.after, Nat.reduceAdd, Nat.reduceSub, ofV, ofL, lenA, binA, intBin, fltBin, strBin, cpxBin, unA, convA, convB, convO, pickV, resL, oneA, indexA, indexS, isQuiet, loadA, loadC, storeA, fieldA, partA, sliceA, boundA, buildA, placeA, setAll, appendA, readSl, newEl, AV.cells, AV.solid, AV.one, kill, killM, killL, notInt, Int.reduceToNat, cond_true, cond_false, ↓reduceIte, reduceCtorEq, Nat.reduceLT, Nat.reduceLeDiff, Nat.reduceMul, Nat.reduceEqDiff, exists_eq', putF, implies_true, exists_true_left, tys0, tys1, tys2, und0, und1, und2, md10, Try.ntmps10, Try.results10, f0, f1, flts_len]
  refine ⟨by omega, by omega, ?_⟩
  simp only [q0, q1, q2, q3, q4, q5, q6, q7, q8, q9, zq0, zq1, zq2, zq3, zq4, guardSlot, quietA, nilC, nilA, quietB, St.ev, St.put, St.after, Nat.reduceAdd, Nat.reduceSub, ofV, ofL, lenA, binA, intBin, fltBin, strBin, cpxBin, unA, convA, convB, convO, pickV, resL, oneA, indexA, indexS, isQuiet, loadA, loadC, storeA, fieldA, partA, sliceA, boundA, buildA, placeA, setAll, appendA, readSl, newEl, AV.cells, AV.solid, AV.one, kill, killM, killL, notInt, Int.reduceToNat, cond_true, cond_false, ↓reduceIte, reduceCtorEq, Nat.reduceLT, Nat.reduceLeDiff, Nat.reduceMul, Nat.reduceEqDiff, exists_eq', putF, implies_true, exists_true_left, tys0, tys1, tys2, und0, und1, und2, md10, Try.ntmps10, Try.results10, f0, f1, flts_len, ef]
  refine go_round (md := md10) mixed (by kernel_rfl) (fun k : {k : Nat // k ≤ q.length} => ⟨[.ro (flts q), .any, .any, .any, .any, .any, .sl 0 0 q.length, .flt .f32 (rvF q (facF r) k.1), .flt .f32 (facF r), .int .i64 ((q.length : Int) - 1 - (k.1 : Int)), .any, .any, .any, .any, .any, .any, .any, .any, .any, .any, .any, .any, .any, .any, .any, .any, .any, .any, .any, .any, .any, .any, .any, .any, .any, .any, .any, .any, .any, .any, .any, .any, .any, .any, .any, .any], [fltB (rvL q (facF r) k.1)]⟩) (fun k => q.length - k.1) ⟨0, by omega⟩ ?_ ?_
  · have e : rvF q (facF r) 0 = 0 := rfl
    have e1 : IntKind.i64.wrap ((q.length : Int) - 1) = (q.length : Int) - 1 - ((0 : Nat) : Int) := by rw [w64 (by omega) (by omega)]; omega
    rw [e, rvL_zero]
    exact weak_drop (by simp) (by simp [DropHp, ints_below, flts_below, fltB, flts_len, e1, ← flts_rep, allBelow_cons, allBelow_nil, below, belowM, belowL]) (by simp [DropTm, DropV, below, belowM, belowL, fltB, flts_len, e1, ← flts_rep, allBelow_cons, allBelow_nil, below, belowM, belowL])
  rintro ⟨k, hk⟩
  simp only [q0, q1, q2, q3, q4, q5, q6, q7, q8, q9, zq0, zq1, zq2, zq3, zq4, guardSlot, quietA, nilC, nilA, quietB, St.ev, St.put, St.after, Nat.reduceAdd, Nat.reduceSub, ofV, ofL, lenA, binA, intBin, fltBin, strBin, cpxBin, unA, convA, convB, convO, pickV, resL, oneA, indexA, indexS, isQuiet, loadA, loadC, storeA, fieldA, partA, sliceA, boundA, buildA, placeA, setAll, appendA, readSl, newEl, AV.cells, AV.solid, AV.one, kill, killM, killL, notInt, Int.reduceToNat, cond_true, cond_false, ↓reduceIte, reduceCtorEq, Nat.reduceLT, Nat.reduceLeDiff, Nat.reduceMul, Nat.reduceEqDiff, exists_eq', putF, implies_true, exists_true_left, tys0, tys1, tys2, und0, und1, und2, md10, Try.ntmps10, Try.results10, f0, f1, fltB, flts_len, rvL_len]
  refine br_intro (fun h => ?_) (fun h => ?_) <;> simp only [q0, q1, q2, q3, q4, q5, q6, q7, q8, q9, zq0, zq1, zq2, zq3, zq4, guardSlot, quietA, nilC, nilA, quietB, St.ev, St.put, St.after, Nat.reduceAdd, Nat.reduceSub, ofV, ofL, lenA, binA, intBin, fltBin, strBin, cpxBin, unA, convA, convB, convO, pickV, resL, oneA, indexA, indexS, isQuiet, loadA, loadC, storeA, fieldA, partA, sliceA, boundA, buildA, placeA, setAll, appendA, readSl, newEl, AV.cells, AV.solid, AV.one, kill, killM, killL, notInt, Int.reduceToNat, cond_true, cond_false, ↓reduceIte, reduceCtorEq, Nat.reduceLT, Nat.reduceLeDiff, Nat.reduceMul, Nat.reduceEqDiff, exists_eq', putF, implies_true, exists_true_left, tys0, tys1, tys2, und0, und1, und2, md10, Try.ntmps10, Try.results10, f0, f1, fltB, flts_len, rvL_len]
  · have hk' : k < q.length := by have := of_decide_eq_true h; omega
    have ei : (q.length : Int) - 1 - (k : Int) = ((q.length - 1 - k : Nat) : Int) := by omega
    have ei2 : IntKind.i64.wrap (((q.length - 1 - k : Nat) : Int) - 1) = (q.length : Int) - 1 - ((k + 1 : Nat) : Int) := by rw [w64 (by omega) (by omega)]; omega
    have hi : q.length - 1 - k < q.length := by omega
    have es : fadd .f32 1065353216 (fmul .f32 (fmul .f32 (fsub .f32 1065353216 q[q.length - 1 - k]) (facF r)) (rvF q (facF r) k)) = rvF q (facF r) (k + 1) := by rw [rvF, qAt, getD_at q 0 _ hi]; rfl
    rw [ei]
    refine ⟨by omega, by omega, by omega, by omega, by omega, ⟨k + 1, by omega⟩, by show q.length - (k + 1) < q.length - k; omega, ?_⟩
    exact weak_drop (by simp) (by simp [DropHp, ints_below, flts_below, fltB, flts_set, Int.toNat_natCast, es, rvL_set q (facF r) k hk', ei2, allBelow_cons, allBelow_nil, below, belowM, belowL]) (by simp [DropTm, DropV, below, belowM, belowL, fltB, flts_set, Int.toNat_natCast, es, rvL_set q (facF r) k hk', ei2, allBelow_cons, allBelow_nil, below, belowM, belowL])
  · have hk' : k = q.length := by have := of_decide_eq_false h; omega
    subst hk'
    exact PostR.ret
theorem view_fltL {q : List Nat} {n : Nat} (h : q.length = n) : view 2 [fltB q] (.sl 0 0 n) = .ro (flts q) := view_fl rfl h
theorem reserve_call {q : List Nat} (T : Tab q) {r : Nat} (Y : U01 r) : CallA Try.prog 10 [.ro (flts q), .flt .f32 r] [] (Ret (.tup [.ro (flts (rvL q (facF r) q.length)), .bool true]) []) :=
  CallA.frozen 3 (reserve0_call T Y) (by
    rw [view_tup, List.map_cons, List.map_cons, List.map_nil, view_fltL (rvL_len q (facF r) q.length)]
    rfl)
theorem getD_no (l : List Nat) (i : Nat) (h : ¬ i < l.length) : l.getD i 0 = 0 := by rw [List.getD_eq_getElem?_getD, List.getElem?_eq_none (by omega)]; rfl
def joiN (q p : List Nat) : Nat := max q.length p.length
def joiV (q p : List Nat) (r : Nat) (both : Bool) : Nat := prF (joiL (alvL q) (alvL p) both (joiN q p)) (facF r) 0 (joiN q p)
theorem joint_call {q p : List Nat} (T : Tab q) (Z : Tab p) {r : Nat} (Y : U01 r) (both : Bool) : CallA Try.prog 14 [.ro (flts q), .ro (flts p), .flt .f32 r, .bool both] [] (Ret (.tup [.flt .f32 (joiV q p r both), .bool true]) []) := by
  have h6 := T.six
  have g6 := Z.six
  have al := alvL_len q
  have bl := alvL_len p
  have hN : joiN q p ≤ 6 := by unfold joiN; omega
  have vf := (pr_ok (joi_shs T Z both (joiN q p)) hN (fac_u Y) 0 (joiN q p) (Nat.le_refl _)).1
  have pc := present_call (joiL (alvL q) (alvL p) both (joiN q p)) r 0 (by rw [joiL_len]; omega) (by omega)
  rw [joiL_len] at pc
  have pc : CallA Try.prog 22 [.ro (flts (joiL (alvL q) (alvL p) both (joiN q p))), .flt .f32 r, .int .i64 0] [] (Ret (.flt .f32 (joiV q p r both)) []) := pc
  refine CallP.out (t := .mk) (go_in (md := md14) mixed Try.func14 rfl go14 (by kernel_rfl) ?_)
  simp only [q0, q1, q2, q3, q4, q5, q6, q7, q8, q9, zq0, zq1, zq2, zq3, zq4, guardSlot, quietA, nilC, nilA, quietB, St.ev, St.put, St.after, Nat.reduceAdd, Nat.reduceSub, ofV, ofL, lenA, binA, intBin, fltBin, strBin, cpxBin, unA, convA, convB, convO, pickV, resL, oneA, indexA, indexS, isQuiet, loadA, loadC, storeA, fieldA, partA, sliceA, boundA, buildA, placeA, setAll, appendA, readSl, newEl, AV.cells, AV.solid, AV.one, kill, killM, killL, notInt, Int.reduceToNat, cond_true, cond_false, ↓reduceIte, reduceCtorEq, Nat.reduceLT, Nat.reduceLeDiff, Nat.reduceMul, Nat.reduceEqDiff, exists_eq', putF, implies_true, exists_true_left, tys0, tys1, tys2, und0, und1, und2, md14, Try.ntmps14, Try.results14, f0]
  refine call_ret (isTable_call T) rfl rfl ?_
  simp only [q0, q1, q2, q3, q4, q5, q6, q7, q8, q9, zq0, zq1, zq2, zq3, zq4, guardSlot, quietA, nilC, nilA, quietB, St.ev, St.put, St.after, Nat.reduceAdd, Nat.reduceSub, ofV, ofL, lenA, binA, intBin, fltBin, strBin, cpxBin, unA, convA, convB, convO, pickV, resL, oneA, indexA, indexS, isQuiet, loadA, loadC, storeA, fieldA, partA, sliceA, boundA, buildA, placeA, setAll, appendA, readSl, newEl, AV.cells, AV.solid, AV.one, kill, killM, killL, notInt, Int.reduceToNat, cond_true, cond_false, ↓reduceIte, reduceCtorEq, Nat.reduceLT, Nat.reduceLeDiff, Nat.reduceMul, Nat.reduceEqDiff, exists_eq', putF, implies_true, exists_true_left, tys0, tys1, tys2, und0, und1, und2, md14, Try.ntmps14, Try.results14, f0]
  refine call_ret (isTable_call Z) rfl rfl ?_
  simp only [q0, q1, q2, q3, q4, q5, q6, q7, q8, q9, zq0, zq1, zq2, zq3, zq4, guardSlot, quietA, nilC, nilA, quietB, St.ev, St.put, St.after, Nat.reduceAdd, Nat.reduceSub, ofV, ofL, lenA, binA, intBin, fltBin, strBin, cpxBin, unA, convA, convB, convO, pickV, resL, oneA, indexA, indexS, isQuiet, loadA, loadC, storeA, fieldA, partA, sliceA, boundA, buildA, placeA, setAll, appendA, readSl, newEl, AV.cells, AV.solid, AV.one, kill, killM, killL, notInt, Int.reduceToNat, cond_true, cond_false, ↓reduceIte, reduceCtorEq, Nat.reduceLT, Nat.reduceLeDiff, Nat.reduceMul, Nat.reduceEqDiff, exists_eq', putF, implies_true, exists_true_left, tys0, tys1, tys2, und0, und1, und2, md14, Try.ntmps14, Try.results14, f0]
  refine call_ret (isYield_call Y) rfl rfl ?_
  simp only [q0, q1, q2, q3, q4, q5, q6, q7, q8, q9, zq0, zq1, zq2, zq3, zq4, guardSlot, quietA, nilC, nilA, quietB, St.ev, St.put, St.after, Nat.reduceAdd, Nat.reduceSub, ofV, ofL, lenA, binA, intBin, fltBin, strBin, cpxBin, unA, convA, convB, convO, pickV, resL, oneA, indexA, indexS, isQuiet, loadA, loadC, storeA, fieldA, partA, sliceA, boundA, buildA, placeA, setAll, appendA, readSl, newEl, AV.cells, AV.solid, AV.one, kill, killM, killL, notInt, Int.reduceToNat, cond_true, cond_false, ↓reduceIte, reduceCtorEq, Nat.reduceLT, Nat.reduceLeDiff, Nat.reduceMul, Nat.reduceEqDiff, exists_eq', putF, implies_true, exists_true_left, tys0, tys1, tys2, und0, und1, und2, md14, Try.ntmps14, Try.results14, f0]
  refine call_ret (alive_ro (by omega)) rfl rfl ?_
  simp only [q0, q1, q2, q3, q4, q5, q6, q7, q8, q9, zq0, zq1, zq2, zq3, zq4, guardSlot, quietA, nilC, nilA, quietB, St.ev, St.put, St.after, Nat.reduceAdd, Nat.reduceSub, ofV, ofL, lenA, binA, intBin, fltBin, strBin, cpxBin, unA, convA, convB, convO, pickV, resL, oneA, indexA, indexS, isQuiet, loadA, loadC, storeA, fieldA, partA, sliceA, boundA, buildA, placeA, setAll, appendA, readSl, newEl, AV.cells, AV.solid, AV.one, kill, killM, killL, notInt, Int.reduceToNat, cond_true, cond_false, ↓reduceIte, reduceCtorEq, Nat.reduceLT, Nat.reduceLeDiff, Nat.reduceMul, Nat.reduceEqDiff, exists_eq', putF, implies_true, exists_true_left, tys0, tys1, tys2, und0, und1, und2, md14, Try.ntmps14, Try.results14, f0]
  refine call_ret (alive_ro (by omega)) rfl rfl ?_
  simp only [q0, q1, q2, q3, q4, q5, q6, q7, q8, q9, zq0, zq1, zq2, zq3, zq4, guardSlot, quietA, nilC, nilA, quietB, St.ev, St.put, St.after, Nat.reduceAdd, Nat.reduceSub, ofV, ofL, lenA, binA, intBin, fltBin, strBin, cpxBin, unA, convA, convB, convO, pickV, resL, oneA, indexA, indexS, isQuiet, loadA, loadC, storeA, fieldA, partA, sliceA, boundA, buildA, placeA, setAll, appendA, readSl, newEl, AV.cells, AV.solid, AV.one, kill, killM, killL, notInt, Int.reduceToNat, cond_true, cond_false, ↓reduceIte, reduceCtorEq, Nat.reduceLT, Nat.reduceLeDiff, Nat.reduceMul, Nat.reduceEqDiff, exists_eq', putF, implies_true, exists_true_left, tys0, tys1, tys2, und0, und1, und2, md14, Try.ntmps14, Try.results14, f0, flts_len, al, bl, maxA]
  have eN : (if (q.length : Int) < (p.length : Int) then (p.length : Int) else (q.length : Int)) = ((joiN q p : Nat) : Int) := by unfold joiN; split <;> omega
  rw [eN]
  have hNq : q.length ≤ joiN q p ∧ p.length ≤ joiN q p := by unfold joiN; omega
  cases both
  · refine go_round (md := md14) mixed (by kernel_rfl) (fun i : {i : Nat // i ≤ joiN q p} => ⟨[.any, .any, .flt .f32 r, .bool false, .any, .any, .any, .any, .any, .any, .ro (flts (alvL q)), .ro (flts (alvL p)), .sl 0 0 i.1, .any, .any, .any, .any, .any, .any, .any, .any, .any, .any, .any, .any, .any, .any, .any, .any, .any, .any, .any, .any, .any, .any, .any, .any, .any, .any, .int .i64 (joiN q p : Int), .int .i64 (i.1 : Int), .any, .any, .any, .any, .any, .any, .any, .any, .any, .any, .any, .any, .any, .any, .any, .any, .any, .any, .any, .any, .any, .any, .any, .any, .any, .any, .any, .any, .any, .any, .any, .any, .any, .any, .any, .any, .any, .any, .any], [fltB (joiL (alvL q) (alvL p) false i.1)]⟩) (fun i => joiN q p - i.1) ⟨0, by omega⟩ ?_ ?_
    · have z : joiL (alvL q) (alvL p) false 0 = [] := rfl
      have zf : flts [] = [] := rfl
      rw [z]
      exact weak_drop (by simp) (by simp [DropHp, ints_below, flts_below, fltB, zf, allBelow_cons, allBelow_nil, below, belowM, belowL]) (by simp [DropTm, DropV, below, belowM, belowL, fltB, zf, allBelow_cons, allBelow_nil, below, belowM, belowL])
    rintro ⟨i, hi⟩
    have el : joiL (alvL q) (alvL p) false i ++ [ownJ (alvL q) (alvL p) false i] = joiL (alvL q) (alvL p) false (i + 1) := by rw [joiL, joiL, List.range_succ, List.map_append]; rfl
    simp only [q0, q1, q2, q3, q4, q5, q6, q7, q8, q9, zq0, zq1, zq2, zq3, zq4, guardSlot, quietA, nilC, nilA, quietB, St.ev, St.put, St.after, Nat.reduceAdd, Nat.reduceSub, ofV, ofL, lenA, binA, intBin, fltBin, strBin, cpxBin, unA, convA, convB, convO, pickV, resL, oneA, indexA, indexS, isQuiet, loadA, loadC, storeA, fieldA, partA, sliceA, boundA, buildA, placeA, setAll, appendA, readSl, newEl, AV.cells, AV.solid, AV.one, kill, killM, killL, notInt, Int.reduceToNat, cond_true, cond_false, ↓reduceIte, reduceCtorEq, Nat.reduceLT, Nat.reduceLeDiff, Nat.reduceMul, Nat.reduceEqDiff, exists_eq', putF, implies_true, exists_true_left, tys0, tys1, tys2, und0, und1, und2, md14, Try.ntmps14, Try.results14, f0, fltB, flts_len, joiL_len, al, bl]
    refine br_intro (fun h => ?_) (fun h => ?_) <;> simp only [q0, q1, q2, q3, q4, q5, q6, q7, q8, q9, zq0, zq1, zq2, zq3, zq4, guardSlot, quietA, nilC, nilA, quietB, St.ev, St.put, St.after, Nat.reduceAdd, Nat.reduceSub, ofV, ofL, lenA, binA, intBin, fltBin, strBin, cpxBin, unA, convA, convB, convO, pickV, resL, oneA, indexA, indexS, isQuiet, loadA, loadC, storeA, fieldA, partA, sliceA, boundA, buildA, placeA, setAll, appendA, readSl, newEl, AV.cells, AV.solid, AV.one, kill, killM, killL, notInt, Int.reduceToNat, cond_true, cond_false, ↓reduceIte, reduceCtorEq, Nat.reduceLT, Nat.reduceLeDiff, Nat.reduceMul, Nat.reduceEqDiff, exists_eq', putF, implies_true, exists_true_left, tys0, tys1, tys2, und0, und1, und2, md14, Try.ntmps14, Try.results14, f0, fltB, flts_len, joiL_len, al, bl]
    · have hi' : i < joiN q p := by have := of_decide_eq_true h; omega
      refine br_intro (fun g => ?_) (fun g => ?_) <;> simp only [q0, q1, q2, q3, q4, q5, q6, q7, q8, q9, zq0, zq1, zq2, zq3, zq4, guardSlot, quietA, nilC, nilA, quietB, St.ev, St.put, St.after, Nat.reduceAdd, Nat.reduceSub, ofV, ofL, lenA, binA, intBin, fltBin, strBin, cpxBin, unA, convA, convB, convO, pickV, resL, oneA, indexA, indexS, isQuiet, loadA, loadC, storeA, fieldA, partA, sliceA, boundA, buildA, placeA, setAll, appendA, readSl, newEl, AV.cells, AV.solid, AV.one, kill, killM, killL, notInt, Int.reduceToNat, cond_true, cond_false, ↓reduceIte, reduceCtorEq, Nat.reduceLT, Nat.reduceLeDiff, Nat.reduceMul, Nat.reduceEqDiff, exists_eq', putF, implies_true, exists_true_left, tys0, tys1, tys2, und0, und1, und2, md14, Try.ntmps14, Try.results14, f0, fltB, flts_len, joiL_len, al, bl]
      · have gi : i < (alvL q).length := by have := of_decide_eq_true g; omega
        refine ⟨by omega, ?_⟩
        refine br_intro (fun u => ?_) (fun u => ?_) <;> simp only [q0, q1, q2, q3, q4, q5, q6, q7, q8, q9, zq0, zq1, zq2, zq3, zq4, guardSlot, quietA, nilC, nilA, quietB, St.ev, St.put, St.after, Nat.reduceAdd, Nat.reduceSub, ofV, ofL, lenA, binA, intBin, fltBin, strBin, cpxBin, unA, convA, convB, convO, pickV, resL, oneA, indexA, indexS, isQuiet, loadA, loadC, storeA, fieldA, partA, sliceA, boundA, buildA, placeA, setAll, appendA, readSl, newEl, AV.cells, AV.solid, AV.one, kill, killM, killL, notInt, Int.reduceToNat, cond_true, cond_false, ↓reduceIte, reduceCtorEq, Nat.reduceLT, Nat.reduceLeDiff, Nat.reduceMul, Nat.reduceEqDiff, exists_eq', putF, implies_true, exists_true_left, tys0, tys1, tys2, und0, und1, und2, md14, Try.ntmps14, Try.results14, f0, fltB, flts_len, joiL_len, al, bl]
        · have ui : i < (alvL p).length := by have := of_decide_eq_true u; omega
          refine ⟨by omega, ?_⟩
          have eo : fsub .f32 (fadd .f32 (alvL q)[i] (alvL p)[i]) (fmul .f32 (alvL q)[i] (alvL p)[i]) = ownJ (alvL q) (alvL p) false i := by rw [ownJ, getD_at (alvL q) 0 i gi, getD_at (alvL p) 0 i ui]; rfl
          refine ⟨allW_flt _ _, by rw [fits]; omega, ⟨i + 1, by omega⟩, by show joiN q p - (i + 1) < joiN q p - i; omega, ?_⟩
          rw [eo, ← el]
          exact weak_drop (by simp) (by simp [DropHp, ints_below, flts_below, w64_succ i (by omega), fltB, flts_snoc, flts_below, allBelow_cons, allBelow_nil, below, belowM, belowL]) (by simp [DropTm, DropV, below, belowM, belowL, w64_succ i (by omega), fltB, flts_snoc, flts_below, allBelow_cons, allBelow_nil, below, belowM, belowL])
        · have ui : ¬ i < (alvL p).length := by have := of_decide_eq_false u; omega
          have eo : fsub .f32 (fadd .f32 (alvL q)[i] 0) (fmul .f32 (alvL q)[i] 0) = ownJ (alvL q) (alvL p) false i := by rw [ownJ, getD_at (alvL q) 0 i gi, getD_no (alvL p) i ui]; rfl
          refine ⟨allW_flt _ _, by rw [fits]; omega, ⟨i + 1, by omega⟩, by show joiN q p - (i + 1) < joiN q p - i; omega, ?_⟩
          rw [eo, ← el]
          exact weak_drop (by simp) (by simp [DropHp, ints_below, flts_below, w64_succ i (by omega), fltB, flts_snoc, flts_below, allBelow_cons, allBelow_nil, below, belowM, belowL]) (by simp [DropTm, DropV, below, belowM, belowL, w64_succ i (by omega), fltB, flts_snoc, flts_below, allBelow_cons, allBelow_nil, below, belowM, belowL])
      · have gi : ¬ i < (alvL q).length := by have := of_decide_eq_false g; omega
        refine br_intro (fun u => ?_) (fun u => ?_) <;> simp only [q0, q1, q2, q3, q4, q5, q6, q7, q8, q9, zq0, zq1, zq2, zq3, zq4, guardSlot, quietA, nilC, nilA, quietB, St.ev, St.put, St.after, Nat.reduceAdd, Nat.reduceSub, ofV, ofL, lenA, binA, intBin, fltBin, strBin, cpxBin, unA, convA, convB, convO, pickV, resL, oneA, indexA, indexS, isQuiet, loadA, loadC, storeA, fieldA, partA, sliceA, boundA, buildA, placeA, setAll, appendA, readSl, newEl, AV.cells, AV.solid, AV.one, kill, killM, killL, notInt, Int.reduceToNat, cond_true, cond_false, ↓reduceIte, reduceCtorEq, Nat.reduceLT, Nat.reduceLeDiff, Nat.reduceMul, Nat.reduceEqDiff, exists_eq', putF, implies_true, exists_true_left, tys0, tys1, tys2, und0, und1, und2, md14, Try.ntmps14, Try.results14, f0, fltB, flts_len, joiL_len, al, bl]
        · have ui : i < (alvL p).length := by have := of_decide_eq_true u; omega
          refine ⟨by omega, ?_⟩
          have eo : fsub .f32 (fadd .f32 0 (alvL p)[i]) (fmul .f32 0 (alvL p)[i]) = ownJ (alvL q) (alvL p) false i := by rw [ownJ, getD_no (alvL q) i gi, getD_at (alvL p) 0 i ui]; rfl
          refine ⟨allW_flt _ _, by rw [fits]; omega, ⟨i + 1, by omega⟩, by show joiN q p - (i + 1) < joiN q p - i; omega, ?_⟩
          rw [eo, ← el]
          exact weak_drop (by simp) (by simp [DropHp, ints_below, flts_below, w64_succ i (by omega), fltB, flts_snoc, flts_below, allBelow_cons, allBelow_nil, below, belowM, belowL]) (by simp [DropTm, DropV, below, belowM, belowL, w64_succ i (by omega), fltB, flts_snoc, flts_below, allBelow_cons, allBelow_nil, below, belowM, belowL])
        · exfalso
          have ui : ¬ i < (alvL p).length := by have := of_decide_eq_false u; omega
          unfold joiN at hi'
          omega
    · have hi' : i = joiN q p := by have := of_decide_eq_false h; omega
      subst hi'
      refine call_lent 2 (congrArg (· :: [AV.flt .f32 r, .int .i64 0]) (view_fltL (joiL_len (alvL q) (alvL p) false (joiN q p)))) pc rfl rfl ?_
      simp only [q0, q1, q2, q3, q4, q5, q6, q7, q8, q9, zq0, zq1, zq2, zq3, zq4, guardSlot, quietA, nilC, nilA, quietB, St.ev, St.put, St.after, Nat.reduceAdd, Nat.reduceSub, ofV, ofL, lenA, binA, intBin, fltBin, strBin, cpxBin, unA, convA, convB, convO, pickV, resL, oneA, indexA, indexS, isQuiet, loadA, loadC, storeA, fieldA, partA, sliceA, boundA, buildA, placeA, setAll, appendA, readSl, newEl, AV.cells, AV.solid, AV.one, kill, killM, killL, notInt, Int.reduceToNat, cond_true, cond_false, ↓reduceIte, reduceCtorEq, Nat.reduceLT, Nat.reduceLeDiff, Nat.reduceMul, Nat.reduceEqDiff, exists_eq', putF, implies_true, exists_true_left, tys0, tys1, tys2, und0, und1, und2, md14, Try.ntmps14, Try.results14, f0, fltB, flts_len, joiL_len, al, bl]
      refine call_ret (finite_call _) rfl rfl ?_
      rw [show finB .f32 (joiV q p r false) = true from vf]
      simp only [q0, q1, q2, q3, q4, q5, q6, q7, q8, q9, zq0, zq1, zq2, zq3, zq4, guardSlot, quietA, nilC, nilA, quietB, St.ev, St.put, St.after, Nat.reduceAdd, Nat.reduceSub, ofV, ofL, lenA, binA, intBin, fltBin, strBin, cpxBin, unA, convA, convB, convO, pickV, resL, oneA, indexA, indexS, isQuiet, loadA, loadC, storeA, fieldA, partA, sliceA, boundA, buildA, placeA, setAll, appendA, readSl, newEl, AV.cells, AV.solid, AV.one, kill, killM, killL, notInt, Int.reduceToNat, cond_true, cond_false, ↓reduceIte, reduceCtorEq, Nat.reduceLT, Nat.reduceLeDiff, Nat.reduceMul, Nat.reduceEqDiff, exists_eq', putF, implies_true, exists_true_left, tys0, tys1, tys2, und0, und1, und2, md14, Try.ntmps14, Try.results14, f0, fltB, flts_len, joiL_len, al, bl]
      exact PostR.pure ⟨rfl, rfl⟩ rfl
  · refine go_round (md := md14) mixed (by kernel_rfl) (fun i : {i : Nat // i ≤ joiN q p} => ⟨[.any, .any, .flt .f32 r, .bool true, .any, .any, .any, .any, .any, .any, .ro (flts (alvL q)), .ro (flts (alvL p)), .sl 0 0 i.1, .any, .any, .any, .any, .any, .any, .any, .any, .any, .any, .any, .any, .any, .any, .any, .any, .any, .any, .any, .any, .any, .any, .any, .any, .any, .any, .int .i64 (joiN q p : Int), .int .i64 (i.1 : Int), .any, .any, .any, .any, .any, .any, .any, .any, .any, .any, .any, .any, .any, .any, .any, .any, .any, .any, .any, .any, .any, .any, .any, .any, .any, .any, .any, .any, .any, .any, .any, .any, .any, .any, .any, .any, .any, .any, .any], [fltB (joiL (alvL q) (alvL p) true i.1)]⟩) (fun i => joiN q p - i.1) ⟨0, by omega⟩ ?_ ?_
    · have z : joiL (alvL q) (alvL p) true 0 = [] := rfl
      have zf : flts [] = [] := rfl
      rw [z]
      exact weak_drop (by simp) (by simp [DropHp, ints_below, flts_below, fltB, zf, allBelow_cons, allBelow_nil, below, belowM, belowL]) (by simp [DropTm, DropV, below, belowM, belowL, fltB, zf, allBelow_cons, allBelow_nil, below, belowM, belowL])
    rintro ⟨i, hi⟩
    have el : joiL (alvL q) (alvL p) true i ++ [ownJ (alvL q) (alvL p) true i] = joiL (alvL q) (alvL p) true (i + 1) := by rw [joiL, joiL, List.range_succ, List.map_append]; rfl
    simp only [q0, q1, q2, q3, q4, q5, q6, q7, q8, q9, zq0, zq1, zq2, zq3, zq4, guardSlot, quietA, nilC, nilA, quietB, St.ev, St.put, St.after, Nat.reduceAdd, Nat.reduceSub, ofV, ofL, lenA, binA, intBin, fltBin, strBin, cpxBin, unA, convA, convB, convO, pickV, resL, oneA, indexA, indexS, isQuiet, loadA, loadC, storeA, fieldA, partA, sliceA, boundA, buildA, placeA, setAll, appendA, readSl, newEl, AV.cells, AV.solid, AV.one, kill, killM, killL, notInt, Int.reduceToNat, cond_true, cond_false, ↓reduceIte, reduceCtorEq, Nat.reduceLT, Nat.reduceLeDiff, Nat.reduceMul, Nat.reduceEqDiff, exists_eq', putF, implies_true, exists_true_left, tys0, tys1, tys2, und0, und1, und2, md14, Try.ntmps14, Try.results14, f0, fltB, flts_len, joiL_len, al, bl]
    refine br_intro (fun h => ?_) (fun h => ?_) <;> simp only [q0, q1, q2, q3, q4, q5, q6, q7, q8, q9, zq0, zq1, zq2, zq3, zq4, guardSlot, quietA, nilC, nilA, quietB, St.ev, St.put, St.after, Nat.reduceAdd, Nat.reduceSub, ofV, ofL, lenA, binA, intBin, fltBin, strBin, cpxBin, unA, convA, convB, convO, pickV, resL, oneA, indexA, indexS, isQuiet, loadA, loadC, storeA, fieldA, partA, sliceA, boundA, buildA, placeA, setAll, appendA, readSl, newEl, AV.cells, AV.solid, AV.one, kill, killM, killL, notInt, Int.reduceToNat, cond_true, cond_false, ↓reduceIte, reduceCtorEq, Nat.reduceLT, Nat.reduceLeDiff, Nat.reduceMul, Nat.reduceEqDiff, exists_eq', putF, implies_true, exists_true_left, tys0, tys1, tys2, und0, und1, und2, md14, Try.ntmps14, Try.results14, f0, fltB, flts_len, joiL_len, al, bl]
    · have hi' : i < joiN q p := by have := of_decide_eq_true h; omega
      refine br_intro (fun g => ?_) (fun g => ?_) <;> simp only [q0, q1, q2, q3, q4, q5, q6, q7, q8, q9, zq0, zq1, zq2, zq3, zq4, guardSlot, quietA, nilC, nilA, quietB, St.ev, St.put, St.after, Nat.reduceAdd, Nat.reduceSub, ofV, ofL, lenA, binA, intBin, fltBin, strBin, cpxBin, unA, convA, convB, convO, pickV, resL, oneA, indexA, indexS, isQuiet, loadA, loadC, storeA, fieldA, partA, sliceA, boundA, buildA, placeA, setAll, appendA, readSl, newEl, AV.cells, AV.solid, AV.one, kill, killM, killL, notInt, Int.reduceToNat, cond_true, cond_false, ↓reduceIte, reduceCtorEq, Nat.reduceLT, Nat.reduceLeDiff, Nat.reduceMul, Nat.reduceEqDiff, exists_eq', putF, implies_true, exists_true_left, tys0, tys1, tys2, und0, und1, und2, md14, Try.ntmps14, Try.results14, f0, fltB, flts_len, joiL_len, al, bl]
      · have gi : i < (alvL q).length := by have := of_decide_eq_true g; omega
        refine ⟨by omega, ?_⟩
        refine br_intro (fun u => ?_) (fun u => ?_) <;> simp only [q0, q1, q2, q3, q4, q5, q6, q7, q8, q9, zq0, zq1, zq2, zq3, zq4, guardSlot, quietA, nilC, nilA, quietB, St.ev, St.put, St.after, Nat.reduceAdd, Nat.reduceSub, ofV, ofL, lenA, binA, intBin, fltBin, strBin, cpxBin, unA, convA, convB, convO, pickV, resL, oneA, indexA, indexS, isQuiet, loadA, loadC, storeA, fieldA, partA, sliceA, boundA, buildA, placeA, setAll, appendA, readSl, newEl, AV.cells, AV.solid, AV.one, kill, killM, killL, notInt, Int.reduceToNat, cond_true, cond_false, ↓reduceIte, reduceCtorEq, Nat.reduceLT, Nat.reduceLeDiff, Nat.reduceMul, Nat.reduceEqDiff, exists_eq', putF, implies_true, exists_true_left, tys0, tys1, tys2, und0, und1, und2, md14, Try.ntmps14, Try.results14, f0, fltB, flts_len, joiL_len, al, bl]
        · have ui : i < (alvL p).length := by have := of_decide_eq_true u; omega
          refine ⟨by omega, ?_⟩
          have eo : fmul .f32 (alvL q)[i] (alvL p)[i] = ownJ (alvL q) (alvL p) true i := by rw [ownJ, getD_at (alvL q) 0 i gi, getD_at (alvL p) 0 i ui]; rfl
          refine ⟨allW_flt _ _, by rw [fits]; omega, ⟨i + 1, by omega⟩, by show joiN q p - (i + 1) < joiN q p - i; omega, ?_⟩
          rw [eo, ← el]
          exact weak_drop (by simp) (by simp [DropHp, ints_below, flts_below, w64_succ i (by omega), fltB, flts_snoc, flts_below, allBelow_cons, allBelow_nil, below, belowM, belowL]) (by simp [DropTm, DropV, below, belowM, belowL, w64_succ i (by omega), fltB, flts_snoc, flts_below, allBelow_cons, allBelow_nil, below, belowM, belowL])
        · have ui : ¬ i < (alvL p).length := by have := of_decide_eq_false u; omega
          have eo : fmul .f32 (alvL q)[i] 0 = ownJ (alvL q) (alvL p) true i := by rw [ownJ, getD_at (alvL q) 0 i gi, getD_no (alvL p) i ui]; rfl
          refine ⟨allW_flt _ _, by rw [fits]; omega, ⟨i + 1, by omega⟩, by show joiN q p - (i + 1) < joiN q p - i; omega, ?_⟩
          rw [eo, ← el]
          exact weak_drop (by simp) (by simp [DropHp, ints_below, flts_below, w64_succ i (by omega), fltB, flts_snoc, flts_below, allBelow_cons, allBelow_nil, below, belowM, belowL]) (by simp [DropTm, DropV, below, belowM, belowL, w64_succ i (by omega), fltB, flts_snoc, flts_below, allBelow_cons, allBelow_nil, below, belowM, belowL])
      · have gi : ¬ i < (alvL q).length := by have := of_decide_eq_false g; omega
        refine br_intro (fun u => ?_) (fun u => ?_) <;> simp only [q0, q1, q2, q3, q4, q5, q6, q7, q8, q9, zq0, zq1, zq2, zq3, zq4, guardSlot, quietA, nilC, nilA, quietB, St.ev, St.put, St.after, Nat.reduceAdd, Nat.reduceSub, ofV, ofL, lenA, binA, intBin, fltBin, strBin, cpxBin, unA, convA, convB, convO, pickV, resL, oneA, indexA, indexS, isQuiet, loadA, loadC, storeA, fieldA, partA, sliceA, boundA, buildA, placeA, setAll, appendA, readSl, newEl, AV.cells, AV.solid, AV.one, kill, killM, killL, notInt, Int.reduceToNat, cond_true, cond_false, ↓reduceIte, reduceCtorEq, Nat.reduceLT, Nat.reduceLeDiff, Nat.reduceMul, Nat.reduceEqDiff, exists_eq', putF, implies_true, exists_true_left, tys0, tys1, tys2, und0, und1, und2, md14, Try.ntmps14, Try.results14, f0, fltB, flts_len, joiL_len, al, bl]
        · have ui : i < (alvL p).length := by have := of_decide_eq_true u; omega
          refine ⟨by omega, ?_⟩
          have eo : fmul .f32 0 (alvL p)[i] = ownJ (alvL q) (alvL p) true i := by rw [ownJ, getD_no (alvL q) i gi, getD_at (alvL p) 0 i ui]; rfl
          refine ⟨allW_flt _ _, by rw [fits]; omega, ⟨i + 1, by omega⟩, by show joiN q p - (i + 1) < joiN q p - i; omega, ?_⟩
          rw [eo, ← el]
          exact weak_drop (by simp) (by simp [DropHp, ints_below, flts_below, w64_succ i (by omega), fltB, flts_snoc, flts_below, allBelow_cons, allBelow_nil, below, belowM, belowL]) (by simp [DropTm, DropV, below, belowM, belowL, w64_succ i (by omega), fltB, flts_snoc, flts_below, allBelow_cons, allBelow_nil, below, belowM, belowL])
        · exfalso
          have ui : ¬ i < (alvL p).length := by have := of_decide_eq_false u; omega
          unfold joiN at hi'
          omega
    · have hi' : i = joiN q p := by have := of_decide_eq_false h; omega
      subst hi'
      refine call_lent 2 (congrArg (· :: [AV.flt .f32 r, .int .i64 0]) (view_fltL (joiL_len (alvL q) (alvL p) true (joiN q p)))) pc rfl rfl ?_
      simp only [q0, q1, q2, q3, q4, q5, q6, q7, q8, q9, zq0, zq1, zq2, zq3, zq4, guardSlot, quietA, nilC, nilA, quietB, St.ev, St.put, St.after, Nat.reduceAdd, Nat.reduceSub, ofV, ofL, lenA, binA, intBin, fltBin, strBin, cpxBin, unA, convA, convB, convO, pickV, resL, oneA, indexA, indexS, isQuiet, loadA, loadC, storeA, fieldA, partA, sliceA, boundA, buildA, placeA, setAll, appendA, readSl, newEl, AV.cells, AV.solid, AV.one, kill, killM, killL, notInt, Int.reduceToNat, cond_true, cond_false, ↓reduceIte, reduceCtorEq, Nat.reduceLT, Nat.reduceLeDiff, Nat.reduceMul, Nat.reduceEqDiff, exists_eq', putF, implies_true, exists_true_left, tys0, tys1, tys2, und0, und1, und2, md14, Try.ntmps14, Try.results14, f0, fltB, flts_len, joiL_len, al, bl]
      refine call_ret (finite_call _) rfl rfl ?_
      rw [show finB .f32 (joiV q p r true) = true from vf]
      simp only [q0, q1, q2, q3, q4, q5, q6, q7, q8, q9, zq0, zq1, zq2, zq3, zq4, guardSlot, quietA, nilC, nilA, quietB, St.ev, St.put, St.after, Nat.reduceAdd, Nat.reduceSub, ofV, ofL, lenA, binA, intBin, fltBin, strBin, cpxBin, unA, convA, convB, convO, pickV, resL, oneA, indexA, indexS, isQuiet, loadA, loadC, storeA, fieldA, partA, sliceA, boundA, buildA, placeA, setAll, appendA, readSl, newEl, AV.cells, AV.solid, AV.one, kill, killM, killL, notInt, Int.reduceToNat, cond_true, cond_false, ↓reduceIte, reduceCtorEq, Nat.reduceLT, Nat.reduceLeDiff, Nat.reduceMul, Nat.reduceEqDiff, exists_eq', putF, implies_true, exists_true_left, tys0, tys1, tys2, und0, und1, und2, md14, Try.ntmps14, Try.results14, f0, fltB, flts_len, joiL_len, al, bl]
      exact PostR.pure ⟨rfl, rfl⟩ rfl
end Go.Proofs.Ytpjifmfpddjeiaa
