/- Peoples: renewal at a number: both sides. -/
import Derived.Test.YtemeaobpedfkmaaPeD
set_option maxRecDepth 10000
set_option maxHeartbeats 4000000
set_option linter.unusedSimpArgs false
set_option linter.unusedVariables false
namespace Go.Proofs.Ytemeaobpedfkmaa
open Go Go.Abs

def wP (f : Nat × Nat) : Nat → Nat × Nat
  | 0 => f
  | k + 1 => mulP (wP f k) f
def svP (ss : List Nat) : Nat → Nat
  | 0 => 1065353216
  | k + 1 => fmul .f32 (svP ss k) (ss.getD k 0)
def bsP (ss bs : List Nat) (k : Nat) : Nat := fmul .f32 (bs.getD k 0) (svP ss k)
def rnP (f : Nat × Nat) (ss bs : List Nat) : Nat → Nat × Nat
  | 0 => (0, 0)
  | k + 1 => (fadd .f32 (rnP f ss bs k).1 (fmul .f32 (wP f k).1 (bsP ss bs k)), fadd .f32 (rnP f ss bs k).2 (fmul .f32 (wP f k).2 (bsP ss bs k)))
theorem rnP_one (f : Nat × Nat) (ss bs : List Nat) (k : Nat) : fadd .f32 (rnP f ss bs k).1 (fmul .f32 (wP f k).1 (bsP ss bs k)) = (rnP f ss bs (k + 1)).1 := rfl
theorem rnP_two (f : Nat × Nat) (ss bs : List Nat) (k : Nat) : fadd .f32 (rnP f ss bs k).2 (fmul .f32 (wP f k).2 (bsP ss bs k)) = (rnP f ss bs (k + 1)).2 := rfl
structure RenOk (z f : Nat × Nat) (ss bs : List Nat) : Prop where
  fin : (finB .f32 z.1 && finB .f32 z.2) = true
  ne : (feq .f32 z.1 0 && feq .f32 z.2 0) = false
  len : bs.length ≤ 5
  muls : ∀ k, k < 4 → mulOk (wP f k) f
  sum : (finB .f32 (rnP f ss bs bs.length).1 && finB .f32 (rnP f ss bs bs.length).2) = true
theorem implRenewal_call (cs ss bs : List Nat) (z f : Nat × Nat) (hp : peopleB cs ss bs = true) (q : quoOk (1065353216, 0) z) (hf : quoP (1065353216, 0) z = f) (R : RenOk z f ss bs) :
    CallA Try.prog 20 [.agg [.ro (flts cs), .ro (flts ss), .ro (flts bs)], .cpx .f32 z.1 z.2] [] (Ret (.tup [.cpx .f32 (rnP f ss bs bs.length).1 (rnP f ss bs bs.length).2, .bool true]) []) := by
  have hl := people_len hp
  have H1 := R.fin
  have H2 := R.ne
  have H4 := R.sum
  have H5 := R.len
  refine CallP.out (t := .mk) (go_in (md := md20) mixed Try.func20 rfl go20 (by kernel_rfl) ?_)
  simp only [q0, q1, q2, q3, q4, q5, q6, q7, q8, q9, zq0, zq1, zq2, zq3, zq4, guardSlot, quietA, nilC, nilA, quietB, St.ev, St.put, St.after, Nat.reduceAdd, Nat.reduceSub, ofV, ofL, lenA, binA, intBin, fltBin, strBin, cpxBin, unA, convA, convB, convO, pickV, resL, oneA, indexA, indexS, isQuiet, loadA, loadC, storeA, fieldA, partA, sliceA, boundA, buildA, placeA, setAll, appendA, readSl, newEl, AV.cells, AV.solid, AV.one, kill, killM, killL, notInt, Int.reduceToNat, cond_true, cond_false, ↓reduceIte, reduceCtorEq, Nat.reduceLT, Nat.reduceLeDiff, Nat.reduceMul, Nat.reduceEqDiff, exists_eq', putF, implies_true, exists_true_left, tys0, tys1, tys2, tys3, und0, und1, und2, md20, Try.ntmps20, Try.results20, canon_zero]
  refine call_ret (validPeople_call cs ss bs (by omega)) rfl rfl ?_
  rw [hp]
  simp only [q0, q1, q2, q3, q4, q5, q6, q7, q8, q9, zq0, zq1, zq2, zq3, zq4, guardSlot, quietA, nilC, nilA, quietB, St.ev, St.put, St.after, Nat.reduceAdd, Nat.reduceSub, ofV, ofL, lenA, binA, intBin, fltBin, strBin, cpxBin, unA, convA, convB, convO, pickV, resL, oneA, indexA, indexS, isQuiet, loadA, loadC, storeA, fieldA, partA, sliceA, boundA, buildA, placeA, setAll, appendA, readSl, newEl, AV.cells, AV.solid, AV.one, kill, killM, killL, notInt, Int.reduceToNat, cond_true, cond_false, ↓reduceIte, reduceCtorEq, Nat.reduceLT, Nat.reduceLeDiff, Nat.reduceMul, Nat.reduceEqDiff, exists_eq', putF, implies_true, exists_true_left, tys0, tys1, tys2, tys3, und0, und1, und2, md20, Try.ntmps20, Try.results20, canon_zero]
  refine call_ret (isFiniteC_call z.1 z.2) rfl rfl ?_
  rw [H1]
  simp only [q0, q1, q2, q3, q4, q5, q6, q7, q8, q9, zq0, zq1, zq2, zq3, zq4, guardSlot, quietA, nilC, nilA, quietB, St.ev, St.put, St.after, Nat.reduceAdd, Nat.reduceSub, ofV, ofL, lenA, binA, intBin, fltBin, strBin, cpxBin, unA, convA, convB, convO, pickV, resL, oneA, indexA, indexS, isQuiet, loadA, loadC, storeA, fieldA, partA, sliceA, boundA, buildA, placeA, setAll, appendA, readSl, newEl, AV.cells, AV.solid, AV.one, kill, killM, killL, notInt, Int.reduceToNat, cond_true, cond_false, ↓reduceIte, reduceCtorEq, Nat.reduceLT, Nat.reduceLeDiff, Nat.reduceMul, Nat.reduceEqDiff, exists_eq', putF, implies_true, exists_true_left, tys0, tys1, tys2, tys3, und0, und1, und2, md20, Try.ntmps20, Try.results20, canon_zero, H2]
  have e1 : canon .f32 1065353216 = 1065353216 := by decide +kernel
  rw [e1]
  refine call_ret (quotientOf_call 1065353216 0 z.1 z.2 q) rfl rfl ?_
  rw [show quoP (1065353216, 0) (z.1, z.2) = f from hf]
  unfold cpx
  simp only [q0, q1, q2, q3, q4, q5, q6, q7, q8, q9, zq0, zq1, zq2, zq3, zq4, guardSlot, quietA, nilC, nilA, quietB, St.ev, St.put, St.after, Nat.reduceAdd, Nat.reduceSub, ofV, ofL, lenA, binA, intBin, fltBin, strBin, cpxBin, unA, convA, convB, convO, pickV, resL, oneA, indexA, indexS, isQuiet, loadA, loadC, storeA, fieldA, partA, sliceA, boundA, buildA, placeA, setAll, appendA, readSl, newEl, AV.cells, AV.solid, AV.one, kill, killM, killL, notInt, Int.reduceToNat, cond_true, cond_false, ↓reduceIte, reduceCtorEq, Nat.reduceLT, Nat.reduceLeDiff, Nat.reduceMul, Nat.reduceEqDiff, exists_eq', putF, implies_true, exists_true_left, tys0, tys1, tys2, tys3, und0, und1, und2, md20, Try.ntmps20, Try.results20, canon_zero, e1]
  refine go_round (md := md20) mixed (by kernel_rfl) (fun k : {k : Nat // k ≤ bs.length} => ⟨[.any, .any, .ptr 0 0 0, .any, .any, .any, .cpx .f32 f.1 f.2, .cpx .f32 (wP f (k.1 - 1)).1 (wP f (k.1 - 1)).2, .flt .f32 (svP ss (k.1 - 1)), .cpx .f32 (rnP f ss bs k.1).1 (rnP f ss bs k.1).2, .any, .any, .any, .any, .any, .any, .any, .any, .any, .any, .any, .any, .any, .any, .any, .any, .any, .any, .ro (flts bs), .int .i64 bs.length, .int .i64 k.1, .any, .any, .any, .any, .any, .any, .any, .any, .any, .any, .any, .any, .any, .any, .any, .any, .any, .any, .any, .any, .any, .any, .any, .any, .any, .any, .any, .any, .any], [pboxB cs ss bs]⟩) (fun k => bs.length - k.1) ⟨0, by omega⟩ ?_ ?_
  · have z1 : wP f (0 - 1) = f := rfl
    have z2 : svP ss (0 - 1) = 1065353216 := rfl
    have z3 : rnP f ss bs 0 = (0, 0) := rfl
    rw [z1, z2, z3]
    have hb : ∀ N, allBelow N [AV.agg [.ro (flts cs), .ro (flts ss), .ro (flts bs)]] = true := fun _ => rfl
    exact weak_drop (by simp) (by simp [DropHp, ints_below, flts_below, pboxB, hb]) (by simp [DropTm, DropV, below, belowM, belowL, pboxB, hb])
  rintro ⟨k, hk⟩
  dsimp only
  simp only [q0, q1, q2, q3, q4, q5, q6, q7, q8, q9, zq0, zq1, zq2, zq3, zq4, guardSlot, quietA, nilC, nilA, quietB, St.ev, St.put, St.after, Nat.reduceAdd, Nat.reduceSub, ofV, ofL, lenA, binA, intBin, fltBin, strBin, cpxBin, unA, convA, convB, convO, pickV, resL, oneA, indexA, indexS, isQuiet, loadA, loadC, storeA, fieldA, partA, sliceA, boundA, buildA, placeA, setAll, appendA, readSl, newEl, AV.cells, AV.solid, AV.one, kill, killM, killL, notInt, Int.reduceToNat, cond_true, cond_false, ↓reduceIte, reduceCtorEq, Nat.reduceLT, Nat.reduceLeDiff, Nat.reduceMul, Nat.reduceEqDiff, exists_eq', putF, implies_true, exists_true_left, tys0, tys1, tys2, tys3, und0, und1, und2, md20, Try.ntmps20, Try.results20, pboxB]
  refine br_intro (fun h => ?_) (fun h => ?_) <;> simp only [q0, q1, q2, q3, q4, q5, q6, q7, q8, q9, zq0, zq1, zq2, zq3, zq4, guardSlot, quietA, nilC, nilA, quietB, St.ev, St.put, St.after, Nat.reduceAdd, Nat.reduceSub, ofV, ofL, lenA, binA, intBin, fltBin, strBin, cpxBin, unA, convA, convB, convO, pickV, resL, oneA, indexA, indexS, isQuiet, loadA, loadC, storeA, fieldA, partA, sliceA, boundA, buildA, placeA, setAll, appendA, readSl, newEl, AV.cells, AV.solid, AV.one, kill, killM, killL, notInt, Int.reduceToNat, cond_true, cond_false, ↓reduceIte, reduceCtorEq, Nat.reduceLT, Nat.reduceLeDiff, Nat.reduceMul, Nat.reduceEqDiff, exists_eq', putF, implies_true, exists_true_left, tys0, tys1, tys2, tys3, und0, und1, und2, md20, Try.ntmps20, Try.results20, pboxB]
  rotate_left
  · have hk' : k = bs.length := by simp at h; omega
    subst hk'
    refine call_ret (isFiniteC_call _ _) rfl rfl ?_
    rw [H4]
    simp only [q0, q1, q2, q3, q4, q5, q6, q7, q8, q9, zq0, zq1, zq2, zq3, zq4, guardSlot, quietA, nilC, nilA, quietB, St.ev, St.put, St.after, Nat.reduceAdd, Nat.reduceSub, ofV, ofL, lenA, binA, intBin, fltBin, strBin, cpxBin, unA, convA, convB, convO, pickV, resL, oneA, indexA, indexS, isQuiet, loadA, loadC, storeA, fieldA, partA, sliceA, boundA, buildA, placeA, setAll, appendA, readSl, newEl, AV.cells, AV.solid, AV.one, kill, killM, killL, notInt, Int.reduceToNat, cond_true, cond_false, ↓reduceIte, reduceCtorEq, Nat.reduceLT, Nat.reduceLeDiff, Nat.reduceMul, Nat.reduceEqDiff, exists_eq', putF, implies_true, exists_true_left, tys0, tys1, tys2, tys3, und0, und1, und2, md20, Try.ntmps20, Try.results20]
    exact PostR.pure ⟨rfl, rfl⟩ rfl
  have hk' : k < bs.length := by simpa using h
  have gx : bs.getD k 0 = bs[k]'hk' := getD_at _ _ _ _
  have wk : IntKind.i64.wrap ((k : Int) + 1) = ((k + 1 : Nat) : Int) := w64_succ k (by omega)
  have hb : ∀ N, allBelow N [AV.agg [.ro (flts cs), .ro (flts ss), .ro (flts bs)]] = true := fun _ => rfl
  refine ⟨by omega, ?_⟩
  refine br_intro (fun c => ?_) (fun c => ?_) <;> simp only [q0, q1, q2, q3, q4, q5, q6, q7, q8, q9, zq0, zq1, zq2, zq3, zq4, guardSlot, quietA, nilC, nilA, quietB, St.ev, St.put, St.after, Nat.reduceAdd, Nat.reduceSub, ofV, ofL, lenA, binA, intBin, fltBin, strBin, cpxBin, unA, convA, convB, convO, pickV, resL, oneA, indexA, indexS, isQuiet, loadA, loadC, storeA, fieldA, partA, sliceA, boundA, buildA, placeA, setAll, appendA, readSl, newEl, AV.cells, AV.solid, AV.one, kill, killM, killL, notInt, Int.reduceToNat, cond_true, cond_false, ↓reduceIte, reduceCtorEq, Nat.reduceLT, Nat.reduceLeDiff, Nat.reduceMul, Nat.reduceEqDiff, exists_eq', putF, implies_true, exists_true_left, tys0, tys1, tys2, tys3, und0, und1, und2, md20, Try.ntmps20, Try.results20, pboxB]
  · obtain ⟨j, rfl⟩ : ∃ j, k = j + 1 := by
      have : 0 < k := by simpa using c
      exact ⟨k - 1, by omega⟩
    have wd : IntKind.i64.wrap (((j + 1 : Nat) : Int) - 1) = (j : Int) := by rw [w64 (by omega) (by omega)]; omega
    have gs : ss.getD j 0 = ss[j]'(by omega) := getD_at _ _ _ _
    rw [Nat.add_sub_cancel]
    refine callr_ret (mulComplex_call _ _ _ _ (R.muls j (by omega))) rfl rfl ?_
    rw [show cpx (mulP ((wP f j).1, (wP f j).2) (f.1, f.2)) = .cpx .f32 (wP f (j + 1)).1 (wP f (j + 1)).2 from rfl]
    simp only [q0, q1, q2, q3, q4, q5, q6, q7, q8, q9, zq0, zq1, zq2, zq3, zq4, guardSlot, quietA, nilC, nilA, quietB, St.ev, St.put, St.after, Nat.reduceAdd, Nat.reduceSub, ofV, ofL, lenA, binA, intBin, fltBin, strBin, cpxBin, unA, convA, convB, convO, pickV, resL, oneA, indexA, indexS, isQuiet, loadA, loadC, storeA, fieldA, partA, sliceA, boundA, buildA, placeA, setAll, appendA, readSl, newEl, AV.cells, AV.solid, AV.one, kill, killM, killL, notInt, Int.reduceToNat, cond_true, cond_false, ↓reduceIte, reduceCtorEq, Nat.reduceLT, Nat.reduceLeDiff, Nat.reduceMul, Nat.reduceEqDiff, exists_eq', putF, implies_true, exists_true_left, tys0, tys1, tys2, tys3, und0, und1, und2, md20, Try.ntmps20, Try.results20, pboxB, wd, Int.toNat_natCast]
    refine ⟨by omega, ?_⟩
    rw [show fmul .f32 (svP ss j) (ss[j]'(by omega)) = svP ss (j + 1) from by rw [← gs]; rfl]
    rw [show fmul .f32 bs[j + 1] (svP ss (j + 1)) = bsP ss bs (j + 1) from by rw [← gx]; rfl]
    refine call_ret (scale_call _ _ _) rfl rfl ?_
    simp only [q0, q1, q2, q3, q4, q5, q6, q7, q8, q9, zq0, zq1, zq2, zq3, zq4, guardSlot, quietA, nilC, nilA, quietB, St.ev, St.put, St.after, Nat.reduceAdd, Nat.reduceSub, ofV, ofL, lenA, binA, intBin, fltBin, strBin, cpxBin, unA, convA, convB, convO, pickV, resL, oneA, indexA, indexS, isQuiet, loadA, loadC, storeA, fieldA, partA, sliceA, boundA, buildA, placeA, setAll, appendA, readSl, newEl, AV.cells, AV.solid, AV.one, kill, killM, killL, notInt, Int.reduceToNat, cond_true, cond_false, ↓reduceIte, reduceCtorEq, Nat.reduceLT, Nat.reduceLeDiff, Nat.reduceMul, Nat.reduceEqDiff, exists_eq', putF, implies_true, exists_true_left, tys0, tys1, tys2, tys3, und0, und1, und2, md20, Try.ntmps20, Try.results20, pboxB]
    refine call_ret (plus_call _ _ _ _) rfl rfl ?_
    simp only [q0, q1, q2, q3, q4, q5, q6, q7, q8, q9, zq0, zq1, zq2, zq3, zq4, guardSlot, quietA, nilC, nilA, quietB, St.ev, St.put, St.after, Nat.reduceAdd, Nat.reduceSub, ofV, ofL, lenA, binA, intBin, fltBin, strBin, cpxBin, unA, convA, convB, convO, pickV, resL, oneA, indexA, indexS, isQuiet, loadA, loadC, storeA, fieldA, partA, sliceA, boundA, buildA, placeA, setAll, appendA, readSl, newEl, AV.cells, AV.solid, AV.one, kill, killM, killL, notInt, Int.reduceToNat, cond_true, cond_false, ↓reduceIte, reduceCtorEq, Nat.reduceLT, Nat.reduceLeDiff, Nat.reduceMul, Nat.reduceEqDiff, exists_eq', putF, implies_true, exists_true_left, tys0, tys1, tys2, tys3, und0, und1, und2, md20, Try.ntmps20, Try.results20, pboxB, wk]
    refine ⟨⟨j + 1 + 1, by omega⟩, by show bs.length - (j + 1 + 1) < bs.length - (j + 1); omega, ?_⟩
    rw [rnP_one, rnP_two]
    exact weak_drop (by simp) (by simp [DropHp, ints_below, flts_below, pboxB, hb]) (by simp [DropTm, DropV, below, belowM, belowL, pboxB, hb])
  · obtain rfl : k = 0 := by simp at c; omega
    rw [show svP ss (0 - 1) = svP ss 0 from rfl, show wP f (0 - 1) = wP f 0 from rfl]
    rw [show fmul .f32 bs[0] (svP ss 0) = bsP ss bs 0 from by rw [← gx]; rfl]
    refine call_ret (scale_call _ _ _) rfl rfl ?_
    simp only [q0, q1, q2, q3, q4, q5, q6, q7, q8, q9, zq0, zq1, zq2, zq3, zq4, guardSlot, quietA, nilC, nilA, quietB, St.ev, St.put, St.after, Nat.reduceAdd, Nat.reduceSub, ofV, ofL, lenA, binA, intBin, fltBin, strBin, cpxBin, unA, convA, convB, convO, pickV, resL, oneA, indexA, indexS, isQuiet, loadA, loadC, storeA, fieldA, partA, sliceA, boundA, buildA, placeA, setAll, appendA, readSl, newEl, AV.cells, AV.solid, AV.one, kill, killM, killL, notInt, Int.reduceToNat, cond_true, cond_false, ↓reduceIte, reduceCtorEq, Nat.reduceLT, Nat.reduceLeDiff, Nat.reduceMul, Nat.reduceEqDiff, exists_eq', putF, implies_true, exists_true_left, tys0, tys1, tys2, tys3, und0, und1, und2, md20, Try.ntmps20, Try.results20, pboxB]
    refine call_ret (plus_call _ _ _ _) rfl rfl ?_
    simp only [q0, q1, q2, q3, q4, q5, q6, q7, q8, q9, zq0, zq1, zq2, zq3, zq4, guardSlot, quietA, nilC, nilA, quietB, St.ev, St.put, St.after, Nat.reduceAdd, Nat.reduceSub, ofV, ofL, lenA, binA, intBin, fltBin, strBin, cpxBin, unA, convA, convB, convO, pickV, resL, oneA, indexA, indexS, isQuiet, loadA, loadC, storeA, fieldA, partA, sliceA, boundA, buildA, placeA, setAll, appendA, readSl, newEl, AV.cells, AV.solid, AV.one, kill, killM, killL, notInt, Int.reduceToNat, cond_true, cond_false, ↓reduceIte, reduceCtorEq, Nat.reduceLT, Nat.reduceLeDiff, Nat.reduceMul, Nat.reduceEqDiff, exists_eq', putF, implies_true, exists_true_left, tys0, tys1, tys2, tys3, und0, und1, und2, md20, Try.ntmps20, Try.results20, pboxB, wk]
    refine ⟨⟨0 + 1, by omega⟩, by show bs.length - (0 + 1) < bs.length - 0; omega, ?_⟩
    rw [rnP_one, rnP_two]
    exact weak_drop (by simp) (by simp [DropHp, ints_below, flts_below, pboxB, hb]) (by simp [DropTm, DropV, below, belowM, belowL, pboxB, hb])
theorem specRenewal_call (cs ss bs : List Nat) (z f : Nat × Nat) (hp : peopleB cs ss bs = true) (q : quoSOk (1065353216, 0) z) (hf : quoS (1065353216, 0) z = f) (R : RenOk z f ss bs) :
    CallA Try.prog 21 [.agg [.ro (flts cs), .ro (flts ss), .ro (flts bs)], .cpx .f32 z.1 z.2] [] (Ret (.tup [.cpx .f32 (rnP f ss bs bs.length).1 (rnP f ss bs bs.length).2, .bool true]) []) := by
  have hl := people_len hp
  have H1 := R.fin
  have H2 := R.ne
  have H4 := R.sum
  have H5 := R.len
  refine CallP.out (t := .mk) (go_in (md := md21) mixed Try.func21 rfl go21 (by kernel_rfl) ?_)
  simp only [q0, q1, q2, q3, q4, q5, q6, q7, q8, q9, zq0, zq1, zq2, zq3, zq4, guardSlot, quietA, nilC, nilA, quietB, St.ev, St.put, St.after, Nat.reduceAdd, Nat.reduceSub, ofV, ofL, lenA, binA, intBin, fltBin, strBin, cpxBin, unA, convA, convB, convO, pickV, resL, oneA, indexA, indexS, isQuiet, loadA, loadC, storeA, fieldA, partA, sliceA, boundA, buildA, placeA, setAll, appendA, readSl, newEl, AV.cells, AV.solid, AV.one, kill, killM, killL, notInt, Int.reduceToNat, cond_true, cond_false, ↓reduceIte, reduceCtorEq, Nat.reduceLT, Nat.reduceLeDiff, Nat.reduceMul, Nat.reduceEqDiff, exists_eq', putF, implies_true, exists_true_left, tys0, tys1, tys2, tys3, und0, und1, und2, md21, Try.ntmps21, Try.results21, canon_zero]
  refine call_lent 2 (by rfl) (l07People_call cs ss bs (by omega)) rfl rfl ?_
  rw [hp]
  simp only [q0, q1, q2, q3, q4, q5, q6, q7, q8, q9, zq0, zq1, zq2, zq3, zq4, guardSlot, quietA, nilC, nilA, quietB, St.ev, St.put, St.after, Nat.reduceAdd, Nat.reduceSub, ofV, ofL, lenA, binA, intBin, fltBin, strBin, cpxBin, unA, convA, convB, convO, pickV, resL, oneA, indexA, indexS, isQuiet, loadA, loadC, storeA, fieldA, partA, sliceA, boundA, buildA, placeA, setAll, appendA, readSl, newEl, AV.cells, AV.solid, AV.one, kill, killM, killL, notInt, Int.reduceToNat, cond_true, cond_false, ↓reduceIte, reduceCtorEq, Nat.reduceLT, Nat.reduceLeDiff, Nat.reduceMul, Nat.reduceEqDiff, exists_eq', putF, implies_true, exists_true_left, tys0, tys1, tys2, tys3, und0, und1, und2, md21, Try.ntmps21, Try.results21, canon_zero]
  refine call_ret (l01CFinite_call z.1 z.2) rfl rfl ?_
  rw [H1]
  simp only [q0, q1, q2, q3, q4, q5, q6, q7, q8, q9, zq0, zq1, zq2, zq3, zq4, guardSlot, quietA, nilC, nilA, quietB, St.ev, St.put, St.after, Nat.reduceAdd, Nat.reduceSub, ofV, ofL, lenA, binA, intBin, fltBin, strBin, cpxBin, unA, convA, convB, convO, pickV, resL, oneA, indexA, indexS, isQuiet, loadA, loadC, storeA, fieldA, partA, sliceA, boundA, buildA, placeA, setAll, appendA, readSl, newEl, AV.cells, AV.solid, AV.one, kill, killM, killL, notInt, Int.reduceToNat, cond_true, cond_false, ↓reduceIte, reduceCtorEq, Nat.reduceLT, Nat.reduceLeDiff, Nat.reduceMul, Nat.reduceEqDiff, exists_eq', putF, implies_true, exists_true_left, tys0, tys1, tys2, tys3, und0, und1, und2, md21, Try.ntmps21, Try.results21, canon_zero, H2]
  have e1 : canon .f32 1065353216 = 1065353216 := by decide +kernel
  rw [e1]
  refine call_ret (l01Quotient_call 1065353216 0 z.1 z.2 q) rfl rfl ?_
  rw [show quoS (1065353216, 0) (z.1, z.2) = f from hf]
  unfold cpx
  simp only [q0, q1, q2, q3, q4, q5, q6, q7, q8, q9, zq0, zq1, zq2, zq3, zq4, guardSlot, quietA, nilC, nilA, quietB, St.ev, St.put, St.after, Nat.reduceAdd, Nat.reduceSub, ofV, ofL, lenA, binA, intBin, fltBin, strBin, cpxBin, unA, convA, convB, convO, pickV, resL, oneA, indexA, indexS, isQuiet, loadA, loadC, storeA, fieldA, partA, sliceA, boundA, buildA, placeA, setAll, appendA, readSl, newEl, AV.cells, AV.solid, AV.one, kill, killM, killL, notInt, Int.reduceToNat, cond_true, cond_false, ↓reduceIte, reduceCtorEq, Nat.reduceLT, Nat.reduceLeDiff, Nat.reduceMul, Nat.reduceEqDiff, exists_eq', putF, implies_true, exists_true_left, tys0, tys1, tys2, tys3, und0, und1, und2, md21, Try.ntmps21, Try.results21, canon_zero, e1]
  refine go_round (md := md21) mixed (by kernel_rfl) (fun k : {k : Nat // k ≤ bs.length} => ⟨[.any, .any, .ptr 0 0 0, .any, .any, .any, .cpx .f32 f.1 f.2, .cpx .f32 (wP f (k.1 - 1)).1 (wP f (k.1 - 1)).2, .flt .f32 (svP ss (k.1 - 1)), .cpx .f32 (rnP f ss bs k.1).1 (rnP f ss bs k.1).2, .any, .any, .any, .any, .any, .any, .any, .any, .any, .any, .any, .any, .any, .any, .any, .any, .any, .int .i64 bs.length, .int .i64 k.1, .any, .any, .any, .any, .any, .any, .any, .any, .any, .any, .any, .any, .any, .any, .any, .any, .any, .any, .any, .any, .any, .any, .any, .any, .any, .any, .any, .any, .any, .any, .any], [pboxB cs ss bs]⟩) (fun k => bs.length - k.1) ⟨0, by omega⟩ ?_ ?_
  · have z1 : wP f (0 - 1) = f := rfl
    have z2 : svP ss (0 - 1) = 1065353216 := rfl
    have z3 : rnP f ss bs 0 = (0, 0) := rfl
    rw [z1, z2, z3]
    have hb : ∀ N, allBelow N [AV.agg [.ro (flts cs), .ro (flts ss), .ro (flts bs)]] = true := fun _ => rfl
    exact weak_drop (by simp) (by simp [DropHp, ints_below, flts_below, pboxB, hb]) (by simp [DropTm, DropV, below, belowM, belowL, pboxB, hb])
  rintro ⟨k, hk⟩
  dsimp only
  simp only [q0, q1, q2, q3, q4, q5, q6, q7, q8, q9, zq0, zq1, zq2, zq3, zq4, guardSlot, quietA, nilC, nilA, quietB, St.ev, St.put, St.after, Nat.reduceAdd, Nat.reduceSub, ofV, ofL, lenA, binA, intBin, fltBin, strBin, cpxBin, unA, convA, convB, convO, pickV, resL, oneA, indexA, indexS, isQuiet, loadA, loadC, storeA, fieldA, partA, sliceA, boundA, buildA, placeA, setAll, appendA, readSl, newEl, AV.cells, AV.solid, AV.one, kill, killM, killL, notInt, Int.reduceToNat, cond_true, cond_false, ↓reduceIte, reduceCtorEq, Nat.reduceLT, Nat.reduceLeDiff, Nat.reduceMul, Nat.reduceEqDiff, exists_eq', putF, implies_true, exists_true_left, tys0, tys1, tys2, tys3, und0, und1, und2, md21, Try.ntmps21, Try.results21, pboxB]
  refine br_intro (fun h => ?_) (fun h => ?_) <;> simp only [q0, q1, q2, q3, q4, q5, q6, q7, q8, q9, zq0, zq1, zq2, zq3, zq4, guardSlot, quietA, nilC, nilA, quietB, St.ev, St.put, St.after, Nat.reduceAdd, Nat.reduceSub, ofV, ofL, lenA, binA, intBin, fltBin, strBin, cpxBin, unA, convA, convB, convO, pickV, resL, oneA, indexA, indexS, isQuiet, loadA, loadC, storeA, fieldA, partA, sliceA, boundA, buildA, placeA, setAll, appendA, readSl, newEl, AV.cells, AV.solid, AV.one, kill, killM, killL, notInt, Int.reduceToNat, cond_true, cond_false, ↓reduceIte, reduceCtorEq, Nat.reduceLT, Nat.reduceLeDiff, Nat.reduceMul, Nat.reduceEqDiff, exists_eq', putF, implies_true, exists_true_left, tys0, tys1, tys2, tys3, und0, und1, und2, md21, Try.ntmps21, Try.results21, pboxB]
  rotate_left
  · have hk' : k = bs.length := by simp at h; omega
    subst hk'
    refine call_ret (l01CFinite_call _ _) rfl rfl ?_
    rw [H4]
    simp only [q0, q1, q2, q3, q4, q5, q6, q7, q8, q9, zq0, zq1, zq2, zq3, zq4, guardSlot, quietA, nilC, nilA, quietB, St.ev, St.put, St.after, Nat.reduceAdd, Nat.reduceSub, ofV, ofL, lenA, binA, intBin, fltBin, strBin, cpxBin, unA, convA, convB, convO, pickV, resL, oneA, indexA, indexS, isQuiet, loadA, loadC, storeA, fieldA, partA, sliceA, boundA, buildA, placeA, setAll, appendA, readSl, newEl, AV.cells, AV.solid, AV.one, kill, killM, killL, notInt, Int.reduceToNat, cond_true, cond_false, ↓reduceIte, reduceCtorEq, Nat.reduceLT, Nat.reduceLeDiff, Nat.reduceMul, Nat.reduceEqDiff, exists_eq', putF, implies_true, exists_true_left, tys0, tys1, tys2, tys3, und0, und1, und2, md21, Try.ntmps21, Try.results21]
    exact PostR.pure ⟨rfl, rfl⟩ rfl
  have hk' : k < bs.length := by simpa using h
  have gx : bs.getD k 0 = bs[k]'hk' := getD_at _ _ _ _
  have wk : IntKind.i64.wrap ((k : Int) + 1) = ((k + 1 : Nat) : Int) := w64_succ k (by omega)
  have hb : ∀ N, allBelow N [AV.agg [.ro (flts cs), .ro (flts ss), .ro (flts bs)]] = true := fun _ => rfl
  refine br_intro (fun c => ?_) (fun c => ?_) <;> simp only [q0, q1, q2, q3, q4, q5, q6, q7, q8, q9, zq0, zq1, zq2, zq3, zq4, guardSlot, quietA, nilC, nilA, quietB, St.ev, St.put, St.after, Nat.reduceAdd, Nat.reduceSub, ofV, ofL, lenA, binA, intBin, fltBin, strBin, cpxBin, unA, convA, convB, convO, pickV, resL, oneA, indexA, indexS, isQuiet, loadA, loadC, storeA, fieldA, partA, sliceA, boundA, buildA, placeA, setAll, appendA, readSl, newEl, AV.cells, AV.solid, AV.one, kill, killM, killL, notInt, Int.reduceToNat, cond_true, cond_false, ↓reduceIte, reduceCtorEq, Nat.reduceLT, Nat.reduceLeDiff, Nat.reduceMul, Nat.reduceEqDiff, exists_eq', putF, implies_true, exists_true_left, tys0, tys1, tys2, tys3, und0, und1, und2, md21, Try.ntmps21, Try.results21, pboxB]
  · obtain ⟨j, rfl⟩ : ∃ j, k = j + 1 := by
      have : 0 < k := by simpa using c
      exact ⟨k - 1, by omega⟩
    have wd : IntKind.i64.wrap (((j + 1 : Nat) : Int) - 1) = (j : Int) := by rw [w64 (by omega) (by omega)]; omega
    have gs : ss.getD j 0 = ss[j]'(by omega) := getD_at _ _ _ _
    rw [Nat.add_sub_cancel]
    refine call_ret (l01Mul_call _ _ _ _ (R.muls j (by omega))) rfl rfl ?_
    rw [show cpx (mulP ((wP f j).1, (wP f j).2) (f.1, f.2)) = .cpx .f32 (wP f (j + 1)).1 (wP f (j + 1)).2 from rfl]
    simp only [q0, q1, q2, q3, q4, q5, q6, q7, q8, q9, zq0, zq1, zq2, zq3, zq4, guardSlot, quietA, nilC, nilA, quietB, St.ev, St.put, St.after, Nat.reduceAdd, Nat.reduceSub, ofV, ofL, lenA, binA, intBin, fltBin, strBin, cpxBin, unA, convA, convB, convO, pickV, resL, oneA, indexA, indexS, isQuiet, loadA, loadC, storeA, fieldA, partA, sliceA, boundA, buildA, placeA, setAll, appendA, readSl, newEl, AV.cells, AV.solid, AV.one, kill, killM, killL, notInt, Int.reduceToNat, cond_true, cond_false, ↓reduceIte, reduceCtorEq, Nat.reduceLT, Nat.reduceLeDiff, Nat.reduceMul, Nat.reduceEqDiff, exists_eq', putF, implies_true, exists_true_left, tys0, tys1, tys2, tys3, und0, und1, und2, md21, Try.ntmps21, Try.results21, pboxB, wd, Int.toNat_natCast]
    refine ⟨by omega, ?_⟩
    rw [show fmul .f32 (svP ss j) (ss[j]'(by omega)) = svP ss (j + 1) from by rw [← gs]; rfl]
    refine ⟨by omega, ?_⟩
    rw [show fmul .f32 bs[j + 1] (svP ss (j + 1)) = bsP ss bs (j + 1) from by rw [← gx]; rfl]
    refine call_ret (l01Scale_call _ _ _) rfl rfl ?_
    simp only [q0, q1, q2, q3, q4, q5, q6, q7, q8, q9, zq0, zq1, zq2, zq3, zq4, guardSlot, quietA, nilC, nilA, quietB, St.ev, St.put, St.after, Nat.reduceAdd, Nat.reduceSub, ofV, ofL, lenA, binA, intBin, fltBin, strBin, cpxBin, unA, convA, convB, convO, pickV, resL, oneA, indexA, indexS, isQuiet, loadA, loadC, storeA, fieldA, partA, sliceA, boundA, buildA, placeA, setAll, appendA, readSl, newEl, AV.cells, AV.solid, AV.one, kill, killM, killL, notInt, Int.reduceToNat, cond_true, cond_false, ↓reduceIte, reduceCtorEq, Nat.reduceLT, Nat.reduceLeDiff, Nat.reduceMul, Nat.reduceEqDiff, exists_eq', putF, implies_true, exists_true_left, tys0, tys1, tys2, tys3, und0, und1, und2, md21, Try.ntmps21, Try.results21, pboxB, wk]
    refine ⟨⟨j + 1 + 1, by omega⟩, by show bs.length - (j + 1 + 1) < bs.length - (j + 1); omega, ?_⟩
    rw [rnP_one, rnP_two]
    exact weak_drop (by simp) (by simp [DropHp, ints_below, flts_below, pboxB, hb]) (by simp [DropTm, DropV, below, belowM, belowL, pboxB, hb])
  · obtain rfl : k = 0 := by simp at c; omega
    rw [show svP ss (0 - 1) = svP ss 0 from rfl, show wP f (0 - 1) = wP f 0 from rfl]
    refine ⟨by omega, ?_⟩
    rw [show fmul .f32 bs[0] (svP ss 0) = bsP ss bs 0 from by rw [← gx]; rfl]
    refine call_ret (l01Scale_call _ _ _) rfl rfl ?_
    simp only [q0, q1, q2, q3, q4, q5, q6, q7, q8, q9, zq0, zq1, zq2, zq3, zq4, guardSlot, quietA, nilC, nilA, quietB, St.ev, St.put, St.after, Nat.reduceAdd, Nat.reduceSub, ofV, ofL, lenA, binA, intBin, fltBin, strBin, cpxBin, unA, convA, convB, convO, pickV, resL, oneA, indexA, indexS, isQuiet, loadA, loadC, storeA, fieldA, partA, sliceA, boundA, buildA, placeA, setAll, appendA, readSl, newEl, AV.cells, AV.solid, AV.one, kill, killM, killL, notInt, Int.reduceToNat, cond_true, cond_false, ↓reduceIte, reduceCtorEq, Nat.reduceLT, Nat.reduceLeDiff, Nat.reduceMul, Nat.reduceEqDiff, exists_eq', putF, implies_true, exists_true_left, tys0, tys1, tys2, tys3, und0, und1, und2, md21, Try.ntmps21, Try.results21, pboxB, wk]
    refine ⟨⟨0 + 1, by omega⟩, by show bs.length - (0 + 1) < bs.length - 0; omega, ?_⟩
    rw [rnP_one, rnP_two]
    exact weak_drop (by simp) (by simp [DropHp, ints_below, flts_below, pboxB, hb]) (by simp [DropTm, DropV, below, belowM, belowL, pboxB, hb])
end Go.Proofs.Ytemeaobpedfkmaa
