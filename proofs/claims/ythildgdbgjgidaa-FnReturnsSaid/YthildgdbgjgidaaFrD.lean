/- Returns of a year: what the program computes. -/
import Derived.Test.YthildgdbgjgidaaFrC
import Derived.Test.YthildgdbgjgidaaFrU
import Derived.Test.YthildgdbgjgidaaFrV
set_option maxRecDepth 10000
set_option maxHeartbeats 4000000
set_option linter.unusedSimpArgs false
set_option linter.unusedVariables false
namespace Go.Proofs.Ythildgdbgjgidaa
open Go Go.Abs

def yrF (x : Nat) : Int := 10 * (x : Int) - 500
def avgF (x n : Nat) : Nat := fdiv .f32 (sumR (lnF (argF (yrF x))) n) (Go.Abs.iF (n : Int))
theorem tab_ok {x n : Nat} (hx : x < 200) (h1 : 1 ≤ n) (h12 : n ≤ 12) : testE (yrF x) (avgF x n) = true := by
  have a1 := List.all_eq_true.1 lgT_ok x (List.mem_range.2 hx)
  have a2 := List.all_eq_true.1 (List.all_eq_true.1 cdT_ok x (List.mem_range.2 hx)) (n - 1) (List.mem_range.2 (by omega))
  have a3 := List.all_eq_true.1 exT_ok x (List.mem_range.2 hx)
  have e1 : lnF (argF (yrF x)) = lgT.getD x 0 := by simpa [yrF] using a1
  rw [show n - 1 + 1 = n by omega] at a2
  have m : avgF x n ∈ cdT.getD x [] := by
    unfold avgF
    rw [e1]
    exact List.contains_iff_mem.1 a2
  exact List.all_eq_true.1 a3 _ m
theorem arg_pos {x : Nat} (hx : x < 200) : Pos32 (argF (yrF x)) := by
  have l1 := int_cast_le (show -500 ≤ yrF x by unfold yrF; omega)
  have l2 := int_cast_le (show yrF x ≤ 1490 by unfold yrF; omega)
  have e1 : ((-500 : Int) : Rat) = -500 := rfl
  have e2 : ((1490 : Int) : Rat) = 1490 := rfl
  rw [e1] at l1
  rw [e2] at l2
  have zr := iF_rn (z := yrF x) (by unfold yrF; omega)
  have zv := iF_val (z := yrF x) (by unfold yrF; omega)
  have tr := iF_rn (z := 10000) (by decide)
  have tv := iF_val (z := 10000) (by decide)
  have e3 : ((10000 : Int) : Rat) = 10000 := rfl
  rw [e3] at tv
  have hh := half
  have t0 : fval .f32 (Go.Abs.iF 10000) ≠ 0 := by rw [tv]; decide
  have hm : fval .f32 (Go.Abs.iF (yrF x)) / fval .f32 (Go.Abs.iF 10000) * fval .f32 (Go.Abs.iF 10000) = fval .f32 (Go.Abs.iF (yrF x)) := Rat.div_mul_cancel t0
  rw [zv, tv] at hm
  have qb : ab (fval .f32 (Go.Abs.iF (yrF x)) / fval .f32 (Go.Abs.iF 10000)) ≤ p2 (-1) := by
    rw [zv, tv]
    generalize ((yrF x : Int) : Rat) / 10000 = q at *
    exact ab_le (by grind) (by grind)
  have rq := rn_div (k := .f32) zr.fin tr.fin t0 (lt_top32 qb (by decide))
  have yb := rq.bound (rep_p2 _ (by decide)) qb
  have l := le_ab (fval .f32 (fdiv .f32 (Go.Abs.iF (yrF x)) (Go.Abs.iF 10000)))
  have e4 : p2 1 = 2 := rfl
  have hb : ab (fval .f32 one32 + fval .f32 (fdiv .f32 (Go.Abs.iF (yrF x)) (Go.Abs.iF 10000))) ≤ p2 1 := by
    rw [one32_val, e4]
    exact ab_le (by grind) (by grind)
  have rs := rn_add (k := .f32) fin_one32 rq.fin (lt_top32 hb (by decide))
  have s1 := rs.lo (p2 (-1)) (rep_p2 _ (by decide)) (by rw [one32_val]; grind)
  have s2 := rs.up (p2 1) (rep_p2 _ (by decide)) (by rw [one32_val]; grind)
  have m1 := p2_mono (show (-40 : Int) ≤ -1 by decide)
  have m2 := p2_mono (show (1 : Int) ≤ 40 by decide)
  exact ⟨rs.fin, Rat.le_trans m1 s1, Rat.le_trans s2 m2⟩
theorem k10000 : canon .f32 1176256512 = 1176256512 := by decide +kernel
theorem i10000 : Go.Abs.iF 10000 = 1176256512 := by decide +kernel
theorem test_parts {z : Int} {a : Nat} (h : testE z a = true) : fgt .f32 a 1128792064 = false ∧ flt .f32 a 3276275712 = false ∧ fconvOk .f32 .f64 (expW a) ∧ finB .f32 (meanF a) = true ∧ fgt .f64 (gap8 (meanF a) (fdiv .f32 (Go.Abs.iF z) (Go.Abs.iF 10000))) 4562254508917369340 = false := by
  unfold testE at h
  simp only [Bool.and_eq_true, Bool.not_eq_true'] at h
  obtain ⟨⟨⟨⟨h1, h2⟩, h3⟩, h4⟩, h5⟩ := h
  exact ⟨h1, h2, nOk_ok h3, h4, h5⟩
theorem time_call {x n : Nat} (hx : x < 200) (h1 : 1 ≤ n) (h12 : n ≤ 12) : CallA Try.prog 8 [.ro (ints (List.replicate n (yrF x)))] [] (Ret (.tup [.flt .f32 (meanF (avgF x n)), .bool true]) []) := by
  have rl : (List.replicate n (yrF x)).length = n := by simp
  obtain ⟨t1, t2, t3, t4, _⟩ := test_parts (tab_ok hx h1 h12)
  refine CallP.out (t := .mk) (go_in (md := md8) mixed Try.func8 rfl go8 (by kernel_rfl) ?_)
  simp only [q0, q1, q2, q3, q4, q5, q6, q7, q8, q9, zq0, zq1, zq2, zq3, zq4, guardSlot, quietA, nilC, nilA, quietB, St.ev, St.put, St.after, Nat.reduceAdd, Nat.reduceSub, ofV, ofL, lenA, binA, intBin, fltBin, strBin, cpxBin, unA, convA, convB, convO, pickV, resL, oneA, indexA, indexS, isQuiet, loadA, loadC, storeA, fieldA, partA, sliceA, boundA, buildA, placeA, setAll, appendA, readSl, newEl, AV.cells, AV.solid, AV.one, kill, killM, killL, notInt, Int.reduceToNat, cond_true, cond_false, ↓reduceIte, reduceCtorEq, Nat.reduceLT, Nat.reduceLeDiff, Nat.reduceMul, Nat.reduceEqDiff, exists_eq', putF, implies_true, exists_true_left, tys0, tys1, tys2, und0, und1, und2, md8, Try.ntmps8, Try.results8, f0, f1, k10000]
  refine call_ret (areReturns_call _ (by omega)) rfl rfl ?_
  rw [hasC_of (by omega) (by omega) (fun y hy => by rw [(List.mem_replicate.1 hy).2]; unfold yrF; omega)]
  simp only [q0, q1, q2, q3, q4, q5, q6, q7, q8, q9, zq0, zq1, zq2, zq3, zq4, guardSlot, quietA, nilC, nilA, quietB, St.ev, St.put, St.after, Nat.reduceAdd, Nat.reduceSub, ofV, ofL, lenA, binA, intBin, fltBin, strBin, cpxBin, unA, convA, convB, convO, pickV, resL, oneA, indexA, indexS, isQuiet, loadA, loadC, storeA, fieldA, partA, sliceA, boundA, buildA, placeA, setAll, appendA, readSl, newEl, AV.cells, AV.solid, AV.one, kill, killM, killL, notInt, Int.reduceToNat, cond_true, cond_false, ↓reduceIte, reduceCtorEq, Nat.reduceLT, Nat.reduceLeDiff, Nat.reduceMul, Nat.reduceEqDiff, exists_eq', putF, implies_true, exists_true_left, tys0, tys1, tys2, und0, und1, und2, md8, Try.ntmps8, Try.results8, f0, f1, k10000]
  refine go_round (md := md8) mixed (by kernel_rfl) (fun i : {i : Nat // i ≤ n} => ⟨[.ro (ints (List.replicate n (yrF x))), .any, .any, .any, .flt .f32 (sumR (lnF (argF (yrF x))) i.1), .any, .any, .any, .any, .any, .ro (ints (List.replicate n (yrF x))), .int .i64 (n : Int), .int .i64 (i.1 : Int), .any, .any, .any, .any, .any, .any, .any, .any, .any, .any, .any, .any, .any, .any, .any, .any, .any, .any, .any, .any, .any], []⟩) (fun i => n - i.1) ⟨0, by omega⟩ ?_ ?_
  · have e : sumR (lnF (argF (yrF x))) 0 = 0 := rfl
    rw [e]
    exact weak_drop (by simp) (by simp [DropHp, ints_below, flts_below, ints_len, rl]) (by simp [DropTm, DropV, below, belowM, belowL, ints_len, rl])
  rintro ⟨i, hi⟩
  simp only [q0, q1, q2, q3, q4, q5, q6, q7, q8, q9, zq0, zq1, zq2, zq3, zq4, guardSlot, quietA, nilC, nilA, quietB, St.ev, St.put, St.after, Nat.reduceAdd, Nat.reduceSub, ofV, ofL, lenA, binA, intBin, fltBin, strBin, cpxBin, unA, convA, convB, convO, pickV, resL, oneA, indexA, indexS, isQuiet, loadA, loadC, storeA, fieldA, partA, sliceA, boundA, buildA, placeA, setAll, appendA, readSl, newEl, AV.cells, AV.solid, AV.one, kill, killM, killL, notInt, Int.reduceToNat, cond_true, cond_false, ↓reduceIte, reduceCtorEq, Nat.reduceLT, Nat.reduceLeDiff, Nat.reduceMul, Nat.reduceEqDiff, exists_eq', putF, implies_true, exists_true_left, tys0, tys1, tys2, und0, und1, und2, md8, Try.ntmps8, Try.results8, f0, f1, k10000, ints_len, rl]
  refine br_intro (fun h => ?_) (fun h => ?_) <;> simp only [q0, q1, q2, q3, q4, q5, q6, q7, q8, q9, zq0, zq1, zq2, zq3, zq4, guardSlot, quietA, nilC, nilA, quietB, St.ev, St.put, St.after, Nat.reduceAdd, Nat.reduceSub, ofV, ofL, lenA, binA, intBin, fltBin, strBin, cpxBin, unA, convA, convB, convO, pickV, resL, oneA, indexA, indexS, isQuiet, loadA, loadC, storeA, fieldA, partA, sliceA, boundA, buildA, placeA, setAll, appendA, readSl, newEl, AV.cells, AV.solid, AV.one, kill, killM, killL, notInt, Int.reduceToNat, cond_true, cond_false, ↓reduceIte, reduceCtorEq, Nat.reduceLT, Nat.reduceLeDiff, Nat.reduceMul, Nat.reduceEqDiff, exists_eq', putF, implies_true, exists_true_left, tys0, tys1, tys2, und0, und1, und2, md8, Try.ntmps8, Try.results8, f0, f1, k10000, ints_len, rl]
  · have hi' : i < n := by have := of_decide_eq_true h; omega
    have rg : (List.replicate n (yrF x))[i]'(by simpa using hi') = yrF x := by simp
    have ea : fadd .f32 1065353216 (fdiv .f32 (canon .f32 (FloatKind.nearest .f32 (yrF x))) 1176256512) = argF (yrF x) := by
      rw [argF, i10000]; rfl
    refine ⟨hi', ?_⟩
    simp only [rg, ea]
    refine call_ret (logNumber_call _ (arg_pos hx)) rfl rfl ?_
    simp only [q0, q1, q2, q3, q4, q5, q6, q7, q8, q9, zq0, zq1, zq2, zq3, zq4, guardSlot, quietA, nilC, nilA, quietB, St.ev, St.put, St.after, Nat.reduceAdd, Nat.reduceSub, ofV, ofL, lenA, binA, intBin, fltBin, strBin, cpxBin, unA, convA, convB, convO, pickV, resL, oneA, indexA, indexS, isQuiet, loadA, loadC, storeA, fieldA, partA, sliceA, boundA, buildA, placeA, setAll, appendA, readSl, newEl, AV.cells, AV.solid, AV.one, kill, killM, killL, notInt, Int.reduceToNat, cond_true, cond_false, ↓reduceIte, reduceCtorEq, Nat.reduceLT, Nat.reduceLeDiff, Nat.reduceMul, Nat.reduceEqDiff, exists_eq', putF, implies_true, exists_true_left, tys0, tys1, tys2, und0, und1, und2, md8, Try.ntmps8, Try.results8, f0, f1, k10000, ints_len, rl]
    refine ⟨⟨i + 1, by omega⟩, by show n - (i + 1) < n - i; omega, ?_⟩
    have es : sumR (lnF (argF (yrF x))) (i + 1) = fadd .f32 (sumR (lnF (argF (yrF x))) i) (lnF (argF (yrF x))) := rfl
    exact weak_drop (by simp) (by simp [DropHp, ints_below, flts_below, es, w64_succ i (by omega)]) (by simp [DropTm, DropV, below, belowM, belowL, es, w64_succ i (by omega)])
  · have hi' : i = n := by have := of_decide_eq_false h; omega
    subst hi'
    have ea : fdiv .f32 (sumR (lnF (argF (yrF x))) i) (canon .f32 (FloatKind.nearest .f32 (i : Int))) = avgF x i := rfl
    simp only [ea]
    refine call_ret (exp_call _ t1 t2 t3) rfl rfl ?_
    simp only [q0, q1, q2, q3, q4, q5, q6, q7, q8, q9, zq0, zq1, zq2, zq3, zq4, guardSlot, quietA, nilC, nilA, quietB, St.ev, St.put, St.after, Nat.reduceAdd, Nat.reduceSub, ofV, ofL, lenA, binA, intBin, fltBin, strBin, cpxBin, unA, convA, convB, convO, pickV, resL, oneA, indexA, indexS, isQuiet, loadA, loadC, storeA, fieldA, partA, sliceA, boundA, buildA, placeA, setAll, appendA, readSl, newEl, AV.cells, AV.solid, AV.one, kill, killM, killL, notInt, Int.reduceToNat, cond_true, cond_false, ↓reduceIte, reduceCtorEq, Nat.reduceLT, Nat.reduceLeDiff, Nat.reduceMul, Nat.reduceEqDiff, exists_eq', putF, implies_true, exists_true_left, tys0, tys1, tys2, und0, und1, und2, md8, Try.ntmps8, Try.results8, f0, f1, k10000, ints_len, rl]
    have em : fsub .f32 (expF (avgF x i)) 1065353216 = meanF (avgF x i) := rfl
    simp only [em]
    refine call_ret (finite_call _) rfl rfl ?_
    rw [t4]
    simp only [q0, q1, q2, q3, q4, q5, q6, q7, q8, q9, zq0, zq1, zq2, zq3, zq4, guardSlot, quietA, nilC, nilA, quietB, St.ev, St.put, St.after, Nat.reduceAdd, Nat.reduceSub, ofV, ofL, lenA, binA, intBin, fltBin, strBin, cpxBin, unA, convA, convB, convO, pickV, resL, oneA, indexA, indexS, isQuiet, loadA, loadC, storeA, fieldA, partA, sliceA, boundA, buildA, placeA, setAll, appendA, readSl, newEl, AV.cells, AV.solid, AV.one, kill, killM, killL, notInt, Int.reduceToNat, cond_true, cond_false, ↓reduceIte, reduceCtorEq, Nat.reduceLT, Nat.reduceLeDiff, Nat.reduceMul, Nat.reduceEqDiff, exists_eq', putF, implies_true, exists_true_left, tys0, tys1, tys2, und0, und1, und2, md8, Try.ntmps8, Try.results8, f0, f1, k10000]
    exact PostR.pure ⟨rfl, rfl⟩ rfl
end Go.Proofs.Ythildgdbgjgidaa
