/- The law FnRaked, told whole. -/
import Derived.Test.YtmgfghcmmbdcgaaRkY
set_option maxRecDepth 10000
set_option maxHeartbeats 16000000
set_option linter.unusedSimpArgs false
set_option linter.unusedVariables false
namespace Go.Proofs.Ytmgfghcmmbdcgaa
open Go Go.Abs

theorem one64_ok : finB .f64 4607182418800017408 = true ∧ fval .f64 4607182418800017408 = 1 := by
  have h : FloatKind.f64.decode 4607182418800017408 = .number false 4503599627370496 (-52) := by decide +kernel
  refine ⟨num_fin h, ?_⟩
  rw [fval_of h]
  have h1 : ((4503599627370496 : Nat) : Rat) = p2 ((52 : Nat) : Int) := (p2_nat 52).symm
  have e : p2 (((52 : Nat) : Int) + -52) = 1 := rfl
  rw [h1, ← p2_add, e]
  simp [sg]
theorem c1_64 : canon .f64 4607182418800017408 = 4607182418800017408 := by decide +kernel
theorem t17 {M n : Nat} {b : List Int} {O X : List Nat} (hn : n ≤ 9) (m1 : 1 ≤ M) (m8 : M ≤ 8) (gb : Grp b M n) (HX : Wts n 89 6 X) (lO : O.length = M)
    (val : ∀ g, g < M → finB .f32 (O.getD g 0) = true ∧ 1 ≤ fval .f32 (O.getD g 0) ∧ fval .f32 (O.getD g 0) ≤ 9)
    (near : ∀ g, g < M → finB .f64 (sumD X b (g : Int) n) = true ∧ fval .f64 (sumD X b (g : Int) n) ≤ fval .f32 (O.getD g 0) + p2 (-12) ∧ fval .f32 (O.getD g 0) - p2 (-12) ≤ fval .f64 (sumD X b (g : Int) n)) : T17 M n b O X := by
  have lX := HX.len
  have lb := gb.len
  refine lp_seq (md := md3) mixed (by kernel_rfl) (fun Z hZ => ?_); simp only [q0, q1, q2, q3, q4, q5, q6, q7, q8, q9, zq0, zq1, zq2, zq3, zq4, guardSlot, quietA, nilC, nilA, quietB, St.ev, St.put, St.after, Nat.reduceAdd, Nat.reduceSub, ofV, ofL, lenA, binA, intBin, fltBin, strBin, cpxBin, unA, convA, convB, convO, pickV, resL, oneA, indexA, indexS, isQuiet, loadA, loadC, storeA, fieldA, partA, sliceA, boundA, buildA, placeA, setAll, appendA, readSl, newEl, AV.cells, AV.solid, AV.one, kill, killM, killL, notInt, Int.reduceToNat, cond_true, cond_false, ↓reduceIte, reduceCtorEq, Nat.reduceLT, Nat.reduceLeDiff, Nat.reduceMul, Nat.reduceEqDiff, exists_eq', putF, implies_true, exists_true_left, tys0, tys1, tys2, und0, und1, und2, md3, Try.ntmps3, Try.results3]
  refine ⟨by omega, by omega, ?_⟩
  refine hZ _ ?_; clear hZ; clear Z; refine lp_seq (md := md3) mixed (by kernel_rfl) (fun Z hZ => ?_); simp only [q0, q1, q2, q3, q4, q5, q6, q7, q8, q9, zq0, zq1, zq2, zq3, zq4, guardSlot, quietA, nilC, nilA, quietB, St.ev, St.put, St.after, Nat.reduceAdd, Nat.reduceSub, ofV, ofL, lenA, binA, intBin, fltBin, strBin, cpxBin, unA, convA, convB, convO, pickV, resL, oneA, indexA, indexS, isQuiet, loadA, loadC, storeA, fieldA, partA, sliceA, boundA, buildA, placeA, setAll, appendA, readSl, newEl, AV.cells, AV.solid, AV.one, kill, killM, killL, notInt, Int.reduceToNat, cond_true, cond_false, ↓reduceIte, reduceCtorEq, Nat.reduceLT, Nat.reduceLeDiff, Nat.reduceMul, Nat.reduceEqDiff, exists_eq', putF, implies_true, exists_true_left, tys0, tys1, tys2, und0, und1, und2, md3, Try.ntmps3, Try.results3, flts_len, lX]
  refine go_round (md := md3) mixed (by kernel_rfl) (fun i : {i : Nat // i ≤ n} => ⟨[.any, .any, .any, .any, .any, .any, .any, .any, .any, .sl 0 0 n, .any, .any, .any, .any, .any, .any, .any, .any, .sl 1 0 M, .any, .ro (flts X), .any, .any, .any, .any, .any, .sl 2 0 M, .any, .any, .any, .any, .any, .any, .any, .any, .any, .any, .any, .any, .any, .any, .any, .any, .any, .any, .any, .any, .any, .any, .any, .any, .any, .any, .any, .any, .any, .any, .any, .any, .any, .any, .any, .any, .any, .any, .any, .any, .any, .any, .any, .any, .any, .any, .any, .any, .any, .any, .any, .any, .any, .any, .any, .any, .any, .any, .any, .any, .any, .any, .any, .any, .any, .any, .any, .any, .any, .any, .any, .any, .any, .any, .any, .any, .any, .any, .any, .any, .any, .any, .any, .any, .any, .any, .any, .any, .any, .any, .any, .any, .any, .any, .any, .any, .any, .any, .any, .any, .any, .any, .any, .any, .any, .any, .any, .any, .any, .any, .any, .any, .any, .any, .any, .any, .any, .any, .any, .any, .any, .any, .any, .any, .any, .any, .any, .any, .any, .any, .any, .any, .any, .any, .any, .any, .any, .any, .any, .any, .any, .any, .any, .any, .any, .any, .any, .any, .any, .any, .any, .any, .any, .any, .any, .any, .any, .any, .any, .any, .any, .any, .any, .any, .any, .any, .int .i64 (n : Int), .int .i64 (i.1 : Int), .any, .any, .any, .any, .any, .any, .any, .any, .any, .any, .any, .any, .any, .any, .any, .any, .any, .any, .any, .any, .any, .any, .any, .any, .any, .any, .any, .any, .any, .any, .any, .any, .any, .any, .any, .any, .any, .any, .any, .any, .any, .any, .any, .any, .any, .any], [intB b, fltB O, fltD (dL X b M i.1)]⟩) (fun i => n - i.1) ⟨0, Nat.zero_le _⟩ ?_ ?_
  · rw [dL_zero]
    simp only [fl64_zero]
    exact weak_drop (by simp) (by simp [DropHp, ints_below, flts_below, fltB, intB, fltD, fl64_below, allBelow_cons, allBelow_nil, below, belowM, belowL]) (by simp [DropTm, DropV, below, belowM, belowL, fltB, intB, fltD, fl64_below, allBelow_cons, allBelow_nil, below, belowM, belowL])
  rintro ⟨i, hi⟩
  have ld := dL_len X b M i
  simp only [q0, q1, q2, q3, q4, q5, q6, q7, q8, q9, zq0, zq1, zq2, zq3, zq4, guardSlot, quietA, nilC, nilA, quietB, St.ev, St.put, St.after, Nat.reduceAdd, Nat.reduceSub, ofV, ofL, lenA, binA, intBin, fltBin, strBin, cpxBin, unA, convA, convB, convO, pickV, resL, oneA, indexA, indexS, isQuiet, loadA, loadC, storeA, fieldA, partA, sliceA, boundA, buildA, placeA, setAll, appendA, readSl, newEl, AV.cells, AV.solid, AV.one, kill, killM, killL, notInt, Int.reduceToNat, cond_true, cond_false, ↓reduceIte, reduceCtorEq, Nat.reduceLT, Nat.reduceLeDiff, Nat.reduceMul, Nat.reduceEqDiff, exists_eq', putF, implies_true, exists_true_left, tys0, tys1, tys2, und0, und1, und2, md3, Try.ntmps3, Try.results3, fltB, intB, fltD, flts_len, ints_len, fl64_len, fl64_get, lX, lb, ld, canon_zero]
  refine br_intro (fun h => ?_) (fun h => ?_) <;> simp only [q0, q1, q2, q3, q4, q5, q6, q7, q8, q9, zq0, zq1, zq2, zq3, zq4, guardSlot, quietA, nilC, nilA, quietB, St.ev, St.put, St.after, Nat.reduceAdd, Nat.reduceSub, ofV, ofL, lenA, binA, intBin, fltBin, strBin, cpxBin, unA, convA, convB, convO, pickV, resL, oneA, indexA, indexS, isQuiet, loadA, loadC, storeA, fieldA, partA, sliceA, boundA, buildA, placeA, setAll, appendA, readSl, newEl, AV.cells, AV.solid, AV.one, kill, killM, killL, notInt, Int.reduceToNat, cond_true, cond_false, ↓reduceIte, reduceCtorEq, Nat.reduceLT, Nat.reduceLeDiff, Nat.reduceMul, Nat.reduceEqDiff, exists_eq', putF, implies_true, exists_true_left, tys0, tys1, tys2, und0, und1, und2, md3, Try.ntmps3, Try.results3, fltB, intB, fltD, flts_len, ints_len, fl64_len, fl64_get, lX, lb, ld, canon_zero]
  · have hi' : i < n := by have := of_decide_eq_true h; omega
    have xf := HX.fin i hi'
    have xl := HX.lo i hi'
    have px := p2_pos (-89)
    have hx : i < X.length := by omega
    have hb : i < b.length := by omega
    have bk := gb.at_ i hi'
    have st := dL_step (W := X) (gs := b) (c := M) (i := i) (g := (b.getD i 0).toNat) (by omega) (by rw [dL_len]; omega)
    rw [getD_at X 0 i hx] at xf xl st
    have le0 : fle .f32 X[i] 0 = false := by
      rw [fle_val xf (by decide +kernel), fval_zero]
      exact decide_eq_false (by grind)
    rw [getD_at b 0 i hb] at bk
    simp only [getD_at b 0 i hb] at st
    refine ⟨hi', br_no le0 ?_⟩
    simp only [q0, q1, q2, q3, q4, q5, q6, q7, q8, q9, zq0, zq1, zq2, zq3, zq4, guardSlot, quietA, nilC, nilA, quietB, St.ev, St.put, St.after, Nat.reduceAdd, Nat.reduceSub, ofV, ofL, lenA, binA, intBin, fltBin, strBin, cpxBin, unA, convA, convB, convO, pickV, resL, oneA, indexA, indexS, isQuiet, loadA, loadC, storeA, fieldA, partA, sliceA, boundA, buildA, placeA, setAll, appendA, readSl, newEl, AV.cells, AV.solid, AV.one, kill, killM, killL, notInt, Int.reduceToNat, cond_true, cond_false, ↓reduceIte, reduceCtorEq, Nat.reduceLT, Nat.reduceLeDiff, Nat.reduceMul, Nat.reduceEqDiff, exists_eq', putF, implies_true, exists_true_left, tys0, tys1, tys2, und0, und1, und2, md3, Try.ntmps3, Try.results3, fltB, intB, fltD, flts_len, ints_len, fl64_len, fl64_get, lX, lb, ld, canon_zero]
    have ew := w64_succ i (by omega)
    refine ⟨by omega, hi', bk.1, bk.2, by omega, hi', bk.1, bk.2, by omega, ⟨i + 1, by omega⟩, by show n - (i + 1) < n - i; omega, ?_⟩
    simp only [fl64_set, st]
    exact weak_drop (by simp) (by simp [DropHp, ints_below, flts_below, ew, fltB, intB, fltD, fl64_below, allBelow_cons, allBelow_nil, below, belowM, belowL]) (by simp [DropTm, DropV, below, belowM, belowL, ew, fltB, intB, fltD, fl64_below, allBelow_cons, allBelow_nil, below, belowM, belowL])
  · have hi' : i = n := by have := of_decide_eq_false h; omega
    subst hi'
    refine hZ _ ?_; clear hZ; clear Z; refine lp_seq (md := md3) mixed (by kernel_rfl) (fun Z hZ => ?_); simp only [q0, q1, q2, q3, q4, q5, q6, q7, q8, q9, zq0, zq1, zq2, zq3, zq4, guardSlot, quietA, nilC, nilA, quietB, St.ev, St.put, St.after, Nat.reduceAdd, Nat.reduceSub, ofV, ofL, lenA, binA, intBin, fltBin, strBin, cpxBin, unA, convA, convB, convO, pickV, resL, oneA, indexA, indexS, isQuiet, loadA, loadC, storeA, fieldA, partA, sliceA, boundA, buildA, placeA, setAll, appendA, readSl, newEl, AV.cells, AV.solid, AV.one, kill, killM, killL, notInt, Int.reduceToNat, cond_true, cond_false, ↓reduceIte, reduceCtorEq, Nat.reduceLT, Nat.reduceLeDiff, Nat.reduceMul, Nat.reduceEqDiff, exists_eq', putF, implies_true, exists_true_left, tys0, tys1, tys2, und0, und1, und2, md3, Try.ntmps3, Try.results3, fltD, fl64_len, ld]
    refine go_round (md := md3) mixed (by kernel_rfl) (fun g : {g : Nat // g ≤ M} => ⟨[.any, .any, .any, .any, .any, .any, .any, .any, .any, .any, .any, .any, .any, .any, .any, .any, .any, .any, .sl 1 0 M, .any, .any, .any, .any, .any, .any, .any, .sl 2 0 M, .any, .any, .any, .any, .any, .any, .any, .any, .any, .any, .any, .any, .any, .any, .any, .any, .any, .any, .any, .any, .any, .any, .any, .any, .any, .any, .any, .any, .any, .any, .any, .any, .any, .any, .any, .any, .any, .any, .any, .any, .any, .any, .any, .any, .any, .any, .any, .any, .any, .any, .any, .any, .any, .any, .any, .any, .any, .any, .any, .any, .any, .any, .any, .any, .any, .any, .any, .any, .any, .any, .any, .any, .any, .any, .any, .any, .any, .any, .any, .any, .any, .any, .any, .any, .any, .any, .any, .any, .any, .any, .any, .any, .any, .any, .any, .any, .any, .any, .any, .any, .any, .any, .any, .any, .any, .any, .any, .any, .any, .any, .any, .any, .any, .any, .any, .any, .any, .any, .any, .any, .any, .any, .any, .any, .any, .any, .any, .any, .any, .any, .any, .any, .any, .any, .any, .any, .any, .any, .any, .any, .any, .any, .any, .any, .any, .any, .any, .any, .any, .any, .any, .any, .any, .any, .any, .any, .any, .any, .any, .any, .any, .any, .any, .any, .any, .any, .any, .any, .any, .any, .any, .any, .any, .any, .any, .any, .any, .any, .any, .any, .any, .any, .any, .any, .any, .any, .any, .any, .any, .any, .any, .int .i64 (M : Int), .int .i64 (g.1 : Int), .any, .any, .any, .any, .any, .any, .any, .any, .any, .any, .any, .any, .any, .any, .any, .any, .any, .any, .any, .any, .any], [intB b, fltB O, fltD (dL X b M i)]⟩) (fun g => M - g.1) ⟨0, Nat.zero_le _⟩ ?_ ?_
    · exact weak_drop (by simp) (by simp [DropHp, ints_below, flts_below, fltB, intB, fltD, fl64_below, allBelow_cons, allBelow_nil, below, belowM, belowL]) (by simp [DropTm, DropV, below, belowM, belowL, fltB, intB, fltD, fl64_below, allBelow_cons, allBelow_nil, below, belowM, belowL])
    rintro ⟨g, hg⟩
    simp only [q0, q1, q2, q3, q4, q5, q6, q7, q8, q9, zq0, zq1, zq2, zq3, zq4, guardSlot, quietA, nilC, nilA, quietB, St.ev, St.put, St.after, Nat.reduceAdd, Nat.reduceSub, ofV, ofL, lenA, binA, intBin, fltBin, strBin, cpxBin, unA, convA, convB, convO, pickV, resL, oneA, indexA, indexS, isQuiet, loadA, loadC, storeA, fieldA, partA, sliceA, boundA, buildA, placeA, setAll, appendA, readSl, newEl, AV.cells, AV.solid, AV.one, kill, killM, killL, notInt, Int.reduceToNat, cond_true, cond_false, ↓reduceIte, reduceCtorEq, Nat.reduceLT, Nat.reduceLeDiff, Nat.reduceMul, Nat.reduceEqDiff, exists_eq', putF, implies_true, exists_true_left, tys0, tys1, tys2, und0, und1, und2, md3, Try.ntmps3, Try.results3, fltB, fltD, flts_len, fl64_len, fl64_get, lO, ld, d001, c1_64]
    refine br_intro (fun h2 => ?_) (fun h2 => ?_) <;> simp only [q0, q1, q2, q3, q4, q5, q6, q7, q8, q9, zq0, zq1, zq2, zq3, zq4, guardSlot, quietA, nilC, nilA, quietB, St.ev, St.put, St.after, Nat.reduceAdd, Nat.reduceSub, ofV, ofL, lenA, binA, intBin, fltBin, strBin, cpxBin, unA, convA, convB, convO, pickV, resL, oneA, indexA, indexS, isQuiet, loadA, loadC, storeA, fieldA, partA, sliceA, boundA, buildA, placeA, setAll, appendA, readSl, newEl, AV.cells, AV.solid, AV.one, kill, killM, killL, notInt, Int.reduceToNat, cond_true, cond_false, ↓reduceIte, reduceCtorEq, Nat.reduceLT, Nat.reduceLeDiff, Nat.reduceMul, Nat.reduceEqDiff, exists_eq', putF, implies_true, exists_true_left, tys0, tys1, tys2, und0, und1, und2, md3, Try.ntmps3, Try.results3, fltB, fltD, flts_len, fl64_len, fl64_get, lO, ld, d001, c1_64]
    · have hg' : g < M := by have := of_decide_eq_true h2; omega
      have hO : g < O.length := by omega
      have hd : g < (dL X b M i).length := by omega
      have gd : (dL X b M i)[g] = sumD X b (g : Int) i := by rw [← getD_at _ 0 g hd, dL_get _ _ _ _ _ hg']
      obtain ⟨v1, v2, v3⟩ := val g hg'
      obtain ⟨f1, f2, f3⟩ := near g hg'
      rw [getD_at O 0 g hO] at v1 v2 v3 f2 f3
      obtain ⟨wr, wv⟩ := wide_rn v1
      rw [← wv] at v2 v3 f2 f3
      have gk := gap_ok f1 wr.fin v2 v3 f2 f3 one64_ok.1 one64_ok.2
      have gk : fgt .f64 (gapD (sumD X b (g : Int) i) (fconv .f64 .f32 O[g])) (fmul .f64 4562254508917369340 (fadd .f64 4607182418800017408 (fconv .f64 .f32 O[g]))) = false := gk
      have ew := w64_succ g (by omega)
      refine ⟨by omega, hg', by omega, hg', ?_⟩
      rw [gd]
      refine callr_ret (b10Gap_call _ _) rfl rfl ?_
      simp only [q0, q1, q2, q3, q4, q5, q6, q7, q8, q9, zq0, zq1, zq2, zq3, zq4, guardSlot, quietA, nilC, nilA, quietB, St.ev, St.put, St.after, Nat.reduceAdd, Nat.reduceSub, ofV, ofL, lenA, binA, intBin, fltBin, strBin, cpxBin, unA, convA, convB, convO, pickV, resL, oneA, indexA, indexS, isQuiet, loadA, loadC, storeA, fieldA, partA, sliceA, boundA, buildA, placeA, setAll, appendA, readSl, newEl, AV.cells, AV.solid, AV.one, kill, killM, killL, notInt, Int.reduceToNat, cond_true, cond_false, ↓reduceIte, reduceCtorEq, Nat.reduceLT, Nat.reduceLeDiff, Nat.reduceMul, Nat.reduceEqDiff, exists_eq', putF, implies_true, exists_true_left, tys0, tys1, tys2, und0, und1, und2, md3, Try.ntmps3, Try.results3, fltB, fltD, flts_len, fl64_len, fl64_get, lO, ld, d001, c1_64, gk]
      refine ⟨by omega, hg', ⟨g + 1, by omega⟩, by show M - (g + 1) < M - g; omega, ?_⟩
      exact weak_drop (by simp) (by simp [DropHp, ints_below, flts_below, ew, fltB, intB, fltD, fl64_below, allBelow_cons, allBelow_nil, below, belowM, belowL]) (by simp [DropTm, DropV, below, belowM, belowL, ew, fltB, intB, fltD, fl64_below, allBelow_cons, allBelow_nil, below, belowM, belowL])
    · have hg' : g = M := by have := of_decide_eq_false h2; omega
      refine hZ _ ?_; clear hZ; clear Z; refine lp_seq (md := md3) mixed (by kernel_rfl) (fun Z hZ => ?_); simp only [q0, q1, q2, q3, q4, q5, q6, q7, q8, q9, zq0, zq1, zq2, zq3, zq4, guardSlot, quietA, nilC, nilA, quietB, St.ev, St.put, St.after, Nat.reduceAdd, Nat.reduceSub, ofV, ofL, lenA, binA, intBin, fltBin, strBin, cpxBin, unA, convA, convB, convO, pickV, resL, oneA, indexA, indexS, isQuiet, loadA, loadC, storeA, fieldA, partA, sliceA, boundA, buildA, placeA, setAll, appendA, readSl, newEl, AV.cells, AV.solid, AV.one, kill, killM, killL, notInt, Int.reduceToNat, cond_true, cond_false, ↓reduceIte, reduceCtorEq, Nat.reduceLT, Nat.reduceLeDiff, Nat.reduceMul, Nat.reduceEqDiff, exists_eq', putF, implies_true, exists_true_left, tys0, tys1, tys2, und0, und1, und2, md3, Try.ntmps3, Try.results3]
      refine hZ _ ?_; clear hZ; clear Z; refine lp_whole (md := md3) mixed (by kernel_rfl) ?_; simp only [q0, q1, q2, q3, q4, q5, q6, q7, q8, q9, zq0, zq1, zq2, zq3, zq4, guardSlot, quietA, nilC, nilA, quietB, St.ev, St.put, St.after, Nat.reduceAdd, Nat.reduceSub, ofV, ofL, lenA, binA, intBin, fltBin, strBin, cpxBin, unA, convA, convB, convO, pickV, resL, oneA, indexA, indexS, isQuiet, loadA, loadC, storeA, fieldA, partA, sliceA, boundA, buildA, placeA, setAll, appendA, readSl, newEl, AV.cells, AV.solid, AV.one, kill, killM, killL, notInt, Int.reduceToNat, cond_true, cond_false, ↓reduceIte, reduceCtorEq, Nat.reduceLT, Nat.reduceLeDiff, Nat.reduceMul, Nat.reduceEqDiff, exists_eq', putF, implies_true, exists_true_left, tys0, tys1, tys2, und0, und1, und2, md3, Try.ntmps3, Try.results3]
      exact PostR.pure ⟨rfl, rfl⟩ rfl
theorem raked_all (cd m : List Int) (hc : byteL cd) (hm : byteL m) (l1 : cd.length ≤ 1048576) (l2 : m.length ≤ 1048576) : CallA Try.prog 3 [.ro (kint .u8 cd), .ro (kint .u8 m)] [] (Ret (.bool true) []) := by
  refine raked_law cd m hc hm l1 l2 fun k n2 hk hn => ?_
  obtain ⟨ga, gb⟩ := aL_grp k hk n2 hn
  have n1 : 1 ≤ (k + 1) * (n2 + 1) := Nat.mul_pos (by omega) (by omega)
  have n9 : (k + 1) * (n2 + 1) ≤ 9 := Nat.mul_le_mul (show k + 1 ≤ 3 by omega) (show n2 + 1 ≤ 3 by omega)
  generalize hn : (k + 1) * (n2 + 1) = n at *
  have F := wL_fit cd n
  refine t10 F n1 n9 (by omega) (by omega) ga gb ?_
  refine t13 hm l2 F n1 n9 (by omega) (by omega) ga gb ?_
  have lo := oL_len m (n2 + 1)
  have la1 := amL_len (wL cd n) (aL (k + 1) n) (k + 1) n
  obtain ⟨X, y, hX, r1, r2, hy, HX, near⟩ := second_rake F n1 n9 (A := amL (wL cd n) (aL (k + 1) n) (k + 1) n) (O := oL m (n2 + 1)) (am_aim F n9 (grp_of ga)) (oL_aim m (n2 + 1)) (by rw [la1]; exact ga) (by rw [lo]; exact gb) (fun g hg => by rw [lo] at hg; have := (oL_val m (n2 + 1) g hg).2.2; grind)
  rw [← hX]
  rw [lo] at near
  exact t17 n9 (by omega) (by omega) (grp_of gb) HX lo (fun g hg => oL_val m (n2 + 1) g hg) near
end Go.Proofs.Ytmgfghcmmbdcgaa
