/- Powers of e and returns of a year: what the program computes. -/
import Derived.Test.YthildgdbgjgidaaFrE
import Derived.Test.YthildgdbgjgidaaFrA
set_option maxRecDepth 10000
set_option maxHeartbeats 4000000
set_option linter.unusedSimpArgs false
set_option linter.unusedVariables false
namespace Go.Proofs.Ythildgdbgjgidaa
open Go Go.Abs

theorem f0 : canon .f32 0 = 0 := rfl
theorem f1 : canon .f32 1065353216 = 1065353216 := by decide +kernel
theorem f200 : canon .f32 1128792064 = 1128792064 := by decide +kernel
theorem m200 : canon .f32 3276275712 = 3276275712 := by decide +kernel
theorem d256 : canon .f64 4643211215818981376 = 4643211215818981376 := by decide +kernel
theorem d12 : canon .f64 4622945017495814144 = 4622945017495814144 := by decide +kernel
theorem e12 : eF 12 = 4622945017495814144 := by decide +kernel
theorem eF_12 : ∀ r : Nat, r < 13 → fge .f64 (eF (12 - (r : Int))) 4607182418800017408 = decide (r < 12) ∧ fsub .f64 (eF (12 - (r : Int))) 4607182418800017408 = eF (12 - ((r : Int) + 1)) := by decide +kernel
theorem exp_call (x : Nat) (h1 : fgt .f32 x 1128792064 = false) (h2 : flt .f32 x 3276275712 = false) (ok : fconvOk .f32 .f64 (expW x)) : CallA Try.prog 22 [.flt .f32 x] [] (Ret (.flt .f32 (expF x)) []) := by
  refine CallP.out (t := .mk) (go_in (md := md22) mixed Try.func22 rfl go22 (by kernel_rfl) ?_)
  simp only [q0, q1, q2, q3, q4, q5, q6, q7, q8, q9, zq0, zq1, zq2, zq3, zq4, guardSlot, quietA, nilC, nilA, quietB, St.ev, St.put, St.after, Nat.reduceAdd, Nat.reduceSub, ofV, ofL, lenA, binA, intBin, fltBin, strBin, cpxBin, unA, convA, convB, convO, pickV, resL, oneA, indexA, indexS, isQuiet, loadA, loadC, storeA, fieldA, partA, sliceA, boundA, buildA, placeA, setAll, appendA, readSl, newEl, AV.cells, AV.solid, AV.one, kill, killM, killL, notInt, Int.reduceToNat, cond_true, cond_false, ↓reduceIte, reduceCtorEq, Nat.reduceLT, Nat.reduceLeDiff, Nat.reduceMul, Nat.reduceEqDiff, exists_eq', putF, implies_true, exists_true_left, tys0, tys1, tys2, und0, und1, und2, md22, Try.ntmps22, Try.results22, f0, f200, m200, d256, d12, c1, h1, h2, Int.reduceLT, Int.reduceLE, Int.reduceNeg, Int.reduceEq, Int.reduceGT, Int.reduceGE, decide_true, decide_false, beq_self_eq_true, bne_self_eq_false, Int.reduceBEq, Int.reduceBNe, Int.reduceAdd, Int.reduceSub]
  refine go_round (md := md22) mixed (by kernel_rfl) (fun r : {r : Nat // r ≤ 12} => ⟨[.any, .any, .any, .flt .f64 (fdiv .f64 (fconv .f64 .f32 x) 4643211215818981376), .flt .f64 (expP (fdiv .f64 (fconv .f64 .f32 x) 4643211215818981376) r.1), .flt .f64 (eF (12 - (r.1 : Int))), .any, .any, .any, .any, .any, .any, .any, .any, .any, .any, .any, .any, .any, .any, .any, .any, .any, .any, .any, .any, .any, .any, .any, .any, .any, .any, .any, .any, .any], []⟩) (fun r => 12 - r.1) ⟨0, by omega⟩ ?_ ?_
  · exact weak_drop (by simp) (by simp [DropHp, ints_below, flts_below, e12, expP]) (by simp [DropTm, DropV, below, belowM, belowL, e12, expP])
  rintro ⟨r, hr⟩
  obtain ⟨k1, k2⟩ := eF_12 r (by omega)
  simp only [q0, q1, q2, q3, q4, q5, q6, q7, q8, q9, zq0, zq1, zq2, zq3, zq4, guardSlot, quietA, nilC, nilA, quietB, St.ev, St.put, St.after, Nat.reduceAdd, Nat.reduceSub, ofV, ofL, lenA, binA, intBin, fltBin, strBin, cpxBin, unA, convA, convB, convO, pickV, resL, oneA, indexA, indexS, isQuiet, loadA, loadC, storeA, fieldA, partA, sliceA, boundA, buildA, placeA, setAll, appendA, readSl, newEl, AV.cells, AV.solid, AV.one, kill, killM, killL, notInt, Int.reduceToNat, cond_true, cond_false, ↓reduceIte, reduceCtorEq, Nat.reduceLT, Nat.reduceLeDiff, Nat.reduceMul, Nat.reduceEqDiff, exists_eq', putF, implies_true, exists_true_left, tys0, tys1, tys2, und0, und1, und2, md22, Try.ntmps22, Try.results22, c1, k1, k2]
  refine br_intro (fun t => ?_) (fun t => ?_) <;> simp only [q0, q1, q2, q3, q4, q5, q6, q7, q8, q9, zq0, zq1, zq2, zq3, zq4, guardSlot, quietA, nilC, nilA, quietB, St.ev, St.put, St.after, Nat.reduceAdd, Nat.reduceSub, ofV, ofL, lenA, binA, intBin, fltBin, strBin, cpxBin, unA, convA, convB, convO, pickV, resL, oneA, indexA, indexS, isQuiet, loadA, loadC, storeA, fieldA, partA, sliceA, boundA, buildA, placeA, setAll, appendA, readSl, newEl, AV.cells, AV.solid, AV.one, kill, killM, killL, notInt, Int.reduceToNat, cond_true, cond_false, ↓reduceIte, reduceCtorEq, Nat.reduceLT, Nat.reduceLeDiff, Nat.reduceMul, Nat.reduceEqDiff, exists_eq', putF, implies_true, exists_true_left, tys0, tys1, tys2, und0, und1, und2, md22, Try.ntmps22, Try.results22, c1, k1, k2]
  · have ht := of_decide_eq_true t
    refine ⟨⟨r + 1, by omega⟩, by show 12 - (r + 1) < 12 - r; omega, ?_⟩
    exact weak_drop (by simp) (by simp [DropHp, ints_below, flts_below, expP]) (by simp [DropTm, DropV, below, belowM, belowL, expP])
  · have ht := of_decide_eq_false t
    have hr12 : r = 12 := by omega
    subst hr12
    refine go_round (md := md22) mixed (by kernel_rfl) (fun r : {r : Nat // r ≤ 8} => ⟨[.any, .any, .any, .any, .flt .f64 (sqF (expP (fdiv .f64 (fconv .f64 .f32 x) 4643211215818981376) 12) r.1), .any, .any, .any, .any, .any, .any, .any, .any, .any, .any, .any, .any, .any, .any, .any, .any, .any, .any, .any, .any, .any, .any, .int .i64 (r.1 : Int), .any, .any, .any, .any, .any, .any, .any], []⟩) (fun r => 8 - r.1) ⟨0, by omega⟩ ?_ ?_
    · exact weak_drop (by simp) (by simp [DropHp, ints_below, flts_below, sqF]) (by simp [DropTm, DropV, below, belowM, belowL, sqF])
    rintro ⟨j, hj⟩
    simp only [q0, q1, q2, q3, q4, q5, q6, q7, q8, q9, zq0, zq1, zq2, zq3, zq4, guardSlot, quietA, nilC, nilA, quietB, St.ev, St.put, St.after, Nat.reduceAdd, Nat.reduceSub, ofV, ofL, lenA, binA, intBin, fltBin, strBin, cpxBin, unA, convA, convB, convO, pickV, resL, oneA, indexA, indexS, isQuiet, loadA, loadC, storeA, fieldA, partA, sliceA, boundA, buildA, placeA, setAll, appendA, readSl, newEl, AV.cells, AV.solid, AV.one, kill, killM, killL, notInt, Int.reduceToNat, cond_true, cond_false, ↓reduceIte, reduceCtorEq, Nat.reduceLT, Nat.reduceLeDiff, Nat.reduceMul, Nat.reduceEqDiff, exists_eq', putF, implies_true, exists_true_left, tys0, tys1, tys2, und0, und1, und2, md22, Try.ntmps22, Try.results22]
    refine br_intro (fun u => ?_) (fun u => ?_) <;> simp only [q0, q1, q2, q3, q4, q5, q6, q7, q8, q9, zq0, zq1, zq2, zq3, zq4, guardSlot, quietA, nilC, nilA, quietB, St.ev, St.put, St.after, Nat.reduceAdd, Nat.reduceSub, ofV, ofL, lenA, binA, intBin, fltBin, strBin, cpxBin, unA, convA, convB, convO, pickV, resL, oneA, indexA, indexS, isQuiet, loadA, loadC, storeA, fieldA, partA, sliceA, boundA, buildA, placeA, setAll, appendA, readSl, newEl, AV.cells, AV.solid, AV.one, kill, killM, killL, notInt, Int.reduceToNat, cond_true, cond_false, ↓reduceIte, reduceCtorEq, Nat.reduceLT, Nat.reduceLeDiff, Nat.reduceMul, Nat.reduceEqDiff, exists_eq', putF, implies_true, exists_true_left, tys0, tys1, tys2, und0, und1, und2, md22, Try.ntmps22, Try.results22]
    · have hu := of_decide_eq_true u
      refine ⟨⟨j + 1, by omega⟩, by show 8 - (j + 1) < 8 - j; omega, ?_⟩
      exact weak_drop (by simp) (by simp [DropHp, ints_below, flts_below, sqF, w64_succ j (by omega)]) (by simp [DropTm, DropV, below, belowM, belowL, sqF, w64_succ j (by omega)])
    · have hu := of_decide_eq_false u
      have hj8 : j = 8 := by omega
      subst hj8
      exact ⟨ok, PostR.pure ⟨rfl, rfl⟩ rfl⟩
end Go.Proofs.Ythildgdbgjgidaa
