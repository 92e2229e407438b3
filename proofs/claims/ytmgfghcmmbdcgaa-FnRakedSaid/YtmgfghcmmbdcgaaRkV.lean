/- The law FnRaked: its first loop draws weights and groups. -/
import Derived.Test.YtmgfghcmmbdcgaaRkC
set_option maxRecDepth 10000
set_option maxHeartbeats 16000000
set_option linter.unusedSimpArgs false
set_option linter.unusedVariables false
namespace Go.Proofs.Ytmgfghcmmbdcgaa
open Go Go.Abs

theorem lp_weak {P : Program} {n0 : Nat} {c : Code} {Q : Ex → St → Prop} {st st2 : St} {t : Tok (c, Q)} (hw : Weak n0 st st2) (h : Lp P n0 c Q t st2) : Lp P n0 c Q t st := by
  delta Lp at h ⊢
  intro E0 hp0 E a hn hs
  obtain ⟨E2, he, hs2⟩ := hw _ E0 hp0 E a hn hs
  rw [← he]
  exact h E0 hp0 E2 a hn hs2
def sndC : Code → Code
  | .seq _ b => b
  | c => c
def T10 (cd m : List Int) (k n2 n : Nat) (ws : List Nat) (a b : List Int) : Prop := Lp Try.prog 0 (sndC (sndC (sndC (sndC (sndC (sndC (sndC (sndC (sndC (sndC (Try.f3.body.getD .skip))))))))))) (retQ Try.prog Try.f3 0 (Ret (.bool true) [])) .mk
  ⟨[.any, .ro (kint .u8 m), .any, .any, .any, .any, .int .i64 (n2 : Int), .sl 0 0 n, .sl 1 0 n, .sl 2 0 n, .sl 3 0 k, .sl 4 0 n2, .any, .any, .any, .any, .any, .any, .any, .any, .any, .any, .any, .any, .any, .any, .any, .any, .any, .any, .any, .any, .any, .any, .any, .any, .any, .any, .any, .any, .any, .any, .any, .any, .any, .any, .any, .any, .any, .any, .any, .any, .any, .any, .any, .any, .any, .any, .any, .any, .any, .any, .any, .any, .any, .any, .any, .any, .any, .any, .any, .any, .any, .any, .any, .any, .any, .any, .any, .any, .any, .any, .any, .any, .any, .any, .any, .any, .any, .any, .any, .any, .any, .any, .any, .any, .any, .any, .any, .any, .any, .any, .any, .any, .any, .any, .any, .any, .any, .any, .any, .any, .any, .any, .any, .any, .any, .any, .any, .any, .any, .any, .any, .any, .any, .any, .any, .any, .any, .any, .any, .any, .any, .any, .any, .any, .any, .any, .any, .any, .any, .any, .any, .any, .any, .any, .any, .any, .any, .any, .any, .any, .any, .any, .any, .any, .any, .any, .any, .any, .any, .any, .any, .any, .any, .any, .any, .any, .any, .any, .any, .any, .any, .any, .any, .any, .any, .any, .any, .any, .any, .any, .any, .any, .any, .any, .any, .any, .any, .any, .any, .any, .any, .any, .any, .any, .any, .any, .any, .any, .any, .any, .any, .any, .any, .any, .any, .any, .any, .any, .any, .any, .any, .any, .any, .any, .any, .any, .any, .any, .any, .any, .any, .any, .any, .any, .any, .any, .any, .any, .any, .any, .any, .any, .any, .any, .any, .any, .any, .any, .any], [fltB ws, intB a, intB b, fltB (amL ws a k n), fltB (amL ws b n2 n)]⟩
theorem mod_nat (i K : Nat) : ((i : Int)).tmod (K : Int) = ((i % K : Nat) : Int) := by rw [Int.tmod_eq_emod_of_nonneg (by omega)]; rfl
theorem div_nat (i K : Nat) : ((i : Int)).tdiv (K : Int) = ((i / K : Nat) : Int) := by rw [Int.tdiv_eq_ediv_of_nonneg (by omega)]; rfl
theorem set_flts (l : List Nat) (g v : Nat) : (flts l).set g (.flt .f32 v) = flts (l.set g v) := by simp [flts, List.map_set]
theorem wL_succ (c : List Int) (i : Nat) : wL c i ++ [wF c i] = wL c (i + 1) := by simp [wL, List.range_succ]
theorem aL_succ (k i : Nat) : aL k i ++ [((i % k : Nat) : Int)] = aL k (i + 1) := by simp [aL, List.range_succ]
theorem bL_succ (k i : Nat) : bL k i ++ [((i / k : Nat) : Int)] = bL k (i + 1) := by simp [bL, List.range_succ]
theorem amL_step {W : List Nat} {gs : List Int} {c i g : Nat} (hg : gs.getD i 0 = (g : Int)) (h : g < (amL W gs c i).length) : (amL W gs c i).set g (fadd .f32 (amL W gs c i)[g] (W.getD i 0)) = amL W gs c (i + 1) := by
  rw [← getD_at (amL W gs c i) 0 g h]
  rw [amL_len] at h
  refine List.ext_getElem (by simp [amL]) fun j h1 h2 => ?_
  have hj : j < c := by simpa [amL] using h2
  rw [← getD_at _ 0 j h1, ← getD_at _ 0 j h2, amL_get _ _ _ _ _ hj]
  rw [sumG, hg]
  by_cases e : g = j
  · subst e
    rw [if_pos rfl, amL_get _ _ _ _ _ hj]
    simp [List.getD_eq_getElem?_getD, amL_len, hj]
  · rw [if_neg (by omega)]
    simp only [List.getD_eq_getElem?_getD]
    rw [List.getElem?_set_ne e]
    have := amL_get W gs c i j hj
    rw [List.getD_eq_getElem?_getD] at this
    exact this
theorem aL_get (k n i : Nat) (h : i < n) : (aL k n).getD i 0 = ((i % k : Nat) : Int) := by simp [aL, h]
theorem bL_get (k n i : Nat) (h : i < n) : (bL k n).getD i 0 = ((i / k : Nat) : Int) := by simp [bL, h]
theorem raked_law (cd m : List Int) (hc : byteL cd) (hm : byteL m) (l1 : cd.length ≤ 1048576) (l2 : m.length ≤ 1048576) (tail : ∀ k n2 : Nat, k < 3 → n2 < 3 → T10 cd m (k + 1) (n2 + 1) ((k + 1) * (n2 + 1)) (wL cd ((k + 1) * (n2 + 1))) (aL (k + 1) ((k + 1) * (n2 + 1))) (bL (k + 1) ((k + 1) * (n2 + 1)))) : CallA Try.prog 3 [.ro (kint .u8 cd), .ro (kint .u8 m)] [] (Ret (.bool true) []) := by
  refine CallP.out (t := .mk) (go_pieces Try.func3 rfl go3 ?_)
  refine lp_seq (md := md3) mixed (by kernel_rfl) (fun Z hZ => ?_); simp only [q0, q1, q2, q3, q4, q5, q6, q7, q8, q9, zq0, zq1, zq2, zq3, zq4, guardSlot, quietA, nilC, nilA, quietB, St.ev, St.put, St.after, Nat.reduceAdd, Nat.reduceSub, ofV, ofL, lenA, binA, intBin, fltBin, strBin, cpxBin, unA, convA, convB, convO, pickV, resL, oneA, indexA, indexS, isQuiet, loadA, loadC, storeA, fieldA, partA, sliceA, boundA, buildA, placeA, setAll, appendA, readSl, newEl, AV.cells, AV.solid, AV.one, kill, killM, killL, notInt, Int.reduceToNat, cond_true, cond_false, ↓reduceIte, reduceCtorEq, Nat.reduceLT, Nat.reduceLeDiff, Nat.reduceMul, Nat.reduceEqDiff, exists_eq', putF, implies_true, exists_true_left, tys0, tys1, tys2, und0, und1, und2, md3, Try.ntmps3, Try.results3]
  refine hZ _ ?_; clear hZ; clear Z; refine lp_seq (md := md3) mixed (by kernel_rfl) (fun Z hZ => ?_); simp only [q0, q1, q2, q3, q4, q5, q6, q7, q8, q9, zq0, zq1, zq2, zq3, zq4, guardSlot, quietA, nilC, nilA, quietB, St.ev, St.put, St.after, Nat.reduceAdd, Nat.reduceSub, ofV, ofL, lenA, binA, intBin, fltBin, strBin, cpxBin, unA, convA, convB, convO, pickV, resL, oneA, indexA, indexS, isQuiet, loadA, loadC, storeA, fieldA, partA, sliceA, boundA, buildA, placeA, setAll, appendA, readSl, newEl, AV.cells, AV.solid, AV.one, kill, killM, killL, notInt, Int.reduceToNat, cond_true, cond_false, ↓reduceIte, reduceCtorEq, Nat.reduceLT, Nat.reduceLeDiff, Nat.reduceMul, Nat.reduceEqDiff, exists_eq', putF, implies_true, exists_true_left, tys0, tys1, tys2, und0, und1, und2, md3, Try.ntmps3, Try.results3]
  refine call_ret (b10Long_call cd m) rfl rfl ?_
  simp only [q0, q1, q2, q3, q4, q5, q6, q7, q8, q9, zq0, zq1, zq2, zq3, zq4, guardSlot, quietA, nilC, nilA, quietB, St.ev, St.put, St.after, Nat.reduceAdd, Nat.reduceSub, ofV, ofL, lenA, binA, intBin, fltBin, strBin, cpxBin, unA, convA, convB, convO, pickV, resL, oneA, indexA, indexS, isQuiet, loadA, loadC, storeA, fieldA, partA, sliceA, boundA, buildA, placeA, setAll, appendA, readSl, newEl, AV.cells, AV.solid, AV.one, kill, killM, killL, notInt, Int.reduceToNat, cond_true, cond_false, ↓reduceIte, reduceCtorEq, Nat.reduceLT, Nat.reduceLeDiff, Nat.reduceMul, Nat.reduceEqDiff, exists_eq', putF, implies_true, exists_true_left, tys0, tys1, tys2, und0, und1, und2, md3, Try.ntmps3, Try.results3]
  refine br_no (by simp only [Bool.or_eq_false_iff, decide_eq_false_iff_not]; omega) ?_
  simp only [q0, q1, q2, q3, q4, q5, q6, q7, q8, q9, zq0, zq1, zq2, zq3, zq4, guardSlot, quietA, nilC, nilA, quietB, St.ev, St.put, St.after, Nat.reduceAdd, Nat.reduceSub, ofV, ofL, lenA, binA, intBin, fltBin, strBin, cpxBin, unA, convA, convB, convO, pickV, resL, oneA, indexA, indexS, isQuiet, loadA, loadC, storeA, fieldA, partA, sliceA, boundA, buildA, placeA, setAll, appendA, readSl, newEl, AV.cells, AV.solid, AV.one, kill, killM, killL, notInt, Int.reduceToNat, cond_true, cond_false, ↓reduceIte, reduceCtorEq, Nat.reduceLT, Nat.reduceLeDiff, Nat.reduceMul, Nat.reduceEqDiff, exists_eq', putF, implies_true, exists_true_left, tys0, tys1, tys2, und0, und1, und2, md3, Try.ntmps3, Try.results3]
  refine hZ _ ?_; clear hZ; clear Z; refine lp_seq (md := md3) mixed (by kernel_rfl) (fun Z hZ => ?_); simp only [q0, q1, q2, q3, q4, q5, q6, q7, q8, q9, zq0, zq1, zq2, zq3, zq4, guardSlot, quietA, nilC, nilA, quietB, St.ev, St.put, St.after, Nat.reduceAdd, Nat.reduceSub, ofV, ofL, lenA, binA, intBin, fltBin, strBin, cpxBin, unA, convA, convB, convO, pickV, resL, oneA, indexA, indexS, isQuiet, loadA, loadC, storeA, fieldA, partA, sliceA, boundA, buildA, placeA, setAll, appendA, readSl, newEl, AV.cells, AV.solid, AV.one, kill, killM, killL, notInt, Int.reduceToNat, cond_true, cond_false, ↓reduceIte, reduceCtorEq, Nat.reduceLT, Nat.reduceLeDiff, Nat.reduceMul, Nat.reduceEqDiff, exists_eq', putF, implies_true, exists_true_left, tys0, tys1, tys2, und0, und1, und2, md3, Try.ntmps3, Try.results3]
  refine call_ret (at10_call m hm l2 0 3 (by omega) (by omega) (by omega) (by omega)) rfl rfl ?_
  have R := at10_low (l := m) (k := 0) (n := 3) (by omega)
  obtain ⟨k, hk⟩ := Int.eq_ofNat_of_zero_le R.1
  rw [hk]
  rw [hk] at R
  clear hk
  have e1 : IntKind.i64.wrap (1 + (k : Int)) = ((k + 1 : Nat) : Int) := by rw [w64 (by omega) (by omega)]; omega
  simp only [q0, q1, q2, q3, q4, q5, q6, q7, q8, q9, zq0, zq1, zq2, zq3, zq4, guardSlot, quietA, nilC, nilA, quietB, St.ev, St.put, St.after, Nat.reduceAdd, Nat.reduceSub, ofV, ofL, lenA, binA, intBin, fltBin, strBin, cpxBin, unA, convA, convB, convO, pickV, resL, oneA, indexA, indexS, isQuiet, loadA, loadC, storeA, fieldA, partA, sliceA, boundA, buildA, placeA, setAll, appendA, readSl, newEl, AV.cells, AV.solid, AV.one, kill, killM, killL, notInt, Int.reduceToNat, cond_true, cond_false, ↓reduceIte, reduceCtorEq, Nat.reduceLT, Nat.reduceLeDiff, Nat.reduceMul, Nat.reduceEqDiff, exists_eq', putF, implies_true, exists_true_left, tys0, tys1, tys2, und0, und1, und2, md3, Try.ntmps3, Try.results3, e1]
  refine hZ _ ?_; clear hZ; clear Z; refine lp_seq (md := md3) mixed (by kernel_rfl) (fun Z hZ => ?_); simp only [q0, q1, q2, q3, q4, q5, q6, q7, q8, q9, zq0, zq1, zq2, zq3, zq4, guardSlot, quietA, nilC, nilA, quietB, St.ev, St.put, St.after, Nat.reduceAdd, Nat.reduceSub, ofV, ofL, lenA, binA, intBin, fltBin, strBin, cpxBin, unA, convA, convB, convO, pickV, resL, oneA, indexA, indexS, isQuiet, loadA, loadC, storeA, fieldA, partA, sliceA, boundA, buildA, placeA, setAll, appendA, readSl, newEl, AV.cells, AV.solid, AV.one, kill, killM, killL, notInt, Int.reduceToNat, cond_true, cond_false, ↓reduceIte, reduceCtorEq, Nat.reduceLT, Nat.reduceLeDiff, Nat.reduceMul, Nat.reduceEqDiff, exists_eq', putF, implies_true, exists_true_left, tys0, tys1, tys2, und0, und1, und2, md3, Try.ntmps3, Try.results3]
  refine call_ret (at10_call m hm l2 1 3 (by omega) (by omega) (by omega) (by omega)) rfl rfl ?_
  have R2 := at10_low (l := m) (k := 1) (n := 3) (by omega)
  obtain ⟨n2, hn2⟩ := Int.eq_ofNat_of_zero_le R2.1
  rw [hn2]
  rw [hn2] at R2
  clear hn2
  have e2 : IntKind.i64.wrap (1 + (n2 : Int)) = ((n2 + 1 : Nat) : Int) := by rw [w64 (by omega) (by omega)]; omega
  simp only [q0, q1, q2, q3, q4, q5, q6, q7, q8, q9, zq0, zq1, zq2, zq3, zq4, guardSlot, quietA, nilC, nilA, quietB, St.ev, St.put, St.after, Nat.reduceAdd, Nat.reduceSub, ofV, ofL, lenA, binA, intBin, fltBin, strBin, cpxBin, unA, convA, convB, convO, pickV, resL, oneA, indexA, indexS, isQuiet, loadA, loadC, storeA, fieldA, partA, sliceA, boundA, buildA, placeA, setAll, appendA, readSl, newEl, AV.cells, AV.solid, AV.one, kill, killM, killL, notInt, Int.reduceToNat, cond_true, cond_false, ↓reduceIte, reduceCtorEq, Nat.reduceLT, Nat.reduceLeDiff, Nat.reduceMul, Nat.reduceEqDiff, exists_eq', putF, implies_true, exists_true_left, tys0, tys1, tys2, und0, und1, und2, md3, Try.ntmps3, Try.results3, e2]
  have tl := tail k n2 (by omega) (by omega)
  have k3 : k + 1 ≤ 3 := by omega
  have m3 : n2 + 1 ≤ 3 := by omega
  have k1 : 1 ≤ k + 1 := by omega
  have m1 : 1 ≤ n2 + 1 := by omega
  clear tail e1 e2 R R2
  generalize k + 1 = K at *
  generalize n2 + 1 = M at *
  refine hZ _ ?_; clear hZ; clear Z; refine lp_seq (md := md3) mixed (by kernel_rfl) (fun Z hZ => ?_); simp only [q0, q1, q2, q3, q4, q5, q6, q7, q8, q9, zq0, zq1, zq2, zq3, zq4, guardSlot, quietA, nilC, nilA, quietB, St.ev, St.put, St.after, Nat.reduceAdd, Nat.reduceSub, ofV, ofL, lenA, binA, intBin, fltBin, strBin, cpxBin, unA, convA, convB, convO, pickV, resL, oneA, indexA, indexS, isQuiet, loadA, loadC, storeA, fieldA, partA, sliceA, boundA, buildA, placeA, setAll, appendA, readSl, newEl, AV.cells, AV.solid, AV.one, kill, killM, killL, notInt, Int.reduceToNat, cond_true, cond_false, ↓reduceIte, reduceCtorEq, Nat.reduceLT, Nat.reduceLeDiff, Nat.reduceMul, Nat.reduceEqDiff, exists_eq', putF, implies_true, exists_true_left, tys0, tys1, tys2, und0, und1, und2, md3, Try.ntmps3, Try.results3]
  refine hZ _ ?_; clear hZ; clear Z; refine lp_seq (md := md3) mixed (by kernel_rfl) (fun Z hZ => ?_); simp only [q0, q1, q2, q3, q4, q5, q6, q7, q8, q9, zq0, zq1, zq2, zq3, zq4, guardSlot, quietA, nilC, nilA, quietB, St.ev, St.put, St.after, Nat.reduceAdd, Nat.reduceSub, ofV, ofL, lenA, binA, intBin, fltBin, strBin, cpxBin, unA, convA, convB, convO, pickV, resL, oneA, indexA, indexS, isQuiet, loadA, loadC, storeA, fieldA, partA, sliceA, boundA, buildA, placeA, setAll, appendA, readSl, newEl, AV.cells, AV.solid, AV.one, kill, killM, killL, notInt, Int.reduceToNat, cond_true, cond_false, ↓reduceIte, reduceCtorEq, Nat.reduceLT, Nat.reduceLeDiff, Nat.reduceMul, Nat.reduceEqDiff, exists_eq', putF, implies_true, exists_true_left, tys0, tys1, tys2, und0, und1, und2, md3, Try.ntmps3, Try.results3]
  refine hZ _ ?_; clear hZ; clear Z; refine lp_seq (md := md3) mixed (by kernel_rfl) (fun Z hZ => ?_); simp only [q0, q1, q2, q3, q4, q5, q6, q7, q8, q9, zq0, zq1, zq2, zq3, zq4, guardSlot, quietA, nilC, nilA, quietB, St.ev, St.put, St.after, Nat.reduceAdd, Nat.reduceSub, ofV, ofL, lenA, binA, intBin, fltBin, strBin, cpxBin, unA, convA, convB, convO, pickV, resL, oneA, indexA, indexS, isQuiet, loadA, loadC, storeA, fieldA, partA, sliceA, boundA, buildA, placeA, setAll, appendA, readSl, newEl, AV.cells, AV.solid, AV.one, kill, killM, killL, notInt, Int.reduceToNat, cond_true, cond_false, ↓reduceIte, reduceCtorEq, Nat.reduceLT, Nat.reduceLeDiff, Nat.reduceMul, Nat.reduceEqDiff, exists_eq', putF, implies_true, exists_true_left, tys0, tys1, tys2, und0, und1, und2, md3, Try.ntmps3, Try.results3]
  refine hZ _ ?_; clear hZ; clear Z; refine lp_seq (md := md3) mixed (by kernel_rfl) (fun Z hZ => ?_); simp only [q0, q1, q2, q3, q4, q5, q6, q7, q8, q9, zq0, zq1, zq2, zq3, zq4, guardSlot, quietA, nilC, nilA, quietB, St.ev, St.put, St.after, Nat.reduceAdd, Nat.reduceSub, ofV, ofL, lenA, binA, intBin, fltBin, strBin, cpxBin, unA, convA, convB, convO, pickV, resL, oneA, indexA, indexS, isQuiet, loadA, loadC, storeA, fieldA, partA, sliceA, boundA, buildA, placeA, setAll, appendA, readSl, newEl, AV.cells, AV.solid, AV.one, kill, killM, killL, notInt, Int.reduceToNat, cond_true, cond_false, ↓reduceIte, reduceCtorEq, Nat.reduceLT, Nat.reduceLeDiff, Nat.reduceMul, Nat.reduceEqDiff, exists_eq', putF, implies_true, exists_true_left, tys0, tys1, tys2, und0, und1, und2, md3, Try.ntmps3, Try.results3]
  refine ⟨by omega, by omega, ?_⟩
  refine hZ _ ?_; clear hZ; clear Z; refine lp_seq (md := md3) mixed (by kernel_rfl) (fun Z hZ => ?_); simp only [q0, q1, q2, q3, q4, q5, q6, q7, q8, q9, zq0, zq1, zq2, zq3, zq4, guardSlot, quietA, nilC, nilA, quietB, St.ev, St.put, St.after, Nat.reduceAdd, Nat.reduceSub, ofV, ofL, lenA, binA, intBin, fltBin, strBin, cpxBin, unA, convA, convB, convO, pickV, resL, oneA, indexA, indexS, isQuiet, loadA, loadC, storeA, fieldA, partA, sliceA, boundA, buildA, placeA, setAll, appendA, readSl, newEl, AV.cells, AV.solid, AV.one, kill, killM, killL, notInt, Int.reduceToNat, cond_true, cond_false, ↓reduceIte, reduceCtorEq, Nat.reduceLT, Nat.reduceLeDiff, Nat.reduceMul, Nat.reduceEqDiff, exists_eq', putF, implies_true, exists_true_left, tys0, tys1, tys2, und0, und1, und2, md3, Try.ntmps3, Try.results3]
  refine ⟨by omega, by omega, ?_⟩
  refine hZ _ ?_; clear hZ; clear Z; refine lp_seq (md := md3) mixed (by kernel_rfl) (fun Z hZ => ?_); simp only [q0, q1, q2, q3, q4, q5, q6, q7, q8, q9, zq0, zq1, zq2, zq3, zq4, guardSlot, quietA, nilC, nilA, quietB, St.ev, St.put, St.after, Nat.reduceAdd, Nat.reduceSub, ofV, ofL, lenA, binA, intBin, fltBin, strBin, cpxBin, unA, convA, convB, convO, pickV, resL, oneA, indexA, indexS, isQuiet, loadA, loadC, storeA, fieldA, partA, sliceA, boundA, buildA, placeA, setAll, appendA, readSl, newEl, AV.cells, AV.solid, AV.one, kill, killM, killL, notInt, Int.reduceToNat, cond_true, cond_false, ↓reduceIte, reduceCtorEq, Nat.reduceLT, Nat.reduceLeDiff, Nat.reduceMul, Nat.reduceEqDiff, exists_eq', putF, implies_true, exists_true_left, tys0, tys1, tys2, und0, und1, und2, md3, Try.ntmps3, Try.results3]
  have lt : K * M ≤ 9 := Nat.mul_le_mul k3 m3
  have en : IntKind.i64.wrap ((K : Int) * (M : Int)) = ((K * M : Nat) : Int) := by
    rw [← Int.natCast_mul]
    exact w64 (by omega) (by omega)
  refine go_round (md := md3) mixed (by kernel_rfl) (fun i : {i : Nat // i ≤ K * M} => ⟨[.ro (kint .u8 cd), .ro (kint .u8 m), .any, .any, .any, .int .i64 (K : Int), .int .i64 (M : Int), .sl 0 0 i.1, .sl 1 0 i.1, .sl 2 0 i.1, .sl 3 0 K, .sl 4 0 M, .int .i64 (i.1 : Int), .any, .any, .any, .any, .any, .any, .any, .any, .any, .any, .any, .any, .any, .any, .any, .any, .any, .any, .any, .any, .any, .any, .any, .any, .any, .any, .any, .any, .any, .any, .any, .any, .any, .any, .any, .any, .any, .any, .any, .any, .any, .any, .any, .any, .any, .any, .any, .any, .any, .any, .any, .any, .any, .any, .any, .any, .any, .any, .any, .any, .any, .any, .any, .any, .any, .any, .any, .any, .any, .any, .any, .any, .any, .any, .any, .any, .any, .any, .any, .any, .any, .any, .any, .any, .any, .any, .any, .any, .any, .any, .any, .any, .any, .any, .any, .any, .any, .any, .any, .any, .any, .any, .any, .any, .any, .any, .any, .any, .any, .any, .any, .any, .any, .any, .any, .any, .any, .any, .any, .any, .any, .any, .any, .any, .any, .any, .any, .any, .any, .any, .any, .any, .any, .any, .any, .any, .any, .any, .any, .any, .any, .any, .any, .any, .any, .any, .any, .any, .any, .any, .any, .any, .any, .any, .any, .any, .any, .any, .any, .any, .any, .any, .any, .any, .any, .any, .any, .any, .any, .any, .any, .any, .any, .any, .any, .any, .any, .any, .any, .any, .any, .any, .any, .any, .any, .any, .any, .any, .any, .any, .any, .any, .any, .any, .any, .any, .any, .any, .any, .any, .any, .any, .any, .any, .any, .any, .any, .any, .any, .any, .any, .any, .any, .any, .any, .any, .any, .any, .any, .any, .any, .any, .any, .any, .any, .any, .any, .any], [fltB (wL cd i.1), intB (aL K i.1), intB (bL K i.1), fltB (amL (wL cd (K * M)) (aL K (K * M)) K i.1), fltB (amL (wL cd (K * M)) (bL K (K * M)) M i.1)]⟩) (fun i => K * M - i.1) ⟨0, Nat.zero_le _⟩ ?_ ?_
  · have z : ∀ W gs c, flts (amL W gs c 0) = List.replicate c (.flt .f32 0) := fun W gs c => by
      rw [← flts_rep]
      congr 1
      simp [amL, sumG, List.map_const']
    have z1 : wL cd 0 = [] := rfl
    have z2 : aL K 0 = [] := rfl
    have z3 : bL K 0 = [] := rfl
    rw [z1, z2, z3]
    have zb : ∀ c, allBelow 5 (List.replicate c (.flt .f32 0)) = true := fun c => by rw [← flts_rep]; exact flts_below _ _
    have zf : flts [] = [] := rfl
    simp only [fltB, intB, z, zf, ints, List.map_nil]
    exact weak_drop (by simp) (by simp [DropHp, ints_below, flts_below, z, zb, allBelow_cons, allBelow_nil, below, belowM, belowL]) (by simp [DropTm, DropV, below, belowM, belowL, z, zb, allBelow_cons, allBelow_nil, below, belowM, belowL])
  rintro ⟨i, hi⟩
  simp only [q0, q1, q2, q3, q4, q5, q6, q7, q8, q9, zq0, zq1, zq2, zq3, zq4, guardSlot, quietA, nilC, nilA, quietB, St.ev, St.put, St.after, Nat.reduceAdd, Nat.reduceSub, ofV, ofL, lenA, binA, intBin, fltBin, strBin, cpxBin, unA, convA, convB, convO, pickV, resL, oneA, indexA, indexS, isQuiet, loadA, loadC, storeA, fieldA, partA, sliceA, boundA, buildA, placeA, setAll, appendA, readSl, newEl, AV.cells, AV.solid, AV.one, kill, killM, killL, notInt, Int.reduceToNat, cond_true, cond_false, ↓reduceIte, reduceCtorEq, Nat.reduceLT, Nat.reduceLeDiff, Nat.reduceMul, Nat.reduceEqDiff, exists_eq', putF, implies_true, exists_true_left, tys0, tys1, tys2, und0, und1, und2, md3, Try.ntmps3, Try.results3, en]
  refine br_intro (fun h => ?_) (fun h => ?_) <;> simp only [q0, q1, q2, q3, q4, q5, q6, q7, q8, q9, zq0, zq1, zq2, zq3, zq4, guardSlot, quietA, nilC, nilA, quietB, St.ev, St.put, St.after, Nat.reduceAdd, Nat.reduceSub, ofV, ofL, lenA, binA, intBin, fltBin, strBin, cpxBin, unA, convA, convB, convO, pickV, resL, oneA, indexA, indexS, isQuiet, loadA, loadC, storeA, fieldA, partA, sliceA, boundA, buildA, placeA, setAll, appendA, readSl, newEl, AV.cells, AV.solid, AV.one, kill, killM, killL, notInt, Int.reduceToNat, cond_true, cond_false, ↓reduceIte, reduceCtorEq, Nat.reduceLT, Nat.reduceLeDiff, Nat.reduceMul, Nat.reduceEqDiff, exists_eq', putF, implies_true, exists_true_left, tys0, tys1, tys2, und0, und1, und2, md3, Try.ntmps3, Try.results3, en]
  · have hi' : i < K * M := by have := of_decide_eq_true h; omega
    refine call_ret (at10_call cd hc l1 i 8 (by omega) (by omega) (by omega) (by omega)) rfl rfl ?_
    have R := at10_low (l := cd) (k := i) (n := 8) (by omega)
    have e3 : IntKind.i64.wrap (1 + at10 cd i 8) = 1 + at10 cd i 8 := w64 (by omega) (by omega)
    have wl := wL_len cd i
    have al : (aL K i).length = i := by simp [aL]
    have bl : (bL K i).length = i := by simp [bL]
    have ml1 := amL_len (wL cd (K * M)) (aL K (K * M)) K i
    have ml2 := amL_len (wL cd (K * M)) (bL K (K * M)) M i
    simp only [q0, q1, q2, q3, q4, q5, q6, q7, q8, q9, zq0, zq1, zq2, zq3, zq4, guardSlot, quietA, nilC, nilA, quietB, St.ev, St.put, St.after, Nat.reduceAdd, Nat.reduceSub, ofV, ofL, lenA, binA, intBin, fltBin, strBin, cpxBin, unA, convA, convB, convO, pickV, resL, oneA, indexA, indexS, isQuiet, loadA, loadC, storeA, fieldA, partA, sliceA, boundA, buildA, placeA, setAll, appendA, readSl, newEl, AV.cells, AV.solid, AV.one, kill, killM, killL, notInt, Int.reduceToNat, cond_true, cond_false, ↓reduceIte, reduceCtorEq, Nat.reduceLT, Nat.reduceLeDiff, Nat.reduceMul, Nat.reduceEqDiff, exists_eq', putF, implies_true, exists_true_left, tys0, tys1, tys2, und0, und1, und2, md3, Try.ntmps3, Try.results3, e3, fltB, intB, flts_len, ints_len, wl, al, bl, ml1, ml2, allW_int, fits, List.isEmpty_cons, brk_false, Nat.reduceMul]
    have md : i % K < K := Nat.mod_lt _ (by omega)
    have dv : i / K < M := Nat.div_lt_of_lt_mul hi'
    have cw : canon .f32 1073741824 = 1073741824 := by decide +kernel
    have ew : fdiv .f32 (canon .f32 (FloatKind.nearest .f32 (1 + at10 cd (i : Int) 8))) 1073741824 = wF cd i := rfl
    have g1 : i % K < (amL (wL cd (K * M)) (aL K (K * M)) K i).length := by omega
    have g2 : i / K < (amL (wL cd (K * M)) (bL K (K * M)) M i).length := by omega
    have s1 := amL_step (aL_get K (K * M) i hi') g1
    have s2 := amL_step (bL_get K (K * M) i hi') g2
    rw [wL_get cd _ i hi'] at s1 s2
    have aw : AllW 1 [AV.flt .f32 (wF cd i)] := by intro a ha; rw [List.mem_singleton.1 ha]; exact ⟨rfl, rfl⟩
    have as1 := aL_succ K i
    have bs1 := bL_succ K i
    simp only [mod_nat, div_nat, cw, ew]
    have n1 : (0 : Int) ≤ ((i % K : Nat) : Int) := Int.natCast_nonneg _
    have n3 : (0 : Int) ≤ ((i / K : Nat) : Int) := Int.natCast_nonneg _
    have t1 : ((i % K : Nat) : Int) < (K : Int) := by exact_mod_cast md
    have t2 : ((i / K : Nat) : Int) < (M : Int) := by exact_mod_cast dv
    have k0 : (K : Int) ≠ 0 := by omega
    have w1 : IntKind.i64.wrap ((i / K : Nat) : Int) = ((i / K : Nat) : Int) := w64 (by omega) (by omega)
    simp only [w1, Int.toNat_natCast]
    refine ⟨aw, by omega, k0, by omega, k0, by omega, k0, n1, t1, md, n1, t1, md, k0, n3, t2, dv, n3, t2, dv, ⟨i + 1, by omega⟩, by show K * M - (i + 1) < K * M - i; omega, ?_⟩
    simp only [set_flts, s1, s2, wL_succ, as1, bs1]
    exact weak_drop (by simp) (by simp [DropHp, ints_below, flts_below, w64_succ i (by omega), fltB, intB, allBelow_cons, allBelow_nil, below, belowM, belowL]) (by simp [DropTm, DropV, below, belowM, belowL, w64_succ i (by omega), fltB, intB, allBelow_cons, allBelow_nil, below, belowM, belowL])
  · have hi' : i = K * M := by have := of_decide_eq_false h; omega
    subst hi'
    refine hZ _ ?_
    clear hZ; clear Z
    refine lp_weak ?_ tl
    exact weak_drop (by simp) (by simp [DropHp, ints_below, flts_below, fltB, intB, allBelow_cons, allBelow_nil, below, belowM, belowL]) (by simp [DropTm, DropV, below, belowM, belowL, fltB, intB, allBelow_cons, allBelow_nil, below, belowM, belowL])
end Go.Proofs.Ytmgfghcmmbdcgaa
