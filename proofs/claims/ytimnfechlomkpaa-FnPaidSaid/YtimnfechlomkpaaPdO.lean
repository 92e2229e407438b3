/- The law FnPaid: sums, and what is told as lists. -/
import Derived.Test.YtimnfechlomkpaaPdN
set_option maxRecDepth 10000
set_option maxHeartbeats 16000000
set_option linter.unusedSimpArgs false
set_option linter.unusedVariables false
namespace Go.Proofs.Ytimnfechlomkpaa
open Go Go.Abs

theorem sum_bound {xs : List Int} (h : ∀ x ∈ xs, -100000 ≤ x ∧ x ≤ 100000) : -100000 * (xs.length : Int) ≤ sumI xs ∧ sumI xs ≤ 100000 * (xs.length : Int) := by
  induction xs with
  | nil => exact ⟨by show (_ : Int) ≤ 0; simp, by show (0 : Int) ≤ _; simp⟩
  | cons x xs ih =>
    have a := h x (by simp)
    have b := ih fun y hy => h y (by simp [hy])
    show _ ≤ x + sumI xs ∧ x + sumI xs ≤ _
    rw [List.length_cons]
    omega
theorem b10Sum_call (xs : List Int) (hm : xs.length ≤ 1000) (h : ∀ x ∈ xs, -100000 ≤ x ∧ x ≤ 100000) : CallA Try.prog 11 [.ro (ints xs)] [] (Ret (.int .i64 (sumI xs)) []) := by
  refine CallP.out (t := .mk) (go_in (md := md11) mixed Try.func11 rfl go11 (by kernel_rfl) ?_)
  simp only [q0, q1, q2, q3, q4, q5, q6, q7, q8, q9, zq0, zq1, zq2, zq3, zq4, guardSlot, quietA, nilC, nilA, quietB, St.ev, St.put, St.after, Nat.reduceAdd, Nat.reduceSub, ofV, ofL, lenA, binA, intBin, fltBin, strBin, cpxBin, unA, convA, convB, convO, pickV, resL, oneA, indexA, indexS, isQuiet, loadA, loadC, storeA, fieldA, partA, sliceA, boundA, buildA, placeA, setAll, appendA, readSl, newEl, AV.cells, AV.solid, AV.one, kill, killM, killL, notInt, Int.reduceToNat, cond_true, cond_false, ↓reduceIte, reduceCtorEq, Nat.reduceLT, Nat.reduceLeDiff, Nat.reduceMul, Nat.reduceEqDiff, exists_eq', putF, implies_true, exists_true_left, tys0, tys1, tys2, tys3, und0, und1, und2, md11, Try.ntmps11, Try.results11]
  refine go_round (md := md11) mixed (by kernel_rfl) (fun i : {i : Nat // i ≤ xs.length} => ⟨[.ro (ints xs), .any, .any, .int .i64 (sumI (xs.take i.1)), .any, .any, .int .i64 xs.length, .int .i64 i.1, .any, .any, .any, .any, .any, .any, .any, .any, .any, .any], []⟩) (fun i => xs.length - i.1) ⟨0, by omega⟩ ?_ ?_
  · exact weak_drop (by simp) (by simp [DropHp, ints_below, flts_below, sumI]) (by simp [DropTm, DropV, below, belowM, belowL, sumI])
  rintro ⟨i, hi⟩
  simp only [q0, q1, q2, q3, q4, q5, q6, q7, q8, q9, zq0, zq1, zq2, zq3, zq4, guardSlot, quietA, nilC, nilA, quietB, St.ev, St.put, St.after, Nat.reduceAdd, Nat.reduceSub, ofV, ofL, lenA, binA, intBin, fltBin, strBin, cpxBin, unA, convA, convB, convO, pickV, resL, oneA, indexA, indexS, isQuiet, loadA, loadC, storeA, fieldA, partA, sliceA, boundA, buildA, placeA, setAll, appendA, readSl, newEl, AV.cells, AV.solid, AV.one, kill, killM, killL, notInt, Int.reduceToNat, cond_true, cond_false, ↓reduceIte, reduceCtorEq, Nat.reduceLT, Nat.reduceLeDiff, Nat.reduceMul, Nat.reduceEqDiff, exists_eq', putF, implies_true, exists_true_left, tys0, tys1, tys2, tys3, und0, und1, und2, md11, Try.ntmps11, Try.results11]
  refine br_intro (fun g => ?_) (fun g => ?_) <;> simp only [q0, q1, q2, q3, q4, q5, q6, q7, q8, q9, zq0, zq1, zq2, zq3, zq4, guardSlot, quietA, nilC, nilA, quietB, St.ev, St.put, St.after, Nat.reduceAdd, Nat.reduceSub, ofV, ofL, lenA, binA, intBin, fltBin, strBin, cpxBin, unA, convA, convB, convO, pickV, resL, oneA, indexA, indexS, isQuiet, loadA, loadC, storeA, fieldA, partA, sliceA, boundA, buildA, placeA, setAll, appendA, readSl, newEl, AV.cells, AV.solid, AV.one, kill, killM, killL, notInt, Int.reduceToNat, cond_true, cond_false, ↓reduceIte, reduceCtorEq, Nat.reduceLT, Nat.reduceLeDiff, Nat.reduceMul, Nat.reduceEqDiff, exists_eq', putF, implies_true, exists_true_left, tys0, tys1, tys2, tys3, und0, und1, und2, md11, Try.ntmps11, Try.results11]
  · have hi' : i < xs.length := by have := of_decide_eq_true g; omega
    have s1 := sum_bound (xs := xs.take i) fun a ha => h a (List.mem_of_mem_take ha)
    have s2 := h xs[i] (List.getElem_mem hi')
    have s3 : (xs.take i).length = i := by simp; omega
    rw [s3] at s1
    have e1 : IntKind.i64.wrap (sumI (xs.take i) + xs[i]) = sumI (xs.take (i + 1)) := by rw [sumI_take xs i hi']; exact w64 (by omega) (by omega)
    refine ⟨hi', ⟨i + 1, by omega⟩, by show xs.length - (i + 1) < _; omega, ?_⟩
    rw [e1]
    exact weak_drop (by simp) (by simp [DropHp, ints_below, flts_below, w64_succ i (by omega)]) (by simp [DropTm, DropV, below, belowM, belowL, w64_succ i (by omega)])
  · have hi' : i = xs.length := by have := of_decide_eq_false g; omega
    subst hi'
    rw [List.take_length]
    exact PostR.pure ⟨rfl, rfl⟩ rfl
theorem frz_two (W V : List Int) {n m : Nat} (h : W.length = n) (k : V.length = m) : view 3 [intB W, intB V] (.tup [.sl 0 0 n, .sl 1 0 m, .bool true]) = .tup [.ro (ints W), .ro (ints V), .bool true] := by
  have h1 : view 2 [intB W, intB V] (.sl 0 0 n) = .ro (ints W) := view_in rfl h
  have h2 : view 2 [intB W, intB V] (.sl 1 0 m) = .ro (ints V) := view_in rfl k
  have h3 : view 2 [intB W, intB V] (.bool true) = .bool true := view_bool _ _ _
  show AV.tup [view 2 [intB W, intB V] (.sl 0 0 n), view 2 [intB W, intB V] (.sl 1 0 m), view 2 [intB W, intB V] (.bool true)] = _
  rw [h1, h2, h3]
def carO (X : List Int) (b o : Nat) : GL := rowsC X.length b o X.length (car0 X)
theorem carO_ok (X : List Int) (b o : Nat) : Car X (carO X b o) := (car0_ok X).rows b o X.length (Nat.le_refl _)
theorem implCarry_ro {X : List Int} (h1 : 1 ≤ X.length) (h8 : X.length ≤ 8) (hX : ∀ j, -1000 ≤ X.getD j 0 ∧ X.getD j 0 ≤ 1000) (b o : Nat) (hb : b ≤ 3) (ho : o ≤ 24) :
    CallA Try.prog 12 [.ro (ints X), .int .i64 (b : Int), .int .i64 (o : Int)] [] (Ret (.tup [.ro (ints (carO X b o).1), .ro (ints (carO X b o).2), .bool true]) []) :=
  (implCarry_call h1 h8 hX b o hb ho).frozen 3 (frz_two _ _ (carO_ok X b o).g (carO_ok X b o).l)
theorem specCarry_ro {X : List Int} (h1 : 1 ≤ X.length) (h8 : X.length ≤ 8) (hX : ∀ j, -1000 ≤ X.getD j 0 ∧ X.getD j 0 ≤ 1000) (b o : Nat) (hb : b ≤ 3) (ho : o ≤ 24) :
    CallA Try.prog 13 [.ro (ints X), .int .i64 (b : Int), .int .i64 (o : Int)] [] (Ret (.tup [.ro (ints (carO X b o).1), .ro (ints (carO X b o).2), .bool true]) []) :=
  (specCarry_call h1 h8 hX b o hb ho).frozen 3 (frz_two _ _ (carO_ok X b o).g (carO_ok X b o).l)
theorem implMatch_ro {A B : List Int} (SA : Sms A) (SB : Sms B) (hB : 1 ≤ B.length) :
    CallA Try.prog 14 [.ro (ints A), .ro (ints B)] [] (Ret (.tup [.ro (ints (resM A B).1), .ro (ints (resM A B).2), .bool true]) []) :=
  (implMatch_call SA SB hB).frozen 3 (frz_two _ _ rfl rfl)
theorem specMatch_ro {A B : List Int} (SA : Sms A) (SB : Sms B) (hB : 1 ≤ B.length) :
    CallA Try.prog 15 [.ro (ints A), .ro (ints B)] [] (Ret (.tup [.ro (ints (resM A B).1), .ro (ints (resM A B).2), .bool true]) []) :=
  (specMatch_call SA SB hB).frozen 3 (frz_two _ _ rfl rfl)
theorem frzTm_in {new : List Blk} {b n : Nat} {xs : List Int} {l l2 : List AV} (hb : new[b]? = some (intB xs)) (hn : xs.length = n) (h : FrzTm new 0 l l2) : FrzTm new 0 (.sl b 0 n :: l) (.ro (ints xs) :: l2) := by
  have hlt : b < new.length := (List.getElem?_eq_some_iff.1 hb).1
  refine ⟨.inl (.inr (.inr ⟨2, 1, .sl b 0 n, by simp [ren, renM, renL], by simp [below, belowM, belowL, hlt], ?_⟩)), h⟩
  rw [view_in hb hn]
  show _ = AV.ro ((ints xs).map (nilD 0))
  rw [nilD_zero]

def mA (cd : List Int) (i : Nat) : List Int := rngL (fun j => at10 cd (10 + (j : Int)) 5 - 2) i
def mB (m : List Int) (i : Nat) : List Int := rngL (fun j => at10 m (6 + (j : Int)) 5 - 2) i
theorem mA_ok (cd : List Int) : Sms (mA cd 6) := ⟨by simp [mA, rngL_len], fun x hx => by
  obtain ⟨j, hj, rfl⟩ := List.mem_map.1 hx
  have a := at10_low (l := cd) (k := 10 + (j : Int)) (n := 5) (by decide)
  show -1000 ≤ at10 cd (10 + (j : Int)) 5 - 2 ∧ at10 cd (10 + (j : Int)) 5 - 2 ≤ 1000
  omega⟩
theorem mB_ok (cd : List Int) : Sms (mB cd 6) := ⟨by simp [mB, rngL_len], fun x hx => by
  obtain ⟨j, hj, rfl⟩ := List.mem_map.1 hx
  have a := at10_low (l := cd) (k := 6 + (j : Int)) (n := 5) (by decide)
  show -1000 ≤ at10 cd (6 + (j : Int)) 5 - 2 ∧ at10 cd (6 + (j : Int)) 5 - 2 ≤ 1000
  omega⟩
def T20 (A B : List Int) : Prop := Lp Try.prog 0 (sndC (sndC (sndC (sndC (sndC (sndC (sndC (sndC (sndC (sndC (sndC (sndC (sndC (sndC (sndC (sndC (sndC (sndC (sndC (sndC (Try.f3.body.getD .skip))))))))))))))))))))) (retQ Try.prog Try.f3 0 (Ret (.bool true) [])) .mk
  ⟨[.any, .any, .any, .any, .any, .any, .any, .any, .any, .any, .any, .any, .any, .any, .any, .any, .any, .any, .any, .any, .any, .any, .any, .any, .any, .ro (ints A), .ro (ints B), .any, .any, .any, .any, .any, .any, .any, .any, .any, .any, .any, .any, .any, .any, .any, .any, .any, .any, .any, .any, .any, .any, .any, .any, .any, .any, .any, .any, .any, .any, .any, .any, .any, .any, .any, .any, .any, .any, .any, .any, .any, .any, .any, .any, .any, .any, .any, .any, .any, .any, .any, .any, .any, .any, .any, .any, .any, .any, .any, .any, .any, .any, .any, .any, .any, .any, .any, .any, .any, .any, .any, .any, .any, .any, .any, .any, .any, .any, .any, .any, .any, .any, .any, .any, .any, .any, .any, .any, .any, .any, .any, .any, .any, .any, .any, .any, .any, .any, .any, .any, .any, .any, .any, .any, .any, .any, .any, .any, .any, .any, .any, .any, .any, .any, .any, .any, .any, .any, .any, .any, .any, .any, .any, .any, .any, .any, .any, .any, .any, .any, .any, .any, .any, .any, .any, .any, .any, .any, .any, .any, .any, .any, .any, .any, .any, .any, .any, .any, .any, .any, .any, .any, .any, .any, .any, .any, .any, .any, .any, .any, .any, .any, .any, .any, .any, .any, .any, .any, .any, .any, .any, .any, .any, .any, .any, .any, .any, .any, .any, .any, .any, .any, .any, .any, .any, .any, .any, .any, .any, .any, .any, .any, .any, .any, .any, .any, .any, .any, .any, .any, .any, .any, .any, .any, .any, .any, .any, .any, .any, .any, .any, .any, .any, .any, .any, .any, .any, .any, .any, .any, .any, .any, .any, .any, .any, .any, .any, .any, .any, .any, .any, .any, .any, .any, .any, .any, .any, .any, .any, .any, .any, .any, .any, .any, .any, .any, .any, .any, .any, .any, .any, .any, .any, .any, .any, .any, .any, .any, .any, .any, .any, .any, .any, .any, .any, .any, .any, .any, .any, .any, .any, .any, .any, .any, .any, .any, .any, .any, .any, .any, .any, .any, .any, .any, .any, .any, .any, .any, .any, .any, .any, .any, .any, .any, .any], []⟩
theorem match_bal {A B : List Int} : (resM A B).1.length + B.length = (resM A B).2.length + A.length := by
  have cnt : ∀ (u : List Bool) (k : Nat), k ≤ u.length → (twoM u k).length + (u.take k).count true = k := by
    intro u k
    induction k with
    | zero => intro _; simp [twoM]
    | succ k ih =>
      intro hk
      have e := ih (by omega)
      have hu : k < u.length := by omega
      rw [List.take_add_one, List.getElem?_eq_getElem hu, List.count_append]
      unfold twoM
      rw [getDb u k hu]
      cases u[k] <;> simp <;> omega
  have key : ∀ i, (mst A B i).2.length + (mst A B i).1.count true = i := by
    intro i
    induction i with
    | zero => simp [mst, List.count_replicate]
    | succ i ih =>
      obtain ⟨ml, ol⟩ := mst_len A B i
      unfold mst stepM1
      cases hf : fstM B (mst A B i).1 (A.getD i 0) B.length with
      | none => simp only; rw [List.length_append]; simp; omega
      | some r =>
        simp only
        have hr := fstM_low B.length hf
        have hfree : ∀ n, fstM B (mst A B i).1 (A.getD i 0) n = some r → (mst A B i).1.getD r false = false := by
          intro n
          induction n with
          | zero => intro h; simp [fstM] at h
          | succ n ih2 =>
            intro h
            unfold fstM at h
            cases hn : fstM B (mst A B i).1 (A.getD i 0) n with
            | some q => rw [hn] at h; simp only [Option.some.injEq] at h; subst h; exact ih2 hn
            | none =>
              rw [hn] at h
              simp only at h
              split at h
              · rename_i hc
                simp only [Option.some.injEq] at h
                subst h
                exact hc.2
              · cases h
        have hb := hfree _ hf
        have hu : r < (mst A B i).1.length := by omega
        rw [getDb _ r hu] at hb
        rw [List.count_set (h := hu), hb]
        simp
        omega
  have k1 := key A.length
  have ml := (mst_len A B A.length).1
  have k2 := cnt (mst A B A.length).1 B.length (by omega)
  rw [List.take_of_length_le (by omega)] at k2
  unfold resM
  simp only
  omega
theorem t20 {A B : List Int} (SA : Sms A) (SB : Sms B) (hA : A.length = 6) (hB : B.length = 6) : T20 A B := by
  have bal := match_bal (A := A) (B := B)
  have hl : (resM A B).1.length = (resM A B).2.length := by omega
  have sf := resM_self A
  have ms := implMatch_ro SA SA (by omega)
  rw [sf] at ms
  have l1 : (resM A B).1.length ≤ 1000 := by have := (mst_len A B A.length).2; show (mst A B A.length).2.length ≤ 1000; omega
  refine lp_seq (md := md3) mixed (by kernel_rfl) (fun Z hZ => ?_); simp only [q0, q1, q2, q3, q4, q5, q6, q7, q8, q9, zq0, zq1, zq2, zq3, zq4, guardSlot, quietA, nilC, nilA, quietB, St.ev, St.put, St.after, Nat.reduceAdd, Nat.reduceSub, ofV, ofL, lenA, binA, intBin, fltBin, strBin, cpxBin, unA, convA, convB, convO, pickV, resL, oneA, indexA, indexS, isQuiet, loadA, loadC, storeA, fieldA, partA, sliceA, boundA, buildA, placeA, setAll, appendA, readSl, newEl, AV.cells, AV.solid, AV.one, kill, killM, killL, notInt, Int.reduceToNat, cond_true, cond_false, ↓reduceIte, reduceCtorEq, Nat.reduceLT, Nat.reduceLeDiff, Nat.reduceMul, Nat.reduceEqDiff, exists_eq', putF, implies_true, exists_true_left, tys0, tys1, tys2, tys3, und0, und1, und2, md3, Try.ntmps3, Try.results3]
  refine call_ret (implMatch_ro SA SB (by omega)) rfl rfl ?_
  simp only [q0, q1, q2, q3, q4, q5, q6, q7, q8, q9, zq0, zq1, zq2, zq3, zq4, guardSlot, quietA, nilC, nilA, quietB, St.ev, St.put, St.after, Nat.reduceAdd, Nat.reduceSub, ofV, ofL, lenA, binA, intBin, fltBin, strBin, cpxBin, unA, convA, convB, convO, pickV, resL, oneA, indexA, indexS, isQuiet, loadA, loadC, storeA, fieldA, partA, sliceA, boundA, buildA, placeA, setAll, appendA, readSl, newEl, AV.cells, AV.solid, AV.one, kill, killM, killL, notInt, Int.reduceToNat, cond_true, cond_false, ↓reduceIte, reduceCtorEq, Nat.reduceLT, Nat.reduceLeDiff, Nat.reduceMul, Nat.reduceEqDiff, exists_eq', putF, implies_true, exists_true_left, tys0, tys1, tys2, tys3, und0, und1, und2, md3, Try.ntmps3, Try.results3]
  refine hZ _ ?_; clear hZ; clear Z; refine lp_seq (md := md3) mixed (by kernel_rfl) (fun Z hZ => ?_); simp only [q0, q1, q2, q3, q4, q5, q6, q7, q8, q9, zq0, zq1, zq2, zq3, zq4, guardSlot, quietA, nilC, nilA, quietB, St.ev, St.put, St.after, Nat.reduceAdd, Nat.reduceSub, ofV, ofL, lenA, binA, intBin, fltBin, strBin, cpxBin, unA, convA, convB, convO, pickV, resL, oneA, indexA, indexS, isQuiet, loadA, loadC, storeA, fieldA, partA, sliceA, boundA, buildA, placeA, setAll, appendA, readSl, newEl, AV.cells, AV.solid, AV.one, kill, killM, killL, notInt, Int.reduceToNat, cond_true, cond_false, ↓reduceIte, reduceCtorEq, Nat.reduceLT, Nat.reduceLeDiff, Nat.reduceMul, Nat.reduceEqDiff, exists_eq', putF, implies_true, exists_true_left, tys0, tys1, tys2, tys3, und0, und1, und2, md3, Try.ntmps3, Try.results3]
  refine call_ret (specMatch_ro SA SB (by omega)) rfl rfl ?_
  simp only [q0, q1, q2, q3, q4, q5, q6, q7, q8, q9, zq0, zq1, zq2, zq3, zq4, guardSlot, quietA, nilC, nilA, quietB, St.ev, St.put, St.after, Nat.reduceAdd, Nat.reduceSub, ofV, ofL, lenA, binA, intBin, fltBin, strBin, cpxBin, unA, convA, convB, convO, pickV, resL, oneA, indexA, indexS, isQuiet, loadA, loadC, storeA, fieldA, partA, sliceA, boundA, buildA, placeA, setAll, appendA, readSl, newEl, AV.cells, AV.solid, AV.one, kill, killM, killL, notInt, Int.reduceToNat, cond_true, cond_false, ↓reduceIte, reduceCtorEq, Nat.reduceLT, Nat.reduceLeDiff, Nat.reduceMul, Nat.reduceEqDiff, exists_eq', putF, implies_true, exists_true_left, tys0, tys1, tys2, tys3, und0, und1, und2, md3, Try.ntmps3, Try.results3]
  refine hZ _ ?_; clear hZ; clear Z; refine lp_seq (md := md3) mixed (by kernel_rfl) (fun Z hZ => ?_); simp only [q0, q1, q2, q3, q4, q5, q6, q7, q8, q9, zq0, zq1, zq2, zq3, zq4, guardSlot, quietA, nilC, nilA, quietB, St.ev, St.put, St.after, Nat.reduceAdd, Nat.reduceSub, ofV, ofL, lenA, binA, intBin, fltBin, strBin, cpxBin, unA, convA, convB, convO, pickV, resL, oneA, indexA, indexS, isQuiet, loadA, loadC, storeA, fieldA, partA, sliceA, boundA, buildA, placeA, setAll, appendA, readSl, newEl, AV.cells, AV.solid, AV.one, kill, killM, killL, notInt, Int.reduceToNat, cond_true, cond_false, ↓reduceIte, reduceCtorEq, Nat.reduceLT, Nat.reduceLeDiff, Nat.reduceMul, Nat.reduceEqDiff, exists_eq', putF, implies_true, exists_true_left, tys0, tys1, tys2, tys3, und0, und1, und2, md3, Try.ntmps3, Try.results3]
  refine call_ret ms rfl rfl ?_
  simp only [q0, q1, q2, q3, q4, q5, q6, q7, q8, q9, zq0, zq1, zq2, zq3, zq4, guardSlot, quietA, nilC, nilA, quietB, St.ev, St.put, St.after, Nat.reduceAdd, Nat.reduceSub, ofV, ofL, lenA, binA, intBin, fltBin, strBin, cpxBin, unA, convA, convB, convO, pickV, resL, oneA, indexA, indexS, isQuiet, loadA, loadC, storeA, fieldA, partA, sliceA, boundA, buildA, placeA, setAll, appendA, readSl, newEl, AV.cells, AV.solid, AV.one, kill, killM, killL, notInt, Int.reduceToNat, cond_true, cond_false, ↓reduceIte, reduceCtorEq, Nat.reduceLT, Nat.reduceLeDiff, Nat.reduceMul, Nat.reduceEqDiff, exists_eq', putF, implies_true, exists_true_left, tys0, tys1, tys2, tys3, und0, und1, und2, md3, Try.ntmps3, Try.results3]
  refine hZ _ ?_; clear hZ; clear Z; refine lp_whole (md := md3) mixed (by kernel_rfl) ?_; simp only [q0, q1, q2, q3, q4, q5, q6, q7, q8, q9, zq0, zq1, zq2, zq3, zq4, guardSlot, quietA, nilC, nilA, quietB, St.ev, St.put, St.after, Nat.reduceAdd, Nat.reduceSub, ofV, ofL, lenA, binA, intBin, fltBin, strBin, cpxBin, unA, convA, convB, convO, pickV, resL, oneA, indexA, indexS, isQuiet, loadA, loadC, storeA, fieldA, partA, sliceA, boundA, buildA, placeA, setAll, appendA, readSl, newEl, AV.cells, AV.solid, AV.one, kill, killM, killL, notInt, Int.reduceToNat, cond_true, cond_false, ↓reduceIte, reduceCtorEq, Nat.reduceLT, Nat.reduceLeDiff, Nat.reduceMul, Nat.reduceEqDiff, exists_eq', putF, implies_true, exists_true_left, tys0, tys1, tys2, tys3, und0, und1, und2, md3, Try.ntmps3, Try.results3, List.append_eq, List.cons_append, List.nil_append, ints_len, List.length_nil]
  refine call_ret (b10Ints_call _ (by omega)) rfl rfl ?_
  simp only [q0, q1, q2, q3, q4, q5, q6, q7, q8, q9, zq0, zq1, zq2, zq3, zq4, guardSlot, quietA, nilC, nilA, quietB, St.ev, St.put, St.after, Nat.reduceAdd, Nat.reduceSub, ofV, ofL, lenA, binA, intBin, fltBin, strBin, cpxBin, unA, convA, convB, convO, pickV, resL, oneA, indexA, indexS, isQuiet, loadA, loadC, storeA, fieldA, partA, sliceA, boundA, buildA, placeA, setAll, appendA, readSl, newEl, AV.cells, AV.solid, AV.one, kill, killM, killL, notInt, Int.reduceToNat, cond_true, cond_false, ↓reduceIte, reduceCtorEq, Nat.reduceLT, Nat.reduceLeDiff, Nat.reduceMul, Nat.reduceEqDiff, exists_eq', putF, implies_true, exists_true_left, tys0, tys1, tys2, tys3, und0, und1, und2, md3, Try.ntmps3, Try.results3, ints_len]
  refine call_ret (b10Ints_call _ (by omega)) rfl rfl ?_
  simp only [q0, q1, q2, q3, q4, q5, q6, q7, q8, q9, zq0, zq1, zq2, zq3, zq4, guardSlot, quietA, nilC, nilA, quietB, St.ev, St.put, St.after, Nat.reduceAdd, Nat.reduceSub, ofV, ofL, lenA, binA, intBin, fltBin, strBin, cpxBin, unA, convA, convB, convO, pickV, resL, oneA, indexA, indexS, isQuiet, loadA, loadC, storeA, fieldA, partA, sliceA, boundA, buildA, placeA, setAll, appendA, readSl, newEl, AV.cells, AV.solid, AV.one, kill, killM, killL, notInt, Int.reduceToNat, cond_true, cond_false, ↓reduceIte, reduceCtorEq, Nat.reduceLT, Nat.reduceLeDiff, Nat.reduceMul, Nat.reduceEqDiff, exists_eq', putF, implies_true, exists_true_left, tys0, tys1, tys2, tys3, und0, und1, und2, md3, Try.ntmps3, Try.results3, ints_len, hl, Int.reduceLT, Int.reduceLE, Int.reduceNeg, Int.reduceEq, Int.reduceGT, Int.reduceGE, decide_true, decide_false, beq_self_eq_true, bne_self_eq_false, Int.reduceBEq, Int.reduceBNe, Int.reduceAdd, Int.reduceSub]
  refine br_yes rfl ?_
  simp only [q0, q1, q2, q3, q4, q5, q6, q7, q8, q9, zq0, zq1, zq2, zq3, zq4, guardSlot, quietA, nilC, nilA, quietB, St.ev, St.put, St.after, Nat.reduceAdd, Nat.reduceSub, ofV, ofL, lenA, binA, intBin, fltBin, strBin, cpxBin, unA, convA, convB, convO, pickV, resL, oneA, indexA, indexS, isQuiet, loadA, loadC, storeA, fieldA, partA, sliceA, boundA, buildA, placeA, setAll, appendA, readSl, newEl, AV.cells, AV.solid, AV.one, kill, killM, killL, notInt, Int.reduceToNat, cond_true, cond_false, ↓reduceIte, reduceCtorEq, Nat.reduceLT, Nat.reduceLeDiff, Nat.reduceMul, Nat.reduceEqDiff, exists_eq', putF, implies_true, exists_true_left, tys0, tys1, tys2, tys3, und0, und1, und2, md3, Try.ntmps3, Try.results3, ints_len, List.length_nil]
  first | exact PostR.pure ⟨rfl, rfl⟩ rfl | (refine br_yes rfl ?_; simp only [q0, q1, q2, q3, q4, q5, q6, q7, q8, q9, zq0, zq1, zq2, zq3, zq4, guardSlot, quietA, nilC, nilA, quietB, St.ev, St.put, St.after, Nat.reduceAdd, Nat.reduceSub, ofV, ofL, lenA, binA, intBin, fltBin, strBin, cpxBin, unA, convA, convB, convO, pickV, resL, oneA, indexA, indexS, isQuiet, loadA, loadC, storeA, fieldA, partA, sliceA, boundA, buildA, placeA, setAll, appendA, readSl, newEl, AV.cells, AV.solid, AV.one, kill, killM, killL, notInt, Int.reduceToNat, cond_true, cond_false, ↓reduceIte, reduceCtorEq, Nat.reduceLT, Nat.reduceLeDiff, Nat.reduceMul, Nat.reduceEqDiff, exists_eq', putF, implies_true, exists_true_left, tys0, tys1, tys2, tys3, und0, und1, und2, md3, Try.ntmps3, Try.results3]; exact PostR.pure ⟨rfl, rfl⟩ rfl)
end Go.Proofs.Ytimnfechlomkpaa
