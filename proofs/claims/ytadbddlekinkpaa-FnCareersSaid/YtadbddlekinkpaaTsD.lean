/- Tenths, curves and shares of incomes, in the program and in the reference. -/
import Derived.Test.YtadbddlekinkpaaTsC
set_option maxRecDepth 10000
set_option maxHeartbeats 2000000
set_option linter.unusedSimpArgs false
set_option linter.unusedVariables false
namespace Go.Proofs.Ytadbddlekinkpaa
open Go Go.Abs

def sumI (l : List Int) : Int := l.foldl (· + ·) 0
theorem sumI_snoc (l : List Int) (x : Int) : sumI (l ++ [x]) = sumI l + x := by simp [sumI]
theorem foldl_add (l : List Int) : ∀ a : Int, l.foldl (· + ·) a = a + sumI l := by
  induction l with
  | nil => intro a; simp [sumI]
  | cons x l ih => intro a; rw [List.foldl_cons, ih, show sumI (x :: l) = x + sumI l from by rw [sumI, List.foldl_cons, Int.zero_add, ih]]; omega
theorem sumI_cons (x : Int) (l : List Int) : sumI (x :: l) = x + sumI l := by rw [sumI, List.foldl_cons, Int.zero_add, foldl_add]
theorem sumI_take (l : List Int) (i : Nat) (h : i < l.length) : sumI (l.take (i + 1)) = sumI (l.take i) + l[i] := by
  rw [take_snoc _ _ h, sumI_snoc]
def Inc (l : List Int) : Prop := ∀ x ∈ l, 0 ≤ x ∧ x ≤ 1000000000
theorem Inc.sum {l : List Int} (h : Inc l) : 0 ≤ sumI l ∧ sumI l ≤ 1000000000 * l.length := by
  induction l with
  | nil => simp [sumI]
  | cons x l ih =>
    have h1 := h x (by simp)
    have h2 := ih fun y hy => h y (by simp [hy])
    rw [sumI_cons, List.length_cons]
    omega
theorem Inc.take {l : List Int} (h : Inc l) (i : Nat) : Inc (l.take i) := fun x hx => h x (List.mem_of_mem_take hx)
theorem Inc.drop {l : List Int} (h : Inc l) (i : Nat) : Inc (l.drop i) := fun x hx => h x (List.mem_of_mem_drop hx)
theorem sort_perm (xs : List Int) : (sortI xs).Perm xs := List.mergeSort_perm xs _
theorem inc_sort {xs : List Int} (h : Inc xs) : Inc (sortI xs) := fun x hx => h x ((sort_perm xs).mem_iff.1 hx)
theorem sum_at {l : List Int} (h : Inc l) (hl : l.length ≤ 64) (i : Nat) (hi : i < l.length) : IntKind.i64.wrap (sumI (l.take i) + l[i]) = sumI (l.take i) + l[i] := by
  have h1 := (h.take i).sum
  have h2 := h l[i] (List.getElem_mem hi)
  have h3 : (l.take i).length ≤ 64 := by simp; omega
  exact w64 (by omega) (by omega)
theorem total_call (xs : List Int) (hi : Inc xs) (hl : xs.length ≤ 64) : CallA Try.prog 27 [.ro (ints xs)] [] (Ret (.int .i64 (sumI xs)) []) := by
  refine CallP.out (t := .mk) (go_in (md := md27) mixed Try.func27 rfl go27 (by kernel_rfl) ?_)
  simp only [q0, q1, q2, q3, q4, q5, q6, q7, q8, q9, zq0, zq1, zq2, zq3, guardSlot, quietA, nilC, nilA, quietB, St.ev, St.put, St.after, Nat.reduceAdd, Nat.reduceSub, List.replicate_succ, ofV, ofL, lenA, binA, intBin, fltBin, strBin, cpxBin, unA, convA, convB, convO, pickV, resL, oneA, indexA, indexS, isQuiet, loadA, loadC, storeA, fieldA, partA, sliceA, boundA, buildA, placeA, setAll, appendA, readSl, newEl, AV.cells, AV.solid, AV.one, kill, killM, killL, notInt, Int.reduceToNat, cond_true, cond_false, ↓reduceIte, reduceCtorEq, Nat.reduceLT, Nat.reduceLeDiff, Nat.reduceMul, Nat.reduceEqDiff, exists_eq', putF, implies_true, exists_true_left, tys0, tys1, tys2, tys3, und0, und1, und2, md27, Try.ntmps27, Try.results27]
  refine go_round (md := md27) mixed (by kernel_rfl) (fun i : {i : Nat // i ≤ xs.length} => ⟨[.any, .any, .any, .int .i64 (sumI (xs.take i.1)), .any, .any, .ro (ints xs), .int .i64 xs.length, .int .i64 i.1, .any, .any, .any, .any, .any, .any, .any, .any], []⟩) (fun i => xs.length - i.1) ⟨0, by simp⟩ ?_ ?_
  · exact weak_drop (by simp) (by simp [DropHp, ints_below, flts_below, sumI]) (by simp [DropTm, DropV, below, belowM, belowL, sumI])
  · intro ⟨i, hi⟩
    simp only [q0, q1, q2, q3, q4, q5, q6, q7, q8, q9, zq0, zq1, zq2, zq3, guardSlot, quietA, nilC, nilA, quietB, St.ev, St.put, St.after, Nat.reduceAdd, Nat.reduceSub, List.replicate_succ, ofV, ofL, lenA, binA, intBin, fltBin, strBin, cpxBin, unA, convA, convB, convO, pickV, resL, oneA, indexA, indexS, isQuiet, loadA, loadC, storeA, fieldA, partA, sliceA, boundA, buildA, placeA, setAll, appendA, readSl, newEl, AV.cells, AV.solid, AV.one, kill, killM, killL, notInt, Int.reduceToNat, cond_true, cond_false, ↓reduceIte, reduceCtorEq, Nat.reduceLT, Nat.reduceLeDiff, Nat.reduceMul, Nat.reduceEqDiff, exists_eq', putF, implies_true, exists_true_left, tys0, tys1, tys2, tys3, und0, und1, und2, md27, Try.ntmps27, Try.results27]
    refine br_intro (fun h => ?_) (fun h => ?_) <;> simp only [q0, q1, q2, q3, q4, q5, q6, q7, q8, q9, zq0, zq1, zq2, zq3, guardSlot, quietA, nilC, nilA, quietB, St.ev, St.put, St.after, Nat.reduceAdd, Nat.reduceSub, List.replicate_succ, ofV, ofL, lenA, binA, intBin, fltBin, strBin, cpxBin, unA, convA, convB, convO, pickV, resL, oneA, indexA, indexS, isQuiet, loadA, loadC, storeA, fieldA, partA, sliceA, boundA, buildA, placeA, setAll, appendA, readSl, newEl, AV.cells, AV.solid, AV.one, kill, killM, killL, notInt, Int.reduceToNat, cond_true, cond_false, ↓reduceIte, reduceCtorEq, Nat.reduceLT, Nat.reduceLeDiff, Nat.reduceMul, Nat.reduceEqDiff, exists_eq', putF, implies_true, exists_true_left, tys0, tys1, tys2, tys3, und0, und1, und2, md27, Try.ntmps27, Try.results27]
    · have hi' : i < xs.length := by simpa using h
      repeat (refine ⟨?_, ?_⟩; focus first | omega | (simp only [List.length_set, ints_len, flts_len, List.length_map, List.length_append, List.length_cons, List.length_nil]; omega))
      refine ⟨⟨i + 1, by omega⟩, by show xs.length - (i + 1) < _; omega, ?_⟩
      exact weak_drop (by simp) (by simp [DropHp, ints_below, flts_below, w64_succ i (by omega), sumI_take xs i hi', sum_at (by assumption) hl i hi']) (by simp [DropTm, DropV, below, belowM, belowL, w64_succ i (by omega), sumI_take xs i hi', sum_at (by assumption) hl i hi'])
    · have hi' : i = xs.length := by simp at h; omega
      subst hi'
      rw [List.take_length]
      exact PostR.ret
end Go.Proofs.Ytadbddlekinkpaa
