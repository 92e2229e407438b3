/- Lists in order: the reference's insertions make the sorted list; the program sorts by the library. -/
import Derived.Test.YtaamcphhapgofaaTsB
set_option maxRecDepth 10000
set_option maxHeartbeats 2000000
set_option linter.unusedSimpArgs false
set_option linter.unusedVariables false
namespace Go.Proofs.Ytaamcphhapgofaa
open Go Go.Abs

def swpI (l : List Int) (k : Nat) : List Int := (l.set (k + 1) (l.getD k 0)).set k (l.getD (k + 1) 0)
/-- An element is moved to its place. -/
def insP : Nat → List Int → List Int
  | 0, l => l
  | k + 1, l => if l.getD (k + 1) 0 < l.getD k 0 then insP k (swpI l k) else l
def isI (l : List Int) : Nat → List Int
  | 0 => l
  | i + 1 => insP i (isI l i)
theorem swpI_len (l : List Int) (k : Nat) : (swpI l k).length = l.length := by simp [swpI]
theorem insP_len : ∀ (k : Nat) (l : List Int), (insP k l).length = l.length
  | 0, l => rfl
  | k + 1, l => by
    unfold insP
    split
    · rw [insP_len, swpI_len]
    · rfl
theorem isI_len (l : List Int) : ∀ i, (isI l i).length = l.length
  | 0 => rfl
  | i + 1 => by rw [isI, insP_len, isI_len]
theorem insP_spec : ∀ (n : Nat) (A : List Int) (x : Int) (B : List Int), A.length = n → ∃ A1 A2, A = A1 ++ A2 ∧ insP n (A ++ x :: B) = A1 ++ x :: (A2 ++ B) ∧ (∀ a ∈ A2, x < a) ∧ ∀ y, A1.getLast? = some y → y ≤ x
  | 0, A, x, B, h => by
    have : A = [] := List.length_eq_zero_iff.1 h
    subst this
    exact ⟨[], [], rfl, rfl, by simp, by simp⟩
  | n + 1, A, x, B, h => by
    obtain ⟨A', y, rfl⟩ : ∃ A' y, A = A' ++ [y] := ⟨A.dropLast, A.getLast (by intro e; simp [e] at h), (List.dropLast_concat_getLast _).symm⟩
    have hl : A'.length = n := by simpa using h
    have g1 : (A' ++ [y] ++ x :: B).getD (n + 1) 0 = x := by simp [List.getD_eq_getElem?_getD, ← hl]
    have g0 : (A' ++ [y] ++ x :: B).getD n 0 = y := by simp [List.getD_eq_getElem?_getD, ← hl]
    unfold insP
    rw [g1, g0]
    by_cases hxy : x < y
    · rw [if_pos hxy]
      have e : swpI (A' ++ [y] ++ x :: B) n = A' ++ x :: (y :: B) := by
        unfold swpI
        rw [g1, g0]
        subst hl
        simp [List.set_append]
      rw [e]
      obtain ⟨A1, A2, h1, h2, h3, h4⟩ := insP_spec n A' x (y :: B) hl
      refine ⟨A1, A2 ++ [y], by rw [h1]; simp, by rw [h2]; simp, fun a ha => ?_, h4⟩
      rcases List.mem_append.1 ha with ha | ha
      · exact h3 a ha
      · simp at ha; subst ha; exact hxy
    · rw [if_neg hxy]
      exact ⟨A' ++ [y], [], by simp, by simp, by simp, fun z hz => by simp at hz; subst hz; omega⟩
theorem isI_spec (l : List Int) : ∀ i, i ≤ l.length → ∃ S, isI l i = S ++ l.drop i ∧ S.Perm (l.take i) ∧ S.Pairwise (· ≤ ·) ∧ S.length = i
  | 0, _ => ⟨[], by simp [isI], by simp, .nil, rfl⟩
  | i + 1, hi => by
    obtain ⟨S, h1, h2, h3, h4⟩ := isI_spec l i (by omega)
    have hd : l.drop i = l[i] :: l.drop (i + 1) := drop_at l i (by omega)
    obtain ⟨A1, A2, g1, g2, g3, g4⟩ := insP_spec i S (l[i]'(by omega)) (l.drop (i + 1)) h4
    refine ⟨A1 ++ (l[i]'(by omega)) :: A2, ?_, ?_, ?_, ?_⟩
    · rw [isI, h1, hd, g2]; simp
    · rw [take_snoc _ _ (by omega)]
      refine List.Perm.trans List.perm_middle ?_
      rw [← g1]
      exact (List.Perm.cons _ h2).trans (List.perm_append_singleton _ _).symm
    · rw [g1] at h3
      rw [List.pairwise_append] at h3 ⊢
      obtain ⟨p1, p2, p3⟩ := h3
      have le1 : ∀ a ∈ A1, a ≤ l[i]'(by omega) := by
        intro a ha
        have hne : A1 ≠ [] := by intro e; rw [e] at ha; cases ha
        have hlast := g4 _ (List.getLast?_eq_some_getLast hne)
        have : a ≤ A1.getLast hne := by
          have e := List.dropLast_concat_getLast hne
          rw [← e, List.pairwise_append] at p1
          rw [← e] at ha
          rcases List.mem_append.1 ha with h | h
          · exact p1.2.2 a h _ (by simp)
          · simp at h; omega
        omega
      refine ⟨p1, List.pairwise_cons.2 ⟨fun a ha => by have := g3 a ha; omega, p2⟩, fun a ha b hb => ?_⟩
      rcases List.mem_cons.1 hb with rfl | hb
      · exact le1 a ha
      · exact p3 a ha b hb
    · rw [g1] at h4; simp at h4 ⊢; omega
theorem isI_sort (l : List Int) : isI l l.length = sortI l := by
  obtain ⟨S, h1, h2, h3, _⟩ := isI_spec l l.length (Nat.le_refl _)
  rw [List.drop_length, List.append_nil] at h1
  rw [List.take_length] at h2
  rw [h1]
  have p1 : (sortI l).Perm l := List.mergeSort_perm l _
  have p2 : (sortI l).Pairwise fun a b => decide (a ≤ b) = true := List.pairwise_mergeSort (by simp; intro a b c h1 h2; omega) (by simp; intro a b; omega) l
  exact List.Perm.eq_of_pairwise (le := (· ≤ ·)) (fun a b _ _ h1 h2 => Int.le_antisymm h1 h2) h3 (p2.imp (by simp)) (h2.trans p1.symm)

theorem intsL_cons (x : Int) (xs : List Int) : ints (x :: xs) = .int .i64 x :: ints xs := rfl
theorem iclone_cons (x : Int) (xs : List Int) (h : (x :: xs).length ≤ 1048576) : CallA Try.prog 29 [.ro (ints (x :: xs))] [] (Ret (.sl 0 0 (x :: xs).length) [{ ty := 2, w := 1, els := ints (x :: xs) }]) := by
  refine CallP.out (t := .mk) (go_in (md := md29) mixed Try.func29 rfl go29 (by kernel_rfl) ?_)
  simp only [q0, q1, q2, q3, q4, q5, q6, q7, q8, q9, guardSlot, quietA, nilC, nilA, quietB, St.ev, St.put, St.after, List.getD_cons_succ, List.getD_cons_zero, List.length_cons, List.length_nil, Nat.reduceAdd, Nat.reduceSub, List.replicate_succ, List.replicate_zero, List.cons_append, List.nil_append, List.append_nil, List.set_cons_succ, List.set_cons_zero, ofV, ofL, lenA, binA, intBin, fltBin, strBin, cpxBin, true_and, and_true, unA, convA, pickV, List.map_cons, List.map_nil, resL, oneA, indexA, indexS, isQuiet, loadA, loadC, storeA, fieldA, partA, sliceA, boundA, buildA, placeA, setAll, appendA, readSl, newEl, Int.toNat_natCast, AV.cells, AV.solid, AV.one, Int.natCast_nonneg, exists_prop, List.getElem_cons_zero, List.getElem_cons_succ, List.getElem?_cons_zero, List.getElem?_cons_succ, Nat.zero_lt_one, Option.bind_some, Option.map_some, Option.map_none, kill, killM, killL, Bool.not_true, Bool.not_false, List.all_cons, List.all_nil, Bool.and_true, Bool.true_and, List.take_zero, List.drop_zero, List.drop_succ_cons, List.take_succ_cons, Nat.zero_add, Nat.add_zero, notInt, List.getElem?_toArray, ge_iff_le, gt_iff_lt, Nat.le_refl, Int.reduceToNat, cond_true, cond_false, ↓reduceIte, reduceCtorEq, Bool.false_eq_true, Bool.not_eq_true, Nat.reduceLT, Nat.reduceLeDiff, Nat.reduceMul, Nat.reduceEqDiff, Nat.succ_ne_self, Option.some.injEq, exists_eq', putF, List.forall_mem_cons, List.not_mem_nil, false_implies, implies_true, exists_true_left, tys0, tys1, tys2, und0, und1, und2, md29, Try.ntmps29, Try.results29, intsL_cons]
  exact ⟨ints_allW (x :: xs), by unfold fits; simp at h; omega, PostR.ret⟩
theorem iclone_ne (xs : List Int) (h0 : 1 ≤ xs.length) (h : xs.length ≤ 1048576) : CallA Try.prog 29 [.ro (ints xs)] [] (Ret (.sl 0 0 xs.length) [{ ty := 2, w := 1, els := ints xs }]) := by
  cases xs with
  | nil => simp at h0
  | cons x xs => exact iclone_cons x xs h
theorem sortL_call (xs : List Int) (h : xs.length ≤ 1048576) (e : TypeId) : CallA Try.prog 30 [.sl 0 0 xs.length] [{ ty := e, w := 1, els := ints xs }] (Ret (.tup []) [{ ty := e, w := 1, els := ints (sortI xs) }]) :=
  sort_call go30 fun blk off cap w hH hb => slices_Sort_int blk off cap xs w hH hb (by omega)

theorem sorted_call (xs : List Int) (h0 : 1 ≤ xs.length) (h : xs.length ≤ 1048576) : CallA Try.prog 19 [.ro (ints xs)] [] (Ret (.sl 0 0 (sortI xs).length) [{ ty := 2, w := 1, els := ints (sortI xs) }]) := by
  refine CallP.out (t := .mk) (go_in (md := md19) mixed Try.func19 rfl go19 (by kernel_rfl) ?_)
  simp only [q0, q1, q2, q3, q4, q5, q6, q7, q8, q9, guardSlot, quietA, nilC, nilA, quietB, St.ev, St.put, St.after, List.getD_cons_succ, List.getD_cons_zero, List.length_cons, List.length_nil, Nat.reduceAdd, Nat.reduceSub, List.replicate_succ, List.replicate_zero, List.cons_append, List.nil_append, List.append_nil, List.set_cons_succ, List.set_cons_zero, ofV, ofL, lenA, binA, intBin, fltBin, strBin, cpxBin, true_and, and_true, unA, convA, pickV, List.map_cons, List.map_nil, resL, oneA, indexA, indexS, isQuiet, loadA, loadC, storeA, fieldA, partA, sliceA, boundA, buildA, placeA, setAll, appendA, readSl, newEl, Int.toNat_natCast, AV.cells, AV.solid, AV.one, Int.natCast_nonneg, exists_prop, List.getElem_cons_zero, List.getElem_cons_succ, List.getElem?_cons_zero, List.getElem?_cons_succ, Nat.zero_lt_one, Option.bind_some, Option.map_some, Option.map_none, kill, killM, killL, Bool.not_true, Bool.not_false, List.all_cons, List.all_nil, Bool.and_true, Bool.true_and, List.take_zero, List.drop_zero, List.drop_succ_cons, List.take_succ_cons, Nat.zero_add, Nat.add_zero, notInt, List.getElem?_toArray, ge_iff_le, gt_iff_lt, Nat.le_refl, Int.reduceToNat, cond_true, cond_false, ↓reduceIte, reduceCtorEq, Bool.false_eq_true, Bool.not_eq_true, Nat.reduceLT, Nat.reduceLeDiff, Nat.reduceMul, Nat.reduceEqDiff, Nat.succ_ne_self, Option.some.injEq, exists_eq', putF, List.forall_mem_cons, List.not_mem_nil, false_implies, implies_true, exists_true_left, tys0, tys1, tys2, und0, und1, und2, md19, Try.ntmps19, Try.results19]
  refine call_new (iclone_ne xs h0 h) rfl (by simp [ints_below]) ?_
  simp only [q0, q1, q2, q3, q4, q5, q6, q7, q8, q9, guardSlot, quietA, nilC, nilA, quietB, St.ev, St.put, St.after, List.getD_cons_succ, List.getD_cons_zero, List.length_cons, List.length_nil, Nat.reduceAdd, Nat.reduceSub, List.replicate_succ, List.replicate_zero, List.cons_append, List.nil_append, List.append_nil, List.set_cons_succ, List.set_cons_zero, ofV, ofL, lenA, binA, intBin, fltBin, strBin, cpxBin, true_and, and_true, unA, convA, pickV, List.map_cons, List.map_nil, resL, oneA, indexA, indexS, isQuiet, loadA, loadC, storeA, fieldA, partA, sliceA, boundA, buildA, placeA, setAll, appendA, readSl, newEl, Int.toNat_natCast, AV.cells, AV.solid, AV.one, Int.natCast_nonneg, exists_prop, List.getElem_cons_zero, List.getElem_cons_succ, List.getElem?_cons_zero, List.getElem?_cons_succ, Nat.zero_lt_one, Option.bind_some, Option.map_some, Option.map_none, kill, killM, killL, Bool.not_true, Bool.not_false, List.all_cons, List.all_nil, Bool.and_true, Bool.true_and, List.take_zero, List.drop_zero, List.drop_succ_cons, List.take_succ_cons, Nat.zero_add, Nat.add_zero, notInt, List.getElem?_toArray, ge_iff_le, gt_iff_lt, Nat.le_refl, Int.reduceToNat, cond_true, cond_false, ↓reduceIte, reduceCtorEq, Bool.false_eq_true, Bool.not_eq_true, Nat.reduceLT, Nat.reduceLeDiff, Nat.reduceMul, Nat.reduceEqDiff, Nat.succ_ne_self, Option.some.injEq, exists_eq', putF, List.forall_mem_cons, List.not_mem_nil, false_implies, implies_true, exists_true_left, tys0, tys1, tys2, und0, und1, und2, md19, Try.ntmps19, Try.results19, ren, renM, renL]
  refine call_handed [0] (sortL_call xs h _) (by decide) ⟨⟨rfl, ints_below xs 0⟩, trivial⟩ rfl rfl rfl rfl (by simp [ints_below]) ?_
  simp only [q0, q1, q2, q3, q4, q5, q6, q7, q8, q9, guardSlot, quietA, nilC, nilA, quietB, St.ev, St.put, St.after, List.getD_cons_succ, List.getD_cons_zero, List.length_cons, List.length_nil, Nat.reduceAdd, Nat.reduceSub, List.replicate_succ, List.replicate_zero, List.cons_append, List.nil_append, List.append_nil, List.set_cons_succ, List.set_cons_zero, ofV, ofL, lenA, binA, intBin, fltBin, strBin, cpxBin, true_and, and_true, unA, convA, pickV, List.map_cons, List.map_nil, resL, oneA, indexA, indexS, isQuiet, loadA, loadC, storeA, fieldA, partA, sliceA, boundA, buildA, placeA, setAll, appendA, readSl, newEl, Int.toNat_natCast, AV.cells, AV.solid, AV.one, Int.natCast_nonneg, exists_prop, List.getElem_cons_zero, List.getElem_cons_succ, List.getElem?_cons_zero, List.getElem?_cons_succ, Nat.zero_lt_one, Option.bind_some, Option.map_some, Option.map_none, kill, killM, killL, Bool.not_true, Bool.not_false, List.all_cons, List.all_nil, Bool.and_true, Bool.true_and, List.take_zero, List.drop_zero, List.drop_succ_cons, List.take_succ_cons, Nat.zero_add, Nat.add_zero, notInt, List.getElem?_toArray, ge_iff_le, gt_iff_lt, Nat.le_refl, Int.reduceToNat, cond_true, cond_false, ↓reduceIte, reduceCtorEq, Bool.false_eq_true, Bool.not_eq_true, Nat.reduceLT, Nat.reduceLeDiff, Nat.reduceMul, Nat.reduceEqDiff, Nat.succ_ne_self, Option.some.injEq, exists_eq', putF, List.forall_mem_cons, List.not_mem_nil, false_implies, implies_true, exists_true_left, tys0, tys1, tys2, und0, und1, und2, md19, Try.ntmps19, Try.results19]
  rw [sortI_len]
  exact PostR.ret

theorem l07Sorted_call (xs : List Int) (h : xs.length ≤ 64) (h0 : 1 ≤ xs.length) : CallA Try.prog 17 [.ro (ints xs)] [] (Ret (.sl 0 0 (sortI xs).length) [{ ty := 2, w := 1, els := ints (sortI xs) }]) := by
  refine CallP.out (t := .mk) (go_in (md := md17) mixed Try.func17 rfl go17 (by kernel_rfl) ?_)
  simp only [q0, q1, q2, q3, q4, q5, q6, q7, q8, q9, guardSlot, quietA, nilC, nilA, quietB, St.ev, St.put, St.after, List.getD_cons_succ, List.getD_cons_zero, List.length_cons, List.length_nil, Nat.reduceAdd, Nat.reduceSub, List.replicate_succ, List.replicate_zero, List.cons_append, List.nil_append, List.append_nil, List.set_cons_succ, List.set_cons_zero, ofV, ofL, lenA, binA, intBin, fltBin, strBin, cpxBin, true_and, and_true, unA, convA, pickV, List.map_cons, List.map_nil, resL, oneA, indexA, indexS, isQuiet, loadA, loadC, storeA, fieldA, partA, sliceA, boundA, buildA, placeA, setAll, appendA, readSl, newEl, Int.toNat_natCast, AV.cells, AV.solid, AV.one, Int.natCast_nonneg, exists_prop, List.getElem_cons_zero, List.getElem_cons_succ, List.getElem?_cons_zero, List.getElem?_cons_succ, Nat.zero_lt_one, Option.bind_some, Option.map_some, Option.map_none, kill, killM, killL, Bool.not_true, Bool.not_false, List.all_cons, List.all_nil, Bool.and_true, Bool.true_and, List.take_zero, List.drop_zero, List.drop_succ_cons, List.take_succ_cons, Nat.zero_add, Nat.add_zero, notInt, List.getElem?_toArray, ge_iff_le, gt_iff_lt, Nat.le_refl, Int.reduceToNat, cond_true, cond_false, ↓reduceIte, reduceCtorEq, Bool.false_eq_true, Bool.not_eq_true, Nat.reduceLT, Nat.reduceLeDiff, Nat.reduceMul, Nat.reduceEqDiff, Nat.succ_ne_self, Option.some.injEq, exists_eq', putF, List.forall_mem_cons, List.not_mem_nil, false_implies, implies_true, exists_true_left, tys0, tys1, tys2, und0, und1, und2, md17, Try.ntmps17, Try.results17]
  refine ⟨ints_allW xs, by unfold fits; omega, ?_⟩
  refine go_round (md := md17) mixed (by kernel_rfl) (fun i : {i : Nat // i ≤ xs.length} => ⟨[.any, .any, .any, .sl 0 0 xs.length, .any, .any, .any, .any, .any, .any, .any, .int .i64 xs.length, .int .i64 i.1, .any, .any, .any, .any, .any, .any, .any, .any, .any, .any, .any, .any, .any, .any, .any, .any, .any, .any, .any, .any, .any, .any, .any, .any, .any, .any, .any, .any, .any, .any, .any, .any, .any, .any, .any, .any, .any, .any], [{ ty := 2, w := 1, els := ints (isI xs i.1) }]⟩) (fun i => xs.length - i.1) ⟨0, by simp⟩ ?_ ?_
  · exact weak_drop (by simp) (by simp [DropHp, ints_below, flts_below, isI]) (by simp [DropTm, DropV, below, belowM, belowL, isI])
  · intro ⟨i, hi⟩
    simp only [q0, q1, q2, q3, q4, q5, q6, q7, q8, q9, guardSlot, quietA, nilC, nilA, quietB, St.ev, St.put, St.after, List.getD_cons_succ, List.getD_cons_zero, List.length_cons, List.length_nil, Nat.reduceAdd, Nat.reduceSub, List.replicate_succ, List.replicate_zero, List.cons_append, List.nil_append, List.append_nil, List.set_cons_succ, List.set_cons_zero, ofV, ofL, lenA, binA, intBin, fltBin, strBin, cpxBin, true_and, and_true, unA, convA, pickV, List.map_cons, List.map_nil, resL, oneA, indexA, indexS, isQuiet, loadA, loadC, storeA, fieldA, partA, sliceA, boundA, buildA, placeA, setAll, appendA, readSl, newEl, Int.toNat_natCast, AV.cells, AV.solid, AV.one, Int.natCast_nonneg, exists_prop, List.getElem_cons_zero, List.getElem_cons_succ, List.getElem?_cons_zero, List.getElem?_cons_succ, Nat.zero_lt_one, Option.bind_some, Option.map_some, Option.map_none, kill, killM, killL, Bool.not_true, Bool.not_false, List.all_cons, List.all_nil, Bool.and_true, Bool.true_and, List.take_zero, List.drop_zero, List.drop_succ_cons, List.take_succ_cons, Nat.zero_add, Nat.add_zero, notInt, List.getElem?_toArray, ge_iff_le, gt_iff_lt, Nat.le_refl, Int.reduceToNat, cond_true, cond_false, ↓reduceIte, reduceCtorEq, Bool.false_eq_true, Bool.not_eq_true, Nat.reduceLT, Nat.reduceLeDiff, Nat.reduceMul, Nat.reduceEqDiff, Nat.succ_ne_self, Option.some.injEq, exists_eq', putF, List.forall_mem_cons, List.not_mem_nil, false_implies, implies_true, exists_true_left, tys0, tys1, tys2, und0, und1, und2, md17, Try.ntmps17, Try.results17]
    refine br_intro (fun g => ?_) (fun g => ?_) <;> simp only [q0, q1, q2, q3, q4, q5, q6, q7, q8, q9, guardSlot, quietA, nilC, nilA, quietB, St.ev, St.put, St.after, List.getD_cons_succ, List.getD_cons_zero, List.length_cons, List.length_nil, Nat.reduceAdd, Nat.reduceSub, List.replicate_succ, List.replicate_zero, List.cons_append, List.nil_append, List.append_nil, List.set_cons_succ, List.set_cons_zero, ofV, ofL, lenA, binA, intBin, fltBin, strBin, cpxBin, true_and, and_true, unA, convA, pickV, List.map_cons, List.map_nil, resL, oneA, indexA, indexS, isQuiet, loadA, loadC, storeA, fieldA, partA, sliceA, boundA, buildA, placeA, setAll, appendA, readSl, newEl, Int.toNat_natCast, AV.cells, AV.solid, AV.one, Int.natCast_nonneg, exists_prop, List.getElem_cons_zero, List.getElem_cons_succ, List.getElem?_cons_zero, List.getElem?_cons_succ, Nat.zero_lt_one, Option.bind_some, Option.map_some, Option.map_none, kill, killM, killL, Bool.not_true, Bool.not_false, List.all_cons, List.all_nil, Bool.and_true, Bool.true_and, List.take_zero, List.drop_zero, List.drop_succ_cons, List.take_succ_cons, Nat.zero_add, Nat.add_zero, notInt, List.getElem?_toArray, ge_iff_le, gt_iff_lt, Nat.le_refl, Int.reduceToNat, cond_true, cond_false, ↓reduceIte, reduceCtorEq, Bool.false_eq_true, Bool.not_eq_true, Nat.reduceLT, Nat.reduceLeDiff, Nat.reduceMul, Nat.reduceEqDiff, Nat.succ_ne_self, Option.some.injEq, exists_eq', putF, List.forall_mem_cons, List.not_mem_nil, false_implies, implies_true, exists_true_left, tys0, tys1, tys2, und0, und1, und2, md17, Try.ntmps17, Try.results17]
    · have hi' : i < xs.length := by simpa using g
      refine go_round (md := md17) mixed (by kernel_rfl) (fun s : {s : Nat × List Int // s.1 ≤ i ∧ s.2.length = xs.length ∧ insP s.1 s.2 = isI xs (i + 1)} => ⟨[.any, .any, .any, .sl 0 0 xs.length, .any, .int .i64 s.1.1, .any, .any, .any, .any, .any, .int .i64 xs.length, .int .i64 i, .any, .any, .any, .any, .any, .any, .any, .any, .any, .any, .any, .any, .any, .any, .any, .any, .any, .any, .any, .any, .any, .any, .any, .any, .any, .any, .any, .any, .any, .any, .any, .any, .any, .any, .any, .any, .any, .any], [{ ty := 2, w := 1, els := ints s.1.2 }]⟩) (fun s => s.1.1) ⟨(i, isI xs i), Nat.le_refl _, isI_len xs i, rfl⟩ ?_ ?_
      · exact weak_drop (by simp) (by simp [DropHp, ints_below, flts_below]) (by simp [DropTm, DropV, below, belowM, belowL])
      · intro ⟨⟨k, cur⟩, hk, hlen, hins⟩
        simp only at hk hlen hins
        cases k with
        | zero =>
          simp only [q0, q1, q2, q3, q4, q5, q6, q7, q8, q9, guardSlot, quietA, nilC, nilA, quietB, St.ev, St.put, St.after, List.getD_cons_succ, List.getD_cons_zero, List.length_cons, List.length_nil, Nat.reduceAdd, Nat.reduceSub, List.replicate_succ, List.replicate_zero, List.cons_append, List.nil_append, List.append_nil, List.set_cons_succ, List.set_cons_zero, ofV, ofL, lenA, binA, intBin, fltBin, strBin, cpxBin, true_and, and_true, unA, convA, pickV, List.map_cons, List.map_nil, resL, oneA, indexA, indexS, isQuiet, loadA, loadC, storeA, fieldA, partA, sliceA, boundA, buildA, placeA, setAll, appendA, readSl, newEl, Int.toNat_natCast, AV.cells, AV.solid, AV.one, Int.natCast_nonneg, exists_prop, List.getElem_cons_zero, List.getElem_cons_succ, List.getElem?_cons_zero, List.getElem?_cons_succ, Nat.zero_lt_one, Option.bind_some, Option.map_some, Option.map_none, kill, killM, killL, Bool.not_true, Bool.not_false, List.all_cons, List.all_nil, Bool.and_true, Bool.true_and, List.take_zero, List.drop_zero, List.drop_succ_cons, List.take_succ_cons, Nat.zero_add, Nat.add_zero, notInt, List.getElem?_toArray, ge_iff_le, gt_iff_lt, Nat.le_refl, Int.reduceToNat, cond_true, cond_false, ↓reduceIte, reduceCtorEq, Bool.false_eq_true, Bool.not_eq_true, Nat.reduceLT, Nat.reduceLeDiff, Nat.reduceMul, Nat.reduceEqDiff, Nat.succ_ne_self, Option.some.injEq, exists_eq', putF, List.forall_mem_cons, List.not_mem_nil, false_implies, implies_true, exists_true_left, tys0, tys1, tys2, und0, und1, und2, md17, Try.ntmps17, Try.results17, Int.reduceLT, Int.reduceLE, Int.reduceNeg, Int.reduceEq, Int.reduceGT, Int.reduceGE, decide_true, decide_false, beq_self_eq_true, bne_self_eq_false, Int.reduceBEq, Int.reduceBNe, Int.reduceAdd, Int.reduceSub]
          refine br_no (by first | exact decide_eq_false (by omega) | exact beq_false_of_ne (by omega) | (simp only [bne_eq_false_iff_eq, beq_eq_false_iff_ne, ne_eq]; omega)) ?_; simp only [q0, q1, q2, q3, q4, q5, q6, q7, q8, q9, guardSlot, quietA, nilC, nilA, quietB, St.ev, St.put, St.after, List.getD_cons_succ, List.getD_cons_zero, List.length_cons, List.length_nil, Nat.reduceAdd, Nat.reduceSub, List.replicate_succ, List.replicate_zero, List.cons_append, List.nil_append, List.append_nil, List.set_cons_succ, List.set_cons_zero, ofV, ofL, lenA, binA, intBin, fltBin, strBin, cpxBin, true_and, and_true, unA, convA, pickV, List.map_cons, List.map_nil, resL, oneA, indexA, indexS, isQuiet, loadA, loadC, storeA, fieldA, partA, sliceA, boundA, buildA, placeA, setAll, appendA, readSl, newEl, Int.toNat_natCast, AV.cells, AV.solid, AV.one, Int.natCast_nonneg, exists_prop, List.getElem_cons_zero, List.getElem_cons_succ, List.getElem?_cons_zero, List.getElem?_cons_succ, Nat.zero_lt_one, Option.bind_some, Option.map_some, Option.map_none, kill, killM, killL, Bool.not_true, Bool.not_false, List.all_cons, List.all_nil, Bool.and_true, Bool.true_and, List.take_zero, List.drop_zero, List.drop_succ_cons, List.take_succ_cons, Nat.zero_add, Nat.add_zero, notInt, List.getElem?_toArray, ge_iff_le, gt_iff_lt, Nat.le_refl, Int.reduceToNat, cond_true, cond_false, ↓reduceIte, reduceCtorEq, Bool.false_eq_true, Bool.not_eq_true, Nat.reduceLT, Nat.reduceLeDiff, Nat.reduceMul, Nat.reduceEqDiff, Nat.succ_ne_self, Option.some.injEq, exists_eq', putF, List.forall_mem_cons, List.not_mem_nil, false_implies, implies_true, exists_true_left, tys0, tys1, tys2, und0, und1, und2, md17, Try.ntmps17, Try.results17, Int.reduceLT, Int.reduceLE, Int.reduceNeg, Int.reduceEq, Int.reduceGT, Int.reduceGE, decide_true, decide_false, beq_self_eq_true, bne_self_eq_false, Int.reduceBEq, Int.reduceBNe, Int.reduceAdd, Int.reduceSub]
          have e : cur = isI xs (i + 1) := hins
          rw [e]
          refine ⟨⟨i + 1, hi'⟩, by show xs.length - (i + 1) < xs.length - i; omega, ?_⟩
          exact weak_drop (by simp) (by simp [DropHp, ints_below, flts_below, w64_succ i (by omega)]) (by simp [DropTm, DropV, below, belowM, belowL, w64_succ i (by omega)])
        | succ k =>
          have e1 : IntKind.i64.wrap (((k + 1 : Nat) : Int) - 1) = (k : Int) := by rw [w64 (by omega) (by omega)]; omega
          have ga : cur.getD (k + 1) 0 = cur[k + 1]'(by omega) := getD_at _ _ _ (by omega)
          have gb : cur.getD k 0 = cur[k]'(by omega) := getD_at _ _ _ (by omega)
          have es : swpI cur k = (cur.set (k + 1) (cur[k]'(by omega))).set k (cur[k + 1]'(by omega)) := by rw [swpI, ga, gb]
          simp only [q0, q1, q2, q3, q4, q5, q6, q7, q8, q9, guardSlot, quietA, nilC, nilA, quietB, St.ev, St.put, St.after, List.getD_cons_succ, List.getD_cons_zero, List.length_cons, List.length_nil, Nat.reduceAdd, Nat.reduceSub, List.replicate_succ, List.replicate_zero, List.cons_append, List.nil_append, List.append_nil, List.set_cons_succ, List.set_cons_zero, ofV, ofL, lenA, binA, intBin, fltBin, strBin, cpxBin, true_and, and_true, unA, convA, pickV, List.map_cons, List.map_nil, resL, oneA, indexA, indexS, isQuiet, loadA, loadC, storeA, fieldA, partA, sliceA, boundA, buildA, placeA, setAll, appendA, readSl, newEl, Int.toNat_natCast, AV.cells, AV.solid, AV.one, Int.natCast_nonneg, exists_prop, List.getElem_cons_zero, List.getElem_cons_succ, List.getElem?_cons_zero, List.getElem?_cons_succ, Nat.zero_lt_one, Option.bind_some, Option.map_some, Option.map_none, kill, killM, killL, Bool.not_true, Bool.not_false, List.all_cons, List.all_nil, Bool.and_true, Bool.true_and, List.take_zero, List.drop_zero, List.drop_succ_cons, List.take_succ_cons, Nat.zero_add, Nat.add_zero, notInt, List.getElem?_toArray, ge_iff_le, gt_iff_lt, Nat.le_refl, Int.reduceToNat, cond_true, cond_false, ↓reduceIte, reduceCtorEq, Bool.false_eq_true, Bool.not_eq_true, Nat.reduceLT, Nat.reduceLeDiff, Nat.reduceMul, Nat.reduceEqDiff, Nat.succ_ne_self, Option.some.injEq, exists_eq', putF, List.forall_mem_cons, List.not_mem_nil, false_implies, implies_true, exists_true_left, tys0, tys1, tys2, und0, und1, und2, md17, Try.ntmps17, Try.results17, Int.reduceLT, Int.reduceLE, Int.reduceNeg, Int.reduceEq, Int.reduceGT, Int.reduceGE, decide_true, decide_false, beq_self_eq_true, bne_self_eq_false, Int.reduceBEq, Int.reduceBNe, Int.reduceAdd, Int.reduceSub, e1, Int.toNat_natCast]
          refine br_yes (by first | exact decide_eq_true (by omega) | (simp only [bne_iff_ne, beq_iff_eq, ne_eq]; omega)) ?_; simp only [q0, q1, q2, q3, q4, q5, q6, q7, q8, q9, guardSlot, quietA, nilC, nilA, quietB, St.ev, St.put, St.after, List.getD_cons_succ, List.getD_cons_zero, List.length_cons, List.length_nil, Nat.reduceAdd, Nat.reduceSub, List.replicate_succ, List.replicate_zero, List.cons_append, List.nil_append, List.append_nil, List.set_cons_succ, List.set_cons_zero, ofV, ofL, lenA, binA, intBin, fltBin, strBin, cpxBin, true_and, and_true, unA, convA, pickV, List.map_cons, List.map_nil, resL, oneA, indexA, indexS, isQuiet, loadA, loadC, storeA, fieldA, partA, sliceA, boundA, buildA, placeA, setAll, appendA, readSl, newEl, Int.toNat_natCast, AV.cells, AV.solid, AV.one, Int.natCast_nonneg, exists_prop, List.getElem_cons_zero, List.getElem_cons_succ, List.getElem?_cons_zero, List.getElem?_cons_succ, Nat.zero_lt_one, Option.bind_some, Option.map_some, Option.map_none, kill, killM, killL, Bool.not_true, Bool.not_false, List.all_cons, List.all_nil, Bool.and_true, Bool.true_and, List.take_zero, List.drop_zero, List.drop_succ_cons, List.take_succ_cons, Nat.zero_add, Nat.add_zero, notInt, List.getElem?_toArray, ge_iff_le, gt_iff_lt, Nat.le_refl, Int.reduceToNat, cond_true, cond_false, ↓reduceIte, reduceCtorEq, Bool.false_eq_true, Bool.not_eq_true, Nat.reduceLT, Nat.reduceLeDiff, Nat.reduceMul, Nat.reduceEqDiff, Nat.succ_ne_self, Option.some.injEq, exists_eq', putF, List.forall_mem_cons, List.not_mem_nil, false_implies, implies_true, exists_true_left, tys0, tys1, tys2, und0, und1, und2, md17, Try.ntmps17, Try.results17, Int.reduceLT, Int.reduceLE, Int.reduceNeg, Int.reduceEq, Int.reduceGT, Int.reduceGE, decide_true, decide_false, beq_self_eq_true, bne_self_eq_false, Int.reduceBEq, Int.reduceBNe, Int.reduceAdd, Int.reduceSub, e1, Int.toNat_natCast]
          refine ⟨by omega, by omega, by omega, by omega, ?_⟩
          refine br_intro (fun c => ?_) (fun c => ?_) <;> simp only [q0, q1, q2, q3, q4, q5, q6, q7, q8, q9, guardSlot, quietA, nilC, nilA, quietB, St.ev, St.put, St.after, List.getD_cons_succ, List.getD_cons_zero, List.length_cons, List.length_nil, Nat.reduceAdd, Nat.reduceSub, List.replicate_succ, List.replicate_zero, List.cons_append, List.nil_append, List.append_nil, List.set_cons_succ, List.set_cons_zero, ofV, ofL, lenA, binA, intBin, fltBin, strBin, cpxBin, true_and, and_true, unA, convA, pickV, List.map_cons, List.map_nil, resL, oneA, indexA, indexS, isQuiet, loadA, loadC, storeA, fieldA, partA, sliceA, boundA, buildA, placeA, setAll, appendA, readSl, newEl, Int.toNat_natCast, AV.cells, AV.solid, AV.one, Int.natCast_nonneg, exists_prop, List.getElem_cons_zero, List.getElem_cons_succ, List.getElem?_cons_zero, List.getElem?_cons_succ, Nat.zero_lt_one, Option.bind_some, Option.map_some, Option.map_none, kill, killM, killL, Bool.not_true, Bool.not_false, List.all_cons, List.all_nil, Bool.and_true, Bool.true_and, List.take_zero, List.drop_zero, List.drop_succ_cons, List.take_succ_cons, Nat.zero_add, Nat.add_zero, notInt, List.getElem?_toArray, ge_iff_le, gt_iff_lt, Nat.le_refl, Int.reduceToNat, cond_true, cond_false, ↓reduceIte, reduceCtorEq, Bool.false_eq_true, Bool.not_eq_true, Nat.reduceLT, Nat.reduceLeDiff, Nat.reduceMul, Nat.reduceEqDiff, Nat.succ_ne_self, Option.some.injEq, exists_eq', putF, List.forall_mem_cons, List.not_mem_nil, false_implies, implies_true, exists_true_left, tys0, tys1, tys2, und0, und1, und2, md17, Try.ntmps17, Try.results17, Int.reduceLT, Int.reduceLE, Int.reduceNeg, Int.reduceEq, Int.reduceGT, Int.reduceGE, decide_true, decide_false, beq_self_eq_true, bne_self_eq_false, Int.reduceBEq, Int.reduceBNe, Int.reduceAdd, Int.reduceSub, e1, Int.toNat_natCast]
          · have c' : insP k (swpI cur k) = isI xs (i + 1) := by
              rw [← hins, insP, ga, gb, if_pos (by simpa using c)]
            repeat (refine ⟨?_, ?_⟩; focus first | omega | (simp only [List.length_set, ints_len, flts_len, List.length_map, List.length_append, List.length_cons, List.length_nil]; omega))
            refine ⟨⟨(k, swpI cur k), by simp; omega, by simp [swpI_len, hlen], c'⟩, by show k < k + 1; omega, ?_⟩
            exact weak_drop (by simp) (by simp [DropHp, ints_below, flts_below, e1, ints_set, es]) (by simp [DropTm, DropV, below, belowM, belowL, e1, ints_set, es])
          · have c' : cur = isI xs (i + 1) := by
              rw [← hins, insP, ga, gb, if_neg (by simpa using c)]
            subst c'
            refine ⟨⟨i + 1, hi'⟩, by show xs.length - (i + 1) < xs.length - i; omega, ?_⟩
            exact weak_drop (by simp) (by simp [DropHp, ints_below, flts_below, w64_succ i (by omega)]) (by simp [DropTm, DropV, below, belowM, belowL, w64_succ i (by omega)])
    · have hi' : i = xs.length := by simp at g; omega
      subst hi'
      rw [isI_sort, sortI_len]
      exact PostR.ret
end Go.Proofs.Ytaamcphhapgofaa
