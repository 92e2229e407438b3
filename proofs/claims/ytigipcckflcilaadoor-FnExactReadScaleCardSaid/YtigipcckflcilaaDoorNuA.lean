/- Lists of numbers, ranges, numerals: what several laws share. -/
import Derived.Test.YtigipcckflcilaaDoorRsS
import Derived.Test.YtigipcckflcilaaDoorBase
import Derived.Test.YtigipcckflcilaaDoorAbsM3
set_option maxRecDepth 10000
set_option maxHeartbeats 4000000
set_option linter.unusedSimpArgs false
set_option linter.unusedVariables false
namespace Go.Proofs.YtigipcckflcilaaDoor
open Go Go.Abs

theorem eqInt64S_call (xs ys : List Int) (Q : AV → List Blk → Prop) (hm : xs.length ≤ 9223372036854775807) (hQ : Q (.bool (xs == ys)) []) : CallA Tryd.prog 13 [.ro (ints xs), .ro (ints ys)] [] Q := by
  refine CallP.out (t := .mk) (go_in (md := md13) mixed Tryd.func13 rfl go13 (by kernel_rfl) ?_)
  simp only [q0, q1, q2, q3, q4, q5, q6, q7, q8, q9, guardSlot, quietA, nilC, nilA, quietB, St.ev, St.put, St.after, List.getD_cons_succ, List.getD_cons_zero, List.length_cons, List.length_nil, Nat.reduceAdd, Nat.reduceSub, List.replicate_succ, List.replicate_zero, List.cons_append, List.nil_append, List.append_nil, List.set_cons_succ, List.set_cons_zero, ofV, ofL, lenA, binA, intBin, fltBin, strBin, cpxBin, true_and, and_true, unA, convA, convB, convO, pickV, List.map_cons, List.map_nil, resL, oneA, indexA, indexS, isQuiet, loadA, loadC, storeA, fieldA, partA, sliceA, boundA, buildA, placeA, setAll, appendA, readSl, newEl, Int.toNat_natCast, AV.cells, AV.solid, AV.one, Int.natCast_nonneg, exists_prop, List.getElem_cons_zero, List.getElem_cons_succ, List.getElem?_cons_zero, List.getElem?_cons_succ, Nat.zero_lt_one, Option.bind_some, Option.map_some, Option.map_none, kill, killM, killL, Bool.not_true, Bool.not_false, List.all_cons, List.all_nil, Bool.and_true, Bool.true_and, List.take_zero, List.drop_zero, List.drop_succ_cons, List.take_succ_cons, Nat.zero_add, Nat.add_zero, notInt, List.getElem?_toArray, ge_iff_le, gt_iff_lt, Nat.le_refl, Int.reduceToNat, cond_true, cond_false, ↓reduceIte, reduceCtorEq, Bool.false_eq_true, Bool.not_eq_true, Nat.reduceLT, Nat.reduceLeDiff, Nat.reduceMul, Nat.reduceEqDiff, Nat.succ_ne_self, Option.some.injEq, exists_eq', putF, List.forall_mem_cons, List.not_mem_nil, false_implies, implies_true, exists_true_left, tys0, und0, md13, Tryd.ntmps13, Tryd.results13]
  refine br_intro (fun h => ?_) (fun h => ?_)
  · simp only [q0, q1, q2, q3, q4, q5, q6, q7, q8, q9, guardSlot, quietA, nilC, nilA, quietB, St.ev, St.put, St.after, List.getD_cons_succ, List.getD_cons_zero, List.length_cons, List.length_nil, Nat.reduceAdd, Nat.reduceSub, List.replicate_succ, List.replicate_zero, List.cons_append, List.nil_append, List.append_nil, List.set_cons_succ, List.set_cons_zero, ofV, ofL, lenA, binA, intBin, fltBin, strBin, cpxBin, true_and, and_true, unA, convA, convB, convO, pickV, List.map_cons, List.map_nil, resL, oneA, indexA, indexS, isQuiet, loadA, loadC, storeA, fieldA, partA, sliceA, boundA, buildA, placeA, setAll, appendA, readSl, newEl, Int.toNat_natCast, AV.cells, AV.solid, AV.one, Int.natCast_nonneg, exists_prop, List.getElem_cons_zero, List.getElem_cons_succ, List.getElem?_cons_zero, List.getElem?_cons_succ, Nat.zero_lt_one, Option.bind_some, Option.map_some, Option.map_none, kill, killM, killL, Bool.not_true, Bool.not_false, List.all_cons, List.all_nil, Bool.and_true, Bool.true_and, List.take_zero, List.drop_zero, List.drop_succ_cons, List.take_succ_cons, Nat.zero_add, Nat.add_zero, notInt, List.getElem?_toArray, ge_iff_le, gt_iff_lt, Nat.le_refl, Int.reduceToNat, cond_true, cond_false, ↓reduceIte, reduceCtorEq, Bool.false_eq_true, Bool.not_eq_true, Nat.reduceLT, Nat.reduceLeDiff, Nat.reduceMul, Nat.reduceEqDiff, Nat.succ_ne_self, Option.some.injEq, exists_eq', putF, List.forall_mem_cons, List.not_mem_nil, false_implies, implies_true, exists_true_left, tys0, und0, md13, Tryd.ntmps13, Tryd.results13]
    refine PostR.pure ?_ (by rfl)
    have : (xs == ys) = false := by
      rw [beq_eq_false_iff_ne]; intro e; subst e; simp at h
    rw [this] at hQ; exact hQ
  · have hl : xs.length = ys.length := by simp at h; omega
    simp only [q0, q1, q2, q3, q4, q5, q6, q7, q8, q9, guardSlot, quietA, nilC, nilA, quietB, St.ev, St.put, St.after, List.getD_cons_succ, List.getD_cons_zero, List.length_cons, List.length_nil, Nat.reduceAdd, Nat.reduceSub, List.replicate_succ, List.replicate_zero, List.cons_append, List.nil_append, List.append_nil, List.set_cons_succ, List.set_cons_zero, ofV, ofL, lenA, binA, intBin, fltBin, strBin, cpxBin, true_and, and_true, unA, convA, convB, convO, pickV, List.map_cons, List.map_nil, resL, oneA, indexA, indexS, isQuiet, loadA, loadC, storeA, fieldA, partA, sliceA, boundA, buildA, placeA, setAll, appendA, readSl, newEl, Int.toNat_natCast, AV.cells, AV.solid, AV.one, Int.natCast_nonneg, exists_prop, List.getElem_cons_zero, List.getElem_cons_succ, List.getElem?_cons_zero, List.getElem?_cons_succ, Nat.zero_lt_one, Option.bind_some, Option.map_some, Option.map_none, kill, killM, killL, Bool.not_true, Bool.not_false, List.all_cons, List.all_nil, Bool.and_true, Bool.true_and, List.take_zero, List.drop_zero, List.drop_succ_cons, List.take_succ_cons, Nat.zero_add, Nat.add_zero, notInt, List.getElem?_toArray, ge_iff_le, gt_iff_lt, Nat.le_refl, Int.reduceToNat, cond_true, cond_false, ↓reduceIte, reduceCtorEq, Bool.false_eq_true, Bool.not_eq_true, Nat.reduceLT, Nat.reduceLeDiff, Nat.reduceMul, Nat.reduceEqDiff, Nat.succ_ne_self, Option.some.injEq, exists_eq', putF, List.forall_mem_cons, List.not_mem_nil, false_implies, implies_true, exists_true_left, tys0, und0, md13, Tryd.ntmps13, Tryd.results13]
    refine go_round (md := md13) mixed (by kernel_rfl) (fun k : {k : Nat // k ≤ xs.length ∧ xs.take k = ys.take k} => ⟨[.ro (ints xs), .ro (ints ys), .any, .any, .bool false, .int .i64 k.1, .any, .any, .any, .any, .any, .any, .any, .any, .any, .any, .any, .any, .any, .any, .any, .any, .any, .any, .any, .any], []⟩) (fun k => xs.length - k.1) ⟨0, by simp⟩ ?_ ?_
    · exact weak_drop (by simp) (by simp [DropHp, ints_below, flts_below]) (by simp [DropTm, DropV, below, belowM, belowL])
    · intro ⟨k, hk, he⟩
      simp only [q0, q1, q2, q3, q4, q5, q6, q7, q8, q9, guardSlot, quietA, nilC, nilA, quietB, St.ev, St.put, St.after, List.getD_cons_succ, List.getD_cons_zero, List.length_cons, List.length_nil, Nat.reduceAdd, Nat.reduceSub, List.replicate_succ, List.replicate_zero, List.cons_append, List.nil_append, List.append_nil, List.set_cons_succ, List.set_cons_zero, ofV, ofL, lenA, binA, intBin, fltBin, strBin, cpxBin, true_and, and_true, unA, convA, convB, convO, pickV, List.map_cons, List.map_nil, resL, oneA, indexA, indexS, isQuiet, loadA, loadC, storeA, fieldA, partA, sliceA, boundA, buildA, placeA, setAll, appendA, readSl, newEl, Int.toNat_natCast, AV.cells, AV.solid, AV.one, Int.natCast_nonneg, exists_prop, List.getElem_cons_zero, List.getElem_cons_succ, List.getElem?_cons_zero, List.getElem?_cons_succ, Nat.zero_lt_one, Option.bind_some, Option.map_some, Option.map_none, kill, killM, killL, Bool.not_true, Bool.not_false, List.all_cons, List.all_nil, Bool.and_true, Bool.true_and, List.take_zero, List.drop_zero, List.drop_succ_cons, List.take_succ_cons, Nat.zero_add, Nat.add_zero, notInt, List.getElem?_toArray, ge_iff_le, gt_iff_lt, Nat.le_refl, Int.reduceToNat, cond_true, cond_false, ↓reduceIte, reduceCtorEq, Bool.false_eq_true, Bool.not_eq_true, Nat.reduceLT, Nat.reduceLeDiff, Nat.reduceMul, Nat.reduceEqDiff, Nat.succ_ne_self, Option.some.injEq, exists_eq', putF, List.forall_mem_cons, List.not_mem_nil, false_implies, implies_true, exists_true_left, tys0, und0, md13, Tryd.ntmps13, Tryd.results13]
      refine br_intro (fun h => ?_) (fun h => ?_)
      · have hk' : k < xs.length := by simpa using h
        simp only [q0, q1, q2, q3, q4, q5, q6, q7, q8, q9, guardSlot, quietA, nilC, nilA, quietB, St.ev, St.put, St.after, List.getD_cons_succ, List.getD_cons_zero, List.length_cons, List.length_nil, Nat.reduceAdd, Nat.reduceSub, List.replicate_succ, List.replicate_zero, List.cons_append, List.nil_append, List.append_nil, List.set_cons_succ, List.set_cons_zero, ofV, ofL, lenA, binA, intBin, fltBin, strBin, cpxBin, true_and, and_true, unA, convA, convB, convO, pickV, List.map_cons, List.map_nil, resL, oneA, indexA, indexS, isQuiet, loadA, loadC, storeA, fieldA, partA, sliceA, boundA, buildA, placeA, setAll, appendA, readSl, newEl, Int.toNat_natCast, AV.cells, AV.solid, AV.one, Int.natCast_nonneg, exists_prop, List.getElem_cons_zero, List.getElem_cons_succ, List.getElem?_cons_zero, List.getElem?_cons_succ, Nat.zero_lt_one, Option.bind_some, Option.map_some, Option.map_none, kill, killM, killL, Bool.not_true, Bool.not_false, List.all_cons, List.all_nil, Bool.and_true, Bool.true_and, List.take_zero, List.drop_zero, List.drop_succ_cons, List.take_succ_cons, Nat.zero_add, Nat.add_zero, notInt, List.getElem?_toArray, ge_iff_le, gt_iff_lt, Nat.le_refl, Int.reduceToNat, cond_true, cond_false, ↓reduceIte, reduceCtorEq, Bool.false_eq_true, Bool.not_eq_true, Nat.reduceLT, Nat.reduceLeDiff, Nat.reduceMul, Nat.reduceEqDiff, Nat.succ_ne_self, Option.some.injEq, exists_eq', putF, List.forall_mem_cons, List.not_mem_nil, false_implies, implies_true, exists_true_left, tys0, und0, md13, Tryd.ntmps13, Tryd.results13]
        refine ⟨hk', by omega, br_intro (fun hne => ?_) (fun heq => ?_)⟩ <;> simp only [q0, q1, q2, q3, q4, q5, q6, q7, q8, q9, guardSlot, quietA, nilC, nilA, quietB, St.ev, St.put, St.after, List.getD_cons_succ, List.getD_cons_zero, List.length_cons, List.length_nil, Nat.reduceAdd, Nat.reduceSub, List.replicate_succ, List.replicate_zero, List.cons_append, List.nil_append, List.append_nil, List.set_cons_succ, List.set_cons_zero, ofV, ofL, lenA, binA, intBin, fltBin, strBin, cpxBin, true_and, and_true, unA, convA, convB, convO, pickV, List.map_cons, List.map_nil, resL, oneA, indexA, indexS, isQuiet, loadA, loadC, storeA, fieldA, partA, sliceA, boundA, buildA, placeA, setAll, appendA, readSl, newEl, Int.toNat_natCast, AV.cells, AV.solid, AV.one, Int.natCast_nonneg, exists_prop, List.getElem_cons_zero, List.getElem_cons_succ, List.getElem?_cons_zero, List.getElem?_cons_succ, Nat.zero_lt_one, Option.bind_some, Option.map_some, Option.map_none, kill, killM, killL, Bool.not_true, Bool.not_false, List.all_cons, List.all_nil, Bool.and_true, Bool.true_and, List.take_zero, List.drop_zero, List.drop_succ_cons, List.take_succ_cons, Nat.zero_add, Nat.add_zero, notInt, List.getElem?_toArray, ge_iff_le, gt_iff_lt, Nat.le_refl, Int.reduceToNat, cond_true, cond_false, ↓reduceIte, reduceCtorEq, Bool.false_eq_true, Bool.not_eq_true, Nat.reduceLT, Nat.reduceLeDiff, Nat.reduceMul, Nat.reduceEqDiff, Nat.succ_ne_self, Option.some.injEq, exists_eq', putF, List.forall_mem_cons, List.not_mem_nil, false_implies, implies_true, exists_true_left, tys0, und0, md13, Tryd.ntmps13, Tryd.results13]
        · refine PostR.pure ?_ (by rfl)
          have : (xs == ys) = false := by
            rw [beq_eq_false_iff_ne]; intro e; subst e; simp at hne
          rw [this] at hQ; exact hQ
        · have heq' : xs[k] = ys[k] := by simpa using heq
          refine ⟨⟨k + 1, by omega, by rw [take_snoc _ _ hk', take_snoc _ _ (by omega), he, heq']⟩, by show xs.length - (k + 1) < xs.length - k; omega, ?_⟩
          exact weak_drop (by simp) (by simp [DropHp, ints_below, flts_below, w64_succ k (by omega)]) (by simp [DropTm, DropV, below, belowM, belowL, w64_succ k (by omega)])
      · have hk' : k = xs.length := by simp at h; omega
        simp only [q0, q1, q2, q3, q4, q5, q6, q7, q8, q9, guardSlot, quietA, nilC, nilA, quietB, St.ev, St.put, St.after, List.getD_cons_succ, List.getD_cons_zero, List.length_cons, List.length_nil, Nat.reduceAdd, Nat.reduceSub, List.replicate_succ, List.replicate_zero, List.cons_append, List.nil_append, List.append_nil, List.set_cons_succ, List.set_cons_zero, ofV, ofL, lenA, binA, intBin, fltBin, strBin, cpxBin, true_and, and_true, unA, convA, convB, convO, pickV, List.map_cons, List.map_nil, resL, oneA, indexA, indexS, isQuiet, loadA, loadC, storeA, fieldA, partA, sliceA, boundA, buildA, placeA, setAll, appendA, readSl, newEl, Int.toNat_natCast, AV.cells, AV.solid, AV.one, Int.natCast_nonneg, exists_prop, List.getElem_cons_zero, List.getElem_cons_succ, List.getElem?_cons_zero, List.getElem?_cons_succ, Nat.zero_lt_one, Option.bind_some, Option.map_some, Option.map_none, kill, killM, killL, Bool.not_true, Bool.not_false, List.all_cons, List.all_nil, Bool.and_true, Bool.true_and, List.take_zero, List.drop_zero, List.drop_succ_cons, List.take_succ_cons, Nat.zero_add, Nat.add_zero, notInt, List.getElem?_toArray, ge_iff_le, gt_iff_lt, Nat.le_refl, Int.reduceToNat, cond_true, cond_false, ↓reduceIte, reduceCtorEq, Bool.false_eq_true, Bool.not_eq_true, Nat.reduceLT, Nat.reduceLeDiff, Nat.reduceMul, Nat.reduceEqDiff, Nat.succ_ne_self, Option.some.injEq, exists_eq', putF, List.forall_mem_cons, List.not_mem_nil, false_implies, implies_true, exists_true_left, tys0, und0, md13, Tryd.ntmps13, Tryd.results13]
        refine PostR.pure ?_ (by rfl)
        have : (xs == ys) = true := by
          rw [beq_iff_eq]
          have h1 : xs.take xs.length = xs := List.take_length
          have h2 : ys.take xs.length = ys := by rw [hl]; exact List.take_length
          rw [hk'] at he; rw [← h1, ← h2, he]
        rw [this] at hQ; exact hQ

theorem eqInt64S_self (xs : List Int) (hm : xs.length ≤ 9223372036854775807) : CallA Tryd.prog 13 [.ro (ints xs), .ro (ints xs)] [] (Ret (.bool true) []) :=
  eqInt64S_call xs xs _ hm ⟨by simp, rfl⟩

/-! Rules, and what is saved. -/
abbrev Rul := Int × List Int × Int × Int × Int
abbrev Sav := List UInt8 × List Rul × List Int


theorem getD_at {α : Type} (xs : List α) (z : α) (i : Nat) (h : i < xs.length) : xs.getD i z = xs[i] := by
  simp [List.getD_eq_getElem?_getD, List.getElem?_eq_getElem h]

def pref (p : Nat → Bool) (n : Nat) : Bool := (List.range n).all p

theorem pref_zero (p : Nat → Bool) : pref p 0 = true := rfl

theorem pref_succ (p : Nat → Bool) (n : Nat) : pref p (n + 1) = (pref p n && p n) := by
  simp [pref, List.range_succ]

theorem pref_no {p : Nat → Bool} {n : Nat} (i : Nat) (hi : i < n) (h : p i = false) : pref p n = false := by
  rw [pref, List.all_eq_false]
  exact ⟨i, by simpa using hi, by simp [h]⟩

theorem pref_go {p : Nat → Bool} {n : Nat} (h1 : pref p n = true) (h2 : p n = true) : pref p (n + 1) = true := by rw [pref_succ, h1, h2]; rfl

theorem all_pref {α : Type} (p : α → Bool) (z : α) (xs : List α) : xs.all p = pref (fun j => p (xs.getD j z)) xs.length := by
  rw [Bool.eq_iff_iff, pref, List.all_eq_true, List.all_eq_true]
  constructor
  · intro h j hj
    have hj' : j < xs.length := by simpa using hj
    rw [getD_at xs z j hj']
    exact h _ (List.getElem_mem hj')
  · intro h x hx
    obtain ⟨j, hj, rfl⟩ := List.getElem_of_mem hx
    have := h j (by simpa using hj)
    rwa [getD_at xs z j hj] at this

def inR (lo hi n : Int) : Bool := decide (lo ≤ n) && decide (n ≤ hi)

theorem inR_yes {lo hi n : Int} (h1 : lo ≤ n) (h2 : n ≤ hi) : inR lo hi n = true := by simp [inR, h1, h2]

theorem inR_iff {lo hi n : Int} : inR lo hi n = true ↔ lo ≤ n ∧ n ≤ hi := by simp [inR]

theorem within_call (a b c : Int) : CallA Tryd.prog 29 [.int .i64 a, .int .i64 b, .int .i64 c] [] (Ret (.bool (inR b c a)) []) := by
  refine CallP.out (t := .mk) (go_in (md := md29) mixed Tryd.func29 rfl go29 (by kernel_rfl) ?_)
  simp only [q0, q1, q2, q3, q4, q5, q6, q7, q8, q9, guardSlot, quietA, nilC, nilA, quietB, St.ev, St.put, St.after, List.getD_cons_succ, List.getD_cons_zero, List.length_cons, List.length_nil, Nat.reduceAdd, Nat.reduceSub, List.replicate_succ, List.replicate_zero, List.cons_append, List.nil_append, List.append_nil, List.set_cons_succ, List.set_cons_zero, ofV, ofL, lenA, binA, intBin, fltBin, strBin, cpxBin, true_and, and_true, unA, convA, convB, convO, pickV, List.map_cons, List.map_nil, resL, oneA, indexA, indexS, isQuiet, loadA, loadC, storeA, fieldA, partA, sliceA, boundA, buildA, placeA, setAll, appendA, readSl, newEl, Int.toNat_natCast, AV.cells, AV.solid, AV.one, Int.natCast_nonneg, exists_prop, List.getElem_cons_zero, List.getElem_cons_succ, List.getElem?_cons_zero, List.getElem?_cons_succ, Nat.zero_lt_one, Option.bind_some, Option.map_some, Option.map_none, kill, killM, killL, Bool.not_true, Bool.not_false, List.all_cons, List.all_nil, Bool.and_true, Bool.true_and, List.take_zero, List.drop_zero, List.drop_succ_cons, List.take_succ_cons, Nat.zero_add, Nat.add_zero, notInt, List.getElem?_toArray, ge_iff_le, gt_iff_lt, Nat.le_refl, Int.reduceToNat, cond_true, cond_false, ↓reduceIte, reduceCtorEq, Bool.false_eq_true, Bool.not_eq_true, Nat.reduceLT, Nat.reduceLeDiff, Nat.reduceMul, Nat.reduceEqDiff, Nat.succ_ne_self, Option.some.injEq, exists_eq', putF, List.forall_mem_cons, List.not_mem_nil, false_implies, implies_true, exists_true_left, tys0, und0, md29, Tryd.ntmps29, Tryd.results29]
  refine br_intro (fun h => ?_) (fun h => ?_) <;> simp only [q0, q1, q2, q3, q4, q5, q6, q7, q8, q9, guardSlot, quietA, nilC, nilA, quietB, St.ev, St.put, St.after, List.getD_cons_succ, List.getD_cons_zero, List.length_cons, List.length_nil, Nat.reduceAdd, Nat.reduceSub, List.replicate_succ, List.replicate_zero, List.cons_append, List.nil_append, List.append_nil, List.set_cons_succ, List.set_cons_zero, ofV, ofL, lenA, binA, intBin, fltBin, strBin, cpxBin, true_and, and_true, unA, convA, convB, convO, pickV, List.map_cons, List.map_nil, resL, oneA, indexA, indexS, isQuiet, loadA, loadC, storeA, fieldA, partA, sliceA, boundA, buildA, placeA, setAll, appendA, readSl, newEl, Int.toNat_natCast, AV.cells, AV.solid, AV.one, Int.natCast_nonneg, exists_prop, List.getElem_cons_zero, List.getElem_cons_succ, List.getElem?_cons_zero, List.getElem?_cons_succ, Nat.zero_lt_one, Option.bind_some, Option.map_some, Option.map_none, kill, killM, killL, Bool.not_true, Bool.not_false, List.all_cons, List.all_nil, Bool.and_true, Bool.true_and, List.take_zero, List.drop_zero, List.drop_succ_cons, List.take_succ_cons, Nat.zero_add, Nat.add_zero, notInt, List.getElem?_toArray, ge_iff_le, gt_iff_lt, Nat.le_refl, Int.reduceToNat, cond_true, cond_false, ↓reduceIte, reduceCtorEq, Bool.false_eq_true, Bool.not_eq_true, Nat.reduceLT, Nat.reduceLeDiff, Nat.reduceMul, Nat.reduceEqDiff, Nat.succ_ne_self, Option.some.injEq, exists_eq', putF, List.forall_mem_cons, List.not_mem_nil, false_implies, implies_true, exists_true_left, tys0, und0, md29, Tryd.ntmps29, Tryd.results29]
  · exact PostR.pure ⟨by simp at h; simp [inR, h], rfl⟩ rfl
  · exact PostR.pure ⟨by simp at h; simp [inR]; omega, rfl⟩ rfl

theorem areWithin1_call (n lo hi : Int) : CallA Tryd.prog 48 [.int .i64 n, .rop [.int .i64 lo], .rop [.int .i64 hi]] [] (Ret (.bool (!inR lo hi n)) []) := by
  refine CallP.out (t := .mk) (go_in (md := md48) mixed Tryd.func48 rfl go48 (by kernel_rfl) ?_)
  simp only [q0, q1, q2, q3, q4, q5, q6, q7, q8, q9, guardSlot, quietA, nilC, nilA, quietB, St.ev, St.put, St.after, List.getD_cons_succ, List.getD_cons_zero, List.length_cons, List.length_nil, Nat.reduceAdd, Nat.reduceSub, List.replicate_succ, List.replicate_zero, List.cons_append, List.nil_append, List.append_nil, List.set_cons_succ, List.set_cons_zero, ofV, ofL, lenA, binA, intBin, fltBin, strBin, cpxBin, true_and, and_true, unA, convA, convB, convO, pickV, List.map_cons, List.map_nil, resL, oneA, indexA, indexS, isQuiet, loadA, loadC, storeA, fieldA, partA, sliceA, boundA, buildA, placeA, setAll, appendA, readSl, newEl, Int.toNat_natCast, AV.cells, AV.solid, AV.one, Int.natCast_nonneg, exists_prop, List.getElem_cons_zero, List.getElem_cons_succ, List.getElem?_cons_zero, List.getElem?_cons_succ, Nat.zero_lt_one, Option.bind_some, Option.map_some, Option.map_none, kill, killM, killL, Bool.not_true, Bool.not_false, List.all_cons, List.all_nil, Bool.and_true, Bool.true_and, List.take_zero, List.drop_zero, List.drop_succ_cons, List.take_succ_cons, Nat.zero_add, Nat.add_zero, notInt, List.getElem?_toArray, ge_iff_le, gt_iff_lt, Nat.le_refl, Int.reduceToNat, cond_true, cond_false, ↓reduceIte, reduceCtorEq, Bool.false_eq_true, Bool.not_eq_true, Nat.reduceLT, Nat.reduceLeDiff, Nat.reduceMul, Nat.reduceEqDiff, Nat.succ_ne_self, Option.some.injEq, exists_eq', putF, List.forall_mem_cons, List.not_mem_nil, false_implies, implies_true, exists_true_left, tys0, und0, md48, Tryd.ntmps48, Tryd.results48]
  refine call_ret (within_call _ _ _) rfl rfl ?_
  simp only [q0, q1, q2, q3, q4, q5, q6, q7, q8, q9, guardSlot, quietA, nilC, nilA, quietB, St.ev, St.put, St.after, List.getD_cons_succ, List.getD_cons_zero, List.length_cons, List.length_nil, Nat.reduceAdd, Nat.reduceSub, List.replicate_succ, List.replicate_zero, List.cons_append, List.nil_append, List.append_nil, List.set_cons_succ, List.set_cons_zero, ofV, ofL, lenA, binA, intBin, fltBin, strBin, cpxBin, true_and, and_true, unA, convA, convB, convO, pickV, List.map_cons, List.map_nil, resL, oneA, indexA, indexS, isQuiet, loadA, loadC, storeA, fieldA, partA, sliceA, boundA, buildA, placeA, setAll, appendA, readSl, newEl, Int.toNat_natCast, AV.cells, AV.solid, AV.one, Int.natCast_nonneg, exists_prop, List.getElem_cons_zero, List.getElem_cons_succ, List.getElem?_cons_zero, List.getElem?_cons_succ, Nat.zero_lt_one, Option.bind_some, Option.map_some, Option.map_none, kill, killM, killL, Bool.not_true, Bool.not_false, List.all_cons, List.all_nil, Bool.and_true, Bool.true_and, List.take_zero, List.drop_zero, List.drop_succ_cons, List.take_succ_cons, Nat.zero_add, Nat.add_zero, notInt, List.getElem?_toArray, ge_iff_le, gt_iff_lt, Nat.le_refl, Int.reduceToNat, cond_true, cond_false, ↓reduceIte, reduceCtorEq, Bool.false_eq_true, Bool.not_eq_true, Nat.reduceLT, Nat.reduceLeDiff, Nat.reduceMul, Nat.reduceEqDiff, Nat.succ_ne_self, Option.some.injEq, exists_eq', putF, List.forall_mem_cons, List.not_mem_nil, false_implies, implies_true, exists_true_left, tys0, und0, md48, Tryd.ntmps48, Tryd.results48]
  exact PostR.ret

theorem indexFuncI_call (fid : FuncId) (caps : List AV) (q : Int → Bool) (hc : caps.all (below 0) = true) (hc2 : caps.all (belowL 0) = true) (hq : ∀ x, CallA Tryd.prog fid (.int .i64 x :: caps) [] (Ret (.bool (q x)) [])) (xs : List Int) (hm : xs.length ≤ 9223372036854775807) :
    CallA Tryd.prog 63 [.ro (ints xs), .fn fid caps] [] (Ret (.int .i64 (findI q xs 0)) []) := by
  refine CallP.out (t := .mk) (go_in (md := md63) mixed Tryd.func63 rfl go63 (by kernel_rfl) ?_)
  simp only [q0, q1, q2, q3, q4, q5, q6, q7, q8, q9, guardSlot, quietA, nilC, nilA, quietB, St.ev, St.put, St.after, List.getD_cons_succ, List.getD_cons_zero, List.length_cons, List.length_nil, Nat.reduceAdd, Nat.reduceSub, List.replicate_succ, List.replicate_zero, List.cons_append, List.nil_append, List.append_nil, List.set_cons_succ, List.set_cons_zero, ofV, ofL, lenA, binA, intBin, fltBin, strBin, cpxBin, true_and, and_true, unA, convA, convB, convO, pickV, List.map_cons, List.map_nil, resL, oneA, indexA, indexS, isQuiet, loadA, loadC, storeA, fieldA, partA, sliceA, boundA, buildA, placeA, setAll, appendA, readSl, newEl, Int.toNat_natCast, AV.cells, AV.solid, AV.one, Int.natCast_nonneg, exists_prop, List.getElem_cons_zero, List.getElem_cons_succ, List.getElem?_cons_zero, List.getElem?_cons_succ, Nat.zero_lt_one, Option.bind_some, Option.map_some, Option.map_none, kill, killM, killL, Bool.not_true, Bool.not_false, List.all_cons, List.all_nil, Bool.and_true, Bool.true_and, List.take_zero, List.drop_zero, List.drop_succ_cons, List.take_succ_cons, Nat.zero_add, Nat.add_zero, notInt, List.getElem?_toArray, ge_iff_le, gt_iff_lt, Nat.le_refl, Int.reduceToNat, cond_true, cond_false, ↓reduceIte, reduceCtorEq, Bool.false_eq_true, Bool.not_eq_true, Nat.reduceLT, Nat.reduceLeDiff, Nat.reduceMul, Nat.reduceEqDiff, Nat.succ_ne_self, Option.some.injEq, exists_eq', putF, List.forall_mem_cons, List.not_mem_nil, false_implies, implies_true, exists_true_left, tys0, und0, md63, Tryd.ntmps63, Tryd.results63]
  have hb : below 0 (.fn fid caps) = true := hc2
  have hb2 : ∀ l, below 0 (.ro l) = true := fun _ => rfl
  have hb3 : ∀ k n, below 0 (.int k n) = true := fun _ _ => rfl
  have hb4 : below 0 .any = true := rfl
  refine go_round (md := md63) mixed (by kernel_rfl) (fun i : {i : Nat // i ≤ xs.length ∧ findI q xs 0 = findI q (xs.drop i) i} => ⟨[.ro (ints xs), .fn fid caps, .any, .any, .any, .any, .any, .int .i64 xs.length, .int .i64 i.1, .any, .any, .any, .any, .any, .any, .any, .any, .any, .any], []⟩) (fun i => xs.length - i.1) ⟨0, by simp⟩ ?_ ?_
  · exact weak_drop (by simp) (by simp [DropHp]) (by simp [DropTm, DropV, hb, hb2, hb3, hb4])
  · intro ⟨i, hi, he⟩
    simp only [q0, q1, q2, q3, q4, q5, q6, q7, q8, q9, guardSlot, quietA, nilC, nilA, quietB, St.ev, St.put, St.after, List.getD_cons_succ, List.getD_cons_zero, List.length_cons, List.length_nil, Nat.reduceAdd, Nat.reduceSub, List.replicate_succ, List.replicate_zero, List.cons_append, List.nil_append, List.append_nil, List.set_cons_succ, List.set_cons_zero, ofV, ofL, lenA, binA, intBin, fltBin, strBin, cpxBin, true_and, and_true, unA, convA, convB, convO, pickV, List.map_cons, List.map_nil, resL, oneA, indexA, indexS, isQuiet, loadA, loadC, storeA, fieldA, partA, sliceA, boundA, buildA, placeA, setAll, appendA, readSl, newEl, Int.toNat_natCast, AV.cells, AV.solid, AV.one, Int.natCast_nonneg, exists_prop, List.getElem_cons_zero, List.getElem_cons_succ, List.getElem?_cons_zero, List.getElem?_cons_succ, Nat.zero_lt_one, Option.bind_some, Option.map_some, Option.map_none, kill, killM, killL, Bool.not_true, Bool.not_false, List.all_cons, List.all_nil, Bool.and_true, Bool.true_and, List.take_zero, List.drop_zero, List.drop_succ_cons, List.take_succ_cons, Nat.zero_add, Nat.add_zero, notInt, List.getElem?_toArray, ge_iff_le, gt_iff_lt, Nat.le_refl, Int.reduceToNat, cond_true, cond_false, ↓reduceIte, reduceCtorEq, Bool.false_eq_true, Bool.not_eq_true, Nat.reduceLT, Nat.reduceLeDiff, Nat.reduceMul, Nat.reduceEqDiff, Nat.succ_ne_self, Option.some.injEq, exists_eq', putF, List.forall_mem_cons, List.not_mem_nil, false_implies, implies_true, exists_true_left, tys0, und0, md63, Tryd.ntmps63, Tryd.results63]
    refine br_intro (fun h => ?_) (fun h => ?_) <;> simp only [q0, q1, q2, q3, q4, q5, q6, q7, q8, q9, guardSlot, quietA, nilC, nilA, quietB, St.ev, St.put, St.after, List.getD_cons_succ, List.getD_cons_zero, List.length_cons, List.length_nil, Nat.reduceAdd, Nat.reduceSub, List.replicate_succ, List.replicate_zero, List.cons_append, List.nil_append, List.append_nil, List.set_cons_succ, List.set_cons_zero, ofV, ofL, lenA, binA, intBin, fltBin, strBin, cpxBin, true_and, and_true, unA, convA, convB, convO, pickV, List.map_cons, List.map_nil, resL, oneA, indexA, indexS, isQuiet, loadA, loadC, storeA, fieldA, partA, sliceA, boundA, buildA, placeA, setAll, appendA, readSl, newEl, Int.toNat_natCast, AV.cells, AV.solid, AV.one, Int.natCast_nonneg, exists_prop, List.getElem_cons_zero, List.getElem_cons_succ, List.getElem?_cons_zero, List.getElem?_cons_succ, Nat.zero_lt_one, Option.bind_some, Option.map_some, Option.map_none, kill, killM, killL, Bool.not_true, Bool.not_false, List.all_cons, List.all_nil, Bool.and_true, Bool.true_and, List.take_zero, List.drop_zero, List.drop_succ_cons, List.take_succ_cons, Nat.zero_add, Nat.add_zero, notInt, List.getElem?_toArray, ge_iff_le, gt_iff_lt, Nat.le_refl, Int.reduceToNat, cond_true, cond_false, ↓reduceIte, reduceCtorEq, Bool.false_eq_true, Bool.not_eq_true, Nat.reduceLT, Nat.reduceLeDiff, Nat.reduceMul, Nat.reduceEqDiff, Nat.succ_ne_self, Option.some.injEq, exists_eq', putF, List.forall_mem_cons, List.not_mem_nil, false_implies, implies_true, exists_true_left, tys0, und0, md63, Tryd.ntmps63, Tryd.results63]
    · have hi' : i < xs.length := by simpa using h
      refine ⟨hi', call_ret (hq _) (by rw [List.all_cons, hc]; rfl) rfl ?_⟩
      simp only [q0, q1, q2, q3, q4, q5, q6, q7, q8, q9, guardSlot, quietA, nilC, nilA, quietB, St.ev, St.put, St.after, List.getD_cons_succ, List.getD_cons_zero, List.length_cons, List.length_nil, Nat.reduceAdd, Nat.reduceSub, List.replicate_succ, List.replicate_zero, List.cons_append, List.nil_append, List.append_nil, List.set_cons_succ, List.set_cons_zero, ofV, ofL, lenA, binA, intBin, fltBin, strBin, cpxBin, true_and, and_true, unA, convA, convB, convO, pickV, List.map_cons, List.map_nil, resL, oneA, indexA, indexS, isQuiet, loadA, loadC, storeA, fieldA, partA, sliceA, boundA, buildA, placeA, setAll, appendA, readSl, newEl, Int.toNat_natCast, AV.cells, AV.solid, AV.one, Int.natCast_nonneg, exists_prop, List.getElem_cons_zero, List.getElem_cons_succ, List.getElem?_cons_zero, List.getElem?_cons_succ, Nat.zero_lt_one, Option.bind_some, Option.map_some, Option.map_none, kill, killM, killL, Bool.not_true, Bool.not_false, List.all_cons, List.all_nil, Bool.and_true, Bool.true_and, List.take_zero, List.drop_zero, List.drop_succ_cons, List.take_succ_cons, Nat.zero_add, Nat.add_zero, notInt, List.getElem?_toArray, ge_iff_le, gt_iff_lt, Nat.le_refl, Int.reduceToNat, cond_true, cond_false, ↓reduceIte, reduceCtorEq, Bool.false_eq_true, Bool.not_eq_true, Nat.reduceLT, Nat.reduceLeDiff, Nat.reduceMul, Nat.reduceEqDiff, Nat.succ_ne_self, Option.some.injEq, exists_eq', putF, List.forall_mem_cons, List.not_mem_nil, false_implies, implies_true, exists_true_left, tys0, und0, md63, Tryd.ntmps63, Tryd.results63]
      rw [findI_step q xs i hi'] at he
      refine br_intro (fun h2 => ?_) (fun h2 => ?_) <;> simp only [q0, q1, q2, q3, q4, q5, q6, q7, q8, q9, guardSlot, quietA, nilC, nilA, quietB, St.ev, St.put, St.after, List.getD_cons_succ, List.getD_cons_zero, List.length_cons, List.length_nil, Nat.reduceAdd, Nat.reduceSub, List.replicate_succ, List.replicate_zero, List.cons_append, List.nil_append, List.append_nil, List.set_cons_succ, List.set_cons_zero, ofV, ofL, lenA, binA, intBin, fltBin, strBin, cpxBin, true_and, and_true, unA, convA, convB, convO, pickV, List.map_cons, List.map_nil, resL, oneA, indexA, indexS, isQuiet, loadA, loadC, storeA, fieldA, partA, sliceA, boundA, buildA, placeA, setAll, appendA, readSl, newEl, Int.toNat_natCast, AV.cells, AV.solid, AV.one, Int.natCast_nonneg, exists_prop, List.getElem_cons_zero, List.getElem_cons_succ, List.getElem?_cons_zero, List.getElem?_cons_succ, Nat.zero_lt_one, Option.bind_some, Option.map_some, Option.map_none, kill, killM, killL, Bool.not_true, Bool.not_false, List.all_cons, List.all_nil, Bool.and_true, Bool.true_and, List.take_zero, List.drop_zero, List.drop_succ_cons, List.take_succ_cons, Nat.zero_add, Nat.add_zero, notInt, List.getElem?_toArray, ge_iff_le, gt_iff_lt, Nat.le_refl, Int.reduceToNat, cond_true, cond_false, ↓reduceIte, reduceCtorEq, Bool.false_eq_true, Bool.not_eq_true, Nat.reduceLT, Nat.reduceLeDiff, Nat.reduceMul, Nat.reduceEqDiff, Nat.succ_ne_self, Option.some.injEq, exists_eq', putF, List.forall_mem_cons, List.not_mem_nil, false_implies, implies_true, exists_true_left, tys0, und0, md63, Tryd.ntmps63, Tryd.results63]
      · rw [h2] at he
        exact PostR.pure ⟨by rw [he]; rfl, rfl⟩ rfl
      · rw [h2] at he
        refine ⟨⟨i + 1, by omega, he⟩, by show xs.length - (i + 1) < _; omega, ?_⟩
        exact weak_drop (by simp) (by simp [DropHp]) (by simp [DropTm, DropV, hb, hb2, hb3, hb4, w64_succ i (by omega)])
    · have hi' : i = xs.length := by simp at h; omega
      subst hi'
      rw [List.drop_length] at he
      exact PostR.pure ⟨by rw [he]; rfl, rfl⟩ rfl

theorem containsFuncI_call (fid : FuncId) (caps : List AV) (q : Int → Bool) (hc : caps.all (below 0) = true) (hc2 : caps.all (belowL 0) = true) (hq : ∀ x, CallA Tryd.prog fid (.int .i64 x :: caps) [] (Ret (.bool (q x)) [])) (xs : List Int) (hm : xs.length ≤ 9223372036854775807) :
    CallA Tryd.prog 47 [.ro (ints xs), .fn fid caps] [] (Ret (.bool (xs.any q)) []) := by
  refine CallP.out (t := .mk) (go_in (md := md47) mixed Tryd.func47 rfl go47 (by kernel_rfl) ?_)
  simp only [q0, q1, q2, q3, q4, q5, q6, q7, q8, q9, guardSlot, quietA, nilC, nilA, quietB, St.ev, St.put, St.after, List.getD_cons_succ, List.getD_cons_zero, List.length_cons, List.length_nil, Nat.reduceAdd, Nat.reduceSub, List.replicate_succ, List.replicate_zero, List.cons_append, List.nil_append, List.append_nil, List.set_cons_succ, List.set_cons_zero, ofV, ofL, lenA, binA, intBin, fltBin, strBin, cpxBin, true_and, and_true, unA, convA, convB, convO, pickV, List.map_cons, List.map_nil, resL, oneA, indexA, indexS, isQuiet, loadA, loadC, storeA, fieldA, partA, sliceA, boundA, buildA, placeA, setAll, appendA, readSl, newEl, Int.toNat_natCast, AV.cells, AV.solid, AV.one, Int.natCast_nonneg, exists_prop, List.getElem_cons_zero, List.getElem_cons_succ, List.getElem?_cons_zero, List.getElem?_cons_succ, Nat.zero_lt_one, Option.bind_some, Option.map_some, Option.map_none, kill, killM, killL, Bool.not_true, Bool.not_false, List.all_cons, List.all_nil, Bool.and_true, Bool.true_and, List.take_zero, List.drop_zero, List.drop_succ_cons, List.take_succ_cons, Nat.zero_add, Nat.add_zero, notInt, List.getElem?_toArray, ge_iff_le, gt_iff_lt, Nat.le_refl, Int.reduceToNat, cond_true, cond_false, ↓reduceIte, reduceCtorEq, Bool.false_eq_true, Bool.not_eq_true, Nat.reduceLT, Nat.reduceLeDiff, Nat.reduceMul, Nat.reduceEqDiff, Nat.succ_ne_self, Option.some.injEq, exists_eq', putF, List.forall_mem_cons, List.not_mem_nil, false_implies, implies_true, exists_true_left, tys0, und0, md47, Tryd.ntmps47, Tryd.results47]
  refine call_ret (indexFuncI_call fid caps q hc hc2 hq xs hm) (by simpa [below, belowM, belowL] using hc2) rfl ?_
  simp only [q0, q1, q2, q3, q4, q5, q6, q7, q8, q9, guardSlot, quietA, nilC, nilA, quietB, St.ev, St.put, St.after, List.getD_cons_succ, List.getD_cons_zero, List.length_cons, List.length_nil, Nat.reduceAdd, Nat.reduceSub, List.replicate_succ, List.replicate_zero, List.cons_append, List.nil_append, List.append_nil, List.set_cons_succ, List.set_cons_zero, ofV, ofL, lenA, binA, intBin, fltBin, strBin, cpxBin, true_and, and_true, unA, convA, convB, convO, pickV, List.map_cons, List.map_nil, resL, oneA, indexA, indexS, isQuiet, loadA, loadC, storeA, fieldA, partA, sliceA, boundA, buildA, placeA, setAll, appendA, readSl, newEl, Int.toNat_natCast, AV.cells, AV.solid, AV.one, Int.natCast_nonneg, exists_prop, List.getElem_cons_zero, List.getElem_cons_succ, List.getElem?_cons_zero, List.getElem?_cons_succ, Nat.zero_lt_one, Option.bind_some, Option.map_some, Option.map_none, kill, killM, killL, Bool.not_true, Bool.not_false, List.all_cons, List.all_nil, Bool.and_true, Bool.true_and, List.take_zero, List.drop_zero, List.drop_succ_cons, List.take_succ_cons, Nat.zero_add, Nat.add_zero, notInt, List.getElem?_toArray, ge_iff_le, gt_iff_lt, Nat.le_refl, Int.reduceToNat, cond_true, cond_false, ↓reduceIte, reduceCtorEq, Bool.false_eq_true, Bool.not_eq_true, Nat.reduceLT, Nat.reduceLeDiff, Nat.reduceMul, Nat.reduceEqDiff, Nat.succ_ne_self, Option.some.injEq, exists_eq', putF, List.forall_mem_cons, List.not_mem_nil, false_implies, implies_true, exists_true_left, tys0, und0, md47, Tryd.ntmps47, Tryd.results47]
  exact PostR.pure ⟨by rw [← findI_any q xs 0], rfl⟩ rfl

theorem areWithin_call (xs : List Int) (lo hi : Int) (hm : xs.length ≤ 1048576) : CallA Tryd.prog 33 [.ro (ints xs), .int .i64 lo, .int .i64 hi] [] (Ret (.bool (xs.all (inR lo hi))) []) := by
  refine CallP.out (t := .mk) (go_in (md := md33) mixed Tryd.func33 rfl go33 (by kernel_rfl) ?_)
  simp only [q0, q1, q2, q3, q4, q5, q6, q7, q8, q9, guardSlot, quietA, nilC, nilA, quietB, St.ev, St.put, St.after, List.getD_cons_succ, List.getD_cons_zero, List.length_cons, List.length_nil, Nat.reduceAdd, Nat.reduceSub, List.replicate_succ, List.replicate_zero, List.cons_append, List.nil_append, List.append_nil, List.set_cons_succ, List.set_cons_zero, ofV, ofL, lenA, binA, intBin, fltBin, strBin, cpxBin, true_and, and_true, unA, convA, convB, convO, pickV, List.map_cons, List.map_nil, resL, oneA, indexA, indexS, isQuiet, loadA, loadC, storeA, fieldA, partA, sliceA, boundA, buildA, placeA, setAll, appendA, readSl, newEl, Int.toNat_natCast, AV.cells, AV.solid, AV.one, Int.natCast_nonneg, exists_prop, List.getElem_cons_zero, List.getElem_cons_succ, List.getElem?_cons_zero, List.getElem?_cons_succ, Nat.zero_lt_one, Option.bind_some, Option.map_some, Option.map_none, kill, killM, killL, Bool.not_true, Bool.not_false, List.all_cons, List.all_nil, Bool.and_true, Bool.true_and, List.take_zero, List.drop_zero, List.drop_succ_cons, List.take_succ_cons, Nat.zero_add, Nat.add_zero, notInt, List.getElem?_toArray, ge_iff_le, gt_iff_lt, Nat.le_refl, Int.reduceToNat, cond_true, cond_false, ↓reduceIte, reduceCtorEq, Bool.false_eq_true, Bool.not_eq_true, Nat.reduceLT, Nat.reduceLeDiff, Nat.reduceMul, Nat.reduceEqDiff, Nat.succ_ne_self, Option.some.injEq, exists_eq', putF, List.forall_mem_cons, List.not_mem_nil, false_implies, implies_true, exists_true_left, tys0, und0, md33, Tryd.ntmps33, Tryd.results33]
  refine call_lent 2 (by rfl) (containsFuncI_call _ [.rop [.int .i64 lo], .rop [.int .i64 hi]] (fun n => !inR lo hi n) rfl rfl (fun x => areWithin1_call x lo hi) xs (by omega)) rfl rfl ?_
  simp only [q0, q1, q2, q3, q4, q5, q6, q7, q8, q9, guardSlot, quietA, nilC, nilA, quietB, St.ev, St.put, St.after, List.getD_cons_succ, List.getD_cons_zero, List.length_cons, List.length_nil, Nat.reduceAdd, Nat.reduceSub, List.replicate_succ, List.replicate_zero, List.cons_append, List.nil_append, List.append_nil, List.set_cons_succ, List.set_cons_zero, ofV, ofL, lenA, binA, intBin, fltBin, strBin, cpxBin, true_and, and_true, unA, convA, convB, convO, pickV, List.map_cons, List.map_nil, resL, oneA, indexA, indexS, isQuiet, loadA, loadC, storeA, fieldA, partA, sliceA, boundA, buildA, placeA, setAll, appendA, readSl, newEl, Int.toNat_natCast, AV.cells, AV.solid, AV.one, Int.natCast_nonneg, exists_prop, List.getElem_cons_zero, List.getElem_cons_succ, List.getElem?_cons_zero, List.getElem?_cons_succ, Nat.zero_lt_one, Option.bind_some, Option.map_some, Option.map_none, kill, killM, killL, Bool.not_true, Bool.not_false, List.all_cons, List.all_nil, Bool.and_true, Bool.true_and, List.take_zero, List.drop_zero, List.drop_succ_cons, List.take_succ_cons, Nat.zero_add, Nat.add_zero, notInt, List.getElem?_toArray, ge_iff_le, gt_iff_lt, Nat.le_refl, Int.reduceToNat, cond_true, cond_false, ↓reduceIte, reduceCtorEq, Bool.false_eq_true, Bool.not_eq_true, Nat.reduceLT, Nat.reduceLeDiff, Nat.reduceMul, Nat.reduceEqDiff, Nat.succ_ne_self, Option.some.injEq, exists_eq', putF, List.forall_mem_cons, List.not_mem_nil, false_implies, implies_true, exists_true_left, tys0, und0, md33, Tryd.ntmps33, Tryd.results33]
  exact PostR.pure ⟨by rw [any_not], rfl⟩ rfl

def hasC (xs : List Int) (least most lo hi : Int) : Bool := decide (least ≤ (xs.length : Int)) && (decide ((xs.length : Int) ≤ most) && xs.all (inR lo hi))

theorem hasCount_call (xs : List Int) (least most lo hi : Int) (hm : xs.length ≤ 1048576) : CallA Tryd.prog 31 [.ro (ints xs), .int .i64 least, .int .i64 most, .int .i64 lo, .int .i64 hi] [] (Ret (.bool (hasC xs least most lo hi)) []) := by
  refine CallP.out (t := .mk) (go_in (md := md31) mixed Tryd.func31 rfl go31 (by kernel_rfl) ?_)
  simp only [q0, q1, q2, q3, q4, q5, q6, q7, q8, q9, guardSlot, quietA, nilC, nilA, quietB, St.ev, St.put, St.after, List.getD_cons_succ, List.getD_cons_zero, List.length_cons, List.length_nil, Nat.reduceAdd, Nat.reduceSub, List.replicate_succ, List.replicate_zero, List.cons_append, List.nil_append, List.append_nil, List.set_cons_succ, List.set_cons_zero, ofV, ofL, lenA, binA, intBin, fltBin, strBin, cpxBin, true_and, and_true, unA, convA, convB, convO, pickV, List.map_cons, List.map_nil, resL, oneA, indexA, indexS, isQuiet, loadA, loadC, storeA, fieldA, partA, sliceA, boundA, buildA, placeA, setAll, appendA, readSl, newEl, Int.toNat_natCast, AV.cells, AV.solid, AV.one, Int.natCast_nonneg, exists_prop, List.getElem_cons_zero, List.getElem_cons_succ, List.getElem?_cons_zero, List.getElem?_cons_succ, Nat.zero_lt_one, Option.bind_some, Option.map_some, Option.map_none, kill, killM, killL, Bool.not_true, Bool.not_false, List.all_cons, List.all_nil, Bool.and_true, Bool.true_and, List.take_zero, List.drop_zero, List.drop_succ_cons, List.take_succ_cons, Nat.zero_add, Nat.add_zero, notInt, List.getElem?_toArray, ge_iff_le, gt_iff_lt, Nat.le_refl, Int.reduceToNat, cond_true, cond_false, ↓reduceIte, reduceCtorEq, Bool.false_eq_true, Bool.not_eq_true, Nat.reduceLT, Nat.reduceLeDiff, Nat.reduceMul, Nat.reduceEqDiff, Nat.succ_ne_self, Option.some.injEq, exists_eq', putF, List.forall_mem_cons, List.not_mem_nil, false_implies, implies_true, exists_true_left, tys0, und0, md31, Tryd.ntmps31, Tryd.results31]
  refine br_intro (fun h1 => ?_) (fun h1 => ?_) <;> simp only [q0, q1, q2, q3, q4, q5, q6, q7, q8, q9, guardSlot, quietA, nilC, nilA, quietB, St.ev, St.put, St.after, List.getD_cons_succ, List.getD_cons_zero, List.length_cons, List.length_nil, Nat.reduceAdd, Nat.reduceSub, List.replicate_succ, List.replicate_zero, List.cons_append, List.nil_append, List.append_nil, List.set_cons_succ, List.set_cons_zero, ofV, ofL, lenA, binA, intBin, fltBin, strBin, cpxBin, true_and, and_true, unA, convA, convB, convO, pickV, List.map_cons, List.map_nil, resL, oneA, indexA, indexS, isQuiet, loadA, loadC, storeA, fieldA, partA, sliceA, boundA, buildA, placeA, setAll, appendA, readSl, newEl, Int.toNat_natCast, AV.cells, AV.solid, AV.one, Int.natCast_nonneg, exists_prop, List.getElem_cons_zero, List.getElem_cons_succ, List.getElem?_cons_zero, List.getElem?_cons_succ, Nat.zero_lt_one, Option.bind_some, Option.map_some, Option.map_none, kill, killM, killL, Bool.not_true, Bool.not_false, List.all_cons, List.all_nil, Bool.and_true, Bool.true_and, List.take_zero, List.drop_zero, List.drop_succ_cons, List.take_succ_cons, Nat.zero_add, Nat.add_zero, notInt, List.getElem?_toArray, ge_iff_le, gt_iff_lt, Nat.le_refl, Int.reduceToNat, cond_true, cond_false, ↓reduceIte, reduceCtorEq, Bool.false_eq_true, Bool.not_eq_true, Nat.reduceLT, Nat.reduceLeDiff, Nat.reduceMul, Nat.reduceEqDiff, Nat.succ_ne_self, Option.some.injEq, exists_eq', putF, List.forall_mem_cons, List.not_mem_nil, false_implies, implies_true, exists_true_left, tys0, und0, md31, Tryd.ntmps31, Tryd.results31]
  · refine br_intro (fun h2 => ?_) (fun h2 => ?_) <;> simp only [q0, q1, q2, q3, q4, q5, q6, q7, q8, q9, guardSlot, quietA, nilC, nilA, quietB, St.ev, St.put, St.after, List.getD_cons_succ, List.getD_cons_zero, List.length_cons, List.length_nil, Nat.reduceAdd, Nat.reduceSub, List.replicate_succ, List.replicate_zero, List.cons_append, List.nil_append, List.append_nil, List.set_cons_succ, List.set_cons_zero, ofV, ofL, lenA, binA, intBin, fltBin, strBin, cpxBin, true_and, and_true, unA, convA, convB, convO, pickV, List.map_cons, List.map_nil, resL, oneA, indexA, indexS, isQuiet, loadA, loadC, storeA, fieldA, partA, sliceA, boundA, buildA, placeA, setAll, appendA, readSl, newEl, Int.toNat_natCast, AV.cells, AV.solid, AV.one, Int.natCast_nonneg, exists_prop, List.getElem_cons_zero, List.getElem_cons_succ, List.getElem?_cons_zero, List.getElem?_cons_succ, Nat.zero_lt_one, Option.bind_some, Option.map_some, Option.map_none, kill, killM, killL, Bool.not_true, Bool.not_false, List.all_cons, List.all_nil, Bool.and_true, Bool.true_and, List.take_zero, List.drop_zero, List.drop_succ_cons, List.take_succ_cons, Nat.zero_add, Nat.add_zero, notInt, List.getElem?_toArray, ge_iff_le, gt_iff_lt, Nat.le_refl, Int.reduceToNat, cond_true, cond_false, ↓reduceIte, reduceCtorEq, Bool.false_eq_true, Bool.not_eq_true, Nat.reduceLT, Nat.reduceLeDiff, Nat.reduceMul, Nat.reduceEqDiff, Nat.succ_ne_self, Option.some.injEq, exists_eq', putF, List.forall_mem_cons, List.not_mem_nil, false_implies, implies_true, exists_true_left, tys0, und0, md31, Tryd.ntmps31, Tryd.results31]
    · refine call_ret (areWithin_call xs lo hi hm) rfl rfl ?_
      simp only [q0, q1, q2, q3, q4, q5, q6, q7, q8, q9, guardSlot, quietA, nilC, nilA, quietB, St.ev, St.put, St.after, List.getD_cons_succ, List.getD_cons_zero, List.length_cons, List.length_nil, Nat.reduceAdd, Nat.reduceSub, List.replicate_succ, List.replicate_zero, List.cons_append, List.nil_append, List.append_nil, List.set_cons_succ, List.set_cons_zero, ofV, ofL, lenA, binA, intBin, fltBin, strBin, cpxBin, true_and, and_true, unA, convA, convB, convO, pickV, List.map_cons, List.map_nil, resL, oneA, indexA, indexS, isQuiet, loadA, loadC, storeA, fieldA, partA, sliceA, boundA, buildA, placeA, setAll, appendA, readSl, newEl, Int.toNat_natCast, AV.cells, AV.solid, AV.one, Int.natCast_nonneg, exists_prop, List.getElem_cons_zero, List.getElem_cons_succ, List.getElem?_cons_zero, List.getElem?_cons_succ, Nat.zero_lt_one, Option.bind_some, Option.map_some, Option.map_none, kill, killM, killL, Bool.not_true, Bool.not_false, List.all_cons, List.all_nil, Bool.and_true, Bool.true_and, List.take_zero, List.drop_zero, List.drop_succ_cons, List.take_succ_cons, Nat.zero_add, Nat.add_zero, notInt, List.getElem?_toArray, ge_iff_le, gt_iff_lt, Nat.le_refl, Int.reduceToNat, cond_true, cond_false, ↓reduceIte, reduceCtorEq, Bool.false_eq_true, Bool.not_eq_true, Nat.reduceLT, Nat.reduceLeDiff, Nat.reduceMul, Nat.reduceEqDiff, Nat.succ_ne_self, Option.some.injEq, exists_eq', putF, List.forall_mem_cons, List.not_mem_nil, false_implies, implies_true, exists_true_left, tys0, und0, md31, Tryd.ntmps31, Tryd.results31]
      exact PostR.pure ⟨by simp only [hasC, h1, h2, Bool.true_and], rfl⟩ rfl
    · exact PostR.pure ⟨by simp only [hasC, h2, Bool.false_and, Bool.and_false], rfl⟩ rfl
  · exact PostR.pure ⟨by simp only [hasC, h1, Bool.false_and], rfl⟩ rfl

theorem l00In_call (a b c : Int) : CallA Tryd.prog 35 [.int .i64 a, .int .i64 b, .int .i64 c] [] (Ret (.bool (inR b c a)) []) := by
  refine CallP.out (t := .mk) (go_in (md := md35) mixed Tryd.func35 rfl go35 (by kernel_rfl) ?_)
  simp only [q0, q1, q2, q3, q4, q5, q6, q7, q8, q9, guardSlot, quietA, nilC, nilA, quietB, St.ev, St.put, St.after, List.getD_cons_succ, List.getD_cons_zero, List.length_cons, List.length_nil, Nat.reduceAdd, Nat.reduceSub, List.replicate_succ, List.replicate_zero, List.cons_append, List.nil_append, List.append_nil, List.set_cons_succ, List.set_cons_zero, ofV, ofL, lenA, binA, intBin, fltBin, strBin, cpxBin, true_and, and_true, unA, convA, convB, convO, pickV, List.map_cons, List.map_nil, resL, oneA, indexA, indexS, isQuiet, loadA, loadC, storeA, fieldA, partA, sliceA, boundA, buildA, placeA, setAll, appendA, readSl, newEl, Int.toNat_natCast, AV.cells, AV.solid, AV.one, Int.natCast_nonneg, exists_prop, List.getElem_cons_zero, List.getElem_cons_succ, List.getElem?_cons_zero, List.getElem?_cons_succ, Nat.zero_lt_one, Option.bind_some, Option.map_some, Option.map_none, kill, killM, killL, Bool.not_true, Bool.not_false, List.all_cons, List.all_nil, Bool.and_true, Bool.true_and, List.take_zero, List.drop_zero, List.drop_succ_cons, List.take_succ_cons, Nat.zero_add, Nat.add_zero, notInt, List.getElem?_toArray, ge_iff_le, gt_iff_lt, Nat.le_refl, Int.reduceToNat, cond_true, cond_false, ↓reduceIte, reduceCtorEq, Bool.false_eq_true, Bool.not_eq_true, Nat.reduceLT, Nat.reduceLeDiff, Nat.reduceMul, Nat.reduceEqDiff, Nat.succ_ne_self, Option.some.injEq, exists_eq', putF, List.forall_mem_cons, List.not_mem_nil, false_implies, implies_true, exists_true_left, tys0, und0, md35, Tryd.ntmps35, Tryd.results35]
  refine br_intro (fun h => ?_) (fun h => ?_) <;> simp only [q0, q1, q2, q3, q4, q5, q6, q7, q8, q9, guardSlot, quietA, nilC, nilA, quietB, St.ev, St.put, St.after, List.getD_cons_succ, List.getD_cons_zero, List.length_cons, List.length_nil, Nat.reduceAdd, Nat.reduceSub, List.replicate_succ, List.replicate_zero, List.cons_append, List.nil_append, List.append_nil, List.set_cons_succ, List.set_cons_zero, ofV, ofL, lenA, binA, intBin, fltBin, strBin, cpxBin, true_and, and_true, unA, convA, convB, convO, pickV, List.map_cons, List.map_nil, resL, oneA, indexA, indexS, isQuiet, loadA, loadC, storeA, fieldA, partA, sliceA, boundA, buildA, placeA, setAll, appendA, readSl, newEl, Int.toNat_natCast, AV.cells, AV.solid, AV.one, Int.natCast_nonneg, exists_prop, List.getElem_cons_zero, List.getElem_cons_succ, List.getElem?_cons_zero, List.getElem?_cons_succ, Nat.zero_lt_one, Option.bind_some, Option.map_some, Option.map_none, kill, killM, killL, Bool.not_true, Bool.not_false, List.all_cons, List.all_nil, Bool.and_true, Bool.true_and, List.take_zero, List.drop_zero, List.drop_succ_cons, List.take_succ_cons, Nat.zero_add, Nat.add_zero, notInt, List.getElem?_toArray, ge_iff_le, gt_iff_lt, Nat.le_refl, Int.reduceToNat, cond_true, cond_false, ↓reduceIte, reduceCtorEq, Bool.false_eq_true, Bool.not_eq_true, Nat.reduceLT, Nat.reduceLeDiff, Nat.reduceMul, Nat.reduceEqDiff, Nat.succ_ne_self, Option.some.injEq, exists_eq', putF, List.forall_mem_cons, List.not_mem_nil, false_implies, implies_true, exists_true_left, tys0, und0, md35, Tryd.ntmps35, Tryd.results35]
  · exact PostR.pure ⟨by simp at h; simp [inR, h], rfl⟩ rfl
  · exact PostR.pure ⟨by simp at h; simp [inR]; omega, rfl⟩ rfl

/-! Incomes. -/

theorem pref_at {p : Nat → Bool} {n : Nat} (h : pref p n = true) (j : Nat) (hj : j < n) : p j = true := by
  rw [pref, List.all_eq_true] at h
  exact h j (by simpa using hj)


def strB (l : List (List UInt8)) : Blk := { ty := 9, w := 1, els := strs l }

theorem tabG : (Tryd.prog.globalNamed "internal/strconv.uint64pow10").isSome = true := by kernel_rfl

theorem formatInt_call (n : Int) (h0 : -9223372036854775808 ≤ n) (h1 : n ≤ 9223372036854775807) : CallA Tryd.prog 46 [.int .i64 n, .int .i64 10] [] (Ret (.str (Lib.itoa n)) []) :=
  itoa_call tabG go46 n (fun w ht => strconv_FormatInt_10 n h0 h1 w ht)

theorem decimal_call (n : Int) (h0 : -9223372036854775808 ≤ n) (h1 : n ≤ 9223372036854775807) : CallA Tryd.prog 30 [.int .i64 n] [] (Ret (.str (Lib.itoa n)) []) := by
  refine CallP.out (t := .mk) (go_in (md := md30) mixed Tryd.func30 rfl go30 (by kernel_rfl) ?_)
  simp only [q0, q1, q2, q3, q4, q5, q6, q7, q8, q9, guardSlot, quietA, nilC, nilA, quietB, St.ev, St.put, St.after, List.getD_cons_succ, List.getD_cons_zero, List.length_cons, List.length_nil, Nat.reduceAdd, Nat.reduceSub, List.replicate_succ, List.replicate_zero, List.cons_append, List.nil_append, List.append_nil, List.set_cons_succ, List.set_cons_zero, ofV, ofL, lenA, binA, intBin, fltBin, strBin, cpxBin, true_and, and_true, unA, convA, convB, convO, pickV, List.map_cons, List.map_nil, resL, oneA, indexA, indexS, isQuiet, loadA, loadC, storeA, fieldA, partA, sliceA, boundA, buildA, placeA, setAll, appendA, readSl, newEl, Int.toNat_natCast, AV.cells, AV.solid, AV.one, Int.natCast_nonneg, exists_prop, List.getElem_cons_zero, List.getElem_cons_succ, List.getElem?_cons_zero, List.getElem?_cons_succ, Nat.zero_lt_one, Option.bind_some, Option.map_some, Option.map_none, kill, killM, killL, Bool.not_true, Bool.not_false, List.all_cons, List.all_nil, Bool.and_true, Bool.true_and, List.take_zero, List.drop_zero, List.drop_succ_cons, List.take_succ_cons, Nat.zero_add, Nat.add_zero, notInt, List.getElem?_toArray, ge_iff_le, gt_iff_lt, Nat.le_refl, Int.reduceToNat, cond_true, cond_false, ↓reduceIte, reduceCtorEq, Bool.false_eq_true, Bool.not_eq_true, Nat.reduceLT, Nat.reduceLeDiff, Nat.reduceMul, Nat.reduceEqDiff, Nat.succ_ne_self, Option.some.injEq, exists_eq', putF, List.forall_mem_cons, List.not_mem_nil, false_implies, implies_true, exists_true_left, tys0, und0, md30, Tryd.ntmps30, Tryd.results30]
  refine call_ret (formatInt_call n h0 h1) rfl rfl ?_
  simp only [q0, q1, q2, q3, q4, q5, q6, q7, q8, q9, guardSlot, quietA, nilC, nilA, quietB, St.ev, St.put, St.after, List.getD_cons_succ, List.getD_cons_zero, List.length_cons, List.length_nil, Nat.reduceAdd, Nat.reduceSub, List.replicate_succ, List.replicate_zero, List.cons_append, List.nil_append, List.append_nil, List.set_cons_succ, List.set_cons_zero, ofV, ofL, lenA, binA, intBin, fltBin, strBin, cpxBin, true_and, and_true, unA, convA, convB, convO, pickV, List.map_cons, List.map_nil, resL, oneA, indexA, indexS, isQuiet, loadA, loadC, storeA, fieldA, partA, sliceA, boundA, buildA, placeA, setAll, appendA, readSl, newEl, Int.toNat_natCast, AV.cells, AV.solid, AV.one, Int.natCast_nonneg, exists_prop, List.getElem_cons_zero, List.getElem_cons_succ, List.getElem?_cons_zero, List.getElem?_cons_succ, Nat.zero_lt_one, Option.bind_some, Option.map_some, Option.map_none, kill, killM, killL, Bool.not_true, Bool.not_false, List.all_cons, List.all_nil, Bool.and_true, Bool.true_and, List.take_zero, List.drop_zero, List.drop_succ_cons, List.take_succ_cons, Nat.zero_add, Nat.add_zero, notInt, List.getElem?_toArray, ge_iff_le, gt_iff_lt, Nat.le_refl, Int.reduceToNat, cond_true, cond_false, ↓reduceIte, reduceCtorEq, Bool.false_eq_true, Bool.not_eq_true, Nat.reduceLT, Nat.reduceLeDiff, Nat.reduceMul, Nat.reduceEqDiff, Nat.succ_ne_self, Option.some.injEq, exists_eq', putF, List.forall_mem_cons, List.not_mem_nil, false_implies, implies_true, exists_true_left, tys0, und0, md30, Tryd.ntmps30, Tryd.results30]
  exact PostR.ret

theorem itoa_abs (n : Int) : Lib.itoa n = if n < 0 then 45 :: Lib.decDigits n.natAbs else Lib.decDigits n.natAbs := by
  unfold Lib.itoa
  by_cases h : n < 0
  · rw [if_pos h, if_pos h]
  · rw [if_neg h, if_neg h]
    congr 1
    omega

theorem digit_byte (m : Nat) (h : m < 10) : ((UInt8.ofNat (48 + m)).toNat : Int) = 48 + m := by
  simp only [UInt8.toNat_ofNat']
  omega

theorem strs_kill (b : Nat) (L : List (List UInt8)) : (strs L).map (kill b) = strs L := by
  unfold strs
  rw [List.map_map]
  exact List.map_congr_left fun x _ => rfl

theorem strs_more (b : Nat) (L : List (List UInt8)) (x : List UInt8) : (strs L ++ [AV.str x]).map (kill b) = strs (L ++ [x]) := by
  rw [show strs L ++ [AV.str x] = strs (L ++ [x]) from (strs_app L [x]).symm, strs_kill]

theorem allW_str (x : List UInt8) : AllW 1 [AV.str x] := by
  intro a ha
  rw [List.mem_singleton.1 ha]
  exact ⟨rfl, rfl⟩

theorem back_strs (xs : List (List UInt8)) : (xs.map fun x => (⟨x.toArray⟩ : ByteArray)).map (·.data.toList) = xs := by
  rw [List.map_map]
  exact (List.map_congr_left fun x _ => rfl).trans (List.map_id xs)

theorem joinS_call (sep : List UInt8) (xs : List (List UInt8)) (hN : xs.length ≤ 1048576) (hlen : (Lib.join xs sep).length ≤ 140737488355328) : CallA Tryd.prog 34 [.ro (strs xs), .str sep] [] (Ret (.str (Lib.join xs sep)) []) := by
  refine join_call go34 sep xs (fun a c w => strings_Join_none a c _ w) (fun bk o c w hc hb hcap => ?_)
  have := strings_Join bk o c (xs.map fun x => (⟨x.toArray⟩ : ByteArray)) ⟨sep.toArray⟩ w (fun j x hx => by
    simp only [List.getElem?_map, Option.map_eq_some_iff] at hx
    obtain ⟨y, h1, rfl⟩ := hx
    exact hc j y h1) hb (by simp; omega) (by simpa using hcap) (by rw [back_strs]; exact hlen)
  rw [back_strs, List.length_map] at this
  exact this

theorem dec_len : ∀ (k u : Nat), u < 10 ^ (k + 1) → (Lib.decDigits u).length ≤ k + 1
  | 0, u, h => by
    unfold Lib.decDigits
    rw [dif_pos (by simpa using h)]
    simp
  | k + 1, u, h => by
    unfold Lib.decDigits
    split
    · simp
    · have : u / 10 < 10 ^ (k + 1) := by
        rw [Nat.div_lt_iff_lt_mul (by omega)]
        rw [Nat.pow_succ] at h
        exact h
      have := dec_len k (u / 10) this
      simp; omega

def okI (x : Int) : Prop := -9223372036854775808 ≤ x ∧ x ≤ 9223372036854775807

theorem itoa_len {x : Int} (h : okI x) : (Lib.itoa x).length ≤ 21 := by
  have h1 : x.natAbs < 10 ^ (19 + 1) := by
    have e : (10 : Nat) ^ (19 + 1) = 100000000000000000000 := by decide
    unfold okI at h
    omega
  have := dec_len 19 x.natAbs h1
  rw [itoa_abs]
  split
  · simp; omega
  · omega

theorem tail_len {sep : List UInt8} (hs : sep.length ≤ 3) : ∀ (r : List (List UInt8)), (∀ x ∈ r, x.length ≤ 21) → (Lib.joinTail sep r).length ≤ r.length * 24
  | [], _ => by simp [Lib.joinTail]
  | x :: r, h => by
    have h1 := h x List.mem_cons_self
    have h2 := tail_len hs r (fun y hy => h y (List.mem_cons_of_mem _ hy))
    simp only [Lib.joinTail, List.map_cons, List.flatten_cons, List.length_append, List.length_cons, List.length_nil] at h2 ⊢
    omega

/-- A list of numbers, as a text. -/
def txt (sep : List UInt8) (xs : List Int) : List UInt8 := Lib.join (xs.map Lib.itoa) sep

theorem txt_len {sep : List UInt8} (hs : sep.length ≤ 3) (xs : List Int) (h : ∀ x ∈ xs, okI x) : (txt sep xs).length ≤ xs.length * 24 := by
  unfold txt
  cases xs with
  | nil => simp [Lib.join_nil]
  | cons x r =>
    have h1 := itoa_len (h x List.mem_cons_self)
    have h2 := tail_len hs (r.map Lib.itoa) (fun y hy => by
      obtain ⟨z, h3, rfl⟩ := List.mem_map.1 hy
      exact itoa_len (h z (List.mem_cons_of_mem _ h3)))
    rw [List.map_cons, Lib.join_cons]
    simp only [List.length_append, List.length_cons, List.length_map] at h2 ⊢
    omega

theorem txt_succ (sep : List UInt8) (xs : List Int) (i : Nat) (hi : i < xs.length) (h0 : 1 ≤ i) : txt sep (xs.take (i + 1)) = txt sep (xs.take i) ++ sep ++ Lib.itoa xs[i] := by
  cases xs with
  | nil => simp at hi
  | cons x r =>
    obtain ⟨k, rfl⟩ : ∃ k, i = k + 1 := ⟨i - 1, by omega⟩
    have hk : k < r.length := by simpa using hi
    unfold txt
    simp only [List.take_succ_cons, List.map_cons, Lib.join_cons, List.getElem_cons_succ, List.map_take]
    rw [Lib.joinTail_take_succ sep (r.map Lib.itoa) k (Lib.itoa r[k]) (by simp [hk])]
    simp [List.append_assoc]

theorem decimals_call (sep : List UInt8) (hs : sep.length ≤ 3) (xs : List Int) (hm : xs.length ≤ 1048576) (hb : ∀ x ∈ xs, okI x) : CallA Tryd.prog 23 [.ro (ints xs), .str sep] [] (Ret (.str (txt sep xs)) []) := by
  refine CallP.out (t := .mk) (go_in (md := md23) mixed Tryd.func23 rfl go23 (by kernel_rfl) ?_)
  simp only [q0, q1, q2, q3, q4, q5, q6, q7, q8, q9, guardSlot, quietA, nilC, nilA, quietB, St.ev, St.put, St.after, List.getD_cons_succ, List.getD_cons_zero, List.length_cons, List.length_nil, Nat.reduceAdd, Nat.reduceSub, List.replicate_succ, List.replicate_zero, List.cons_append, List.nil_append, List.append_nil, List.set_cons_succ, List.set_cons_zero, ofV, ofL, lenA, binA, intBin, fltBin, strBin, cpxBin, true_and, and_true, unA, convA, convB, convO, pickV, List.map_cons, List.map_nil, resL, oneA, indexA, indexS, isQuiet, loadA, loadC, storeA, fieldA, partA, sliceA, boundA, buildA, placeA, setAll, appendA, readSl, newEl, Int.toNat_natCast, AV.cells, AV.solid, AV.one, Int.natCast_nonneg, exists_prop, List.getElem_cons_zero, List.getElem_cons_succ, List.getElem?_cons_zero, List.getElem?_cons_succ, Nat.zero_lt_one, Option.bind_some, Option.map_some, Option.map_none, kill, killM, killL, Bool.not_true, Bool.not_false, List.all_cons, List.all_nil, Bool.and_true, Bool.true_and, List.take_zero, List.drop_zero, List.drop_succ_cons, List.take_succ_cons, Nat.zero_add, Nat.add_zero, notInt, List.getElem?_toArray, ge_iff_le, gt_iff_lt, Nat.le_refl, Int.reduceToNat, cond_true, cond_false, ↓reduceIte, reduceCtorEq, Bool.false_eq_true, Bool.not_eq_true, Nat.reduceLT, Nat.reduceLeDiff, Nat.reduceMul, Nat.reduceEqDiff, Nat.succ_ne_self, Option.some.injEq, exists_eq', putF, List.forall_mem_cons, List.not_mem_nil, false_implies, implies_true, exists_true_left, tys0, und0, md23, Tryd.ntmps23, Tryd.results23]
  refine go_round (md := md23) mixed (by kernel_rfl) (fun i : {i : Nat // i ≤ xs.length} => ⟨[.any, .str sep, .any, .any, .any, .sl 0 0 i.1, .any, .any, .any, .ro (ints xs), .int .i64 xs.length, .int .i64 i.1, .any, .any, .any, .any, .any, .any, .any, .any, .any, .any, .any, .any], [strB ((xs.take i.1).map Lib.itoa)]⟩) (fun i => xs.length - i.1) ⟨0, by omega⟩ ?_ ?_
  · exact weak_drop (by simp) (by simp [DropHp, ints_below, flts_below, strB, strs, allBelow_cons, allBelow_nil, below, belowM, belowL]) (by simp [DropTm, DropV, below, belowM, belowL, strB, strs, allBelow_cons, allBelow_nil, below, belowM, belowL])
  rintro ⟨i, hi⟩
  have ll : (strs ((xs.take i).map Lib.itoa)).length = i := by rw [strs_len, List.length_map, List.length_take]; omega
  have nx := fun h : i < xs.length => (show (xs.take i).map Lib.itoa ++ [Lib.itoa xs[i]] = (xs.take (i + 1)).map Lib.itoa by rw [take_snoc _ _ h, List.map_append]; rfl)
  simp only [q0, q1, q2, q3, q4, q5, q6, q7, q8, q9, guardSlot, quietA, nilC, nilA, quietB, St.ev, St.put, St.after, List.getD_cons_succ, List.getD_cons_zero, List.length_cons, List.length_nil, Nat.reduceAdd, Nat.reduceSub, List.replicate_succ, List.replicate_zero, List.cons_append, List.nil_append, List.append_nil, List.set_cons_succ, List.set_cons_zero, ofV, ofL, lenA, binA, intBin, fltBin, strBin, cpxBin, true_and, and_true, unA, convA, convB, convO, pickV, List.map_cons, List.map_nil, resL, oneA, indexA, indexS, isQuiet, loadA, loadC, storeA, fieldA, partA, sliceA, boundA, buildA, placeA, setAll, appendA, readSl, newEl, Int.toNat_natCast, AV.cells, AV.solid, AV.one, Int.natCast_nonneg, exists_prop, List.getElem_cons_zero, List.getElem_cons_succ, List.getElem?_cons_zero, List.getElem?_cons_succ, Nat.zero_lt_one, Option.bind_some, Option.map_some, Option.map_none, kill, killM, killL, Bool.not_true, Bool.not_false, List.all_cons, List.all_nil, Bool.and_true, Bool.true_and, List.take_zero, List.drop_zero, List.drop_succ_cons, List.take_succ_cons, Nat.zero_add, Nat.add_zero, notInt, List.getElem?_toArray, ge_iff_le, gt_iff_lt, Nat.le_refl, Int.reduceToNat, cond_true, cond_false, ↓reduceIte, reduceCtorEq, Bool.false_eq_true, Bool.not_eq_true, Nat.reduceLT, Nat.reduceLeDiff, Nat.reduceMul, Nat.reduceEqDiff, Nat.succ_ne_self, Option.some.injEq, exists_eq', putF, List.forall_mem_cons, List.not_mem_nil, false_implies, implies_true, exists_true_left, tys0, und0, md23, Tryd.ntmps23, Tryd.results23, strB]
  refine br_intro (fun h => ?_) (fun h => ?_) <;> simp only [q0, q1, q2, q3, q4, q5, q6, q7, q8, q9, guardSlot, quietA, nilC, nilA, quietB, St.ev, St.put, St.after, List.getD_cons_succ, List.getD_cons_zero, List.length_cons, List.length_nil, Nat.reduceAdd, Nat.reduceSub, List.replicate_succ, List.replicate_zero, List.cons_append, List.nil_append, List.append_nil, List.set_cons_succ, List.set_cons_zero, ofV, ofL, lenA, binA, intBin, fltBin, strBin, cpxBin, true_and, and_true, unA, convA, convB, convO, pickV, List.map_cons, List.map_nil, resL, oneA, indexA, indexS, isQuiet, loadA, loadC, storeA, fieldA, partA, sliceA, boundA, buildA, placeA, setAll, appendA, readSl, newEl, Int.toNat_natCast, AV.cells, AV.solid, AV.one, Int.natCast_nonneg, exists_prop, List.getElem_cons_zero, List.getElem_cons_succ, List.getElem?_cons_zero, List.getElem?_cons_succ, Nat.zero_lt_one, Option.bind_some, Option.map_some, Option.map_none, kill, killM, killL, Bool.not_true, Bool.not_false, List.all_cons, List.all_nil, Bool.and_true, Bool.true_and, List.take_zero, List.drop_zero, List.drop_succ_cons, List.take_succ_cons, Nat.zero_add, Nat.add_zero, notInt, List.getElem?_toArray, ge_iff_le, gt_iff_lt, Nat.le_refl, Int.reduceToNat, cond_true, cond_false, ↓reduceIte, reduceCtorEq, Bool.false_eq_true, Bool.not_eq_true, Nat.reduceLT, Nat.reduceLeDiff, Nat.reduceMul, Nat.reduceEqDiff, Nat.succ_ne_self, Option.some.injEq, exists_eq', putF, List.forall_mem_cons, List.not_mem_nil, false_implies, implies_true, exists_true_left, tys0, und0, md23, Tryd.ntmps23, Tryd.results23, strB]
  · have hi' : i < xs.length := by have := of_decide_eq_true h; omega
    have hI : (i : Int) < (xs.length : Int) := by omega
    have nx := nx hi'
    have ok := hb xs[i] (List.getElem_mem hi')
    have w1 : IntKind.i64.wrap ((i : Int) + 1) = ((i + 1 : Nat) : Int) := by rw [w64 (by omega) (by omega)]; omega
    simp only [q0, q1, q2, q3, q4, q5, q6, q7, q8, q9, guardSlot, quietA, nilC, nilA, quietB, St.ev, St.put, St.after, List.getD_cons_succ, List.getD_cons_zero, List.length_cons, List.length_nil, Nat.reduceAdd, Nat.reduceSub, List.replicate_succ, List.replicate_zero, List.cons_append, List.nil_append, List.append_nil, List.set_cons_succ, List.set_cons_zero, ofV, ofL, lenA, binA, intBin, fltBin, strBin, cpxBin, true_and, and_true, unA, convA, convB, convO, pickV, List.map_cons, List.map_nil, resL, oneA, indexA, indexS, isQuiet, loadA, loadC, storeA, fieldA, partA, sliceA, boundA, buildA, placeA, setAll, appendA, readSl, newEl, Int.toNat_natCast, AV.cells, AV.solid, AV.one, Int.natCast_nonneg, exists_prop, List.getElem_cons_zero, List.getElem_cons_succ, List.getElem?_cons_zero, List.getElem?_cons_succ, Nat.zero_lt_one, Option.bind_some, Option.map_some, Option.map_none, kill, killM, killL, Bool.not_true, Bool.not_false, List.all_cons, List.all_nil, Bool.and_true, Bool.true_and, List.take_zero, List.drop_zero, List.drop_succ_cons, List.take_succ_cons, Nat.zero_add, Nat.add_zero, notInt, List.getElem?_toArray, ge_iff_le, gt_iff_lt, Nat.le_refl, Int.reduceToNat, cond_true, cond_false, ↓reduceIte, reduceCtorEq, Bool.false_eq_true, Bool.not_eq_true, Nat.reduceLT, Nat.reduceLeDiff, Nat.reduceMul, Nat.reduceEqDiff, Nat.succ_ne_self, Option.some.injEq, exists_eq', putF, List.forall_mem_cons, List.not_mem_nil, false_implies, implies_true, exists_true_left, tys0, und0, md23, Tryd.ntmps23, Tryd.results23, strB, hi', hI]
    refine call_ret (decimal_call xs[i] ok.1 ok.2) rfl rfl ?_
    generalize (xs.take i).map Lib.itoa = T at ll nx
    simp only [q0, q1, q2, q3, q4, q5, q6, q7, q8, q9, guardSlot, quietA, nilC, nilA, quietB, St.ev, St.put, St.after, List.getD_cons_succ, List.getD_cons_zero, List.length_cons, List.length_nil, Nat.reduceAdd, Nat.reduceSub, List.replicate_succ, List.replicate_zero, List.cons_append, List.nil_append, List.append_nil, List.set_cons_succ, List.set_cons_zero, ofV, ofL, lenA, binA, intBin, fltBin, strBin, cpxBin, true_and, and_true, unA, convA, convB, convO, pickV, List.map_cons, List.map_nil, resL, oneA, indexA, indexS, isQuiet, loadA, loadC, storeA, fieldA, partA, sliceA, boundA, buildA, placeA, setAll, appendA, readSl, newEl, Int.toNat_natCast, AV.cells, AV.solid, AV.one, Int.natCast_nonneg, exists_prop, List.getElem_cons_zero, List.getElem_cons_succ, List.getElem?_cons_zero, List.getElem?_cons_succ, Nat.zero_lt_one, Option.bind_some, Option.map_some, Option.map_none, kill, killM, killL, Bool.not_true, Bool.not_false, List.all_cons, List.all_nil, Bool.and_true, Bool.true_and, List.take_zero, List.drop_zero, List.drop_succ_cons, List.take_succ_cons, Nat.zero_add, Nat.add_zero, notInt, List.getElem?_toArray, ge_iff_le, gt_iff_lt, Nat.le_refl, Int.reduceToNat, cond_true, cond_false, ↓reduceIte, reduceCtorEq, Bool.false_eq_true, Bool.not_eq_true, Nat.reduceLT, Nat.reduceLeDiff, Nat.reduceMul, Nat.reduceEqDiff, Nat.succ_ne_self, Option.some.injEq, exists_eq', putF, List.forall_mem_cons, List.not_mem_nil, false_implies, implies_true, exists_true_left, tys0, und0, md23, Tryd.ntmps23, Tryd.results23, strB, hi', hI, allW_int, fits, List.isEmpty_cons, brk_false, Nat.reduceMul, ll, w1]
    refine ⟨allW_str _, by omega, ⟨i + 1, by omega⟩, by show xs.length - (i + 1) < _; omega, ?_⟩
    show Weak 0 _ ⟨_, _⟩
    rw [strs_more, nx]
    exact weak_drop (by simp) (by simp [DropHp, ints_below, flts_below, strB, strs_below, allBelow_cons, allBelow_nil, below, belowM, belowL]) (by simp [DropTm, DropV, below, belowM, belowL, strB, strs_below, allBelow_cons, allBelow_nil, below, belowM, belowL])
  · have hi' : i = xs.length := by have := of_decide_eq_false h; omega
    have tl := txt_len hs xs hb
    subst hi'
    rw [List.take_length] at ll ⊢
    have tk : (strs (xs.map Lib.itoa)).take xs.length = strs (xs.map Lib.itoa) := List.take_of_length_le (by rw [ll]; exact Nat.le_refl _)
    refine call_lent 2 (by simp [view_sl, view_str, strB, map_view_strs, strs_len, tk]) (joinS_call sep (xs.map Lib.itoa) (by simpa using hm) (by show (txt sep xs).length ≤ _; omega)) rfl rfl ?_
    simp only [q0, q1, q2, q3, q4, q5, q6, q7, q8, q9, guardSlot, quietA, nilC, nilA, quietB, St.ev, St.put, St.after, List.getD_cons_succ, List.getD_cons_zero, List.length_cons, List.length_nil, Nat.reduceAdd, Nat.reduceSub, List.replicate_succ, List.replicate_zero, List.cons_append, List.nil_append, List.append_nil, List.set_cons_succ, List.set_cons_zero, ofV, ofL, lenA, binA, intBin, fltBin, strBin, cpxBin, true_and, and_true, unA, convA, convB, convO, pickV, List.map_cons, List.map_nil, resL, oneA, indexA, indexS, isQuiet, loadA, loadC, storeA, fieldA, partA, sliceA, boundA, buildA, placeA, setAll, appendA, readSl, newEl, Int.toNat_natCast, AV.cells, AV.solid, AV.one, Int.natCast_nonneg, exists_prop, List.getElem_cons_zero, List.getElem_cons_succ, List.getElem?_cons_zero, List.getElem?_cons_succ, Nat.zero_lt_one, Option.bind_some, Option.map_some, Option.map_none, kill, killM, killL, Bool.not_true, Bool.not_false, List.all_cons, List.all_nil, Bool.and_true, Bool.true_and, List.take_zero, List.drop_zero, List.drop_succ_cons, List.take_succ_cons, Nat.zero_add, Nat.add_zero, notInt, List.getElem?_toArray, ge_iff_le, gt_iff_lt, Nat.le_refl, Int.reduceToNat, cond_true, cond_false, ↓reduceIte, reduceCtorEq, Bool.false_eq_true, Bool.not_eq_true, Nat.reduceLT, Nat.reduceLeDiff, Nat.reduceMul, Nat.reduceEqDiff, Nat.succ_ne_self, Option.some.injEq, exists_eq', putF, List.forall_mem_cons, List.not_mem_nil, false_implies, implies_true, exists_true_left, tys0, und0, md23, Tryd.ntmps23, Tryd.results23]
    exact PostR.pure ⟨rfl, rfl⟩ rfl


def okJ (x : Int) : Prop := -9223372036854775807 ≤ x ∧ x ≤ 9223372036854775807

theorem okJ.i {x : Int} (h : okJ x) : okI x := ⟨by unfold okJ at h; omega, h.2⟩
/-! ### Numbers by the reference -/

theorem digits_step {n : Nat} (h : ¬ n < 10) : Lib.decDigits n = Lib.decDigits (n / 10) ++ [UInt8.ofNat (48 + n % 10)] := by
  conv => lhs; unfold Lib.decDigits
  rw [dif_neg h]

theorem digits_one {n : Nat} (h : n < 10) : Lib.decDigits n = [UInt8.ofNat (48 + n)] := by
  conv => lhs; unfold Lib.decDigits
  rw [dif_pos h]

def bytB (l : List UInt8) : Blk := { ty := 5, w := 1, els := byts l }


theorem txt_one (sep : List UInt8) (xs : List Int) (h : 0 < xs.length) : txt sep (xs.take 1) = Lib.itoa xs[0] := by
  cases xs with
  | nil => simp at h
  | cons x r => simp [txt, Lib.join_one]

theorem txt_zero (sep : List UInt8) : txt sep [] = [] := by simp [txt, Lib.join_nil]

theorem dec_ne (n : Nat) : Lib.decDigits n ≠ [] := by
  unfold Lib.decDigits
  split
  · simp
  · simp

theorem itoa_ne (x : Int) : Lib.itoa x ≠ [] := by
  rw [itoa_abs]
  split
  · simp
  · exact dec_ne _

theorem txt_ne {sep : List UInt8} {xs : List Int} (h : xs ≠ []) : txt sep xs ≠ [] := by
  cases xs with
  | nil => exact absurd rfl h
  | cons x r =>
    intro e
    have := congrArg List.length e
    unfold txt at this
    rw [List.map_cons, Lib.join_cons, List.length_append] at this
    have h2 := List.length_pos_iff.2 (itoa_ne x)
    rw [List.length_nil] at this
    omega


end Go.Proofs.YtigipcckflcilaaDoor
