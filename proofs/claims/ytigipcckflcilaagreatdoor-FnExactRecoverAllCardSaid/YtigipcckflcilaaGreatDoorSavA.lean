/- Helpers of the laws on what is saved: copies, equality, sizes. -/
import Derived.Test.YtigipcckflcilaaGreatDoorBase
import Derived.Test.YtigipcckflcilaaGreatDoorAbsM3
set_option maxRecDepth 10000
set_option maxHeartbeats 2000000
set_option linter.unusedSimpArgs false
set_option linter.unusedVariables false
namespace Go.Proofs.YtigipcckflcilaaGreatDoor
open Go Go.Abs

theorem eqInt64S_call (xs ys : List Int) (Q : AV → List Blk → Prop) (hm : xs.length ≤ 9223372036854775807) (hQ : Q (.bool (xs == ys)) []) : CallA Tryz.prog 63 [.ro (ints xs), .ro (ints ys)] [] Q := by
  refine CallP.out (t := .mk) (go_in (md := md63) mixed Tryz.func63 rfl go63 (by kernel_rfl) ?_)
  simp only [q0, q1, q2, q3, q4, q5, q6, q7, q8, q9, zq0, zq1, zq2, zq3, zq4, guardSlot, quietA, nilC, nilA, quietB, St.ev, St.put, St.after, Nat.reduceAdd, Nat.reduceSub, ofV, ofL, lenA, binA, intBin, fltBin, strBin, cpxBin, unA, convA, convB, convO, pickV, resL, oneA, indexA, indexS, isQuiet, loadA, loadC, storeA, fieldA, partA, sliceA, boundA, buildA, placeA, setAll, appendA, readSl, newEl, AV.cells, AV.solid, AV.one, kill, killM, killL, notInt, Int.reduceToNat, cond_true, cond_false, ↓reduceIte, reduceCtorEq, Nat.reduceLT, Nat.reduceLeDiff, Nat.reduceMul, Nat.reduceEqDiff, exists_eq', putF, implies_true, exists_true_left, tys0, tys1, tys2, und0, und1, md63, Tryz.ntmps63, Tryz.results63]
  refine br_intro (fun h => ?_) (fun h => ?_)
  · simp only [q0, q1, q2, q3, q4, q5, q6, q7, q8, q9, zq0, zq1, zq2, zq3, zq4, guardSlot, quietA, nilC, nilA, quietB, St.ev, St.put, St.after, Nat.reduceAdd, Nat.reduceSub, ofV, ofL, lenA, binA, intBin, fltBin, strBin, cpxBin, unA, convA, convB, convO, pickV, resL, oneA, indexA, indexS, isQuiet, loadA, loadC, storeA, fieldA, partA, sliceA, boundA, buildA, placeA, setAll, appendA, readSl, newEl, AV.cells, AV.solid, AV.one, kill, killM, killL, notInt, Int.reduceToNat, cond_true, cond_false, ↓reduceIte, reduceCtorEq, Nat.reduceLT, Nat.reduceLeDiff, Nat.reduceMul, Nat.reduceEqDiff, exists_eq', putF, implies_true, exists_true_left, tys0, tys1, tys2, und0, und1, md63, Tryz.ntmps63, Tryz.results63]
    refine PostR.pure ?_ (by rfl)
    have : (xs == ys) = false := by
      rw [beq_eq_false_iff_ne]; intro e; subst e; simp at h
    rw [this] at hQ; exact hQ
  · have hl : xs.length = ys.length := by simp at h; omega
    simp only [q0, q1, q2, q3, q4, q5, q6, q7, q8, q9, zq0, zq1, zq2, zq3, zq4, guardSlot, quietA, nilC, nilA, quietB, St.ev, St.put, St.after, Nat.reduceAdd, Nat.reduceSub, ofV, ofL, lenA, binA, intBin, fltBin, strBin, cpxBin, unA, convA, convB, convO, pickV, resL, oneA, indexA, indexS, isQuiet, loadA, loadC, storeA, fieldA, partA, sliceA, boundA, buildA, placeA, setAll, appendA, readSl, newEl, AV.cells, AV.solid, AV.one, kill, killM, killL, notInt, Int.reduceToNat, cond_true, cond_false, ↓reduceIte, reduceCtorEq, Nat.reduceLT, Nat.reduceLeDiff, Nat.reduceMul, Nat.reduceEqDiff, exists_eq', putF, implies_true, exists_true_left, tys0, tys1, tys2, und0, und1, md63, Tryz.ntmps63, Tryz.results63]
    refine go_round (md := md63) mixed (by kernel_rfl) (fun k : {k : Nat // k ≤ xs.length ∧ xs.take k = ys.take k} => ⟨[.ro (ints xs), .ro (ints ys), .any, .any, .bool false, .int .i64 k.1, .any, .any, .any, .any, .any, .any, .any, .any, .any, .any, .any, .any, .any, .any, .any, .any, .any, .any, .any, .any], []⟩) (fun k => xs.length - k.1) ⟨0, by simp⟩ ?_ ?_
    · exact weak_drop (by simp) (by simp [DropHp, ints_below, flts_below]) (by simp [DropTm, DropV, below, belowM, belowL])
    · intro ⟨k, hk, he⟩
      simp only [q0, q1, q2, q3, q4, q5, q6, q7, q8, q9, zq0, zq1, zq2, zq3, zq4, guardSlot, quietA, nilC, nilA, quietB, St.ev, St.put, St.after, Nat.reduceAdd, Nat.reduceSub, ofV, ofL, lenA, binA, intBin, fltBin, strBin, cpxBin, unA, convA, convB, convO, pickV, resL, oneA, indexA, indexS, isQuiet, loadA, loadC, storeA, fieldA, partA, sliceA, boundA, buildA, placeA, setAll, appendA, readSl, newEl, AV.cells, AV.solid, AV.one, kill, killM, killL, notInt, Int.reduceToNat, cond_true, cond_false, ↓reduceIte, reduceCtorEq, Nat.reduceLT, Nat.reduceLeDiff, Nat.reduceMul, Nat.reduceEqDiff, exists_eq', putF, implies_true, exists_true_left, tys0, tys1, tys2, und0, und1, md63, Tryz.ntmps63, Tryz.results63]
      refine br_intro (fun h => ?_) (fun h => ?_)
      · have hk' : k < xs.length := by simpa using h
        simp only [q0, q1, q2, q3, q4, q5, q6, q7, q8, q9, zq0, zq1, zq2, zq3, zq4, guardSlot, quietA, nilC, nilA, quietB, St.ev, St.put, St.after, Nat.reduceAdd, Nat.reduceSub, ofV, ofL, lenA, binA, intBin, fltBin, strBin, cpxBin, unA, convA, convB, convO, pickV, resL, oneA, indexA, indexS, isQuiet, loadA, loadC, storeA, fieldA, partA, sliceA, boundA, buildA, placeA, setAll, appendA, readSl, newEl, AV.cells, AV.solid, AV.one, kill, killM, killL, notInt, Int.reduceToNat, cond_true, cond_false, ↓reduceIte, reduceCtorEq, Nat.reduceLT, Nat.reduceLeDiff, Nat.reduceMul, Nat.reduceEqDiff, exists_eq', putF, implies_true, exists_true_left, tys0, tys1, tys2, und0, und1, md63, Tryz.ntmps63, Tryz.results63]
        refine ⟨hk', by omega, br_intro (fun hne => ?_) (fun heq => ?_)⟩ <;> simp only [q0, q1, q2, q3, q4, q5, q6, q7, q8, q9, zq0, zq1, zq2, zq3, zq4, guardSlot, quietA, nilC, nilA, quietB, St.ev, St.put, St.after, Nat.reduceAdd, Nat.reduceSub, ofV, ofL, lenA, binA, intBin, fltBin, strBin, cpxBin, unA, convA, convB, convO, pickV, resL, oneA, indexA, indexS, isQuiet, loadA, loadC, storeA, fieldA, partA, sliceA, boundA, buildA, placeA, setAll, appendA, readSl, newEl, AV.cells, AV.solid, AV.one, kill, killM, killL, notInt, Int.reduceToNat, cond_true, cond_false, ↓reduceIte, reduceCtorEq, Nat.reduceLT, Nat.reduceLeDiff, Nat.reduceMul, Nat.reduceEqDiff, exists_eq', putF, implies_true, exists_true_left, tys0, tys1, tys2, und0, und1, md63, Tryz.ntmps63, Tryz.results63]
        · refine PostR.pure ?_ (by rfl)
          have : (xs == ys) = false := by
            rw [beq_eq_false_iff_ne]; intro e; subst e; simp at hne
          rw [this] at hQ; exact hQ
        · have heq' : xs[k] = ys[k] := by simpa using heq
          refine ⟨⟨k + 1, by omega, by rw [take_snoc _ _ hk', take_snoc _ _ (by omega), he, heq']⟩, by show xs.length - (k + 1) < xs.length - k; omega, ?_⟩
          exact weak_drop (by simp) (by simp [DropHp, ints_below, flts_below, w64_succ k (by omega)]) (by simp [DropTm, DropV, below, belowM, belowL, w64_succ k (by omega)])
      · have hk' : k = xs.length := by simp at h; omega
        simp only [q0, q1, q2, q3, q4, q5, q6, q7, q8, q9, zq0, zq1, zq2, zq3, zq4, guardSlot, quietA, nilC, nilA, quietB, St.ev, St.put, St.after, Nat.reduceAdd, Nat.reduceSub, ofV, ofL, lenA, binA, intBin, fltBin, strBin, cpxBin, unA, convA, convB, convO, pickV, resL, oneA, indexA, indexS, isQuiet, loadA, loadC, storeA, fieldA, partA, sliceA, boundA, buildA, placeA, setAll, appendA, readSl, newEl, AV.cells, AV.solid, AV.one, kill, killM, killL, notInt, Int.reduceToNat, cond_true, cond_false, ↓reduceIte, reduceCtorEq, Nat.reduceLT, Nat.reduceLeDiff, Nat.reduceMul, Nat.reduceEqDiff, exists_eq', putF, implies_true, exists_true_left, tys0, tys1, tys2, und0, und1, md63, Tryz.ntmps63, Tryz.results63]
        refine PostR.pure ?_ (by rfl)
        have : (xs == ys) = true := by
          rw [beq_iff_eq]
          have h1 : xs.take xs.length = xs := List.take_length
          have h2 : ys.take xs.length = ys := by rw [hl]; exact List.take_length
          rw [hk'] at he; rw [← h1, ← h2, he]
        rw [this] at hQ; exact hQ

theorem eqInt64S_self (xs : List Int) (hm : xs.length ≤ 9223372036854775807) : CallA Tryz.prog 63 [.ro (ints xs), .ro (ints xs)] [] (Ret (.bool true) []) :=
  eqInt64S_call xs xs _ hm ⟨by simp, rfl⟩

abbrev Rul := Int × List Int × Int × Int × Int
abbrev Sav := List UInt8 × List Rul × List Int
def rulA (r : Rul) : AV := .agg [.int .i64 r.1, .ro (ints r.2.1), .int .i64 r.2.2.1, .int .i64 r.2.2.2.1, .int .i64 r.2.2.2.2]
def savA (s : Sav) : AV := .agg [.str s.1, .ro (s.2.1.map rulA), .ro (ints s.2.2)]
theorem rul_below (N : Nat) (r : Rul) : below N (rulA r) = true := by simp [rulA, below, belowM, belowL]
theorem sav_view (d : Nat) (hp : List Blk) (s : Sav) : view (d + 1) hp (savA s) = savA s := by simp [savA, view_agg, view_str, view_ro]

def sumL : List Rul → Nat
  | [] => 0
  | r :: l => r.2.1.length + sumL l
theorem sumL_snoc (r : Rul) : ∀ l, sumL (l ++ [r]) = sumL l + r.2.1.length
  | [] => by simp [sumL]
  | a :: l => by simp only [List.cons_append, sumL, sumL_snoc r l]; omega
theorem sumL_take (R : List Rul) (i : Nat) (h : i < R.length) : sumL (R.take (i + 1)) = sumL (R.take i) + R[i].2.1.length := by rw [take_snoc _ _ h, sumL_snoc]
theorem sumL_mono (R : List Rul) : ∀ i, sumL (R.take i) ≤ sumL R := by
  induction R with
  | nil => simp [sumL]
  | cons r l ih =>
    intro i
    cases i with
    | zero => simp [sumL]
    | succ i => simp only [List.take_succ_cons, sumL]; have := ih i; omega
theorem sumL_mem {R : List Rul} : ∀ {r : Rul}, r ∈ R → r.2.1.length ≤ sumL R := by
  induction R with
  | nil => intro r h; simp at h
  | cons a l ih =>
    intro r h
    simp only [sumL]
    rcases List.mem_cons.1 h with h | h
    · subst h; omega
    · have := ih h; omega
def sizR (R : List Rul) : Nat := R.length + sumL R
def sizS (s : Sav) : Nat := s.1.length + sizR s.2.1 + s.2.2.length
structure SavL (s : Sav) : Prop where
  n : s.1.length ≤ 9223372036854775807
  r : s.2.1.length ≤ 9223372036854775807
  f : ∀ r ∈ s.2.1, r.2.1.length ≤ 9223372036854775807
  i : s.2.2.length ≤ 9223372036854775807
end Go.Proofs.YtigipcckflcilaaGreatDoor
