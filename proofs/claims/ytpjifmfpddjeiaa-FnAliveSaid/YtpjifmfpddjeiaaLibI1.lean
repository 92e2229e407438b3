/- Integers: ranges, lists of them, valid scales. -/
import Derived.Test.YtpjifmfpddjeiaaBase
import Derived.Test.YtpjifmfpddjeiaaMathS
import Derived.Test.YtpjifmfpddjeiaaAbsM4
set_option maxRecDepth 10000
set_option maxHeartbeats 1000000
set_option linter.unusedSimpArgs false
set_option linter.unusedVariables false
namespace Go.Proofs.Ytpjifmfpddjeiaa
open Go Go.Abs

theorem getD_at {α : Type} (xs : List α) (z : α) (i : Nat) (h : i < xs.length) : xs.getD i z = xs[i] := by
  simp [List.getD_eq_getElem?_getD, List.getElem?_eq_getElem h]
def pref (p : Nat → Bool) (n : Nat) : Bool := (List.range n).all p
theorem pref_succ (p : Nat → Bool) (n : Nat) : pref p (n + 1) = (pref p n && p n) := by
  simp [pref, List.range_succ]
theorem pref_and (p q : Nat → Bool) (n : Nat) : pref (fun j => p j && q j) n = (pref p n && pref q n) := by
  induction n with
  | zero => rfl
  | succ n ih => rw [pref_succ, pref_succ, pref_succ, ih]; cases pref p n <;> cases pref q n <;> cases p n <;> cases q n <;> rfl
theorem all_pref {α : Type} (p : α → Bool) (z : α) (xs : List α) : xs.all p = pref (fun j => p (xs.getD j z)) xs.length := by
  rw [Bool.eq_iff_iff, pref, List.all_eq_true, List.all_eq_true]
  constructor
  · intro h j hj
    have hj' : j < xs.length := by simpa using hj
    rw [getD_at xs z j hj']
    exact h _ (List.getElem_mem hj')
  · intro h x hx
    obtain ⟨j, hj, rfl⟩ := List.getElem_of_mem hx
    have := h j (by simpa using hj)
    rwa [getD_at xs z j hj] at this

def inR (lo hi n : Int) : Bool := decide (lo ≤ n) && decide (n ≤ hi)
def scaleB (bk rt : List Int) : Bool := decide (1 ≤ bk.length ∧ bk.length ≤ 8 ∧ rt.length = bk.length) && (bk.getD 0 0 == 0) && pref (fun j => (inR 0 1000000000000 (bk.getD j 0) && (j == 0 || decide (bk.getD (j - 1) 0 < bk.getD j 0))) && inR 0 10000 (rt.getD j 0)) bk.length
def ascB (xs : List Int) : Bool := pref (fun j => j == 0 || decide (xs.getD (j - 1) 0 < xs.getD j 0)) xs.length
def scaleQ (bk rt : List Int) : Bool := (decide (1 ≤ bk.length ∧ bk.length ≤ 8) && bk.all (inR 0 1000000000000)) && (bk.getD 0 0 == 0) && ascB bk && decide (rt.length = bk.length) && rt.all (inR 0 10000)
theorem scaleQ_eq (bk rt : List Int) : scaleQ bk rt = scaleB bk rt := by
  unfold scaleQ scaleB ascB
  rw [pref_and, pref_and, all_pref (inR 0 1000000000000) 0 bk]
  by_cases h : rt.length = bk.length
  · rw [all_pref (inR 0 10000) 0 rt, h]
    generalize pref _ bk.length = x
    generalize pref _ bk.length = y
    generalize pref _ bk.length = z
    generalize (bk.getD 0 0 == 0) = w
    by_cases h2 : 1 ≤ bk.length ∧ bk.length ≤ 8
    · cases x <;> cases y <;> cases z <;> cases w <;> simp [h2]
    · have h3 : ¬ (1 ≤ bk.length ∧ bk.length ≤ 8 ∧ True) := by simpa using h2
      simp only [h2, h3, decide_false, Bool.false_and]
  · simp [h]
def ascP (xs : List Int) (j : Nat) : Bool := j == 0 || decide (xs.getD (j - 1) 0 < xs.getD j 0)
theorem ascB_eq (xs : List Int) : ascB xs = pref (ascP xs) xs.length := rfl

theorem inR_yes {lo hi n : Int} (h1 : lo ≤ n) (h2 : n ≤ hi) : inR lo hi n = true := by simp [inR, h1, h2]
theorem inR_iff {lo hi n : Int} : inR lo hi n = true ↔ lo ≤ n ∧ n ≤ hi := by simp [inR]
theorem pref_iff {p : Nat → Bool} {n : Nat} : pref p n = true ↔ ∀ j, j < n → p j = true := by
  rw [pref, List.all_eq_true]
  exact ⟨fun h j hj => h j (by simpa using hj), fun h j hj => h j (by simpa using hj)⟩
theorem asc_get : ∀ (l : List Int), Asc l ↔ ∀ i, i + 1 < l.length → l.getD i 0 < l.getD (i + 1) 0
  | [] => by simp [Asc]
  | [_] => by simp [Asc]
  | a :: b :: l => by
    rw [show Asc (a :: b :: l) ↔ a < b ∧ Asc (b :: l) from Iff.rfl, asc_get (b :: l)]
    constructor
    · rintro ⟨h1, h2⟩ i hi
      cases i with
      | zero => simpa using h1
      | succ i => simpa using h2 i (by simpa using hi)
    · intro h
      exact ⟨by simpa using h 0 (by simp), fun i hi => by simpa using h (i + 1) (by simpa using hi)⟩
theorem ascB_iff (l : List Int) : ascB l = true ↔ Asc l := by
  rw [ascB_eq, pref_iff, asc_get]
  constructor
  · intro h i hi
    have := h (i + 1) hi
    simpa [ascP] using this
  · intro h j hj
    cases j with
    | zero => rfl
    | succ j => simpa [ascP] using h j hj
theorem Scl.ok {bs rs : List Int} (S : Scl bs rs) : scaleB bs rs = true := by
  rw [← scaleQ_eq]
  obtain ⟨tl, rfl, hl⟩ := S.split
  have h1 := (ascB_iff _).2 S.asc
  have h2 : ((0 :: tl).all (inR 0 1000000000000)) = true := List.all_eq_true.2 fun x hx => inR_yes (S.top x hx).1 (S.top x hx).2
  have h3 : rs.all (inR 0 10000) = true := List.all_eq_true.2 fun x hx => inR_yes (S.rate x hx).1 (S.rate x hx).2
  have h4 := S.cap
  have h5 := S.len
  have e1 : decide (1 ≤ (0 :: tl).length ∧ (0 :: tl).length ≤ 8) = true := decide_eq_true ⟨by simp, h4⟩
  unfold scaleQ
  rw [h1, h2, h3, e1, decide_eq_true h5]
  rfl
theorem Scl.of {bs rs : List Int} (h : scaleB bs rs = true) : Scl bs rs := by
  rw [← scaleQ_eq] at h
  unfold scaleQ at h
  simp only [Bool.and_eq_true, decide_eq_true_eq, List.all_eq_true, inR_iff, beq_iff_eq] at h
  obtain ⟨⟨⟨⟨⟨h1, h2⟩, h3⟩, h4⟩, h5⟩, h6⟩ := h
  refine ⟨(ascB_iff _).1 h4, h5, ?_, h1.2, h2, h6⟩
  cases bs with
  | nil => simp at h1
  | cons b bs => simpa using h3

theorem within_call (a b c : Int) : CallA Try.prog 21 [.int .i64 a, .int .i64 b, .int .i64 c] [] (Ret (.bool (inR b c a)) []) := by
  refine CallP.out (t := .mk) (go_in (md := md21) mixed Try.func21 rfl go21 (by kernel_rfl) ?_)
  simp only [q0, q1, q2, q3, q4, q5, q6, q7, q8, q9, zq0, zq1, zq2, zq3, zq4, guardSlot, quietA, nilC, nilA, quietB, St.ev, St.put, St.after, Nat.reduceAdd, Nat.reduceSub, ofV, ofL, lenA, binA, intBin, fltBin, strBin, cpxBin, unA, convA, convB, convO, pickV, resL, oneA, indexA, indexS, isQuiet, loadA, loadC, storeA, fieldA, partA, sliceA, boundA, buildA, placeA, setAll, appendA, readSl, newEl, AV.cells, AV.solid, AV.one, kill, killM, killL, notInt, Int.reduceToNat, cond_true, cond_false, ↓reduceIte, reduceCtorEq, Nat.reduceLT, Nat.reduceLeDiff, Nat.reduceMul, Nat.reduceEqDiff, exists_eq', putF, implies_true, exists_true_left, tys0, tys1, tys2, und0, und1, und2, md21, Try.ntmps21, Try.results21]
  refine br_intro (fun h => ?_) (fun h => ?_) <;> simp only [q0, q1, q2, q3, q4, q5, q6, q7, q8, q9, zq0, zq1, zq2, zq3, zq4, guardSlot, quietA, nilC, nilA, quietB, St.ev, St.put, St.after, Nat.reduceAdd, Nat.reduceSub, ofV, ofL, lenA, binA, intBin, fltBin, strBin, cpxBin, unA, convA, convB, convO, pickV, resL, oneA, indexA, indexS, isQuiet, loadA, loadC, storeA, fieldA, partA, sliceA, boundA, buildA, placeA, setAll, appendA, readSl, newEl, AV.cells, AV.solid, AV.one, kill, killM, killL, notInt, Int.reduceToNat, cond_true, cond_false, ↓reduceIte, reduceCtorEq, Nat.reduceLT, Nat.reduceLeDiff, Nat.reduceMul, Nat.reduceEqDiff, exists_eq', putF, implies_true, exists_true_left, tys0, tys1, tys2, und0, und1, und2, md21, Try.ntmps21, Try.results21]
  · exact PostR.pure ⟨by simp at h; simp [inR, h], rfl⟩ rfl
  · exact PostR.pure ⟨by simp at h; simp [inR]; omega, rfl⟩ rfl
theorem isAmount_call (n : Int) : CallA Try.prog 27 [.int .i64 n] [] (Ret (.bool (inR 0 1000000000000 n)) []) := by
  refine CallP.out (t := .mk) (go_in (md := md27) mixed Try.func27 rfl go27 (by kernel_rfl) ?_)
  simp only [q0, q1, q2, q3, q4, q5, q6, q7, q8, q9, zq0, zq1, zq2, zq3, zq4, guardSlot, quietA, nilC, nilA, quietB, St.ev, St.put, St.after, Nat.reduceAdd, Nat.reduceSub, ofV, ofL, lenA, binA, intBin, fltBin, strBin, cpxBin, unA, convA, convB, convO, pickV, resL, oneA, indexA, indexS, isQuiet, loadA, loadC, storeA, fieldA, partA, sliceA, boundA, buildA, placeA, setAll, appendA, readSl, newEl, AV.cells, AV.solid, AV.one, kill, killM, killL, notInt, Int.reduceToNat, cond_true, cond_false, ↓reduceIte, reduceCtorEq, Nat.reduceLT, Nat.reduceLeDiff, Nat.reduceMul, Nat.reduceEqDiff, exists_eq', putF, implies_true, exists_true_left, tys0, tys1, tys2, und0, und1, und2, md27, Try.ntmps27, Try.results27]
  refine call_ret (within_call _ _ _) rfl rfl ?_
  simp only [q0, q1, q2, q3, q4, q5, q6, q7, q8, q9, zq0, zq1, zq2, zq3, zq4, guardSlot, quietA, nilC, nilA, quietB, St.ev, St.put, St.after, Nat.reduceAdd, Nat.reduceSub, ofV, ofL, lenA, binA, intBin, fltBin, strBin, cpxBin, unA, convA, convB, convO, pickV, resL, oneA, indexA, indexS, isQuiet, loadA, loadC, storeA, fieldA, partA, sliceA, boundA, buildA, placeA, setAll, appendA, readSl, newEl, AV.cells, AV.solid, AV.one, kill, killM, killL, notInt, Int.reduceToNat, cond_true, cond_false, ↓reduceIte, reduceCtorEq, Nat.reduceLT, Nat.reduceLeDiff, Nat.reduceMul, Nat.reduceEqDiff, exists_eq', putF, implies_true, exists_true_left, tys0, tys1, tys2, und0, und1, und2, md27, Try.ntmps27, Try.results27]
  exact PostR.ret
theorem amount_call (n : Int) : CallA Try.prog 23 [.int .i64 n] [] (Ret (.tup [.int .i64 (if inR 0 1000000000000 n then n else 0), .bool (inR 0 1000000000000 n)]) []) := by
  refine CallP.out (t := .mk) (go_in (md := md23) mixed Try.func23 rfl go23 (by kernel_rfl) ?_)
  simp only [q0, q1, q2, q3, q4, q5, q6, q7, q8, q9, zq0, zq1, zq2, zq3, zq4, guardSlot, quietA, nilC, nilA, quietB, St.ev, St.put, St.after, Nat.reduceAdd, Nat.reduceSub, ofV, ofL, lenA, binA, intBin, fltBin, strBin, cpxBin, unA, convA, convB, convO, pickV, resL, oneA, indexA, indexS, isQuiet, loadA, loadC, storeA, fieldA, partA, sliceA, boundA, buildA, placeA, setAll, appendA, readSl, newEl, AV.cells, AV.solid, AV.one, kill, killM, killL, notInt, Int.reduceToNat, cond_true, cond_false, ↓reduceIte, reduceCtorEq, Nat.reduceLT, Nat.reduceLeDiff, Nat.reduceMul, Nat.reduceEqDiff, exists_eq', putF, implies_true, exists_true_left, tys0, tys1, tys2, und0, und1, und2, md23, Try.ntmps23, Try.results23]
  refine call_ret (isAmount_call _) rfl rfl ?_
  simp only [q0, q1, q2, q3, q4, q5, q6, q7, q8, q9, zq0, zq1, zq2, zq3, zq4, guardSlot, quietA, nilC, nilA, quietB, St.ev, St.put, St.after, Nat.reduceAdd, Nat.reduceSub, ofV, ofL, lenA, binA, intBin, fltBin, strBin, cpxBin, unA, convA, convB, convO, pickV, resL, oneA, indexA, indexS, isQuiet, loadA, loadC, storeA, fieldA, partA, sliceA, boundA, buildA, placeA, setAll, appendA, readSl, newEl, AV.cells, AV.solid, AV.one, kill, killM, killL, notInt, Int.reduceToNat, cond_true, cond_false, ↓reduceIte, reduceCtorEq, Nat.reduceLT, Nat.reduceLeDiff, Nat.reduceMul, Nat.reduceEqDiff, exists_eq', putF, implies_true, exists_true_left, tys0, tys1, tys2, und0, und1, und2, md23, Try.ntmps23, Try.results23]
  refine br_intro (fun h => ?_) (fun h => ?_) <;> simp only [q0, q1, q2, q3, q4, q5, q6, q7, q8, q9, zq0, zq1, zq2, zq3, zq4, guardSlot, quietA, nilC, nilA, quietB, St.ev, St.put, St.after, Nat.reduceAdd, Nat.reduceSub, ofV, ofL, lenA, binA, intBin, fltBin, strBin, cpxBin, unA, convA, convB, convO, pickV, resL, oneA, indexA, indexS, isQuiet, loadA, loadC, storeA, fieldA, partA, sliceA, boundA, buildA, placeA, setAll, appendA, readSl, newEl, AV.cells, AV.solid, AV.one, kill, killM, killL, notInt, Int.reduceToNat, cond_true, cond_false, ↓reduceIte, reduceCtorEq, Nat.reduceLT, Nat.reduceLeDiff, Nat.reduceMul, Nat.reduceEqDiff, exists_eq', putF, implies_true, exists_true_left, tys0, tys1, tys2, und0, und1, und2, md23, Try.ntmps23, Try.results23]
  · exact PostR.pure ⟨by rw [h]; rfl, rfl⟩ rfl
  · exact PostR.pure ⟨by rw [h]; rfl, rfl⟩ rfl
end Go.Proofs.Ytpjifmfpddjeiaa
