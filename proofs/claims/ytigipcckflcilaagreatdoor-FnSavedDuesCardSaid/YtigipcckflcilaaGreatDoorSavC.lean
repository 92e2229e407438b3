/- Numbers and lists: ranges, words, incomes. -/
import Derived.Test.YtigipcckflcilaaGreatDoorSavB
set_option maxRecDepth 10000
set_option maxHeartbeats 2000000
set_option linter.unusedSimpArgs false
set_option linter.unusedVariables false
namespace Go.Proofs.YtigipcckflcilaaGreatDoor
open Go Go.Abs

theorem getD_at {α : Type} (xs : List α) (z : α) (i : Nat) (h : i < xs.length) : xs.getD i z = xs[i] := by
  simp [List.getD_eq_getElem?_getD, List.getElem?_eq_getElem h]

def pref (p : Nat → Bool) (n : Nat) : Bool := (List.range n).all p

theorem pref_succ (p : Nat → Bool) (n : Nat) : pref p (n + 1) = (pref p n && p n) := by
  simp [pref, List.range_succ]

theorem pref_no {p : Nat → Bool} {n : Nat} (i : Nat) (hi : i < n) (h : p i = false) : pref p n = false := by
  rw [pref, List.all_eq_false]
  exact ⟨i, by simpa using hi, by simp [h]⟩

theorem pref_go {p : Nat → Bool} {n : Nat} (h1 : pref p n = true) (h2 : p n = true) : pref p (n + 1) = true := by rw [pref_succ, h1, h2]; rfl

theorem all_pref {α : Type} (p : α → Bool) (z : α) (xs : List α) : xs.all p = pref (fun j => p (xs.getD j z)) xs.length := by
  rw [Bool.eq_iff_iff, pref, List.all_eq_true, List.all_eq_true]
  constructor
  · intro h j hj
    have hj' : j < xs.length := by simpa using hj
    rw [getD_at xs z j hj']
    exact h _ (List.getElem_mem hj')
  · intro h x hx
    obtain ⟨j, hj, rfl⟩ := List.getElem_of_mem hx
    have := h j (by simpa using hj)
    rwa [getD_at xs z j hj] at this

def inR (lo hi n : Int) : Bool := decide (lo ≤ n) && decide (n ≤ hi)

theorem inR_yes {lo hi n : Int} (h1 : lo ≤ n) (h2 : n ≤ hi) : inR lo hi n = true := by simp [inR, h1, h2]

theorem inR_iff {lo hi n : Int} : inR lo hi n = true ↔ lo ≤ n ∧ n ≤ hi := by simp [inR]

theorem within_call (a b c : Int) : CallA Tryz.prog 59 [.int .i64 a, .int .i64 b, .int .i64 c] [] (Ret (.bool (inR b c a)) []) := by
  refine CallP.out (t := .mk) (go_in (md := md59) mixed Tryz.func59 rfl go59 (by kernel_rfl) ?_)
  simp only [q0, q1, q2, q3, q4, q5, q6, q7, q8, q9, zr0, zr1, zr2, zr3, zq0, zq1, zq2, zq3, zq4, Nat.reduceAdd, Nat.reduceSub, lenA, convA, indexA, indexS, Int.reduceToNat, cond_true, cond_false, ↓reduceIte, reduceCtorEq, Nat.reduceLT, Nat.reduceLeDiff, Nat.reduceMul, Nat.reduceEqDiff, exists_eq', implies_true, exists_true_left, tys0, tys1, tys2, und0, und1, md59, Tryz.ntmps59, Tryz.results59]
  refine br_intro (fun h => ?_) (fun h => ?_) <;> simp only [q0, q1, q2, q3, q4, q5, q6, q7, q8, q9, zr0, zr1, zr2, zr3, zq0, zq1, zq2, zq3, zq4, Nat.reduceAdd, Nat.reduceSub, lenA, convA, indexA, indexS, Int.reduceToNat, cond_true, cond_false, ↓reduceIte, reduceCtorEq, Nat.reduceLT, Nat.reduceLeDiff, Nat.reduceMul, Nat.reduceEqDiff, exists_eq', implies_true, exists_true_left, tys0, tys1, tys2, und0, und1, md59, Tryz.ntmps59, Tryz.results59]
  · exact PostR.pure ⟨by simp at h; simp [inR, h], rfl⟩ rfl
  · exact PostR.pure ⟨by simp at h; simp [inR]; omega, rfl⟩ rfl

theorem areWithin1_call (n lo hi : Int) : CallA Tryz.prog 115 [.int .i64 n, .rop [.int .i64 lo], .rop [.int .i64 hi]] [] (Ret (.bool (!inR lo hi n)) []) := by
  refine CallP.out (t := .mk) (go_in (md := md115) mixed Tryz.func115 rfl go115 (by kernel_rfl) ?_)
  simp only [q0, q1, q2, q3, q4, q5, q6, q7, q8, q9, zr0, zr1, zr2, zr3, zq0, zq1, zq2, zq3, zq4, Nat.reduceAdd, Nat.reduceSub, lenA, convA, indexA, indexS, Int.reduceToNat, cond_true, cond_false, ↓reduceIte, reduceCtorEq, Nat.reduceLT, Nat.reduceLeDiff, Nat.reduceMul, Nat.reduceEqDiff, exists_eq', implies_true, exists_true_left, tys0, tys1, tys2, und0, und1, md115, Tryz.ntmps115, Tryz.results115]
  refine call_ret (within_call _ _ _) rfl rfl ?_
  simp only [q0, q1, q2, q3, q4, q5, q6, q7, q8, q9, zr0, zr1, zr2, zr3, zq0, zq1, zq2, zq3, zq4, Nat.reduceAdd, Nat.reduceSub, lenA, convA, indexA, indexS, Int.reduceToNat, cond_true, cond_false, ↓reduceIte, reduceCtorEq, Nat.reduceLT, Nat.reduceLeDiff, Nat.reduceMul, Nat.reduceEqDiff, exists_eq', implies_true, exists_true_left, tys0, tys1, tys2, und0, und1, md115, Tryz.ntmps115, Tryz.results115]
  exact PostR.ret

theorem indexFuncI_call (fid : FuncId) (caps : List AV) (q : Int → Bool) (hc : caps.all (below 0) = true) (hc2 : caps.all (belowL 0) = true) (hq : ∀ x, CallA Tryz.prog fid (.int .i64 x :: caps) [] (Ret (.bool (q x)) [])) (xs : List Int) (hm : xs.length ≤ 9223372036854775807) :
    CallA Tryz.prog 133 [.ro (ints xs), .fn fid caps] [] (Ret (.int .i64 (findI q xs 0)) []) := by
  refine CallP.out (t := .mk) (go_in (md := md133) mixed Tryz.func133 rfl go133 (by kernel_rfl) ?_)
  simp only [q0, q1, q2, q3, q4, q5, q6, q7, q8, q9, zr0, zr1, zr2, zr3, zq0, zq1, zq2, zq3, zq4, Nat.reduceAdd, Nat.reduceSub, lenA, convA, indexA, indexS, Int.reduceToNat, cond_true, cond_false, ↓reduceIte, reduceCtorEq, Nat.reduceLT, Nat.reduceLeDiff, Nat.reduceMul, Nat.reduceEqDiff, exists_eq', implies_true, exists_true_left, tys0, tys1, tys2, und0, und1, md133, Tryz.ntmps133, Tryz.results133]
  have hb : below 0 (.fn fid caps) = true := hc2
  have hb2 : ∀ l, below 0 (.ro l) = true := fun _ => rfl
  have hb3 : ∀ k n, below 0 (.int k n) = true := fun _ _ => rfl
  have hb4 : below 0 .any = true := rfl
  refine go_round (md := md133) mixed (by kernel_rfl) (fun i : {i : Nat // i ≤ xs.length ∧ findI q xs 0 = findI q (xs.drop i) i} => ⟨[.ro (ints xs), .fn fid caps, .any, .any, .any, .any, .any, .int .i64 xs.length, .int .i64 i.1, .any, .any, .any, .any, .any, .any, .any, .any, .any, .any], []⟩) (fun i => xs.length - i.1) ⟨0, by simp⟩ ?_ ?_
  · exact weak_drop (by simp) (by simp [DropHp]) (by simp [DropTm, DropV, hb, hb2, hb3, hb4])
  · intro ⟨i, hi, he⟩
    simp only [q0, q1, q2, q3, q4, q5, q6, q7, q8, q9, zr0, zr1, zr2, zr3, zq0, zq1, zq2, zq3, zq4, Nat.reduceAdd, Nat.reduceSub, lenA, convA, indexA, indexS, Int.reduceToNat, cond_true, cond_false, ↓reduceIte, reduceCtorEq, Nat.reduceLT, Nat.reduceLeDiff, Nat.reduceMul, Nat.reduceEqDiff, exists_eq', implies_true, exists_true_left, tys0, tys1, tys2, und0, und1, md133, Tryz.ntmps133, Tryz.results133]
    refine br_intro (fun h => ?_) (fun h => ?_) <;> simp only [q0, q1, q2, q3, q4, q5, q6, q7, q8, q9, zr0, zr1, zr2, zr3, zq0, zq1, zq2, zq3, zq4, Nat.reduceAdd, Nat.reduceSub, lenA, convA, indexA, indexS, Int.reduceToNat, cond_true, cond_false, ↓reduceIte, reduceCtorEq, Nat.reduceLT, Nat.reduceLeDiff, Nat.reduceMul, Nat.reduceEqDiff, exists_eq', implies_true, exists_true_left, tys0, tys1, tys2, und0, und1, md133, Tryz.ntmps133, Tryz.results133]
    · have hi' : i < xs.length := by simpa using h
      refine ⟨hi', call_ret (hq _) (by rw [List.all_cons, hc]; rfl) rfl ?_⟩
      simp only [q0, q1, q2, q3, q4, q5, q6, q7, q8, q9, zr0, zr1, zr2, zr3, zq0, zq1, zq2, zq3, zq4, Nat.reduceAdd, Nat.reduceSub, lenA, convA, indexA, indexS, Int.reduceToNat, cond_true, cond_false, ↓reduceIte, reduceCtorEq, Nat.reduceLT, Nat.reduceLeDiff, Nat.reduceMul, Nat.reduceEqDiff, exists_eq', implies_true, exists_true_left, tys0, tys1, tys2, und0, und1, md133, Tryz.ntmps133, Tryz.results133]
      rw [findI_step q xs i hi'] at he
      refine br_intro (fun h2 => ?_) (fun h2 => ?_) <;> simp only [q0, q1, q2, q3, q4, q5, q6, q7, q8, q9, zr0, zr1, zr2, zr3, zq0, zq1, zq2, zq3, zq4, Nat.reduceAdd, Nat.reduceSub, lenA, convA, indexA, indexS, Int.reduceToNat, cond_true, cond_false, ↓reduceIte, reduceCtorEq, Nat.reduceLT, Nat.reduceLeDiff, Nat.reduceMul, Nat.reduceEqDiff, exists_eq', implies_true, exists_true_left, tys0, tys1, tys2, und0, und1, md133, Tryz.ntmps133, Tryz.results133]
      · rw [h2] at he
        exact PostR.pure ⟨by rw [he]; rfl, rfl⟩ rfl
      · rw [h2] at he
        refine ⟨⟨i + 1, by omega, he⟩, by show xs.length - (i + 1) < _; omega, ?_⟩
        exact weak_drop (by simp) (by simp [DropHp]) (by simp [DropTm, DropV, hb, hb2, hb3, hb4, w64_succ i (by omega)])
    · have hi' : i = xs.length := by simp at h; omega
      subst hi'
      rw [List.drop_length] at he
      exact PostR.pure ⟨by rw [he]; rfl, rfl⟩ rfl

theorem containsFuncI_call (fid : FuncId) (caps : List AV) (q : Int → Bool) (hc : caps.all (below 0) = true) (hc2 : caps.all (belowL 0) = true) (hq : ∀ x, CallA Tryz.prog fid (.int .i64 x :: caps) [] (Ret (.bool (q x)) [])) (xs : List Int) (hm : xs.length ≤ 9223372036854775807) :
    CallA Tryz.prog 114 [.ro (ints xs), .fn fid caps] [] (Ret (.bool (xs.any q)) []) := by
  refine CallP.out (t := .mk) (go_in (md := md114) mixed Tryz.func114 rfl go114 (by kernel_rfl) ?_)
  simp only [q0, q1, q2, q3, q4, q5, q6, q7, q8, q9, zr0, zr1, zr2, zr3, zq0, zq1, zq2, zq3, zq4, Nat.reduceAdd, Nat.reduceSub, lenA, convA, indexA, indexS, Int.reduceToNat, cond_true, cond_false, ↓reduceIte, reduceCtorEq, Nat.reduceLT, Nat.reduceLeDiff, Nat.reduceMul, Nat.reduceEqDiff, exists_eq', implies_true, exists_true_left, tys0, tys1, tys2, und0, und1, md114, Tryz.ntmps114, Tryz.results114]
  refine call_ret (indexFuncI_call fid caps q hc hc2 hq xs hm) (by simpa [below, belowM, belowL] using hc2) rfl ?_
  simp only [q0, q1, q2, q3, q4, q5, q6, q7, q8, q9, zr0, zr1, zr2, zr3, zq0, zq1, zq2, zq3, zq4, Nat.reduceAdd, Nat.reduceSub, lenA, convA, indexA, indexS, Int.reduceToNat, cond_true, cond_false, ↓reduceIte, reduceCtorEq, Nat.reduceLT, Nat.reduceLeDiff, Nat.reduceMul, Nat.reduceEqDiff, exists_eq', implies_true, exists_true_left, tys0, tys1, tys2, und0, und1, md114, Tryz.ntmps114, Tryz.results114]
  exact PostR.pure ⟨by rw [← findI_any q xs 0], rfl⟩ rfl

theorem areWithin_call (xs : List Int) (lo hi : Int) (hm : xs.length ≤ 1048576) : CallA Tryz.prog 97 [.ro (ints xs), .int .i64 lo, .int .i64 hi] [] (Ret (.bool (xs.all (inR lo hi))) []) := by
  refine CallP.out (t := .mk) (go_in (md := md97) mixed Tryz.func97 rfl go97 (by kernel_rfl) ?_)
  simp only [q0, q1, q2, q3, q4, q5, q6, q7, q8, q9, zr0, zr1, zr2, zr3, zq0, zq1, zq2, zq3, zq4, Nat.reduceAdd, Nat.reduceSub, lenA, convA, indexA, indexS, Int.reduceToNat, cond_true, cond_false, ↓reduceIte, reduceCtorEq, Nat.reduceLT, Nat.reduceLeDiff, Nat.reduceMul, Nat.reduceEqDiff, exists_eq', implies_true, exists_true_left, tys0, tys1, tys2, und0, und1, md97, Tryz.ntmps97, Tryz.results97]
  refine call_lent 2 (by rfl) (containsFuncI_call _ [.rop [.int .i64 lo], .rop [.int .i64 hi]] (fun n => !inR lo hi n) rfl rfl (fun x => areWithin1_call x lo hi) xs (by omega)) rfl rfl ?_
  simp only [q0, q1, q2, q3, q4, q5, q6, q7, q8, q9, zr0, zr1, zr2, zr3, zq0, zq1, zq2, zq3, zq4, Nat.reduceAdd, Nat.reduceSub, lenA, convA, indexA, indexS, Int.reduceToNat, cond_true, cond_false, ↓reduceIte, reduceCtorEq, Nat.reduceLT, Nat.reduceLeDiff, Nat.reduceMul, Nat.reduceEqDiff, exists_eq', implies_true, exists_true_left, tys0, tys1, tys2, und0, und1, md97, Tryz.ntmps97, Tryz.results97]
  exact PostR.pure ⟨by rw [any_not], rfl⟩ rfl

def hasC (xs : List Int) (least most lo hi : Int) : Bool := decide (least ≤ (xs.length : Int)) && (decide ((xs.length : Int) ≤ most) && xs.all (inR lo hi))

theorem hasCount_call (xs : List Int) (least most lo hi : Int) (hm : xs.length ≤ 1048576) : CallA Tryz.prog 78 [.ro (ints xs), .int .i64 least, .int .i64 most, .int .i64 lo, .int .i64 hi] [] (Ret (.bool (hasC xs least most lo hi)) []) := by
  refine CallP.out (t := .mk) (go_in (md := md78) mixed Tryz.func78 rfl go78 (by kernel_rfl) ?_)
  simp only [q0, q1, q2, q3, q4, q5, q6, q7, q8, q9, zr0, zr1, zr2, zr3, zq0, zq1, zq2, zq3, zq4, Nat.reduceAdd, Nat.reduceSub, lenA, convA, indexA, indexS, Int.reduceToNat, cond_true, cond_false, ↓reduceIte, reduceCtorEq, Nat.reduceLT, Nat.reduceLeDiff, Nat.reduceMul, Nat.reduceEqDiff, exists_eq', implies_true, exists_true_left, tys0, tys1, tys2, und0, und1, md78, Tryz.ntmps78, Tryz.results78]
  refine br_intro (fun h1 => ?_) (fun h1 => ?_) <;> simp only [q0, q1, q2, q3, q4, q5, q6, q7, q8, q9, zr0, zr1, zr2, zr3, zq0, zq1, zq2, zq3, zq4, Nat.reduceAdd, Nat.reduceSub, lenA, convA, indexA, indexS, Int.reduceToNat, cond_true, cond_false, ↓reduceIte, reduceCtorEq, Nat.reduceLT, Nat.reduceLeDiff, Nat.reduceMul, Nat.reduceEqDiff, exists_eq', implies_true, exists_true_left, tys0, tys1, tys2, und0, und1, md78, Tryz.ntmps78, Tryz.results78]
  · refine br_intro (fun h2 => ?_) (fun h2 => ?_) <;> simp only [q0, q1, q2, q3, q4, q5, q6, q7, q8, q9, zr0, zr1, zr2, zr3, zq0, zq1, zq2, zq3, zq4, Nat.reduceAdd, Nat.reduceSub, lenA, convA, indexA, indexS, Int.reduceToNat, cond_true, cond_false, ↓reduceIte, reduceCtorEq, Nat.reduceLT, Nat.reduceLeDiff, Nat.reduceMul, Nat.reduceEqDiff, exists_eq', implies_true, exists_true_left, tys0, tys1, tys2, und0, und1, md78, Tryz.ntmps78, Tryz.results78]
    · refine call_ret (areWithin_call xs lo hi hm) rfl rfl ?_
      simp only [q0, q1, q2, q3, q4, q5, q6, q7, q8, q9, zr0, zr1, zr2, zr3, zq0, zq1, zq2, zq3, zq4, Nat.reduceAdd, Nat.reduceSub, lenA, convA, indexA, indexS, Int.reduceToNat, cond_true, cond_false, ↓reduceIte, reduceCtorEq, Nat.reduceLT, Nat.reduceLeDiff, Nat.reduceMul, Nat.reduceEqDiff, exists_eq', implies_true, exists_true_left, tys0, tys1, tys2, und0, und1, md78, Tryz.ntmps78, Tryz.results78]
      exact PostR.pure ⟨by simp only [hasC, h1, h2, Bool.true_and], rfl⟩ rfl
    · exact PostR.pure ⟨by simp only [hasC, h2, Bool.false_and, Bool.and_false], rfl⟩ rfl
  · exact PostR.pure ⟨by simp only [hasC, h1, Bool.false_and], rfl⟩ rfl

def incB (xs : List Int) : Bool := decide (1 ≤ xs.length) && decide (xs.length ≤ 64) && xs.all (inR 0 1000000000)
theorem areIncomes_call (xs : List Int) (hm : xs.length ≤ 1048576) : CallA Tryz.prog 41 [.ro (ints xs)] [] (Ret (.bool (incB xs)) []) := by
  have hc := hasCount_call xs 1 64 0 1000000000 hm
  have e : hasC xs 1 64 0 1000000000 = incB xs := by
    unfold hasC incB
    rw [show decide ((1 : Int) ≤ (xs.length : Int)) = decide (1 ≤ xs.length) from decide_eq_decide.2 (by omega), show decide ((xs.length : Int) ≤ 64) = decide (xs.length ≤ 64) from decide_eq_decide.2 (by omega), Bool.and_assoc]
  rw [e] at hc
  refine CallP.out (t := .mk) (go_in (md := md41) mixed Tryz.func41 rfl go41 (by kernel_rfl) ?_)
  simp only [q0, q1, q2, q3, q4, q5, q6, q7, q8, q9, zr0, zr1, zr2, zr3, zq0, zq1, zq2, zq3, zq4, Nat.reduceAdd, Nat.reduceSub, lenA, convA, indexA, indexS, Int.reduceToNat, cond_true, cond_false, ↓reduceIte, reduceCtorEq, Nat.reduceLT, Nat.reduceLeDiff, Nat.reduceMul, Nat.reduceEqDiff, exists_eq', implies_true, exists_true_left, tys0, tys1, tys2, und0, und1, md41, Tryz.ntmps41, Tryz.results41]
  refine call_ret hc rfl rfl ?_
  simp only [q0, q1, q2, q3, q4, q5, q6, q7, q8, q9, zr0, zr1, zr2, zr3, zq0, zq1, zq2, zq3, zq4, Nat.reduceAdd, Nat.reduceSub, lenA, convA, indexA, indexS, Int.reduceToNat, cond_true, cond_false, ↓reduceIte, reduceCtorEq, Nat.reduceLT, Nat.reduceLeDiff, Nat.reduceMul, Nat.reduceEqDiff, exists_eq', implies_true, exists_true_left, tys0, tys1, tys2, und0, und1, md41, Tryz.ntmps41, Tryz.results41]
  exact PostR.pure ⟨rfl, rfl⟩ rfl
def atomF (w : Int) : Int := if w < 0 then -w else w
def wordB (w : Int) : Bool := w != 0 && inR (-16) 16 w
theorem wordB_low {w : Int} (h : wordB w = true) : -16 ≤ w ∧ w ≤ 16 := by
  unfold wordB at h
  rw [Bool.and_eq_true] at h
  exact inR_iff.1 h.2
def wordP (xs : List Int) (j : Nat) : Bool := wordB (xs.getD j 0) && (j == 0 || decide (atomF (xs.getD (j - 1) 0) < atomF (xs.getD j 0)))
def wordsB (xs : List Int) : Bool := pref (wordP xs) xs.length
theorem isWord_call (w : Int) : CallA Tryz.prog 56 [.int .i64 w] [] (Ret (.bool (wordB w)) []) := by
  refine CallP.out (t := .mk) (go_in (md := md56) mixed Tryz.func56 rfl go56 (by kernel_rfl) ?_)
  simp only [q0, q1, q2, q3, q4, q5, q6, q7, q8, q9, zr0, zr1, zr2, zr3, zq0, zq1, zq2, zq3, zq4, Nat.reduceAdd, Nat.reduceSub, lenA, convA, indexA, indexS, Int.reduceToNat, cond_true, cond_false, ↓reduceIte, reduceCtorEq, Nat.reduceLT, Nat.reduceLeDiff, Nat.reduceMul, Nat.reduceEqDiff, exists_eq', implies_true, exists_true_left, tys0, tys1, tys2, und0, und1, md56, Tryz.ntmps56, Tryz.results56]
  refine br_intro (fun h => ?_) (fun h => ?_) <;> simp only [q0, q1, q2, q3, q4, q5, q6, q7, q8, q9, zr0, zr1, zr2, zr3, zq0, zq1, zq2, zq3, zq4, Nat.reduceAdd, Nat.reduceSub, lenA, convA, indexA, indexS, Int.reduceToNat, cond_true, cond_false, ↓reduceIte, reduceCtorEq, Nat.reduceLT, Nat.reduceLeDiff, Nat.reduceMul, Nat.reduceEqDiff, exists_eq', implies_true, exists_true_left, tys0, tys1, tys2, und0, und1, md56, Tryz.ntmps56, Tryz.results56]
  · refine call_ret (within_call _ _ _) rfl rfl ?_
    simp only [q0, q1, q2, q3, q4, q5, q6, q7, q8, q9, zr0, zr1, zr2, zr3, zq0, zq1, zq2, zq3, zq4, Nat.reduceAdd, Nat.reduceSub, lenA, convA, indexA, indexS, Int.reduceToNat, cond_true, cond_false, ↓reduceIte, reduceCtorEq, Nat.reduceLT, Nat.reduceLeDiff, Nat.reduceMul, Nat.reduceEqDiff, exists_eq', implies_true, exists_true_left, tys0, tys1, tys2, und0, und1, md56, Tryz.ntmps56, Tryz.results56]
    exact PostR.pure ⟨by unfold wordB; rw [h]; rfl, rfl⟩ rfl
  · exact PostR.pure ⟨by unfold wordB; rw [h]; rfl, rfl⟩ rfl
theorem atom_call (w : Int) (h : -16 ≤ w ∧ w ≤ 16) : CallA Tryz.prog 89 [.int .i64 w] [] (Ret (.int .i64 (atomF w)) []) := by
  have e : IntKind.i64.wrap (0 - w) = -w := by rw [w64 (by omega) (by omega)]; omega
  refine CallP.out (t := .mk) (go_in (md := md89) mixed Tryz.func89 rfl go89 (by kernel_rfl) ?_)
  simp only [q0, q1, q2, q3, q4, q5, q6, q7, q8, q9, zr0, zr1, zr2, zr3, zq0, zq1, zq2, zq3, zq4, Nat.reduceAdd, Nat.reduceSub, lenA, convA, indexA, indexS, Int.reduceToNat, cond_true, cond_false, ↓reduceIte, reduceCtorEq, Nat.reduceLT, Nat.reduceLeDiff, Nat.reduceMul, Nat.reduceEqDiff, exists_eq', implies_true, exists_true_left, tys0, tys1, tys2, und0, und1, md89, Tryz.ntmps89, Tryz.results89, e, maxA]
  exact PostR.pure ⟨by unfold atomF; congr 1; split <;> split <;> omega, rfl⟩ rfl
theorem pref_at {p : Nat → Bool} {n : Nat} (h : pref p n = true) (j : Nat) (hj : j < n) : p j = true := by
  rw [pref, List.all_eq_true] at h
  exact h j (by simpa using hj)
theorem areWords_call (xs : List Int) (hm : xs.length ≤ 1048576) : CallA Tryz.prog 57 [.ro (ints xs), .int .i64 6] [] (Ret (.bool (wordsB xs && decide (xs.length ≤ 6))) []) := by
  refine CallP.out (t := .mk) (go_in (md := md57) mixed Tryz.func57 rfl go57 (by kernel_rfl) ?_)
  simp only [q0, q1, q2, q3, q4, q5, q6, q7, q8, q9, zr0, zr1, zr2, zr3, zq0, zq1, zq2, zq3, zq4, Nat.reduceAdd, Nat.reduceSub, lenA, convA, indexA, indexS, Int.reduceToNat, cond_true, cond_false, ↓reduceIte, reduceCtorEq, Nat.reduceLT, Nat.reduceLeDiff, Nat.reduceMul, Nat.reduceEqDiff, exists_eq', implies_true, exists_true_left, tys0, tys1, tys2, und0, und1, md57, Tryz.ntmps57, Tryz.results57]
  refine go_round (md := md57) mixed (by kernel_rfl) (fun i : {i : Nat // i ≤ xs.length ∧ pref (wordP xs) i = true} => ⟨[.ro (ints xs), .int .i64 6, .any, .any, .any, .any, .any, .ro (ints xs), .int .i64 xs.length, .int .i64 i.1, .any, .any, .any, .any, .any, .any, .any, .any, .any, .any, .any, .any, .any, .any, .any, .any, .any, .any, .any, .any, .any, .any, .any, .any, .any, .any, .any], []⟩) (fun i => xs.length - i.1) ⟨0, by omega, rfl⟩ ?_ ?_
  · exact weak_drop (by simp) (by simp [DropHp, ints_below, flts_below]) (by simp [DropTm, DropV, below, belowM, belowL])
  rintro ⟨i, hi, hp⟩
  simp only [q0, q1, q2, q3, q4, q5, q6, q7, q8, q9, zr0, zr1, zr2, zr3, zq0, zq1, zq2, zq3, zq4, Nat.reduceAdd, Nat.reduceSub, lenA, convA, indexA, indexS, Int.reduceToNat, cond_true, cond_false, ↓reduceIte, reduceCtorEq, Nat.reduceLT, Nat.reduceLeDiff, Nat.reduceMul, Nat.reduceEqDiff, exists_eq', implies_true, exists_true_left, tys0, tys1, tys2, und0, und1, md57, Tryz.ntmps57, Tryz.results57]
  refine br_intro (fun h => ?_) (fun h => ?_) <;> simp only [q0, q1, q2, q3, q4, q5, q6, q7, q8, q9, zr0, zr1, zr2, zr3, zq0, zq1, zq2, zq3, zq4, Nat.reduceAdd, Nat.reduceSub, lenA, convA, indexA, indexS, Int.reduceToNat, cond_true, cond_false, ↓reduceIte, reduceCtorEq, Nat.reduceLT, Nat.reduceLeDiff, Nat.reduceMul, Nat.reduceEqDiff, exists_eq', implies_true, exists_true_left, tys0, tys1, tys2, und0, und1, md57, Tryz.ntmps57, Tryz.results57]
  · have hi' : i < xs.length := by have := of_decide_eq_true h; omega
    have hI : (i : Int) < (xs.length : Int) := by omega
    have ga := getD_at xs 0 i hi'
    have ew : IntKind.i64.wrap ((i : Int) + 1) = (i : Int) + 1 := w64 (by omega) (by omega)
    simp only [q0, q1, q2, q3, q4, q5, q6, q7, q8, q9, zr0, zr1, zr2, zr3, zq0, zq1, zq2, zq3, zq4, Nat.reduceAdd, Nat.reduceSub, lenA, convA, indexA, indexS, Int.reduceToNat, cond_true, cond_false, ↓reduceIte, reduceCtorEq, Nat.reduceLT, Nat.reduceLeDiff, Nat.reduceMul, Nat.reduceEqDiff, exists_eq', implies_true, exists_true_left, tys0, tys1, tys2, und0, und1, md57, Tryz.ntmps57, Tryz.results57, hi', hI]
    refine call_ret (isWord_call _) rfl rfl ?_
    simp only [q0, q1, q2, q3, q4, q5, q6, q7, q8, q9, zr0, zr1, zr2, zr3, zq0, zq1, zq2, zq3, zq4, Nat.reduceAdd, Nat.reduceSub, lenA, convA, indexA, indexS, Int.reduceToNat, cond_true, cond_false, ↓reduceIte, reduceCtorEq, Nat.reduceLT, Nat.reduceLeDiff, Nat.reduceMul, Nat.reduceEqDiff, exists_eq', implies_true, exists_true_left, tys0, tys1, tys2, und0, und1, md57, Tryz.ntmps57, Tryz.results57]
    refine br_intro (fun u => ?_) (fun u => ?_) <;> simp only [q0, q1, q2, q3, q4, q5, q6, q7, q8, q9, zr0, zr1, zr2, zr3, zq0, zq1, zq2, zq3, zq4, Nat.reduceAdd, Nat.reduceSub, lenA, convA, indexA, indexS, Int.reduceToNat, cond_true, cond_false, ↓reduceIte, reduceCtorEq, Nat.reduceLT, Nat.reduceLeDiff, Nat.reduceMul, Nat.reduceEqDiff, exists_eq', implies_true, exists_true_left, tys0, tys1, tys2, und0, und1, md57, Tryz.ntmps57, Tryz.results57]
    · have lw := wordB_low u
      cases i with
      | zero =>
        refine br_no (by first | exact decide_eq_false (by omega) | exact beq_false_of_ne (by omega) | (simp only [bne_eq_false_iff_eq, beq_eq_false_iff_ne, ne_eq]; omega)) ?_; simp only [q0, q1, q2, q3, q4, q5, q6, q7, q8, q9, zr0, zr1, zr2, zr3, zq0, zq1, zq2, zq3, zq4, Nat.reduceAdd, Nat.reduceSub, lenA, convA, indexA, indexS, Int.reduceToNat, cond_true, cond_false, ↓reduceIte, reduceCtorEq, Nat.reduceLT, Nat.reduceLeDiff, Nat.reduceMul, Nat.reduceEqDiff, exists_eq', implies_true, exists_true_left, tys0, tys1, tys2, und0, und1, md57, Tryz.ntmps57, Tryz.results57]
        refine ⟨⟨1, by omega, pref_go hp (by unfold wordP; rw [ga, u]; rfl)⟩, by show xs.length - 1 < _; omega, ?_⟩
        exact weak_drop (by simp) (by simp [DropHp, ints_below, flts_below, (show IntKind.i64.wrap 1 = 1 from by decide)]) (by simp [DropTm, DropV, below, belowM, belowL, (show IntKind.i64.wrap 1 = 1 from by decide)])
      | succ k =>
        have hk : k < xs.length := by omega
        have hkI : (k : Int) < (xs.length : Int) := by omega
        have gb := getD_at xs 0 k hk
        have pk := pref_at hp k (by omega)
        have wk : wordB xs[k] = true := by unfold wordP at pk; rw [gb, Bool.and_eq_true] at pk; exact pk.1
        have lk := wordB_low wk
        have e1 : IntKind.i64.wrap (((k + 1 : Nat) : Int) - 1) = (k : Int) := by rw [w64 (by omega) (by omega)]; omega
        refine br_yes (by first | exact decide_eq_true (by omega) | (simp only [bne_iff_ne, beq_iff_eq, ne_eq]; omega)) ?_; simp only [q0, q1, q2, q3, q4, q5, q6, q7, q8, q9, zr0, zr1, zr2, zr3, zq0, zq1, zq2, zq3, zq4, Nat.reduceAdd, Nat.reduceSub, lenA, convA, indexA, indexS, Int.reduceToNat, cond_true, cond_false, ↓reduceIte, reduceCtorEq, Nat.reduceLT, Nat.reduceLeDiff, Nat.reduceMul, Nat.reduceEqDiff, exists_eq', implies_true, exists_true_left, tys0, tys1, tys2, und0, und1, md57, Tryz.ntmps57, Tryz.results57, e1, hk, hkI]
        refine call_ret (atom_call _ lk) rfl rfl ?_
        simp only [q0, q1, q2, q3, q4, q5, q6, q7, q8, q9, zr0, zr1, zr2, zr3, zq0, zq1, zq2, zq3, zq4, Nat.reduceAdd, Nat.reduceSub, lenA, convA, indexA, indexS, Int.reduceToNat, cond_true, cond_false, ↓reduceIte, reduceCtorEq, Nat.reduceLT, Nat.reduceLeDiff, Nat.reduceMul, Nat.reduceEqDiff, exists_eq', implies_true, exists_true_left, tys0, tys1, tys2, und0, und1, md57, Tryz.ntmps57, Tryz.results57]
        refine call_ret (atom_call _ lw) rfl rfl ?_
        simp only [q0, q1, q2, q3, q4, q5, q6, q7, q8, q9, zr0, zr1, zr2, zr3, zq0, zq1, zq2, zq3, zq4, Nat.reduceAdd, Nat.reduceSub, lenA, convA, indexA, indexS, Int.reduceToNat, cond_true, cond_false, ↓reduceIte, reduceCtorEq, Nat.reduceLT, Nat.reduceLeDiff, Nat.reduceMul, Nat.reduceEqDiff, exists_eq', implies_true, exists_true_left, tys0, tys1, tys2, und0, und1, md57, Tryz.ntmps57, Tryz.results57]
        refine br_intro (fun v => ?_) (fun v => ?_) <;> simp only [q0, q1, q2, q3, q4, q5, q6, q7, q8, q9, zr0, zr1, zr2, zr3, zq0, zq1, zq2, zq3, zq4, Nat.reduceAdd, Nat.reduceSub, lenA, convA, indexA, indexS, Int.reduceToNat, cond_true, cond_false, ↓reduceIte, reduceCtorEq, Nat.reduceLT, Nat.reduceLeDiff, Nat.reduceMul, Nat.reduceEqDiff, exists_eq', implies_true, exists_true_left, tys0, tys1, tys2, und0, und1, md57, Tryz.ntmps57, Tryz.results57]
        · have v' := of_decide_eq_true v
          have : wordP xs (k + 1) = false := by unfold wordP; rw [ga, u, Nat.add_sub_cancel, gb, decide_eq_false (by omega)]; rfl
          exact PostR.pure ⟨by unfold wordsB; rw [pref_no (k + 1) hi' this]; rfl, rfl⟩ rfl
        · have v' := of_decide_eq_false v
          have : wordP xs (k + 1) = true := by unfold wordP; rw [ga, u, Nat.add_sub_cancel, gb, decide_eq_true (by omega)]; simp
          refine ⟨⟨k + 1 + 1, by omega, pref_go hp this⟩, by show xs.length - (k + 1 + 1) < _; omega, ?_⟩
          have ew2 : IntKind.i64.wrap ((k : Int) + 1 + 1) = (k : Int) + 1 + 1 := w64 (by omega) (by omega)
          exact weak_drop (by simp) (by simp [DropHp, ints_below, flts_below, ew2]) (by simp [DropTm, DropV, below, belowM, belowL, ew2])
    · exact PostR.pure ⟨by unfold wordsB; rw [pref_no i hi' (by unfold wordP; rw [ga, u]; rfl)]; rfl, rfl⟩ rfl
  · have hi' : i = xs.length := by have := of_decide_eq_false h; omega
    subst hi'
    exact PostR.pure ⟨by unfold wordsB; rw [hp, Bool.true_and]; congr 1; exact decide_eq_decide.2 (by omega), rfl⟩ rfl
end Go.Proofs.YtigipcckflcilaaGreatDoor
