/- Rules: what is drawn, what is valid, lists (out of other texts). -/
import Derived.Test.YtmllengggncmkaaGreatBase
import Derived.Test.YtmllengggncmkaaGreatAbsM4
import Derived.IntWalk
set_option maxRecDepth 10000
set_option maxHeartbeats 4000000
set_option linter.unusedSimpArgs false
set_option linter.unusedVariables false
namespace Go.Proofs.YtmllengggncmkaaGreat
open Go Go.Abs

def intB (xs : List Int) : Blk := { ty := 2, w := 1, els := ints xs }
abbrev Rul := Int × List Int × Int × Int × Int
abbrev Sav := List UInt8 × List Rul × List Int
def rulA (r : Rul) : AV := .agg [.int .i64 r.1, .ro (ints r.2.1), .int .i64 r.2.2.1, .int .i64 r.2.2.2.1, .int .i64 r.2.2.2.2]
theorem rul_below (N : Nat) (r : Rul) : below N (rulA r) = true := by simp [rulA, below, belowM, belowL]
theorem rul_view (d : Nat) (hp : List Blk) (r : Rul) : view (d + 1) hp (rulA r) = rulA r := by simp [rulA, view_agg, view_int, view_ro]
structure SavL (s : Sav) : Prop where
  n : s.1.length ≤ 9223372036854775807
  r : s.2.1.length ≤ 9223372036854775807
  f : ∀ r ∈ s.2.1, r.2.1.length ≤ 9223372036854775807
  i : s.2.2.length ≤ 9223372036854775807
def rulB (L : List AV) : Blk := { ty := 41, w := 5, els := L }
theorem getD_at {α : Type} (xs : List α) (z : α) (i : Nat) (h : i < xs.length) : xs.getD i z = xs[i] := by
  simp [List.getD_eq_getElem?_getD, List.getElem?_eq_getElem h]
def pref (p : Nat → Bool) (n : Nat) : Bool := (List.range n).all p
theorem pref_succ (p : Nat → Bool) (n : Nat) : pref p (n + 1) = (pref p n && p n) := by
  simp [pref, List.range_succ]
theorem pref_no {p : Nat → Bool} {n : Nat} (i : Nat) (hi : i < n) (h : p i = false) : pref p n = false := by
  rw [pref, List.all_eq_false]
  exact ⟨i, by simpa using hi, by simp [h]⟩
theorem pref_go {p : Nat → Bool} {n : Nat} (h1 : pref p n = true) (h2 : p n = true) : pref p (n + 1) = true := by rw [pref_succ, h1, h2]; rfl
theorem all_pref {α : Type} (p : α → Bool) (z : α) (xs : List α) : xs.all p = pref (fun j => p (xs.getD j z)) xs.length := by
  rw [Bool.eq_iff_iff, pref, List.all_eq_true, List.all_eq_true]
  constructor
  · intro h j hj
    have hj' : j < xs.length := by simpa using hj
    rw [getD_at xs z j hj']
    exact h _ (List.getElem_mem hj')
  · intro h x hx
    obtain ⟨j, hj, rfl⟩ := List.getElem_of_mem hx
    have := h j (by simpa using hj)
    rwa [getD_at xs z j hj] at this
def inR (lo hi n : Int) : Bool := decide (lo ≤ n) && decide (n ≤ hi)
theorem inR_yes {lo hi n : Int} (h1 : lo ≤ n) (h2 : n ≤ hi) : inR lo hi n = true := by simp [inR, h1, h2]
theorem inR_iff {lo hi n : Int} : inR lo hi n = true ↔ lo ≤ n ∧ n ≤ hi := by simp [inR]
theorem within_call (a b c : Int) : CallA Tryz.prog 46 [.int .i64 a, .int .i64 b, .int .i64 c] [] (Ret (.bool (inR b c a)) []) := by
  refine CallP.out (t := .mk) (go_in (md := md46) mixed Tryz.func46 rfl go46 (by kernel_rfl) ?_)
  simp only [q0, q1, q2, q3, q4, q5, q6, q7, q8, q9, zr0, zr1, zr2, zr3, zq0, zq1, zq2, zq3, zq4, Nat.reduceAdd, Nat.reduceSub, lenA, convA, indexA, indexS, Int.reduceToNat, cond_true, cond_false, ↓reduceIte, reduceCtorEq, Nat.reduceLT, Nat.reduceLeDiff, Nat.reduceMul, Nat.reduceEqDiff, exists_eq', implies_true, exists_true_left, tys0, tys1, tys2, tys3, tys4, und0, und1, und2, und3, md46, Tryz.ntmps46, Tryz.results46]
  refine br_intro (fun h => ?_) (fun h => ?_) <;> simp only [q0, q1, q2, q3, q4, q5, q6, q7, q8, q9, zr0, zr1, zr2, zr3, zq0, zq1, zq2, zq3, zq4, Nat.reduceAdd, Nat.reduceSub, lenA, convA, indexA, indexS, Int.reduceToNat, cond_true, cond_false, ↓reduceIte, reduceCtorEq, Nat.reduceLT, Nat.reduceLeDiff, Nat.reduceMul, Nat.reduceEqDiff, exists_eq', implies_true, exists_true_left, tys0, tys1, tys2, tys3, tys4, und0, und1, und2, und3, md46, Tryz.ntmps46, Tryz.results46]
  · exact PostR.pure ⟨by simp at h; simp [inR, h], rfl⟩ rfl
  · exact PostR.pure ⟨by simp at h; simp [inR]; omega, rfl⟩ rfl
theorem indexFuncI_call (fid : FuncId) (caps : List AV) (q : Int → Bool) (hc : caps.all (below 0) = true) (hc2 : caps.all (belowL 0) = true) (hq : ∀ x, CallA Tryz.prog fid (.int .i64 x :: caps) [] (Ret (.bool (q x)) [])) (xs : List Int) (hm : xs.length ≤ 9223372036854775807) :
    CallA Tryz.prog 106 [.ro (ints xs), .fn fid caps] [] (Ret (.int .i64 (findI q xs 0)) []) := by
  refine CallP.out (t := .mk) (go_in (md := md106) mixed Tryz.func106 rfl go106 (by kernel_rfl) ?_)
  simp only [q0, q1, q2, q3, q4, q5, q6, q7, q8, q9, zr0, zr1, zr2, zr3, zq0, zq1, zq2, zq3, zq4, Nat.reduceAdd, Nat.reduceSub, lenA, convA, indexA, indexS, Int.reduceToNat, cond_true, cond_false, ↓reduceIte, reduceCtorEq, Nat.reduceLT, Nat.reduceLeDiff, Nat.reduceMul, Nat.reduceEqDiff, exists_eq', implies_true, exists_true_left, tys0, tys1, tys2, tys3, tys4, und0, und1, und2, und3, md106, Tryz.ntmps106, Tryz.results106]
  have hb : below 0 (.fn fid caps) = true := hc2
  have hb2 : ∀ l, below 0 (.ro l) = true := fun _ => rfl
  have hb3 : ∀ k n, below 0 (.int k n) = true := fun _ _ => rfl
  have hb4 : below 0 .any = true := rfl
  refine go_round (md := md106) mixed (by kernel_rfl) (fun i : {i : Nat // i ≤ xs.length ∧ findI q xs 0 = findI q (xs.drop i) i} => ⟨[.ro (ints xs), .fn fid caps, .any, .any, .any, .any, .any, .int .i64 xs.length, .int .i64 i.1, .any, .any, .any, .any, .any, .any, .any, .any, .any, .any], []⟩) (fun i => xs.length - i.1) ⟨0, by simp⟩ ?_ ?_
  · exact weak_drop (by simp) (by simp [DropHp]) (by simp [DropTm, DropV, hb, hb2, hb3, hb4])
  · intro ⟨i, hi, he⟩
    simp only [q0, q1, q2, q3, q4, q5, q6, q7, q8, q9, zr0, zr1, zr2, zr3, zq0, zq1, zq2, zq3, zq4, Nat.reduceAdd, Nat.reduceSub, lenA, convA, indexA, indexS, Int.reduceToNat, cond_true, cond_false, ↓reduceIte, reduceCtorEq, Nat.reduceLT, Nat.reduceLeDiff, Nat.reduceMul, Nat.reduceEqDiff, exists_eq', implies_true, exists_true_left, tys0, tys1, tys2, tys3, tys4, und0, und1, und2, und3, md106, Tryz.ntmps106, Tryz.results106]
    refine br_intro (fun h => ?_) (fun h => ?_) <;> simp only [q0, q1, q2, q3, q4, q5, q6, q7, q8, q9, zr0, zr1, zr2, zr3, zq0, zq1, zq2, zq3, zq4, Nat.reduceAdd, Nat.reduceSub, lenA, convA, indexA, indexS, Int.reduceToNat, cond_true, cond_false, ↓reduceIte, reduceCtorEq, Nat.reduceLT, Nat.reduceLeDiff, Nat.reduceMul, Nat.reduceEqDiff, exists_eq', implies_true, exists_true_left, tys0, tys1, tys2, tys3, tys4, und0, und1, und2, und3, md106, Tryz.ntmps106, Tryz.results106]
    · have hi' : i < xs.length := by simpa using h
      refine ⟨hi', call_ret (hq _) (by rw [List.all_cons, hc]; rfl) rfl ?_⟩
      simp only [q0, q1, q2, q3, q4, q5, q6, q7, q8, q9, zr0, zr1, zr2, zr3, zq0, zq1, zq2, zq3, zq4, Nat.reduceAdd, Nat.reduceSub, lenA, convA, indexA, indexS, Int.reduceToNat, cond_true, cond_false, ↓reduceIte, reduceCtorEq, Nat.reduceLT, Nat.reduceLeDiff, Nat.reduceMul, Nat.reduceEqDiff, exists_eq', implies_true, exists_true_left, tys0, tys1, tys2, tys3, tys4, und0, und1, und2, und3, md106, Tryz.ntmps106, Tryz.results106]
      rw [findI_step q xs i hi'] at he
      refine br_intro (fun h2 => ?_) (fun h2 => ?_) <;> simp only [q0, q1, q2, q3, q4, q5, q6, q7, q8, q9, zr0, zr1, zr2, zr3, zq0, zq1, zq2, zq3, zq4, Nat.reduceAdd, Nat.reduceSub, lenA, convA, indexA, indexS, Int.reduceToNat, cond_true, cond_false, ↓reduceIte, reduceCtorEq, Nat.reduceLT, Nat.reduceLeDiff, Nat.reduceMul, Nat.reduceEqDiff, exists_eq', implies_true, exists_true_left, tys0, tys1, tys2, tys3, tys4, und0, und1, und2, und3, md106, Tryz.ntmps106, Tryz.results106]
      · rw [h2] at he
        exact PostR.pure ⟨by rw [he]; rfl, rfl⟩ rfl
      · rw [h2] at he
        refine ⟨⟨i + 1, by omega, he⟩, by show xs.length - (i + 1) < _; omega, ?_⟩
        exact weak_drop (by simp) (by simp [DropHp]) (by simp [DropTm, DropV, hb, hb2, hb3, hb4, w64_succ i (by omega)])
    · have hi' : i = xs.length := by simp at h; omega
      subst hi'
      rw [List.drop_length] at he
      exact PostR.pure ⟨by rw [he]; rfl, rfl⟩ rfl
theorem containsFuncI_call (fid : FuncId) (caps : List AV) (q : Int → Bool) (hc : caps.all (below 0) = true) (hc2 : caps.all (belowL 0) = true) (hq : ∀ x, CallA Tryz.prog fid (.int .i64 x :: caps) [] (Ret (.bool (q x)) [])) (xs : List Int) (hm : xs.length ≤ 9223372036854775807) :
    CallA Tryz.prog 95 [.ro (ints xs), .fn fid caps] [] (Ret (.bool (xs.any q)) []) := by
  refine CallP.out (t := .mk) (go_in (md := md95) mixed Tryz.func95 rfl go95 (by kernel_rfl) ?_)
  simp only [q0, q1, q2, q3, q4, q5, q6, q7, q8, q9, zr0, zr1, zr2, zr3, zq0, zq1, zq2, zq3, zq4, Nat.reduceAdd, Nat.reduceSub, lenA, convA, indexA, indexS, Int.reduceToNat, cond_true, cond_false, ↓reduceIte, reduceCtorEq, Nat.reduceLT, Nat.reduceLeDiff, Nat.reduceMul, Nat.reduceEqDiff, exists_eq', implies_true, exists_true_left, tys0, tys1, tys2, tys3, tys4, und0, und1, und2, und3, md95, Tryz.ntmps95, Tryz.results95]
  refine call_ret (indexFuncI_call fid caps q hc hc2 hq xs hm) (by simpa [below, belowM, belowL] using hc2) rfl ?_
  simp only [q0, q1, q2, q3, q4, q5, q6, q7, q8, q9, zr0, zr1, zr2, zr3, zq0, zq1, zq2, zq3, zq4, Nat.reduceAdd, Nat.reduceSub, lenA, convA, indexA, indexS, Int.reduceToNat, cond_true, cond_false, ↓reduceIte, reduceCtorEq, Nat.reduceLT, Nat.reduceLeDiff, Nat.reduceMul, Nat.reduceEqDiff, exists_eq', implies_true, exists_true_left, tys0, tys1, tys2, tys3, tys4, und0, und1, und2, und3, md95, Tryz.ntmps95, Tryz.results95]
  exact PostR.pure ⟨by rw [← findI_any q xs 0], rfl⟩ rfl
theorem l00In_call (a b c : Int) : CallA Tryz.prog 56 [.int .i64 a, .int .i64 b, .int .i64 c] [] (Ret (.bool (inR b c a)) []) := by
  refine CallP.out (t := .mk) (go_in (md := md56) mixed Tryz.func56 rfl go56 (by kernel_rfl) ?_)
  simp only [q0, q1, q2, q3, q4, q5, q6, q7, q8, q9, zr0, zr1, zr2, zr3, zq0, zq1, zq2, zq3, zq4, Nat.reduceAdd, Nat.reduceSub, lenA, convA, indexA, indexS, Int.reduceToNat, cond_true, cond_false, ↓reduceIte, reduceCtorEq, Nat.reduceLT, Nat.reduceLeDiff, Nat.reduceMul, Nat.reduceEqDiff, exists_eq', implies_true, exists_true_left, tys0, tys1, tys2, tys3, tys4, und0, und1, und2, und3, md56, Tryz.ntmps56, Tryz.results56]
  refine br_intro (fun h => ?_) (fun h => ?_) <;> simp only [q0, q1, q2, q3, q4, q5, q6, q7, q8, q9, zr0, zr1, zr2, zr3, zq0, zq1, zq2, zq3, zq4, Nat.reduceAdd, Nat.reduceSub, lenA, convA, indexA, indexS, Int.reduceToNat, cond_true, cond_false, ↓reduceIte, reduceCtorEq, Nat.reduceLT, Nat.reduceLeDiff, Nat.reduceMul, Nat.reduceEqDiff, exists_eq', implies_true, exists_true_left, tys0, tys1, tys2, tys3, tys4, und0, und1, und2, und3, md56, Tryz.ntmps56, Tryz.results56]
  · exact PostR.pure ⟨by simp at h; simp [inR, h], rfl⟩ rfl
  · exact PostR.pure ⟨by simp at h; simp [inR]; omega, rfl⟩ rfl
def atomF (w : Int) : Int := if w < 0 then -w else w
def wordB (w : Int) : Bool := w != 0 && inR (-16) 16 w
theorem wordB_low {w : Int} (h : wordB w = true) : -16 ≤ w ∧ w ≤ 16 := by
  unfold wordB at h
  rw [Bool.and_eq_true] at h
  exact inR_iff.1 h.2
def wordP (xs : List Int) (j : Nat) : Bool := wordB (xs.getD j 0) && (j == 0 || decide (atomF (xs.getD (j - 1) 0) < atomF (xs.getD j 0)))
def wordsB (xs : List Int) : Bool := pref (wordP xs) xs.length
theorem isWord_call (w : Int) : CallA Tryz.prog 27 [.int .i64 w] [] (Ret (.bool (wordB w)) []) := by
  refine CallP.out (t := .mk) (go_in (md := md27) mixed Tryz.func27 rfl go27 (by kernel_rfl) ?_)
  simp only [q0, q1, q2, q3, q4, q5, q6, q7, q8, q9, zr0, zr1, zr2, zr3, zq0, zq1, zq2, zq3, zq4, Nat.reduceAdd, Nat.reduceSub, lenA, convA, indexA, indexS, Int.reduceToNat, cond_true, cond_false, ↓reduceIte, reduceCtorEq, Nat.reduceLT, Nat.reduceLeDiff, Nat.reduceMul, Nat.reduceEqDiff, exists_eq', implies_true, exists_true_left, tys0, tys1, tys2, tys3, tys4, und0, und1, und2, und3, md27, Tryz.ntmps27, Tryz.results27]
  refine br_intro (fun h => ?_) (fun h => ?_) <;> simp only [q0, q1, q2, q3, q4, q5, q6, q7, q8, q9, zr0, zr1, zr2, zr3, zq0, zq1, zq2, zq3, zq4, Nat.reduceAdd, Nat.reduceSub, lenA, convA, indexA, indexS, Int.reduceToNat, cond_true, cond_false, ↓reduceIte, reduceCtorEq, Nat.reduceLT, Nat.reduceLeDiff, Nat.reduceMul, Nat.reduceEqDiff, exists_eq', implies_true, exists_true_left, tys0, tys1, tys2, tys3, tys4, und0, und1, und2, und3, md27, Tryz.ntmps27, Tryz.results27]
  · refine call_ret (within_call _ _ _) rfl rfl ?_
    simp only [q0, q1, q2, q3, q4, q5, q6, q7, q8, q9, zr0, zr1, zr2, zr3, zq0, zq1, zq2, zq3, zq4, Nat.reduceAdd, Nat.reduceSub, lenA, convA, indexA, indexS, Int.reduceToNat, cond_true, cond_false, ↓reduceIte, reduceCtorEq, Nat.reduceLT, Nat.reduceLeDiff, Nat.reduceMul, Nat.reduceEqDiff, exists_eq', implies_true, exists_true_left, tys0, tys1, tys2, tys3, tys4, und0, und1, und2, und3, md27, Tryz.ntmps27, Tryz.results27]
    exact PostR.pure ⟨by unfold wordB; rw [h]; rfl, rfl⟩ rfl
  · exact PostR.pure ⟨by unfold wordB; rw [h]; rfl, rfl⟩ rfl
theorem l05Word_call (w : Int) : CallA Tryz.prog 67 [.int .i64 w] [] (Ret (.bool (wordB w)) []) := by
  refine CallP.out (t := .mk) (go_in (md := md67) mixed Tryz.func67 rfl go67 (by kernel_rfl) ?_)
  simp only [q0, q1, q2, q3, q4, q5, q6, q7, q8, q9, zr0, zr1, zr2, zr3, zq0, zq1, zq2, zq3, zq4, Nat.reduceAdd, Nat.reduceSub, lenA, convA, indexA, indexS, Int.reduceToNat, cond_true, cond_false, ↓reduceIte, reduceCtorEq, Nat.reduceLT, Nat.reduceLeDiff, Nat.reduceMul, Nat.reduceEqDiff, exists_eq', implies_true, exists_true_left, tys0, tys1, tys2, tys3, tys4, und0, und1, und2, und3, md67, Tryz.ntmps67, Tryz.results67]
  refine br_intro (fun h => ?_) (fun h => ?_) <;> simp only [q0, q1, q2, q3, q4, q5, q6, q7, q8, q9, zr0, zr1, zr2, zr3, zq0, zq1, zq2, zq3, zq4, Nat.reduceAdd, Nat.reduceSub, lenA, convA, indexA, indexS, Int.reduceToNat, cond_true, cond_false, ↓reduceIte, reduceCtorEq, Nat.reduceLT, Nat.reduceLeDiff, Nat.reduceMul, Nat.reduceEqDiff, exists_eq', implies_true, exists_true_left, tys0, tys1, tys2, tys3, tys4, und0, und1, und2, und3, md67, Tryz.ntmps67, Tryz.results67]
  · refine call_ret (l00In_call _ _ _) rfl rfl ?_
    simp only [q0, q1, q2, q3, q4, q5, q6, q7, q8, q9, zr0, zr1, zr2, zr3, zq0, zq1, zq2, zq3, zq4, Nat.reduceAdd, Nat.reduceSub, lenA, convA, indexA, indexS, Int.reduceToNat, cond_true, cond_false, ↓reduceIte, reduceCtorEq, Nat.reduceLT, Nat.reduceLeDiff, Nat.reduceMul, Nat.reduceEqDiff, exists_eq', implies_true, exists_true_left, tys0, tys1, tys2, tys3, tys4, und0, und1, und2, und3, md67, Tryz.ntmps67, Tryz.results67]
    exact PostR.pure ⟨by unfold wordB; rw [h]; rfl, rfl⟩ rfl
  · exact PostR.pure ⟨by unfold wordB; rw [h]; rfl, rfl⟩ rfl
theorem atom_call (w : Int) (h : -16 ≤ w ∧ w ≤ 16) : CallA Tryz.prog 68 [.int .i64 w] [] (Ret (.int .i64 (atomF w)) []) := by
  have e : IntKind.i64.wrap (0 - w) = -w := by rw [w64 (by omega) (by omega)]; omega
  refine CallP.out (t := .mk) (go_in (md := md68) mixed Tryz.func68 rfl go68 (by kernel_rfl) ?_)
  simp only [q0, q1, q2, q3, q4, q5, q6, q7, q8, q9, zr0, zr1, zr2, zr3, zq0, zq1, zq2, zq3, zq4, Nat.reduceAdd, Nat.reduceSub, lenA, convA, indexA, indexS, Int.reduceToNat, cond_true, cond_false, ↓reduceIte, reduceCtorEq, Nat.reduceLT, Nat.reduceLeDiff, Nat.reduceMul, Nat.reduceEqDiff, exists_eq', implies_true, exists_true_left, tys0, tys1, tys2, tys3, tys4, und0, und1, und2, und3, md68, Tryz.ntmps68, Tryz.results68, e, maxA]
  exact PostR.pure ⟨by unfold atomF; congr 1; split <;> split <;> omega, rfl⟩ rfl
theorem l05Atom_call (w : Int) (h : -16 ≤ w ∧ w ≤ 16) : CallA Tryz.prog 78 [.int .i64 w] [] (Ret (.int .i64 (atomF w)) []) := by
  have e : IntKind.i64.wrap (0 - w) = -w := by rw [w64 (by omega) (by omega)]; omega
  refine CallP.out (t := .mk) (go_in (md := md78) mixed Tryz.func78 rfl go78 (by kernel_rfl) ?_)
  simp only [q0, q1, q2, q3, q4, q5, q6, q7, q8, q9, zr0, zr1, zr2, zr3, zq0, zq1, zq2, zq3, zq4, Nat.reduceAdd, Nat.reduceSub, lenA, convA, indexA, indexS, Int.reduceToNat, cond_true, cond_false, ↓reduceIte, reduceCtorEq, Nat.reduceLT, Nat.reduceLeDiff, Nat.reduceMul, Nat.reduceEqDiff, exists_eq', implies_true, exists_true_left, tys0, tys1, tys2, tys3, tys4, und0, und1, und2, und3, md78, Tryz.ntmps78, Tryz.results78, e]
  refine br_intro (fun u => ?_) (fun u => ?_) <;> simp only [q0, q1, q2, q3, q4, q5, q6, q7, q8, q9, zr0, zr1, zr2, zr3, zq0, zq1, zq2, zq3, zq4, Nat.reduceAdd, Nat.reduceSub, lenA, convA, indexA, indexS, Int.reduceToNat, cond_true, cond_false, ↓reduceIte, reduceCtorEq, Nat.reduceLT, Nat.reduceLeDiff, Nat.reduceMul, Nat.reduceEqDiff, exists_eq', implies_true, exists_true_left, tys0, tys1, tys2, tys3, tys4, und0, und1, und2, und3, md78, Tryz.ntmps78, Tryz.results78, e]
  · exact PostR.pure ⟨by unfold atomF; rw [if_pos (of_decide_eq_true u)], rfl⟩ rfl
  · exact PostR.pure ⟨by unfold atomF; rw [if_neg (of_decide_eq_false u)], rfl⟩ rfl
theorem pref_at {p : Nat → Bool} {n : Nat} (h : pref p n = true) (j : Nat) (hj : j < n) : p j = true := by
  rw [pref, List.all_eq_true] at h
  exact h j (by simpa using hj)
theorem areWords_call (xs : List Int) (hm : xs.length ≤ 1048576) : CallA Tryz.prog 51 [.ro (ints xs), .int .i64 6] [] (Ret (.bool (wordsB xs && decide (xs.length ≤ 6))) []) := by
  refine CallP.out (t := .mk) (go_in (md := md51) mixed Tryz.func51 rfl go51 (by kernel_rfl) ?_)
  simp only [q0, q1, q2, q3, q4, q5, q6, q7, q8, q9, zr0, zr1, zr2, zr3, zq0, zq1, zq2, zq3, zq4, Nat.reduceAdd, Nat.reduceSub, lenA, convA, indexA, indexS, Int.reduceToNat, cond_true, cond_false, ↓reduceIte, reduceCtorEq, Nat.reduceLT, Nat.reduceLeDiff, Nat.reduceMul, Nat.reduceEqDiff, exists_eq', implies_true, exists_true_left, tys0, tys1, tys2, tys3, tys4, und0, und1, und2, und3, md51, Tryz.ntmps51, Tryz.results51]
  refine go_round (md := md51) mixed (by kernel_rfl) (fun i : {i : Nat // i ≤ xs.length ∧ pref (wordP xs) i = true} => ⟨[.ro (ints xs), .int .i64 6, .any, .any, .any, .any, .any, .ro (ints xs), .int .i64 xs.length, .int .i64 i.1, .any, .any, .any, .any, .any, .any, .any, .any, .any, .any, .any, .any, .any, .any, .any, .any, .any, .any, .any, .any, .any, .any, .any, .any, .any, .any, .any], []⟩) (fun i => xs.length - i.1) ⟨0, by omega, rfl⟩ ?_ ?_
  · exact weak_drop (by simp) (by simp [DropHp, ints_below, flts_below]) (by simp [DropTm, DropV, below, belowM, belowL])
  rintro ⟨i, hi, hp⟩
  simp only [q0, q1, q2, q3, q4, q5, q6, q7, q8, q9, zr0, zr1, zr2, zr3, zq0, zq1, zq2, zq3, zq4, Nat.reduceAdd, Nat.reduceSub, lenA, convA, indexA, indexS, Int.reduceToNat, cond_true, cond_false, ↓reduceIte, reduceCtorEq, Nat.reduceLT, Nat.reduceLeDiff, Nat.reduceMul, Nat.reduceEqDiff, exists_eq', implies_true, exists_true_left, tys0, tys1, tys2, tys3, tys4, und0, und1, und2, und3, md51, Tryz.ntmps51, Tryz.results51]
  refine br_intro (fun h => ?_) (fun h => ?_) <;> simp only [q0, q1, q2, q3, q4, q5, q6, q7, q8, q9, zr0, zr1, zr2, zr3, zq0, zq1, zq2, zq3, zq4, Nat.reduceAdd, Nat.reduceSub, lenA, convA, indexA, indexS, Int.reduceToNat, cond_true, cond_false, ↓reduceIte, reduceCtorEq, Nat.reduceLT, Nat.reduceLeDiff, Nat.reduceMul, Nat.reduceEqDiff, exists_eq', implies_true, exists_true_left, tys0, tys1, tys2, tys3, tys4, und0, und1, und2, und3, md51, Tryz.ntmps51, Tryz.results51]
  · have hi' : i < xs.length := by have := of_decide_eq_true h; omega
    have hI : (i : Int) < (xs.length : Int) := by omega
    have ga := getD_at xs 0 i hi'
    have ew : IntKind.i64.wrap ((i : Int) + 1) = (i : Int) + 1 := w64 (by omega) (by omega)
    simp only [q0, q1, q2, q3, q4, q5, q6, q7, q8, q9, zr0, zr1, zr2, zr3, zq0, zq1, zq2, zq3, zq4, Nat.reduceAdd, Nat.reduceSub, lenA, convA, indexA, indexS, Int.reduceToNat, cond_true, cond_false, ↓reduceIte, reduceCtorEq, Nat.reduceLT, Nat.reduceLeDiff, Nat.reduceMul, Nat.reduceEqDiff, exists_eq', implies_true, exists_true_left, tys0, tys1, tys2, tys3, tys4, und0, und1, und2, und3, md51, Tryz.ntmps51, Tryz.results51, hi', hI]
    refine call_ret (isWord_call _) rfl rfl ?_
    simp only [q0, q1, q2, q3, q4, q5, q6, q7, q8, q9, zr0, zr1, zr2, zr3, zq0, zq1, zq2, zq3, zq4, Nat.reduceAdd, Nat.reduceSub, lenA, convA, indexA, indexS, Int.reduceToNat, cond_true, cond_false, ↓reduceIte, reduceCtorEq, Nat.reduceLT, Nat.reduceLeDiff, Nat.reduceMul, Nat.reduceEqDiff, exists_eq', implies_true, exists_true_left, tys0, tys1, tys2, tys3, tys4, und0, und1, und2, und3, md51, Tryz.ntmps51, Tryz.results51]
    refine br_intro (fun u => ?_) (fun u => ?_) <;> simp only [q0, q1, q2, q3, q4, q5, q6, q7, q8, q9, zr0, zr1, zr2, zr3, zq0, zq1, zq2, zq3, zq4, Nat.reduceAdd, Nat.reduceSub, lenA, convA, indexA, indexS, Int.reduceToNat, cond_true, cond_false, ↓reduceIte, reduceCtorEq, Nat.reduceLT, Nat.reduceLeDiff, Nat.reduceMul, Nat.reduceEqDiff, exists_eq', implies_true, exists_true_left, tys0, tys1, tys2, tys3, tys4, und0, und1, und2, und3, md51, Tryz.ntmps51, Tryz.results51]
    · have lw := wordB_low u
      cases i with
      | zero =>
        refine br_no (by first | exact decide_eq_false (by omega) | exact beq_false_of_ne (by omega) | (simp only [bne_eq_false_iff_eq, beq_eq_false_iff_ne, ne_eq]; omega)) ?_; simp only [q0, q1, q2, q3, q4, q5, q6, q7, q8, q9, zr0, zr1, zr2, zr3, zq0, zq1, zq2, zq3, zq4, Nat.reduceAdd, Nat.reduceSub, lenA, convA, indexA, indexS, Int.reduceToNat, cond_true, cond_false, ↓reduceIte, reduceCtorEq, Nat.reduceLT, Nat.reduceLeDiff, Nat.reduceMul, Nat.reduceEqDiff, exists_eq', implies_true, exists_true_left, tys0, tys1, tys2, tys3, tys4, und0, und1, und2, und3, md51, Tryz.ntmps51, Tryz.results51]
        refine ⟨⟨1, by omega, pref_go hp (by unfold wordP; rw [ga, u]; rfl)⟩, by show xs.length - 1 < _; omega, ?_⟩
        exact weak_drop (by simp) (by simp [DropHp, ints_below, flts_below, (show IntKind.i64.wrap 1 = 1 from by decide)]) (by simp [DropTm, DropV, below, belowM, belowL, (show IntKind.i64.wrap 1 = 1 from by decide)])
      | succ k =>
        have hk : k < xs.length := by omega
        have hkI : (k : Int) < (xs.length : Int) := by omega
        have gb := getD_at xs 0 k hk
        have pk := pref_at hp k (by omega)
        have wk : wordB xs[k] = true := by unfold wordP at pk; rw [gb, Bool.and_eq_true] at pk; exact pk.1
        have lk := wordB_low wk
        have e1 : IntKind.i64.wrap (((k + 1 : Nat) : Int) - 1) = (k : Int) := by rw [w64 (by omega) (by omega)]; omega
        refine br_yes (by first | exact decide_eq_true (by omega) | (simp only [bne_iff_ne, beq_iff_eq, ne_eq]; omega)) ?_; simp only [q0, q1, q2, q3, q4, q5, q6, q7, q8, q9, zr0, zr1, zr2, zr3, zq0, zq1, zq2, zq3, zq4, Nat.reduceAdd, Nat.reduceSub, lenA, convA, indexA, indexS, Int.reduceToNat, cond_true, cond_false, ↓reduceIte, reduceCtorEq, Nat.reduceLT, Nat.reduceLeDiff, Nat.reduceMul, Nat.reduceEqDiff, exists_eq', implies_true, exists_true_left, tys0, tys1, tys2, tys3, tys4, und0, und1, und2, und3, md51, Tryz.ntmps51, Tryz.results51, e1, hk, hkI]
        refine call_ret (atom_call _ lk) rfl rfl ?_
        simp only [q0, q1, q2, q3, q4, q5, q6, q7, q8, q9, zr0, zr1, zr2, zr3, zq0, zq1, zq2, zq3, zq4, Nat.reduceAdd, Nat.reduceSub, lenA, convA, indexA, indexS, Int.reduceToNat, cond_true, cond_false, ↓reduceIte, reduceCtorEq, Nat.reduceLT, Nat.reduceLeDiff, Nat.reduceMul, Nat.reduceEqDiff, exists_eq', implies_true, exists_true_left, tys0, tys1, tys2, tys3, tys4, und0, und1, und2, und3, md51, Tryz.ntmps51, Tryz.results51]
        refine call_ret (atom_call _ lw) rfl rfl ?_
        simp only [q0, q1, q2, q3, q4, q5, q6, q7, q8, q9, zr0, zr1, zr2, zr3, zq0, zq1, zq2, zq3, zq4, Nat.reduceAdd, Nat.reduceSub, lenA, convA, indexA, indexS, Int.reduceToNat, cond_true, cond_false, ↓reduceIte, reduceCtorEq, Nat.reduceLT, Nat.reduceLeDiff, Nat.reduceMul, Nat.reduceEqDiff, exists_eq', implies_true, exists_true_left, tys0, tys1, tys2, tys3, tys4, und0, und1, und2, und3, md51, Tryz.ntmps51, Tryz.results51]
        refine br_intro (fun v => ?_) (fun v => ?_) <;> simp only [q0, q1, q2, q3, q4, q5, q6, q7, q8, q9, zr0, zr1, zr2, zr3, zq0, zq1, zq2, zq3, zq4, Nat.reduceAdd, Nat.reduceSub, lenA, convA, indexA, indexS, Int.reduceToNat, cond_true, cond_false, ↓reduceIte, reduceCtorEq, Nat.reduceLT, Nat.reduceLeDiff, Nat.reduceMul, Nat.reduceEqDiff, exists_eq', implies_true, exists_true_left, tys0, tys1, tys2, tys3, tys4, und0, und1, und2, und3, md51, Tryz.ntmps51, Tryz.results51]
        · have v' := of_decide_eq_true v
          have : wordP xs (k + 1) = false := by unfold wordP; rw [ga, u, Nat.add_sub_cancel, gb, decide_eq_false (by omega)]; rfl
          exact PostR.pure ⟨by unfold wordsB; rw [pref_no (k + 1) hi' this]; rfl, rfl⟩ rfl
        · have v' := of_decide_eq_false v
          have : wordP xs (k + 1) = true := by unfold wordP; rw [ga, u, Nat.add_sub_cancel, gb, decide_eq_true (by omega)]; simp
          refine ⟨⟨k + 1 + 1, by omega, pref_go hp this⟩, by show xs.length - (k + 1 + 1) < _; omega, ?_⟩
          have ew2 : IntKind.i64.wrap ((k : Int) + 1 + 1) = (k : Int) + 1 + 1 := w64 (by omega) (by omega)
          exact weak_drop (by simp) (by simp [DropHp, ints_below, flts_below, ew2]) (by simp [DropTm, DropV, below, belowM, belowL, ew2])
    · exact PostR.pure ⟨by unfold wordsB; rw [pref_no i hi' (by unfold wordP; rw [ga, u]; rfl)]; rfl, rfl⟩ rfl
  · have hi' : i = xs.length := by have := of_decide_eq_false h; omega
    subst hi'
    exact PostR.pure ⟨by unfold wordsB; rw [hp, Bool.true_and]; congr 1; exact decide_eq_decide.2 (by omega), rfl⟩ rfl
theorem l05Words_call (xs : List Int) (hm : xs.length ≤ 1048576) : CallA Tryz.prog 57 [.ro (ints xs)] [] (Ret (.bool (wordsB xs)) []) := by
  refine CallP.out (t := .mk) (go_in (md := md57) mixed Tryz.func57 rfl go57 (by kernel_rfl) ?_)
  simp only [q0, q1, q2, q3, q4, q5, q6, q7, q8, q9, zr0, zr1, zr2, zr3, zq0, zq1, zq2, zq3, zq4, Nat.reduceAdd, Nat.reduceSub, lenA, convA, indexA, indexS, Int.reduceToNat, cond_true, cond_false, ↓reduceIte, reduceCtorEq, Nat.reduceLT, Nat.reduceLeDiff, Nat.reduceMul, Nat.reduceEqDiff, exists_eq', implies_true, exists_true_left, tys0, tys1, tys2, tys3, tys4, und0, und1, und2, und3, md57, Tryz.ntmps57, Tryz.results57]
  refine go_round (md := md57) mixed (by kernel_rfl) (fun i : {i : Nat // i ≤ xs.length ∧ pref (wordP xs) i = true} => ⟨[.ro (ints xs), .any, .any, .any, .any, .int .i64 xs.length, .int .i64 i.1, .any, .any, .any, .any, .any, .any, .any, .any, .any, .any, .any, .any, .any, .any, .any, .any, .any, .any, .any, .any, .any, .any, .any, .any, .any, .any, .any], []⟩) (fun i => xs.length - i.1) ⟨0, by omega, rfl⟩ ?_ ?_
  · exact weak_drop (by simp) (by simp [DropHp, ints_below, flts_below]) (by simp [DropTm, DropV, below, belowM, belowL])
  rintro ⟨i, hi, hp⟩
  simp only [q0, q1, q2, q3, q4, q5, q6, q7, q8, q9, zr0, zr1, zr2, zr3, zq0, zq1, zq2, zq3, zq4, Nat.reduceAdd, Nat.reduceSub, lenA, convA, indexA, indexS, Int.reduceToNat, cond_true, cond_false, ↓reduceIte, reduceCtorEq, Nat.reduceLT, Nat.reduceLeDiff, Nat.reduceMul, Nat.reduceEqDiff, exists_eq', implies_true, exists_true_left, tys0, tys1, tys2, tys3, tys4, und0, und1, und2, und3, md57, Tryz.ntmps57, Tryz.results57]
  refine br_intro (fun h => ?_) (fun h => ?_) <;> simp only [q0, q1, q2, q3, q4, q5, q6, q7, q8, q9, zr0, zr1, zr2, zr3, zq0, zq1, zq2, zq3, zq4, Nat.reduceAdd, Nat.reduceSub, lenA, convA, indexA, indexS, Int.reduceToNat, cond_true, cond_false, ↓reduceIte, reduceCtorEq, Nat.reduceLT, Nat.reduceLeDiff, Nat.reduceMul, Nat.reduceEqDiff, exists_eq', implies_true, exists_true_left, tys0, tys1, tys2, tys3, tys4, und0, und1, und2, und3, md57, Tryz.ntmps57, Tryz.results57]
  · have hi' : i < xs.length := by have := of_decide_eq_true h; omega
    have hI : (i : Int) < (xs.length : Int) := by omega
    have ga := getD_at xs 0 i hi'
    have ew : IntKind.i64.wrap ((i : Int) + 1) = (i : Int) + 1 := w64 (by omega) (by omega)
    simp only [q0, q1, q2, q3, q4, q5, q6, q7, q8, q9, zr0, zr1, zr2, zr3, zq0, zq1, zq2, zq3, zq4, Nat.reduceAdd, Nat.reduceSub, lenA, convA, indexA, indexS, Int.reduceToNat, cond_true, cond_false, ↓reduceIte, reduceCtorEq, Nat.reduceLT, Nat.reduceLeDiff, Nat.reduceMul, Nat.reduceEqDiff, exists_eq', implies_true, exists_true_left, tys0, tys1, tys2, tys3, tys4, und0, und1, und2, und3, md57, Tryz.ntmps57, Tryz.results57, hi', hI]
    refine callr_ret (l05Word_call _) rfl rfl ?_
    simp only [q0, q1, q2, q3, q4, q5, q6, q7, q8, q9, zr0, zr1, zr2, zr3, zq0, zq1, zq2, zq3, zq4, Nat.reduceAdd, Nat.reduceSub, lenA, convA, indexA, indexS, Int.reduceToNat, cond_true, cond_false, ↓reduceIte, reduceCtorEq, Nat.reduceLT, Nat.reduceLeDiff, Nat.reduceMul, Nat.reduceEqDiff, exists_eq', implies_true, exists_true_left, tys0, tys1, tys2, tys3, tys4, und0, und1, und2, und3, md57, Tryz.ntmps57, Tryz.results57]
    refine br_intro (fun u => ?_) (fun u => ?_) <;> simp only [q0, q1, q2, q3, q4, q5, q6, q7, q8, q9, zr0, zr1, zr2, zr3, zq0, zq1, zq2, zq3, zq4, Nat.reduceAdd, Nat.reduceSub, lenA, convA, indexA, indexS, Int.reduceToNat, cond_true, cond_false, ↓reduceIte, reduceCtorEq, Nat.reduceLT, Nat.reduceLeDiff, Nat.reduceMul, Nat.reduceEqDiff, exists_eq', implies_true, exists_true_left, tys0, tys1, tys2, tys3, tys4, und0, und1, und2, und3, md57, Tryz.ntmps57, Tryz.results57]
    · have lw := wordB_low u
      cases i with
      | zero =>
        refine br_no (by first | exact decide_eq_false (by omega) | exact beq_false_of_ne (by omega) | (simp only [bne_eq_false_iff_eq, beq_eq_false_iff_ne, ne_eq]; omega)) ?_; simp only [q0, q1, q2, q3, q4, q5, q6, q7, q8, q9, zr0, zr1, zr2, zr3, zq0, zq1, zq2, zq3, zq4, Nat.reduceAdd, Nat.reduceSub, lenA, convA, indexA, indexS, Int.reduceToNat, cond_true, cond_false, ↓reduceIte, reduceCtorEq, Nat.reduceLT, Nat.reduceLeDiff, Nat.reduceMul, Nat.reduceEqDiff, exists_eq', implies_true, exists_true_left, tys0, tys1, tys2, tys3, tys4, und0, und1, und2, und3, md57, Tryz.ntmps57, Tryz.results57]
        refine ⟨⟨1, by omega, pref_go hp (by unfold wordP; rw [ga, u]; rfl)⟩, by show xs.length - 1 < _; omega, ?_⟩
        exact weak_drop (by simp) (by simp [DropHp, ints_below, flts_below, (show IntKind.i64.wrap 1 = 1 from by decide)]) (by simp [DropTm, DropV, below, belowM, belowL, (show IntKind.i64.wrap 1 = 1 from by decide)])
      | succ k =>
        have hk : k < xs.length := by omega
        have hkI : (k : Int) < (xs.length : Int) := by omega
        have gb := getD_at xs 0 k hk
        have pk := pref_at hp k (by omega)
        have wk : wordB xs[k] = true := by unfold wordP at pk; rw [gb, Bool.and_eq_true] at pk; exact pk.1
        have lk := wordB_low wk
        have e1 : IntKind.i64.wrap (((k + 1 : Nat) : Int) - 1) = (k : Int) := by rw [w64 (by omega) (by omega)]; omega
        refine br_yes (by first | exact decide_eq_true (by omega) | (simp only [bne_iff_ne, beq_iff_eq, ne_eq]; omega)) ?_; simp only [q0, q1, q2, q3, q4, q5, q6, q7, q8, q9, zr0, zr1, zr2, zr3, zq0, zq1, zq2, zq3, zq4, Nat.reduceAdd, Nat.reduceSub, lenA, convA, indexA, indexS, Int.reduceToNat, cond_true, cond_false, ↓reduceIte, reduceCtorEq, Nat.reduceLT, Nat.reduceLeDiff, Nat.reduceMul, Nat.reduceEqDiff, exists_eq', implies_true, exists_true_left, tys0, tys1, tys2, tys3, tys4, und0, und1, und2, und3, md57, Tryz.ntmps57, Tryz.results57, e1, hk, hkI, hi', hI]
        refine callr_ret (l05Atom_call _ lw) rfl rfl ?_
        simp only [q0, q1, q2, q3, q4, q5, q6, q7, q8, q9, zr0, zr1, zr2, zr3, zq0, zq1, zq2, zq3, zq4, Nat.reduceAdd, Nat.reduceSub, lenA, convA, indexA, indexS, Int.reduceToNat, cond_true, cond_false, ↓reduceIte, reduceCtorEq, Nat.reduceLT, Nat.reduceLeDiff, Nat.reduceMul, Nat.reduceEqDiff, exists_eq', implies_true, exists_true_left, tys0, tys1, tys2, tys3, tys4, und0, und1, und2, und3, md57, Tryz.ntmps57, Tryz.results57, e1, hk, hkI, hi', hI]
        refine callr_ret (l05Atom_call _ lk) rfl rfl ?_
        simp only [q0, q1, q2, q3, q4, q5, q6, q7, q8, q9, zr0, zr1, zr2, zr3, zq0, zq1, zq2, zq3, zq4, Nat.reduceAdd, Nat.reduceSub, lenA, convA, indexA, indexS, Int.reduceToNat, cond_true, cond_false, ↓reduceIte, reduceCtorEq, Nat.reduceLT, Nat.reduceLeDiff, Nat.reduceMul, Nat.reduceEqDiff, exists_eq', implies_true, exists_true_left, tys0, tys1, tys2, tys3, tys4, und0, und1, und2, und3, md57, Tryz.ntmps57, Tryz.results57]
        refine br_intro (fun v => ?_) (fun v => ?_) <;> simp only [q0, q1, q2, q3, q4, q5, q6, q7, q8, q9, zr0, zr1, zr2, zr3, zq0, zq1, zq2, zq3, zq4, Nat.reduceAdd, Nat.reduceSub, lenA, convA, indexA, indexS, Int.reduceToNat, cond_true, cond_false, ↓reduceIte, reduceCtorEq, Nat.reduceLT, Nat.reduceLeDiff, Nat.reduceMul, Nat.reduceEqDiff, exists_eq', implies_true, exists_true_left, tys0, tys1, tys2, tys3, tys4, und0, und1, und2, und3, md57, Tryz.ntmps57, Tryz.results57]
        · have v' := of_decide_eq_true v
          have : wordP xs (k + 1) = false := by unfold wordP; rw [ga, u, Nat.add_sub_cancel, gb, decide_eq_false (by omega)]; rfl
          exact PostR.pure ⟨by unfold wordsB; rw [pref_no (k + 1) hi' this], rfl⟩ rfl
        · have v' := of_decide_eq_false v
          have : wordP xs (k + 1) = true := by unfold wordP; rw [ga, u, Nat.add_sub_cancel, gb, decide_eq_true (by omega)]; simp
          refine ⟨⟨k + 1 + 1, by omega, pref_go hp this⟩, by show xs.length - (k + 1 + 1) < _; omega, ?_⟩
          have ew2 : IntKind.i64.wrap ((k : Int) + 1 + 1) = (k : Int) + 1 + 1 := w64 (by omega) (by omega)
          exact weak_drop (by simp) (by simp [DropHp, ints_below, flts_below, ew2]) (by simp [DropTm, DropV, below, belowM, belowL, ew2])
    · exact PostR.pure ⟨by unfold wordsB; rw [pref_no i hi' (by unfold wordP; rw [ga, u]; rfl)], rfl⟩ rfl
  · have hi' : i = xs.length := by have := of_decide_eq_false h; omega
    subst hi'
    exact PostR.pure ⟨by unfold wordsB; rw [hp], rfl⟩ rfl
def ruleB (r : Rul) : Bool := wordB r.1 && (decide (r.2.1.length ≤ 6) && wordsB r.2.1) && inR 0 100000 r.2.2.1 && inR 0 100000 r.2.2.2.1 && decide (r.2.2.1 ≤ r.2.2.2.1) && inR 0 100 r.2.2.2.2
theorem isDate_call (n : Int) : CallA Tryz.prog 28 [.int .i64 n] [] (Ret (.bool (inR 0 100000 n)) []) := by
  refine CallP.out (t := .mk) (go_in (md := md28) mixed Tryz.func28 rfl go28 (by kernel_rfl) ?_)
  simp only [q0, q1, q2, q3, q4, q5, q6, q7, q8, q9, zr0, zr1, zr2, zr3, zq0, zq1, zq2, zq3, zq4, Nat.reduceAdd, Nat.reduceSub, lenA, convA, indexA, indexS, Int.reduceToNat, cond_true, cond_false, ↓reduceIte, reduceCtorEq, Nat.reduceLT, Nat.reduceLeDiff, Nat.reduceMul, Nat.reduceEqDiff, exists_eq', implies_true, exists_true_left, tys0, tys1, tys2, tys3, tys4, und0, und1, und2, und3, md28, Tryz.ntmps28, Tryz.results28]
  refine call_ret (within_call _ _ _) rfl rfl ?_
  simp only [q0, q1, q2, q3, q4, q5, q6, q7, q8, q9, zr0, zr1, zr2, zr3, zq0, zq1, zq2, zq3, zq4, Nat.reduceAdd, Nat.reduceSub, lenA, convA, indexA, indexS, Int.reduceToNat, cond_true, cond_false, ↓reduceIte, reduceCtorEq, Nat.reduceLT, Nat.reduceLeDiff, Nat.reduceMul, Nat.reduceEqDiff, exists_eq', implies_true, exists_true_left, tys0, tys1, tys2, tys3, tys4, und0, und1, und2, und3, md28, Tryz.ntmps28, Tryz.results28]
  exact PostR.pure ⟨rfl, rfl⟩ rfl
theorem l05Day_call (n : Int) : CallA Tryz.prog 30 [.int .i64 n] [] (Ret (.bool (inR 0 100000 n)) []) := by
  refine CallP.out (t := .mk) (go_in (md := md30) mixed Tryz.func30 rfl go30 (by kernel_rfl) ?_)
  simp only [q0, q1, q2, q3, q4, q5, q6, q7, q8, q9, zr0, zr1, zr2, zr3, zq0, zq1, zq2, zq3, zq4, Nat.reduceAdd, Nat.reduceSub, lenA, convA, indexA, indexS, Int.reduceToNat, cond_true, cond_false, ↓reduceIte, reduceCtorEq, Nat.reduceLT, Nat.reduceLeDiff, Nat.reduceMul, Nat.reduceEqDiff, exists_eq', implies_true, exists_true_left, tys0, tys1, tys2, tys3, tys4, und0, und1, und2, und3, md30, Tryz.ntmps30, Tryz.results30]
  refine call_ret (l00In_call _ _ _) rfl rfl ?_
  simp only [q0, q1, q2, q3, q4, q5, q6, q7, q8, q9, zr0, zr1, zr2, zr3, zq0, zq1, zq2, zq3, zq4, Nat.reduceAdd, Nat.reduceSub, lenA, convA, indexA, indexS, Int.reduceToNat, cond_true, cond_false, ↓reduceIte, reduceCtorEq, Nat.reduceLT, Nat.reduceLeDiff, Nat.reduceMul, Nat.reduceEqDiff, exists_eq', implies_true, exists_true_left, tys0, tys1, tys2, tys3, tys4, und0, und1, und2, und3, md30, Tryz.ntmps30, Tryz.results30]
  exact PostR.pure ⟨rfl, rfl⟩ rfl
theorem validRule_call (r : Rul) (hm : r.2.1.length ≤ 1048576) : CallA Tryz.prog 41 [rulA r] [] (Ret (.bool (ruleB r)) []) := by
  refine CallP.out (t := .mk) (go_in (md := md41) mixed Tryz.func41 rfl go41 (by kernel_rfl) ?_)
  simp only [q0, q1, q2, q3, q4, q5, q6, q7, q8, q9, zr0, zr1, zr2, zr3, zq0, zq1, zq2, zq3, zq4, Nat.reduceAdd, Nat.reduceSub, lenA, convA, indexA, indexS, Int.reduceToNat, cond_true, cond_false, ↓reduceIte, reduceCtorEq, Nat.reduceLT, Nat.reduceLeDiff, Nat.reduceMul, Nat.reduceEqDiff, exists_eq', implies_true, exists_true_left, tys0, tys1, tys2, tys3, tys4, und0, und1, und2, und3, md41, Tryz.ntmps41, Tryz.results41, rulA]
  refine call_ret (isWord_call _) rfl rfl ?_
  simp only [q0, q1, q2, q3, q4, q5, q6, q7, q8, q9, zr0, zr1, zr2, zr3, zq0, zq1, zq2, zq3, zq4, Nat.reduceAdd, Nat.reduceSub, lenA, convA, indexA, indexS, Int.reduceToNat, cond_true, cond_false, ↓reduceIte, reduceCtorEq, Nat.reduceLT, Nat.reduceLeDiff, Nat.reduceMul, Nat.reduceEqDiff, exists_eq', implies_true, exists_true_left, tys0, tys1, tys2, tys3, tys4, und0, und1, und2, und3, md41, Tryz.ntmps41, Tryz.results41, rulA]
  refine br_intro (fun h1 => ?_) (fun h1 => ?_) <;> simp only [q0, q1, q2, q3, q4, q5, q6, q7, q8, q9, zr0, zr1, zr2, zr3, zq0, zq1, zq2, zq3, zq4, Nat.reduceAdd, Nat.reduceSub, lenA, convA, indexA, indexS, Int.reduceToNat, cond_true, cond_false, ↓reduceIte, reduceCtorEq, Nat.reduceLT, Nat.reduceLeDiff, Nat.reduceMul, Nat.reduceEqDiff, exists_eq', implies_true, exists_true_left, tys0, tys1, tys2, tys3, tys4, und0, und1, und2, und3, md41, Tryz.ntmps41, Tryz.results41, rulA]
  · refine call_ret (areWords_call _ hm) rfl rfl ?_
    simp only [q0, q1, q2, q3, q4, q5, q6, q7, q8, q9, zr0, zr1, zr2, zr3, zq0, zq1, zq2, zq3, zq4, Nat.reduceAdd, Nat.reduceSub, lenA, convA, indexA, indexS, Int.reduceToNat, cond_true, cond_false, ↓reduceIte, reduceCtorEq, Nat.reduceLT, Nat.reduceLeDiff, Nat.reduceMul, Nat.reduceEqDiff, exists_eq', implies_true, exists_true_left, tys0, tys1, tys2, tys3, tys4, und0, und1, und2, und3, md41, Tryz.ntmps41, Tryz.results41, rulA]
    refine br_intro (fun h2 => ?_) (fun h2 => ?_) <;> simp only [q0, q1, q2, q3, q4, q5, q6, q7, q8, q9, zr0, zr1, zr2, zr3, zq0, zq1, zq2, zq3, zq4, Nat.reduceAdd, Nat.reduceSub, lenA, convA, indexA, indexS, Int.reduceToNat, cond_true, cond_false, ↓reduceIte, reduceCtorEq, Nat.reduceLT, Nat.reduceLeDiff, Nat.reduceMul, Nat.reduceEqDiff, exists_eq', implies_true, exists_true_left, tys0, tys1, tys2, tys3, tys4, und0, und1, und2, und3, md41, Tryz.ntmps41, Tryz.results41, rulA]
    · refine call_ret (isDate_call _) rfl rfl ?_
      simp only [q0, q1, q2, q3, q4, q5, q6, q7, q8, q9, zr0, zr1, zr2, zr3, zq0, zq1, zq2, zq3, zq4, Nat.reduceAdd, Nat.reduceSub, lenA, convA, indexA, indexS, Int.reduceToNat, cond_true, cond_false, ↓reduceIte, reduceCtorEq, Nat.reduceLT, Nat.reduceLeDiff, Nat.reduceMul, Nat.reduceEqDiff, exists_eq', implies_true, exists_true_left, tys0, tys1, tys2, tys3, tys4, und0, und1, und2, und3, md41, Tryz.ntmps41, Tryz.results41, rulA]
      refine br_intro (fun h3 => ?_) (fun h3 => ?_) <;> simp only [q0, q1, q2, q3, q4, q5, q6, q7, q8, q9, zr0, zr1, zr2, zr3, zq0, zq1, zq2, zq3, zq4, Nat.reduceAdd, Nat.reduceSub, lenA, convA, indexA, indexS, Int.reduceToNat, cond_true, cond_false, ↓reduceIte, reduceCtorEq, Nat.reduceLT, Nat.reduceLeDiff, Nat.reduceMul, Nat.reduceEqDiff, exists_eq', implies_true, exists_true_left, tys0, tys1, tys2, tys3, tys4, und0, und1, und2, und3, md41, Tryz.ntmps41, Tryz.results41, rulA]
      · refine call_ret (isDate_call _) rfl rfl ?_
        simp only [q0, q1, q2, q3, q4, q5, q6, q7, q8, q9, zr0, zr1, zr2, zr3, zq0, zq1, zq2, zq3, zq4, Nat.reduceAdd, Nat.reduceSub, lenA, convA, indexA, indexS, Int.reduceToNat, cond_true, cond_false, ↓reduceIte, reduceCtorEq, Nat.reduceLT, Nat.reduceLeDiff, Nat.reduceMul, Nat.reduceEqDiff, exists_eq', implies_true, exists_true_left, tys0, tys1, tys2, tys3, tys4, und0, und1, und2, und3, md41, Tryz.ntmps41, Tryz.results41, rulA]
        refine br_intro (fun h4 => ?_) (fun h4 => ?_) <;> simp only [q0, q1, q2, q3, q4, q5, q6, q7, q8, q9, zr0, zr1, zr2, zr3, zq0, zq1, zq2, zq3, zq4, Nat.reduceAdd, Nat.reduceSub, lenA, convA, indexA, indexS, Int.reduceToNat, cond_true, cond_false, ↓reduceIte, reduceCtorEq, Nat.reduceLT, Nat.reduceLeDiff, Nat.reduceMul, Nat.reduceEqDiff, exists_eq', implies_true, exists_true_left, tys0, tys1, tys2, tys3, tys4, und0, und1, und2, und3, md41, Tryz.ntmps41, Tryz.results41, rulA]
        · refine br_intro (fun h5 => ?_) (fun h5 => ?_) <;> simp only [q0, q1, q2, q3, q4, q5, q6, q7, q8, q9, zr0, zr1, zr2, zr3, zq0, zq1, zq2, zq3, zq4, Nat.reduceAdd, Nat.reduceSub, lenA, convA, indexA, indexS, Int.reduceToNat, cond_true, cond_false, ↓reduceIte, reduceCtorEq, Nat.reduceLT, Nat.reduceLeDiff, Nat.reduceMul, Nat.reduceEqDiff, exists_eq', implies_true, exists_true_left, tys0, tys1, tys2, tys3, tys4, und0, und1, und2, und3, md41, Tryz.ntmps41, Tryz.results41, rulA]
          · refine call_ret (within_call _ _ _) rfl rfl ?_
            simp only [q0, q1, q2, q3, q4, q5, q6, q7, q8, q9, zr0, zr1, zr2, zr3, zq0, zq1, zq2, zq3, zq4, Nat.reduceAdd, Nat.reduceSub, lenA, convA, indexA, indexS, Int.reduceToNat, cond_true, cond_false, ↓reduceIte, reduceCtorEq, Nat.reduceLT, Nat.reduceLeDiff, Nat.reduceMul, Nat.reduceEqDiff, exists_eq', implies_true, exists_true_left, tys0, tys1, tys2, tys3, tys4, und0, und1, und2, und3, md41, Tryz.ntmps41, Tryz.results41, rulA]
            exact PostR.pure ⟨by unfold ruleB; rw [h1, Bool.and_comm (decide _) (wordsB _), h2, h3, h4, h5]; rfl, rfl⟩ rfl
          · exact PostR.pure ⟨by unfold ruleB; rw [h1, Bool.and_comm (decide _) (wordsB _), h2, h3, h4, h5]; rfl, rfl⟩ rfl
        · exact PostR.pure ⟨by unfold ruleB; rw [h1, Bool.and_comm (decide _) (wordsB _), h2, h3, h4]; rfl, rfl⟩ rfl
      · exact PostR.pure ⟨by unfold ruleB; rw [h1, Bool.and_comm (decide _) (wordsB _), h2, h3]; rfl, rfl⟩ rfl
    · exact PostR.pure ⟨by unfold ruleB; rw [h1, Bool.and_comm (decide _) (wordsB _), h2]; rfl, rfl⟩ rfl
  · exact PostR.pure ⟨by unfold ruleB; rw [h1]; rfl, rfl⟩ rfl
theorem l05Rule_call (r : Rul) (hm : r.2.1.length ≤ 1048576) : CallA Tryz.prog 49 [.rop [.int .i64 r.1, .ro (ints r.2.1), .int .i64 r.2.2.1, .int .i64 r.2.2.2.1, .int .i64 r.2.2.2.2]] [] (Ret (.bool (ruleB r)) []) := by
  have el : decide ((r.2.1.length : Int) ≤ 6) = decide (r.2.1.length ≤ 6) := decide_eq_decide.2 (by omega)
  refine CallP.out (t := .mk) (go_in (md := md49) mixed Tryz.func49 rfl go49 (by kernel_rfl) ?_)
  simp only [q0, q1, q2, q3, q4, q5, q6, q7, q8, q9, zr0, zr1, zr2, zr3, zq0, zq1, zq2, zq3, zq4, Nat.reduceAdd, Nat.reduceSub, lenA, convA, indexA, indexS, Int.reduceToNat, cond_true, cond_false, ↓reduceIte, reduceCtorEq, Nat.reduceLT, Nat.reduceLeDiff, Nat.reduceMul, Nat.reduceEqDiff, exists_eq', implies_true, exists_true_left, tys0, tys1, tys2, tys3, tys4, und0, und1, und2, und3, md49, Tryz.ntmps49, Tryz.results49]
  refine callr_ret (l05Word_call _) rfl rfl ?_
  simp only [q0, q1, q2, q3, q4, q5, q6, q7, q8, q9, zr0, zr1, zr2, zr3, zq0, zq1, zq2, zq3, zq4, Nat.reduceAdd, Nat.reduceSub, lenA, convA, indexA, indexS, Int.reduceToNat, cond_true, cond_false, ↓reduceIte, reduceCtorEq, Nat.reduceLT, Nat.reduceLeDiff, Nat.reduceMul, Nat.reduceEqDiff, exists_eq', implies_true, exists_true_left, tys0, tys1, tys2, tys3, tys4, und0, und1, und2, und3, md49, Tryz.ntmps49, Tryz.results49]
  refine br_intro (fun h1 => ?_) (fun h1 => ?_) <;> simp only [q0, q1, q2, q3, q4, q5, q6, q7, q8, q9, zr0, zr1, zr2, zr3, zq0, zq1, zq2, zq3, zq4, Nat.reduceAdd, Nat.reduceSub, lenA, convA, indexA, indexS, Int.reduceToNat, cond_true, cond_false, ↓reduceIte, reduceCtorEq, Nat.reduceLT, Nat.reduceLeDiff, Nat.reduceMul, Nat.reduceEqDiff, exists_eq', implies_true, exists_true_left, tys0, tys1, tys2, tys3, tys4, und0, und1, und2, und3, md49, Tryz.ntmps49, Tryz.results49]
  · refine br_intro (fun h2 => ?_) (fun h2 => ?_) <;> simp only [q0, q1, q2, q3, q4, q5, q6, q7, q8, q9, zr0, zr1, zr2, zr3, zq0, zq1, zq2, zq3, zq4, Nat.reduceAdd, Nat.reduceSub, lenA, convA, indexA, indexS, Int.reduceToNat, cond_true, cond_false, ↓reduceIte, reduceCtorEq, Nat.reduceLT, Nat.reduceLeDiff, Nat.reduceMul, Nat.reduceEqDiff, exists_eq', implies_true, exists_true_left, tys0, tys1, tys2, tys3, tys4, und0, und1, und2, und3, md49, Tryz.ntmps49, Tryz.results49]
    · rw [el] at h2
      refine callr_ret (l05Words_call _ hm) rfl rfl ?_
      simp only [q0, q1, q2, q3, q4, q5, q6, q7, q8, q9, zr0, zr1, zr2, zr3, zq0, zq1, zq2, zq3, zq4, Nat.reduceAdd, Nat.reduceSub, lenA, convA, indexA, indexS, Int.reduceToNat, cond_true, cond_false, ↓reduceIte, reduceCtorEq, Nat.reduceLT, Nat.reduceLeDiff, Nat.reduceMul, Nat.reduceEqDiff, exists_eq', implies_true, exists_true_left, tys0, tys1, tys2, tys3, tys4, und0, und1, und2, und3, md49, Tryz.ntmps49, Tryz.results49]
      refine br_intro (fun h3 => ?_) (fun h3 => ?_) <;> simp only [q0, q1, q2, q3, q4, q5, q6, q7, q8, q9, zr0, zr1, zr2, zr3, zq0, zq1, zq2, zq3, zq4, Nat.reduceAdd, Nat.reduceSub, lenA, convA, indexA, indexS, Int.reduceToNat, cond_true, cond_false, ↓reduceIte, reduceCtorEq, Nat.reduceLT, Nat.reduceLeDiff, Nat.reduceMul, Nat.reduceEqDiff, exists_eq', implies_true, exists_true_left, tys0, tys1, tys2, tys3, tys4, und0, und1, und2, und3, md49, Tryz.ntmps49, Tryz.results49]
      · refine callr_ret (l05Day_call _) rfl rfl ?_
        simp only [q0, q1, q2, q3, q4, q5, q6, q7, q8, q9, zr0, zr1, zr2, zr3, zq0, zq1, zq2, zq3, zq4, Nat.reduceAdd, Nat.reduceSub, lenA, convA, indexA, indexS, Int.reduceToNat, cond_true, cond_false, ↓reduceIte, reduceCtorEq, Nat.reduceLT, Nat.reduceLeDiff, Nat.reduceMul, Nat.reduceEqDiff, exists_eq', implies_true, exists_true_left, tys0, tys1, tys2, tys3, tys4, und0, und1, und2, und3, md49, Tryz.ntmps49, Tryz.results49]
        refine br_intro (fun h4 => ?_) (fun h4 => ?_) <;> simp only [q0, q1, q2, q3, q4, q5, q6, q7, q8, q9, zr0, zr1, zr2, zr3, zq0, zq1, zq2, zq3, zq4, Nat.reduceAdd, Nat.reduceSub, lenA, convA, indexA, indexS, Int.reduceToNat, cond_true, cond_false, ↓reduceIte, reduceCtorEq, Nat.reduceLT, Nat.reduceLeDiff, Nat.reduceMul, Nat.reduceEqDiff, exists_eq', implies_true, exists_true_left, tys0, tys1, tys2, tys3, tys4, und0, und1, und2, und3, md49, Tryz.ntmps49, Tryz.results49]
        · refine callr_ret (l05Day_call _) rfl rfl ?_
          simp only [q0, q1, q2, q3, q4, q5, q6, q7, q8, q9, zr0, zr1, zr2, zr3, zq0, zq1, zq2, zq3, zq4, Nat.reduceAdd, Nat.reduceSub, lenA, convA, indexA, indexS, Int.reduceToNat, cond_true, cond_false, ↓reduceIte, reduceCtorEq, Nat.reduceLT, Nat.reduceLeDiff, Nat.reduceMul, Nat.reduceEqDiff, exists_eq', implies_true, exists_true_left, tys0, tys1, tys2, tys3, tys4, und0, und1, und2, und3, md49, Tryz.ntmps49, Tryz.results49]
          refine br_intro (fun h5 => ?_) (fun h5 => ?_) <;> simp only [q0, q1, q2, q3, q4, q5, q6, q7, q8, q9, zr0, zr1, zr2, zr3, zq0, zq1, zq2, zq3, zq4, Nat.reduceAdd, Nat.reduceSub, lenA, convA, indexA, indexS, Int.reduceToNat, cond_true, cond_false, ↓reduceIte, reduceCtorEq, Nat.reduceLT, Nat.reduceLeDiff, Nat.reduceMul, Nat.reduceEqDiff, exists_eq', implies_true, exists_true_left, tys0, tys1, tys2, tys3, tys4, und0, und1, und2, und3, md49, Tryz.ntmps49, Tryz.results49]
          · refine br_intro (fun h6 => ?_) (fun h6 => ?_) <;> simp only [q0, q1, q2, q3, q4, q5, q6, q7, q8, q9, zr0, zr1, zr2, zr3, zq0, zq1, zq2, zq3, zq4, Nat.reduceAdd, Nat.reduceSub, lenA, convA, indexA, indexS, Int.reduceToNat, cond_true, cond_false, ↓reduceIte, reduceCtorEq, Nat.reduceLT, Nat.reduceLeDiff, Nat.reduceMul, Nat.reduceEqDiff, exists_eq', implies_true, exists_true_left, tys0, tys1, tys2, tys3, tys4, und0, und1, und2, und3, md49, Tryz.ntmps49, Tryz.results49]
            · refine callr_ret (l00In_call _ _ _) rfl rfl ?_
              simp only [q0, q1, q2, q3, q4, q5, q6, q7, q8, q9, zr0, zr1, zr2, zr3, zq0, zq1, zq2, zq3, zq4, Nat.reduceAdd, Nat.reduceSub, lenA, convA, indexA, indexS, Int.reduceToNat, cond_true, cond_false, ↓reduceIte, reduceCtorEq, Nat.reduceLT, Nat.reduceLeDiff, Nat.reduceMul, Nat.reduceEqDiff, exists_eq', implies_true, exists_true_left, tys0, tys1, tys2, tys3, tys4, und0, und1, und2, und3, md49, Tryz.ntmps49, Tryz.results49]
              exact PostR.pure ⟨by unfold ruleB; rw [h1, h2, h3, h4, h5, h6]; rfl, rfl⟩ rfl
            · exact PostR.pure ⟨by unfold ruleB; rw [h1, h2, h3, h4, h5, h6]; rfl, rfl⟩ rfl
          · exact PostR.pure ⟨by unfold ruleB; rw [h1, h2, h3, h4, h5]; rfl, rfl⟩ rfl
        · exact PostR.pure ⟨by unfold ruleB; rw [h1, h2, h3, h4]; rfl, rfl⟩ rfl
      · exact PostR.pure ⟨by unfold ruleB; rw [h1, h2, h3]; rfl, rfl⟩ rfl
    · rw [el] at h2
      exact PostR.pure ⟨by unfold ruleB; rw [h1, h2]; rfl, rfl⟩ rfl
  · exact PostR.pure ⟨by unfold ruleB; rw [h1]; rfl, rfl⟩ rfl
def rulesB (R : List Rul) : Bool := R.all ruleB && decide (R.length ≤ 24)
theorem areRules1_call (r : Rul) (hm : r.2.1.length ≤ 1048576) : CallA Tryz.prog 45 [rulA r] [] (Ret (.bool (!ruleB r)) []) := by
  have vr := validRule_call r hm
  unfold rulA at vr
  refine CallP.out (t := .mk) (go_in (md := md45) mixed Tryz.func45 rfl go45 (by kernel_rfl) ?_)
  simp only [q0, q1, q2, q3, q4, q5, q6, q7, q8, q9, zr0, zr1, zr2, zr3, zq0, zq1, zq2, zq3, zq4, Nat.reduceAdd, Nat.reduceSub, lenA, convA, indexA, indexS, Int.reduceToNat, cond_true, cond_false, ↓reduceIte, reduceCtorEq, Nat.reduceLT, Nat.reduceLeDiff, Nat.reduceMul, Nat.reduceEqDiff, exists_eq', implies_true, exists_true_left, tys0, tys1, tys2, tys3, tys4, und0, und1, und2, und3, md45, Tryz.ntmps45, Tryz.results45, rulA]
  refine call_ret vr rfl rfl ?_
  simp only [q0, q1, q2, q3, q4, q5, q6, q7, q8, q9, zr0, zr1, zr2, zr3, zq0, zq1, zq2, zq3, zq4, Nat.reduceAdd, Nat.reduceSub, lenA, convA, indexA, indexS, Int.reduceToNat, cond_true, cond_false, ↓reduceIte, reduceCtorEq, Nat.reduceLT, Nat.reduceLeDiff, Nat.reduceMul, Nat.reduceEqDiff, exists_eq', implies_true, exists_true_left, tys0, tys1, tys2, tys3, tys4, und0, und1, und2, und3, md45, Tryz.ntmps45, Tryz.results45]
  exact PostR.pure ⟨rfl, rfl⟩ rfl
theorem indexFuncU_call (fid : FuncId) (q : Rul → Bool) (R : List Rul) (hq : ∀ x ∈ R, CallA Tryz.prog fid [rulA x] [] (Ret (.bool (q x)) [])) (hm : R.length ≤ 9223372036854775807) :
    CallA Tryz.prog 64 [.ro (R.map rulA), .fn fid []] [] (Ret (.int .i64 (findI q R 0)) []) := by
  refine CallP.out (t := .mk) (go_in (md := md64) mixed Tryz.func64 rfl go64 (by kernel_rfl) ?_)
  simp only [q0, q1, q2, q3, q4, q5, q6, q7, q8, q9, zr0, zr1, zr2, zr3, zq0, zq1, zq2, zq3, zq4, Nat.reduceAdd, Nat.reduceSub, lenA, convA, indexA, indexS, Int.reduceToNat, cond_true, cond_false, ↓reduceIte, reduceCtorEq, Nat.reduceLT, Nat.reduceLeDiff, Nat.reduceMul, Nat.reduceEqDiff, exists_eq', implies_true, exists_true_left, tys0, tys1, tys2, tys3, tys4, und0, und1, und2, und3, md64, Tryz.ntmps64, Tryz.results64, List.length_map]
  have hb : below 0 (.fn fid []) = true := rfl
  have hb2 : ∀ l, below 0 (.ro l) = true := fun _ => rfl
  have hb3 : ∀ k n, below 0 (.int k n) = true := fun _ _ => rfl
  have hb4 : below 0 .any = true := rfl
  refine go_round (md := md64) mixed (by kernel_rfl) (fun i : {i : Nat // i ≤ R.length ∧ findI q R 0 = findI q (R.drop i) i} => ⟨[.ro (R.map rulA), .fn fid [], .any, .any, .any, .any, .any, .int .i64 R.length, .int .i64 i.1, .any, .any, .any, .any, .any, .any, .any, .any, .any, .any], []⟩) (fun i => R.length - i.1) ⟨0, by simp⟩ ?_ ?_
  · exact weak_drop (by simp) (by simp [DropHp]) (by simp [DropTm, DropV, hb, hb2, hb3, hb4])
  · intro ⟨i, hi, he⟩
    simp only [q0, q1, q2, q3, q4, q5, q6, q7, q8, q9, zr0, zr1, zr2, zr3, zq0, zq1, zq2, zq3, zq4, Nat.reduceAdd, Nat.reduceSub, lenA, convA, indexA, indexS, Int.reduceToNat, cond_true, cond_false, ↓reduceIte, reduceCtorEq, Nat.reduceLT, Nat.reduceLeDiff, Nat.reduceMul, Nat.reduceEqDiff, exists_eq', implies_true, exists_true_left, tys0, tys1, tys2, tys3, tys4, und0, und1, und2, und3, md64, Tryz.ntmps64, Tryz.results64, List.length_map, List.getElem_map]
    refine br_intro (fun h => ?_) (fun h => ?_) <;> simp only [q0, q1, q2, q3, q4, q5, q6, q7, q8, q9, zr0, zr1, zr2, zr3, zq0, zq1, zq2, zq3, zq4, Nat.reduceAdd, Nat.reduceSub, lenA, convA, indexA, indexS, Int.reduceToNat, cond_true, cond_false, ↓reduceIte, reduceCtorEq, Nat.reduceLT, Nat.reduceLeDiff, Nat.reduceMul, Nat.reduceEqDiff, exists_eq', implies_true, exists_true_left, tys0, tys1, tys2, tys3, tys4, und0, und1, und2, und3, md64, Tryz.ntmps64, Tryz.results64, List.length_map, List.getElem_map]
    · have hi' : i < R.length := by have := of_decide_eq_true h; omega
      have hI : (i : Int) < (R.length : Int) := by omega
      have hqi := hq R[i] (List.getElem_mem hi')
      rw [findI_step q R i hi'] at he
      unfold rulA at hqi
      simp only [q0, q1, q2, q3, q4, q5, q6, q7, q8, q9, zr0, zr1, zr2, zr3, zq0, zq1, zq2, zq3, zq4, Nat.reduceAdd, Nat.reduceSub, lenA, convA, indexA, indexS, Int.reduceToNat, cond_true, cond_false, ↓reduceIte, reduceCtorEq, Nat.reduceLT, Nat.reduceLeDiff, Nat.reduceMul, Nat.reduceEqDiff, exists_eq', implies_true, exists_true_left, tys0, tys1, tys2, tys3, tys4, und0, und1, und2, und3, md64, Tryz.ntmps64, Tryz.results64, List.length_map, List.getElem_map, rulA, hi', hI]
      refine call_ret hqi rfl rfl ?_
      simp only [q0, q1, q2, q3, q4, q5, q6, q7, q8, q9, zr0, zr1, zr2, zr3, zq0, zq1, zq2, zq3, zq4, Nat.reduceAdd, Nat.reduceSub, lenA, convA, indexA, indexS, Int.reduceToNat, cond_true, cond_false, ↓reduceIte, reduceCtorEq, Nat.reduceLT, Nat.reduceLeDiff, Nat.reduceMul, Nat.reduceEqDiff, exists_eq', implies_true, exists_true_left, tys0, tys1, tys2, tys3, tys4, und0, und1, und2, und3, md64, Tryz.ntmps64, Tryz.results64]
      refine br_intro (fun h2 => ?_) (fun h2 => ?_) <;> simp only [q0, q1, q2, q3, q4, q5, q6, q7, q8, q9, zr0, zr1, zr2, zr3, zq0, zq1, zq2, zq3, zq4, Nat.reduceAdd, Nat.reduceSub, lenA, convA, indexA, indexS, Int.reduceToNat, cond_true, cond_false, ↓reduceIte, reduceCtorEq, Nat.reduceLT, Nat.reduceLeDiff, Nat.reduceMul, Nat.reduceEqDiff, exists_eq', implies_true, exists_true_left, tys0, tys1, tys2, tys3, tys4, und0, und1, und2, und3, md64, Tryz.ntmps64, Tryz.results64]
      · rw [h2] at he
        exact PostR.pure ⟨by rw [he]; rfl, rfl⟩ rfl
      · rw [h2] at he
        refine ⟨⟨i + 1, by omega, he⟩, by show R.length - (i + 1) < _; omega, ?_⟩
        exact weak_drop (by simp) (by simp [DropHp]) (by simp [DropTm, DropV, hb, hb2, hb3, hb4, w64_succ i (by omega)])
    · have hi' : i = R.length := by simp at h; omega
      subst hi'
      rw [List.drop_length] at he
      exact PostR.pure ⟨by rw [he]; rfl, rfl⟩ rfl
theorem containsFuncU_call (fid : FuncId) (q : Rul → Bool) (R : List Rul) (hq : ∀ x ∈ R, CallA Tryz.prog fid [rulA x] [] (Ret (.bool (q x)) [])) (hm : R.length ≤ 9223372036854775807) :
    CallA Tryz.prog 44 [.ro (R.map rulA), .fn fid []] [] (Ret (.bool (R.any q)) []) := by
  refine CallP.out (t := .mk) (go_in (md := md44) mixed Tryz.func44 rfl go44 (by kernel_rfl) ?_)
  simp only [q0, q1, q2, q3, q4, q5, q6, q7, q8, q9, zr0, zr1, zr2, zr3, zq0, zq1, zq2, zq3, zq4, Nat.reduceAdd, Nat.reduceSub, lenA, convA, indexA, indexS, Int.reduceToNat, cond_true, cond_false, ↓reduceIte, reduceCtorEq, Nat.reduceLT, Nat.reduceLeDiff, Nat.reduceMul, Nat.reduceEqDiff, exists_eq', implies_true, exists_true_left, tys0, tys1, tys2, tys3, tys4, und0, und1, und2, und3, md44, Tryz.ntmps44, Tryz.results44]
  refine call_ret (indexFuncU_call fid q R hq hm) rfl rfl ?_
  simp only [q0, q1, q2, q3, q4, q5, q6, q7, q8, q9, zr0, zr1, zr2, zr3, zq0, zq1, zq2, zq3, zq4, Nat.reduceAdd, Nat.reduceSub, lenA, convA, indexA, indexS, Int.reduceToNat, cond_true, cond_false, ↓reduceIte, reduceCtorEq, Nat.reduceLT, Nat.reduceLeDiff, Nat.reduceMul, Nat.reduceEqDiff, exists_eq', implies_true, exists_true_left, tys0, tys1, tys2, tys3, tys4, und0, und1, und2, und3, md44, Tryz.ntmps44, Tryz.results44]
  exact PostR.pure ⟨by rw [← findI_any q R 0], rfl⟩ rfl
theorem areRules_call (R : List Rul) (hm : R.length ≤ 1048576) (hr : ∀ r ∈ R, r.2.1.length ≤ 1048576) : CallA Tryz.prog 21 [.ro (R.map rulA)] [] (Ret (.bool (rulesB R)) []) := by
  have cf := containsFuncU_call 45 (fun r => !ruleB r) R (fun r h => areRules1_call r (hr r h)) (by omega)
  refine CallP.out (t := .mk) (go_in (md := md21) mixed Tryz.func21 rfl go21 (by kernel_rfl) ?_)
  simp only [q0, q1, q2, q3, q4, q5, q6, q7, q8, q9, zr0, zr1, zr2, zr3, zq0, zq1, zq2, zq3, zq4, Nat.reduceAdd, Nat.reduceSub, lenA, convA, indexA, indexS, Int.reduceToNat, cond_true, cond_false, ↓reduceIte, reduceCtorEq, Nat.reduceLT, Nat.reduceLeDiff, Nat.reduceMul, Nat.reduceEqDiff, exists_eq', implies_true, exists_true_left, tys0, tys1, tys2, tys3, tys4, und0, und1, und2, und3, md21, Tryz.ntmps21, Tryz.results21, List.length_map]
  refine br_intro (fun h => ?_) (fun h => ?_) <;> simp only [q0, q1, q2, q3, q4, q5, q6, q7, q8, q9, zr0, zr1, zr2, zr3, zq0, zq1, zq2, zq3, zq4, Nat.reduceAdd, Nat.reduceSub, lenA, convA, indexA, indexS, Int.reduceToNat, cond_true, cond_false, ↓reduceIte, reduceCtorEq, Nat.reduceLT, Nat.reduceLeDiff, Nat.reduceMul, Nat.reduceEqDiff, exists_eq', implies_true, exists_true_left, tys0, tys1, tys2, tys3, tys4, und0, und1, und2, und3, md21, Tryz.ntmps21, Tryz.results21, List.length_map]
  · have h' := of_decide_eq_true h
    refine call_ret cf rfl rfl ?_
    simp only [q0, q1, q2, q3, q4, q5, q6, q7, q8, q9, zr0, zr1, zr2, zr3, zq0, zq1, zq2, zq3, zq4, Nat.reduceAdd, Nat.reduceSub, lenA, convA, indexA, indexS, Int.reduceToNat, cond_true, cond_false, ↓reduceIte, reduceCtorEq, Nat.reduceLT, Nat.reduceLeDiff, Nat.reduceMul, Nat.reduceEqDiff, exists_eq', implies_true, exists_true_left, tys0, tys1, tys2, tys3, tys4, und0, und1, und2, und3, md21, Tryz.ntmps21, Tryz.results21]
    exact PostR.pure ⟨by unfold rulesB; rw [decide_eq_true (show R.length ≤ 24 by omega), Bool.and_true, any_not], rfl⟩ rfl
  · have h' := of_decide_eq_false h
    exact PostR.pure ⟨by unfold rulesB; rw [decide_eq_false (show ¬ R.length ≤ 24 by omega), Bool.and_false], rfl⟩ rfl
theorem l05Rules_call (R : List Rul) (hm : R.length ≤ 1048576) (hr : ∀ r ∈ R, r.2.1.length ≤ 1048576) : CallA Tryz.prog 23 [.ro (R.map rulA)] [] (Ret (.bool (rulesB R)) []) := by
  have ap := all_pref ruleB (0, [], 0, 0, 0) R
  refine CallP.out (t := .mk) (go_in (md := md23) mixed Tryz.func23 rfl go23 (by kernel_rfl) ?_)
  simp only [q0, q1, q2, q3, q4, q5, q6, q7, q8, q9, zr0, zr1, zr2, zr3, zq0, zq1, zq2, zq3, zq4, Nat.reduceAdd, Nat.reduceSub, lenA, convA, indexA, indexS, Int.reduceToNat, cond_true, cond_false, ↓reduceIte, reduceCtorEq, Nat.reduceLT, Nat.reduceLeDiff, Nat.reduceMul, Nat.reduceEqDiff, exists_eq', implies_true, exists_true_left, tys0, tys1, tys2, tys3, tys4, und0, und1, und2, und3, md23, Tryz.ntmps23, Tryz.results23, List.length_map]
  refine go_round (md := md23) mixed (by kernel_rfl) (fun i : {i : Nat // i ≤ R.length ∧ pref (fun j => ruleB (R.getD j (0, [], 0, 0, 0))) i = true} => ⟨[.ro (R.map rulA), .any, .any, .any, .any, .int .i64 R.length, .int .i64 i.1, .any, .any, .any, .any, .any, .any, .any, .any, .any, .any, .any], []⟩) (fun i => R.length - i.1) ⟨0, by omega, rfl⟩ ?_ ?_
  · exact weak_drop (by simp) (by simp [DropHp, ints_below, flts_below]) (by simp [DropTm, DropV, below, belowM, belowL])
  rintro ⟨i, hi, hp⟩
  simp only [q0, q1, q2, q3, q4, q5, q6, q7, q8, q9, zr0, zr1, zr2, zr3, zq0, zq1, zq2, zq3, zq4, Nat.reduceAdd, Nat.reduceSub, lenA, convA, indexA, indexS, Int.reduceToNat, cond_true, cond_false, ↓reduceIte, reduceCtorEq, Nat.reduceLT, Nat.reduceLeDiff, Nat.reduceMul, Nat.reduceEqDiff, exists_eq', implies_true, exists_true_left, tys0, tys1, tys2, tys3, tys4, und0, und1, und2, und3, md23, Tryz.ntmps23, Tryz.results23, List.length_map, List.getElem_map]
  refine br_intro (fun h => ?_) (fun h => ?_) <;> simp only [q0, q1, q2, q3, q4, q5, q6, q7, q8, q9, zr0, zr1, zr2, zr3, zq0, zq1, zq2, zq3, zq4, Nat.reduceAdd, Nat.reduceSub, lenA, convA, indexA, indexS, Int.reduceToNat, cond_true, cond_false, ↓reduceIte, reduceCtorEq, Nat.reduceLT, Nat.reduceLeDiff, Nat.reduceMul, Nat.reduceEqDiff, exists_eq', implies_true, exists_true_left, tys0, tys1, tys2, tys3, tys4, und0, und1, und2, und3, md23, Tryz.ntmps23, Tryz.results23, List.length_map, List.getElem_map]
  · have hi' : i < R.length := by have := of_decide_eq_true h; omega
    have hI : (i : Int) < (R.length : Int) := by omega
    have ga := getD_at R (0, [], 0, 0, 0) i hi'
    have lr := l05Rule_call R[i] (hr _ (List.getElem_mem hi'))
    simp only [q0, q1, q2, q3, q4, q5, q6, q7, q8, q9, zr0, zr1, zr2, zr3, zq0, zq1, zq2, zq3, zq4, Nat.reduceAdd, Nat.reduceSub, lenA, convA, indexA, indexS, Int.reduceToNat, cond_true, cond_false, ↓reduceIte, reduceCtorEq, Nat.reduceLT, Nat.reduceLeDiff, Nat.reduceMul, Nat.reduceEqDiff, exists_eq', implies_true, exists_true_left, tys0, tys1, tys2, tys3, tys4, und0, und1, und2, und3, md23, Tryz.ntmps23, Tryz.results23, List.length_map, List.getElem_map, rulA, hi', hI]
    refine call_ret lr rfl rfl ?_
    simp only [q0, q1, q2, q3, q4, q5, q6, q7, q8, q9, zr0, zr1, zr2, zr3, zq0, zq1, zq2, zq3, zq4, Nat.reduceAdd, Nat.reduceSub, lenA, convA, indexA, indexS, Int.reduceToNat, cond_true, cond_false, ↓reduceIte, reduceCtorEq, Nat.reduceLT, Nat.reduceLeDiff, Nat.reduceMul, Nat.reduceEqDiff, exists_eq', implies_true, exists_true_left, tys0, tys1, tys2, tys3, tys4, und0, und1, und2, und3, md23, Tryz.ntmps23, Tryz.results23]
    refine br_intro (fun u => ?_) (fun u => ?_) <;> simp only [q0, q1, q2, q3, q4, q5, q6, q7, q8, q9, zr0, zr1, zr2, zr3, zq0, zq1, zq2, zq3, zq4, Nat.reduceAdd, Nat.reduceSub, lenA, convA, indexA, indexS, Int.reduceToNat, cond_true, cond_false, ↓reduceIte, reduceCtorEq, Nat.reduceLT, Nat.reduceLeDiff, Nat.reduceMul, Nat.reduceEqDiff, exists_eq', implies_true, exists_true_left, tys0, tys1, tys2, tys3, tys4, und0, und1, und2, und3, md23, Tryz.ntmps23, Tryz.results23]
    · refine ⟨⟨i + 1, by omega, pref_go hp (by rw [ga]; exact u)⟩, by show R.length - (i + 1) < _; omega, ?_⟩
      exact weak_drop (by simp) (by simp [DropHp, ints_below, flts_below, w64_succ i (by omega)]) (by simp [DropTm, DropV, below, belowM, belowL, w64_succ i (by omega)])
    · exact PostR.pure ⟨by unfold rulesB; rw [ap, pref_no i hi' (by rw [ga]; exact u)]; rfl, rfl⟩ rfl
  · have hi' : i = R.length := by have := of_decide_eq_false h; omega
    subst hi'
    exact PostR.pure ⟨by unfold rulesB; rw [ap, hp, Bool.true_and]; congr 1; exact decide_eq_decide.2 (by omega), rfl⟩ rfl
def byteL (l : List Int) : Prop := ∀ x ∈ l, 0 ≤ x ∧ x ≤ 255
def srcB (code : List Int) (a : Nat) (sd : Int) : Blk := { ty := 73, w := 3, els := [.agg [.ro (kint .u8 code), .int .i64 a, .int .u64 sd]] }
theorem low255 (x : Int) : 0 ≤ IntKind.i64.wrap (IntKind.u64.wrap (((BitVec.ofInt IntKind.u64.bits x &&& BitVec.ofInt IntKind.u64.bits 255).toNat : Nat) : Int)) ∧ IntKind.i64.wrap (IntKind.u64.wrap (((BitVec.ofInt IntKind.u64.bits x &&& BitVec.ofInt IntKind.u64.bits 255).toNat : Nat) : Int)) ≤ 255 := by
  have h : (BitVec.ofInt IntKind.u64.bits x &&& BitVec.ofInt IntKind.u64.bits 255).toNat ≤ 255 := by
    rw [BitVec.toNat_and]
    exact Nat.and_le_right
  generalize (BitVec.ofInt IntKind.u64.bits x &&& BitVec.ofInt IntKind.u64.bits 255).toNat = n at h ⊢
  rw [IntWalk.u64_in _ (by omega), w64 (by omega) (by omega)]
  omega
theorem u8i64 {x : Int} (h : 0 ≤ x ∧ x ≤ 255) : IntKind.i64.wrap x = x := w64 (by omega) (by omega)
theorem next_call (code : List Int) (hc : byteL code) (hl : code.length ≤ 1048576) (a : Nat) (ha : a ≤ 1000000000000) (sd : Int) :
    CallA Tryz.prog 62 [.ptr 0 0 0] [srcB code a sd] (fun r hp => ∃ n sd' : Int, (0 ≤ n ∧ n ≤ 255) ∧ r = .int .i64 n ∧ hp = [srcB code (a + 1) sd']) := by
  have e1 : IntKind.i64.wrap ((a : Int) + 1) = ((a + 1 : Nat) : Int) := w64_succ a (by omega)
  refine CallP.out (t := .mk) (go_in (md := md62) mixed Tryz.func62 rfl go62 (by kernel_rfl) ?_)
  simp only [q0, q1, q2, q3, q4, q5, q6, q7, q8, q9, zr0, zr1, zr2, zr3, zq0, zq1, zq2, zq3, zq4, Nat.reduceAdd, Nat.reduceSub, lenA, convA, indexA, indexS, Int.reduceToNat, cond_true, cond_false, ↓reduceIte, reduceCtorEq, Nat.reduceLT, Nat.reduceLeDiff, Nat.reduceMul, Nat.reduceEqDiff, exists_eq', implies_true, exists_true_left, tys0, tys1, tys2, tys3, tys4, und0, und1, und2, und3, md62, Tryz.ntmps62, Tryz.results62, srcB, kint_len]
  refine br_intro (fun h => ?_) (fun h => ?_) <;> simp only [q0, q1, q2, q3, q4, q5, q6, q7, q8, q9, zr0, zr1, zr2, zr3, zq0, zq1, zq2, zq3, zq4, Nat.reduceAdd, Nat.reduceSub, lenA, convA, indexA, indexS, Int.reduceToNat, cond_true, cond_false, ↓reduceIte, reduceCtorEq, Nat.reduceLT, Nat.reduceLeDiff, Nat.reduceMul, Nat.reduceEqDiff, exists_eq', implies_true, exists_true_left, tys0, tys1, tys2, tys3, tys4, und0, und1, und2, und3, md62, Tryz.ntmps62, Tryz.results62, srcB, kint_len, kint_get, e1]
  · have h' := of_decide_eq_true h
    have hi : a < code.length := by omega
    have b0 := hc code[a] (List.getElem_mem hi)
    refine ⟨hi, ?_⟩
    rw [u8i64 b0]
    refine br_yes (decide_eq_true (by omega)) ?_
    simp only [q0, q1, q2, q3, q4, q5, q6, q7, q8, q9, zr0, zr1, zr2, zr3, zq0, zq1, zq2, zq3, zq4, Nat.reduceAdd, Nat.reduceSub, lenA, convA, indexA, indexS, Int.reduceToNat, cond_true, cond_false, ↓reduceIte, reduceCtorEq, Nat.reduceLT, Nat.reduceLeDiff, Nat.reduceMul, Nat.reduceEqDiff, exists_eq', implies_true, exists_true_left, tys0, tys1, tys2, tys3, tys4, und0, und1, und2, und3, md62, Tryz.ntmps62, Tryz.results62, srcB]
    exact PostR.tell [0] (hp2 := [srcB code (a + 1) _]) (by decide) (by decide) (by decide) ⟨⟨rfl, rfl⟩, trivial⟩ rfl rfl ⟨code[a], _, b0, rfl, rfl⟩
  · have h' := of_decide_eq_false h
    refine br_no (decide_eq_false (by omega)) ?_
    simp only [q0, q1, q2, q3, q4, q5, q6, q7, q8, q9, zr0, zr1, zr2, zr3, zq0, zq1, zq2, zq3, zq4, Nat.reduceAdd, Nat.reduceSub, lenA, convA, indexA, indexS, Int.reduceToNat, cond_true, cond_false, ↓reduceIte, reduceCtorEq, Nat.reduceLT, Nat.reduceLeDiff, Nat.reduceMul, Nat.reduceEqDiff, exists_eq', implies_true, exists_true_left, tys0, tys1, tys2, tys3, tys4, und0, und1, und2, und3, md62, Tryz.ntmps62, Tryz.results62, srcB, Int.reduceLT, Int.reduceLE, Int.reduceNeg, Int.reduceEq, Int.reduceGT, Int.reduceGE, decide_true, decide_false, beq_self_eq_true, bne_self_eq_false, Int.reduceBEq, Int.reduceBNe, Int.reduceAdd, Int.reduceSub]
    exact PostR.tell [0] (hp2 := [srcB code (a + 1) _]) (by decide) (by decide) (by decide) ⟨⟨rfl, rfl⟩, trivial⟩ rfl rfl ⟨_, _, low255 _, rfl, rfl⟩
theorem pick_call (code : List Int) (hc : byteL code) (hl : code.length ≤ 1048576) (a : Nat) (ha : a ≤ 1000000000) (sd : Int) (m : Int) (h1 : 1 ≤ m) (h2 : m ≤ 1000000) :
    CallA Tryz.prog 42 [.ptr 0 0 0, .int .i64 m] [srcB code a sd] (fun r hp => ∃ (x : Int) (a' : Nat) (sd' : Int), (0 ≤ x ∧ x < m) ∧ a' ≤ a + 2 ∧ r = .int .i64 x ∧ hp = [srcB code a' sd']) := by
  refine CallP.out (t := .mk) (go_in (md := md42) mixed Tryz.func42 rfl go42 (by kernel_rfl) ?_)
  simp only [q0, q1, q2, q3, q4, q5, q6, q7, q8, q9, zr0, zr1, zr2, zr3, zq0, zq1, zq2, zq3, zq4, Nat.reduceAdd, Nat.reduceSub, lenA, convA, indexA, indexS, Int.reduceToNat, cond_true, cond_false, ↓reduceIte, reduceCtorEq, Nat.reduceLT, Nat.reduceLeDiff, Nat.reduceMul, Nat.reduceEqDiff, exists_eq', implies_true, exists_true_left, tys0, tys1, tys2, tys3, tys4, und0, und1, und2, und3, md42, Tryz.ntmps42, Tryz.results42]
  refine br_intro (fun h => ?_) (fun h => ?_) <;> simp only [q0, q1, q2, q3, q4, q5, q6, q7, q8, q9, zr0, zr1, zr2, zr3, zq0, zq1, zq2, zq3, zq4, Nat.reduceAdd, Nat.reduceSub, lenA, convA, indexA, indexS, Int.reduceToNat, cond_true, cond_false, ↓reduceIte, reduceCtorEq, Nat.reduceLT, Nat.reduceLeDiff, Nat.reduceMul, Nat.reduceEqDiff, exists_eq', implies_true, exists_true_left, tys0, tys1, tys2, tys3, tys4, und0, und1, und2, und3, md42, Tryz.ntmps42, Tryz.results42]
  · have h' := of_decide_eq_true h
    exact PostR.tell [0] (hp2 := [srcB code a sd]) (by decide) (by decide) (by decide) ⟨⟨rfl, rfl⟩, trivial⟩ rfl rfl ⟨0, a, sd, by omega, by omega, rfl, rfl⟩
  · have h' := of_decide_eq_false h
    refine call_by (next_call code hc hl a (by omega) sd) ?_
    rintro r hp' ⟨n, sd', hn, rfl, rfl⟩
    simp only [q0, q1, q2, q3, q4, q5, q6, q7, q8, q9, zr0, zr1, zr2, zr3, zq0, zq1, zq2, zq3, zq4, Nat.reduceAdd, Nat.reduceSub, lenA, convA, indexA, indexS, Int.reduceToNat, cond_true, cond_false, ↓reduceIte, reduceCtorEq, Nat.reduceLT, Nat.reduceLeDiff, Nat.reduceMul, Nat.reduceEqDiff, exists_eq', implies_true, exists_true_left, tys0, tys1, tys2, tys3, tys4, und0, und1, und2, und3, md42, Tryz.ntmps42, Tryz.results42]
    refine br_intro (fun g => ?_) (fun g => ?_) <;> simp only [q0, q1, q2, q3, q4, q5, q6, q7, q8, q9, zr0, zr1, zr2, zr3, zq0, zq1, zq2, zq3, zq4, Nat.reduceAdd, Nat.reduceSub, lenA, convA, indexA, indexS, Int.reduceToNat, cond_true, cond_false, ↓reduceIte, reduceCtorEq, Nat.reduceLT, Nat.reduceLeDiff, Nat.reduceMul, Nat.reduceEqDiff, exists_eq', implies_true, exists_true_left, tys0, tys1, tys2, tys3, tys4, und0, und1, und2, und3, md42, Tryz.ntmps42, Tryz.results42]
    · refine call_by (next_call code hc hl (a + 1) (by omega) sd') ?_
      rintro r hp' ⟨k, sd2, hk, rfl, rfl⟩
      have e1 : IntKind.i64.wrap (n * 256) = n * 256 := w64 (by omega) (by omega)
      have e2 : IntKind.i64.wrap (n * 256 + k) = n * 256 + k := w64 (by omega) (by omega)
      have e3 : (n * 256 + k).tmod m = (n * 256 + k) % m := Int.tmod_eq_emod_of_nonneg (by omega)
      have b1 := Int.emod_nonneg (n * 256 + k) (show m ≠ 0 by omega)
      have b2 := Int.emod_lt_of_pos (n * 256 + k) (show 0 < m by omega)
      simp only [q0, q1, q2, q3, q4, q5, q6, q7, q8, q9, zr0, zr1, zr2, zr3, zq0, zq1, zq2, zq3, zq4, Nat.reduceAdd, Nat.reduceSub, lenA, convA, indexA, indexS, Int.reduceToNat, cond_true, cond_false, ↓reduceIte, reduceCtorEq, Nat.reduceLT, Nat.reduceLeDiff, Nat.reduceMul, Nat.reduceEqDiff, exists_eq', implies_true, exists_true_left, tys0, tys1, tys2, tys3, tys4, und0, und1, und2, und3, md42, Tryz.ntmps42, Tryz.results42, e1, e2, e3]
      exact ⟨by omega, PostR.tell [0] (hp2 := [srcB code (a + 1 + 1) sd2]) (by decide) (by decide) (by decide) ⟨⟨rfl, rfl⟩, trivial⟩ rfl rfl ⟨_, a + 1 + 1, sd2, ⟨b1, b2⟩, by omega, rfl, rfl⟩⟩
    · have e3 : n.tmod m = n % m := Int.tmod_eq_emod_of_nonneg (by omega)
      have b1 := Int.emod_nonneg n (show m ≠ 0 by omega)
      have b2 := Int.emod_lt_of_pos n (show 0 < m by omega)
      refine ⟨by omega, ?_⟩
      rw [e3]
      exact PostR.tell [0] (hp2 := [srcB code (a + 1) sd']) (by decide) (by decide) (by decide) ⟨⟨rfl, rfl⟩, trivial⟩ rfl rfl ⟨_, a + 1, sd', ⟨b1, b2⟩, by omega, rfl, rfl⟩
theorem one_call (code : List Int) (hc : byteL code) (hl : code.length ≤ 1048576) (a : Nat) (ha : a ≤ 1000000000) (sd : Int) (m : Int) (h1 : 1 ≤ m) (h2 : m ≤ 1000000) :
    CallA Tryz.prog 81 [.ptr 0 0 0, .int .i64 m] [srcB code a sd] (fun r hp => ∃ (x : Bool) (a' : Nat) (sd' : Int), a' ≤ a + 2 ∧ r = .bool x ∧ hp = [srcB code a' sd']) := by
  refine CallP.out (t := .mk) (go_in (md := md81) mixed Tryz.func81 rfl go81 (by kernel_rfl) ?_)
  simp only [q0, q1, q2, q3, q4, q5, q6, q7, q8, q9, zr0, zr1, zr2, zr3, zq0, zq1, zq2, zq3, zq4, Nat.reduceAdd, Nat.reduceSub, lenA, convA, indexA, indexS, Int.reduceToNat, cond_true, cond_false, ↓reduceIte, reduceCtorEq, Nat.reduceLT, Nat.reduceLeDiff, Nat.reduceMul, Nat.reduceEqDiff, exists_eq', implies_true, exists_true_left, tys0, tys1, tys2, tys3, tys4, und0, und1, und2, und3, md81, Tryz.ntmps81, Tryz.results81]
  refine call_by (pick_call code hc hl a ha sd m h1 h2) ?_
  rintro r hp' ⟨x, a', sd', hx, ha', rfl, rfl⟩
  simp only [q0, q1, q2, q3, q4, q5, q6, q7, q8, q9, zr0, zr1, zr2, zr3, zq0, zq1, zq2, zq3, zq4, Nat.reduceAdd, Nat.reduceSub, lenA, convA, indexA, indexS, Int.reduceToNat, cond_true, cond_false, ↓reduceIte, reduceCtorEq, Nat.reduceLT, Nat.reduceLeDiff, Nat.reduceMul, Nat.reduceEqDiff, exists_eq', implies_true, exists_true_left, tys0, tys1, tys2, tys3, tys4, und0, und1, und2, und3, md81, Tryz.ntmps81, Tryz.results81]
  exact PostR.tell [0] (hp2 := [srcB code a' sd']) (by decide) (by decide) (by decide) ⟨⟨rfl, rfl⟩, trivial⟩ rfl rfl ⟨_, a', sd', ha', rfl, rfl⟩
theorem l00From_call (code : List Int) : CallA Tryz.prog 19 [.ro (kint .u8 code)] [] (Ret (.ptr 0 0 0) [srcB code 0 0]) := by
  refine CallP.out (t := .mk) (go_in (md := md19) mixed Tryz.func19 rfl go19 (by kernel_rfl) ?_)
  simp only [q0, q1, q2, q3, q4, q5, q6, q7, q8, q9, zr0, zr1, zr2, zr3, zq0, zq1, zq2, zq3, zq4, Nat.reduceAdd, Nat.reduceSub, lenA, convA, indexA, indexS, Int.reduceToNat, cond_true, cond_false, ↓reduceIte, reduceCtorEq, Nat.reduceLT, Nat.reduceLeDiff, Nat.reduceMul, Nat.reduceEqDiff, exists_eq', implies_true, exists_true_left, tys0, tys1, tys2, tys3, tys4, und0, und1, und2, und3, md19, Tryz.ntmps19, Tryz.results19]
  exact PostR.tell [0] (hp2 := [srcB code 0 0]) (by decide) (by decide) (by decide) ⟨⟨rfl, rfl⟩, trivial⟩ rfl rfl ⟨rfl, rfl⟩
theorem srcB_below (N : Nat) (code : List Int) (a : Nat) (sd : Int) : allBelow N (srcB code a sd).els = true := rfl
theorem srcB_kill (code : List Int) (a : Nat) (sd : Int) (b : Nat) : ({ ty := (srcB code a sd).ty, w := (srcB code a sd).w, els := List.map (kill b) (srcB code a sd).els, live := (srcB code a sd).live } : Blk) = srcB code a sd := rfl
theorem pick_at {code : List Int} (hc : byteL code) (hl : code.length ≤ 1048576) {a : Nat} (ha : a ≤ 1000000000) {sd : Int} {m : Int} (h1 : 1 ≤ m) (h2 : m ≤ 1000000) {rest : List Blk} {Q : AV → List Blk → Prop} {t : Tok Q}
    (hQ : ∀ (x : Int) (a' : Nat) (sd' : Int), (0 ≤ x ∧ x < m) → a' ≤ a + 2 → Q (.int .i64 x) (srcB code a' sd' :: rest)) : CallP Tryz.prog 42 [.ptr 0 0 0, .int .i64 m] (srcB code a sd :: rest) Q t := by
  refine call_handedQ [0] (pick_call code hc hl a ha sd m h1 h2) (by decide) ⟨⟨rfl, rfl⟩, trivial⟩ rfl rfl ?_
  rintro r hps' ⟨x, a', sd', hx, ha', rfl, rfl⟩
  refine ⟨by intro q hq; simp at hq; subst hq; rfl, ?_⟩
  have := hQ x a' sd' hx ha'
  simpa [putF, ren, renM, renL] using this
theorem b10Long_call (l m : List Int) : CallA Tryz.prog 4 [.ro (kint .u8 l), .ro (kint .u8 m)] [] (Ret (.bool (decide (1048576 < (l.length : Int)) || decide (1048576 < (m.length : Int)))) []) := by
  refine CallP.out (t := .mk) (go_in (md := md4) mixed Tryz.func4 rfl go4 (by kernel_rfl) ?_)
  simp only [q0, q1, q2, q3, q4, q5, q6, q7, q8, q9, zr0, zr1, zr2, zr3, zq0, zq1, zq2, zq3, zq4, Nat.reduceAdd, Nat.reduceSub, lenA, convA, indexA, indexS, Int.reduceToNat, cond_true, cond_false, ↓reduceIte, reduceCtorEq, Nat.reduceLT, Nat.reduceLeDiff, Nat.reduceMul, Nat.reduceEqDiff, exists_eq', implies_true, exists_true_left, tys0, tys1, tys2, tys3, tys4, und0, und1, und2, und3, md4, Tryz.ntmps4, Tryz.results4, kint_len]
  refine br_intro (fun h => ?_) (fun h => ?_) <;> simp only [q0, q1, q2, q3, q4, q5, q6, q7, q8, q9, zr0, zr1, zr2, zr3, zq0, zq1, zq2, zq3, zq4, Nat.reduceAdd, Nat.reduceSub, lenA, convA, indexA, indexS, Int.reduceToNat, cond_true, cond_false, ↓reduceIte, reduceCtorEq, Nat.reduceLT, Nat.reduceLeDiff, Nat.reduceMul, Nat.reduceEqDiff, exists_eq', implies_true, exists_true_left, tys0, tys1, tys2, tys3, tys4, und0, und1, und2, und3, md4, Tryz.ntmps4, Tryz.results4, kint_len]
  · exact PostR.pure ⟨by rw [h]; rfl, rfl⟩ rfl
  · exact PostR.pure ⟨by rw [h]; rfl, rfl⟩ rfl
theorem b10At_call (l : List Int) (hc : byteL l) (hl : l.length ≤ 1048576) (k n : Int) (hk : 0 ≤ k) (hk2 : k ≤ 1000) (n1 : 1 ≤ n) (n2 : n ≤ 1000) : ∃ x : Int, CallA Tryz.prog 10 [.ro (kint .u8 l), .int .i64 k, .int .i64 n] [] (Ret (.int .i64 x) []) ∧ 0 ≤ x ∧ x < n := by
  by_cases h1 : n ≤ 1
  · refine ⟨0, ?_, by omega, by omega⟩
    refine CallP.out (t := .mk) (go_in (md := md10) mixed Tryz.func10 rfl go10 (by kernel_rfl) ?_)
    simp only [q0, q1, q2, q3, q4, q5, q6, q7, q8, q9, zr0, zr1, zr2, zr3, zq0, zq1, zq2, zq3, zq4, Nat.reduceAdd, Nat.reduceSub, lenA, convA, indexA, indexS, Int.reduceToNat, cond_true, cond_false, ↓reduceIte, reduceCtorEq, Nat.reduceLT, Nat.reduceLeDiff, Nat.reduceMul, Nat.reduceEqDiff, exists_eq', implies_true, exists_true_left, tys0, tys1, tys2, tys3, tys4, und0, und1, und2, und3, md10, Tryz.ntmps10, Tryz.results10, kint_len]
    refine br_yes (by first | exact decide_eq_true (by omega) | (simp only [bne_iff_ne, beq_iff_eq, ne_eq]; omega)) ?_; simp only [q0, q1, q2, q3, q4, q5, q6, q7, q8, q9, zr0, zr1, zr2, zr3, zq0, zq1, zq2, zq3, zq4, Nat.reduceAdd, Nat.reduceSub, lenA, convA, indexA, indexS, Int.reduceToNat, cond_true, cond_false, ↓reduceIte, reduceCtorEq, Nat.reduceLT, Nat.reduceLeDiff, Nat.reduceMul, Nat.reduceEqDiff, exists_eq', implies_true, exists_true_left, tys0, tys1, tys2, tys3, tys4, und0, und1, und2, und3, md10, Tryz.ntmps10, Tryz.results10, kint_len]
    exact PostR.pure ⟨rfl, rfl⟩ rfl
  · by_cases h2 : k < (l.length : Int)
    · have hi : k.toNat < l.length := by omega
      have b := hc _ (List.getElem_mem hi)
      have m1 := Int.emod_nonneg (l[k.toNat]) (show n ≠ 0 by omega)
      have m2 := Int.emod_lt_of_pos (l[k.toNat]) (show 0 < n by omega)
      have e1 : IntKind.i64.wrap (l[k.toNat]) = l[k.toNat] := w64 (by omega) (by omega)
      have e2 : (l[k.toNat]).tmod n = l[k.toNat] % n := Int.tmod_eq_emod_of_nonneg b.1
      refine ⟨l[k.toNat] % n, ?_, m1, m2⟩
      refine CallP.out (t := .mk) (go_in (md := md10) mixed Tryz.func10 rfl go10 (by kernel_rfl) ?_)
      simp only [q0, q1, q2, q3, q4, q5, q6, q7, q8, q9, zr0, zr1, zr2, zr3, zq0, zq1, zq2, zq3, zq4, Nat.reduceAdd, Nat.reduceSub, lenA, convA, indexA, indexS, Int.reduceToNat, cond_true, cond_false, ↓reduceIte, reduceCtorEq, Nat.reduceLT, Nat.reduceLeDiff, Nat.reduceMul, Nat.reduceEqDiff, exists_eq', implies_true, exists_true_left, tys0, tys1, tys2, tys3, tys4, und0, und1, und2, und3, md10, Tryz.ntmps10, Tryz.results10, kint_len]
      refine br_no (by first | exact decide_eq_false (by omega) | exact beq_false_of_ne (by omega) | (simp only [bne_eq_false_iff_eq, beq_eq_false_iff_ne, ne_eq]; omega)) ?_; simp only [q0, q1, q2, q3, q4, q5, q6, q7, q8, q9, zr0, zr1, zr2, zr3, zq0, zq1, zq2, zq3, zq4, Nat.reduceAdd, Nat.reduceSub, lenA, convA, indexA, indexS, Int.reduceToNat, cond_true, cond_false, ↓reduceIte, reduceCtorEq, Nat.reduceLT, Nat.reduceLeDiff, Nat.reduceMul, Nat.reduceEqDiff, exists_eq', implies_true, exists_true_left, tys0, tys1, tys2, tys3, tys4, und0, und1, und2, und3, md10, Tryz.ntmps10, Tryz.results10, kint_len]
      refine br_yes (by first | exact decide_eq_true (by omega) | (simp only [bne_iff_ne, beq_iff_eq, ne_eq]; omega)) ?_; simp only [q0, q1, q2, q3, q4, q5, q6, q7, q8, q9, zr0, zr1, zr2, zr3, zq0, zq1, zq2, zq3, zq4, Nat.reduceAdd, Nat.reduceSub, lenA, convA, indexA, indexS, Int.reduceToNat, cond_true, cond_false, ↓reduceIte, reduceCtorEq, Nat.reduceLT, Nat.reduceLeDiff, Nat.reduceMul, Nat.reduceEqDiff, exists_eq', implies_true, exists_true_left, tys0, tys1, tys2, tys3, tys4, und0, und1, und2, und3, md10, Tryz.ntmps10, Tryz.results10, kint_len, kint_get]
      refine ⟨hk, hi, ?_⟩
      simp only [q0, q1, q2, q3, q4, q5, q6, q7, q8, q9, zr0, zr1, zr2, zr3, zq0, zq1, zq2, zq3, zq4, Nat.reduceAdd, Nat.reduceSub, lenA, convA, indexA, indexS, Int.reduceToNat, cond_true, cond_false, ↓reduceIte, reduceCtorEq, Nat.reduceLT, Nat.reduceLeDiff, Nat.reduceMul, Nat.reduceEqDiff, exists_eq', implies_true, exists_true_left, tys0, tys1, tys2, tys3, tys4, und0, und1, und2, und3, md10, Tryz.ntmps10, Tryz.results10, kint_len, kint_get, e1, e2]
      refine ⟨by omega, ?_⟩
      exact PostR.pure ⟨rfl, rfl⟩ rfl
    · have m1 := Int.emod_nonneg (k * 37 + 11) (show n ≠ 0 by omega)
      have m2 := Int.emod_lt_of_pos (k * 37 + 11) (show 0 < n by omega)
      have e1 : IntKind.i64.wrap (k * 37) = k * 37 := w64 (by omega) (by omega)
      have e2 : IntKind.i64.wrap (k * 37 + 11) = k * 37 + 11 := w64 (by omega) (by omega)
      have e3 : (k * 37 + 11).tmod n = (k * 37 + 11) % n := Int.tmod_eq_emod_of_nonneg (by omega)
      refine ⟨(k * 37 + 11) % n, ?_, m1, m2⟩
      refine CallP.out (t := .mk) (go_in (md := md10) mixed Tryz.func10 rfl go10 (by kernel_rfl) ?_)
      simp only [q0, q1, q2, q3, q4, q5, q6, q7, q8, q9, zr0, zr1, zr2, zr3, zq0, zq1, zq2, zq3, zq4, Nat.reduceAdd, Nat.reduceSub, lenA, convA, indexA, indexS, Int.reduceToNat, cond_true, cond_false, ↓reduceIte, reduceCtorEq, Nat.reduceLT, Nat.reduceLeDiff, Nat.reduceMul, Nat.reduceEqDiff, exists_eq', implies_true, exists_true_left, tys0, tys1, tys2, tys3, tys4, und0, und1, und2, und3, md10, Tryz.ntmps10, Tryz.results10, kint_len]
      refine br_no (by first | exact decide_eq_false (by omega) | exact beq_false_of_ne (by omega) | (simp only [bne_eq_false_iff_eq, beq_eq_false_iff_ne, ne_eq]; omega)) ?_; simp only [q0, q1, q2, q3, q4, q5, q6, q7, q8, q9, zr0, zr1, zr2, zr3, zq0, zq1, zq2, zq3, zq4, Nat.reduceAdd, Nat.reduceSub, lenA, convA, indexA, indexS, Int.reduceToNat, cond_true, cond_false, ↓reduceIte, reduceCtorEq, Nat.reduceLT, Nat.reduceLeDiff, Nat.reduceMul, Nat.reduceEqDiff, exists_eq', implies_true, exists_true_left, tys0, tys1, tys2, tys3, tys4, und0, und1, und2, und3, md10, Tryz.ntmps10, Tryz.results10, kint_len]
      refine br_no (by first | exact decide_eq_false (by omega) | exact beq_false_of_ne (by omega) | (simp only [bne_eq_false_iff_eq, beq_eq_false_iff_ne, ne_eq]; omega)) ?_; simp only [q0, q1, q2, q3, q4, q5, q6, q7, q8, q9, zr0, zr1, zr2, zr3, zq0, zq1, zq2, zq3, zq4, Nat.reduceAdd, Nat.reduceSub, lenA, convA, indexA, indexS, Int.reduceToNat, cond_true, cond_false, ↓reduceIte, reduceCtorEq, Nat.reduceLT, Nat.reduceLeDiff, Nat.reduceMul, Nat.reduceEqDiff, exists_eq', implies_true, exists_true_left, tys0, tys1, tys2, tys3, tys4, und0, und1, und2, und3, md10, Tryz.ntmps10, Tryz.results10, kint_len, e1, e2, e3]
      refine ⟨by omega, ?_⟩
      exact PostR.pure ⟨rfl, rfl⟩ rfl
theorem drawWord_call (code : List Int) (hc : byteL code) (hl : code.length ≤ 1048576) (a : Nat) (ha : a ≤ 1000000) (sd : Int) :
    CallA Tryz.prog 63 [.ptr 0 0 0] [srcB code a sd] (fun r hp => ∃ (x : Int) (a' : Nat) (sd' : Int), (wordB x = true ∧ -6 ≤ x ∧ x ≤ 6) ∧ a' ≤ a + 4 ∧ r = .int .i64 x ∧ hp = [srcB code a' sd']) := by
  refine CallP.out (t := .mk) (go_in (md := md63) mixed Tryz.func63 rfl go63 (by kernel_rfl) ?_)
  simp only [q0, q1, q2, q3, q4, q5, q6, q7, q8, q9, zr0, zr1, zr2, zr3, zq0, zq1, zq2, zq3, zq4, Nat.reduceAdd, Nat.reduceSub, lenA, convA, indexA, indexS, Int.reduceToNat, cond_true, cond_false, ↓reduceIte, reduceCtorEq, Nat.reduceLT, Nat.reduceLeDiff, Nat.reduceMul, Nat.reduceEqDiff, exists_eq', implies_true, exists_true_left, tys0, tys1, tys2, tys3, tys4, und0, und1, und2, und3, md63, Tryz.ntmps63, Tryz.results63]
  refine call_by (pick_call code hc hl a (by omega) sd 6 (by omega) (by omega)) ?_
  rintro r hp' ⟨x, a', sd', hx, ha', rfl, rfl⟩
  have w1 : IntKind.i64.wrap (1 + x) = 1 + x := w64 (by omega) (by omega)
  have w2 : IntKind.i64.wrap (0 - (1 + x)) = -(1 + x) := by rw [w64 (by omega) (by omega)]; omega
  simp only [q0, q1, q2, q3, q4, q5, q6, q7, q8, q9, zr0, zr1, zr2, zr3, zq0, zq1, zq2, zq3, zq4, Nat.reduceAdd, Nat.reduceSub, lenA, convA, indexA, indexS, Int.reduceToNat, cond_true, cond_false, ↓reduceIte, reduceCtorEq, Nat.reduceLT, Nat.reduceLeDiff, Nat.reduceMul, Nat.reduceEqDiff, exists_eq', implies_true, exists_true_left, tys0, tys1, tys2, tys3, tys4, und0, und1, und2, und3, md63, Tryz.ntmps63, Tryz.results63, w1]
  refine call_by (one_call code hc hl a' (by omega) sd' 2 (by omega) (by omega)) ?_
  rintro r hp' ⟨b, a2, sd2, ha2, rfl, rfl⟩
  have wb : wordB (1 + x) = true ∧ wordB (-(1 + x)) = true := by
    unfold wordB
    simp only [Bool.and_eq_true, bne_iff_ne, ne_eq]
    exact ⟨⟨by omega, inR_yes (by omega) (by omega)⟩, ⟨by omega, inR_yes (by omega) (by omega)⟩⟩
  simp only [q0, q1, q2, q3, q4, q5, q6, q7, q8, q9, zr0, zr1, zr2, zr3, zq0, zq1, zq2, zq3, zq4, Nat.reduceAdd, Nat.reduceSub, lenA, convA, indexA, indexS, Int.reduceToNat, cond_true, cond_false, ↓reduceIte, reduceCtorEq, Nat.reduceLT, Nat.reduceLeDiff, Nat.reduceMul, Nat.reduceEqDiff, exists_eq', implies_true, exists_true_left, tys0, tys1, tys2, tys3, tys4, und0, und1, und2, und3, md63, Tryz.ntmps63, Tryz.results63, w1]
  refine br_intro (fun h => ?_) (fun h => ?_) <;> simp only [q0, q1, q2, q3, q4, q5, q6, q7, q8, q9, zr0, zr1, zr2, zr3, zq0, zq1, zq2, zq3, zq4, Nat.reduceAdd, Nat.reduceSub, lenA, convA, indexA, indexS, Int.reduceToNat, cond_true, cond_false, ↓reduceIte, reduceCtorEq, Nat.reduceLT, Nat.reduceLeDiff, Nat.reduceMul, Nat.reduceEqDiff, exists_eq', implies_true, exists_true_left, tys0, tys1, tys2, tys3, tys4, und0, und1, und2, und3, md63, Tryz.ntmps63, Tryz.results63, w1, w2]
  · exact PostR.tell [0] (hp2 := [srcB code a2 sd2]) (by decide) (by decide) (by decide) ⟨⟨rfl, rfl⟩, trivial⟩ rfl rfl ⟨_, a2, sd2, ⟨wb.2, by omega, by omega⟩, by omega, rfl, rfl⟩
  · exact PostR.tell [0] (hp2 := [srcB code a2 sd2]) (by decide) (by decide) (by decide) ⟨⟨rfl, rfl⟩, trivial⟩ rfl rfl ⟨_, a2, sd2, ⟨wb.1, by omega, by omega⟩, by omega, rfl, rfl⟩
structure WdOk (xs : List Int) (t : Int) : Prop where
  len : xs.length ≤ 3
  ok : wordsB xs = true
  low : ∀ x ∈ xs, 1 ≤ atomF x ∧ atomF x < t
theorem WdOk.mono {xs : List Int} {t u : Int} (h : WdOk xs t) (hu : t ≤ u) : WdOk xs u := ⟨h.len, h.ok, fun x hx => by have := h.low x hx; omega⟩
theorem wdOk_nil : WdOk [] 1 := ⟨by simp, rfl, by simp⟩
theorem WdOk.skip {xs : List Int} {t : Int} (h : WdOk xs t) : WdOk xs (t + 1) := ⟨h.len, h.ok, fun x hx => by have := h.low x hx; omega⟩
theorem WdOk.next {xs : List Int} {t x : Int} (h : WdOk xs t) (hl : xs.length < 3) (h1 : 1 ≤ t) (h2 : t ≤ 6) (hx : x = t ∨ x = -t) : WdOk (xs ++ [x]) (t + 1) := by
  have ax : atomF x = t := by unfold atomF; rcases hx with rfl | rfl <;> split <;> omega
  refine ⟨by simp; omega, ?_, fun y hy => ?_⟩
  · unfold wordsB
    rw [List.length_append]
    show pref _ (xs.length + 1) = true
    have g0 : (xs ++ [x]).getD xs.length 0 = x := by simp [List.getD_eq_getElem?_getD]
    refine pref_go ?_ ?_
    · have := h.ok
      unfold wordsB pref at this
      unfold pref
      rw [List.all_eq_true] at this ⊢
      intro j hj
      have hj' : j < xs.length := by simpa using hj
      have e : ∀ i, i < xs.length → (xs ++ [x]).getD i 0 = xs.getD i 0 := fun i hi => by simp [List.getD_eq_getElem?_getD, List.getElem?_append_left hi]
      have := this j hj
      unfold wordP at this ⊢
      rw [e j hj', e (j - 1) (by omega)]
      exact this
    · unfold wordP
      rw [g0, ax]
      have wb : wordB x = true := by
        unfold wordB
        simp only [Bool.and_eq_true, bne_iff_ne, ne_eq]
        exact ⟨by omega, inR_yes (by omega) (by omega)⟩
      rw [wb, Bool.true_and, Bool.or_eq_true]
      cases hn : xs.length with
      | zero => exact .inl rfl
      | succ k =>
        right
        have e : (xs ++ [x]).getD k 0 = xs[k]'(by omega) := by simp [List.getD_eq_getElem?_getD, List.getElem?_append_left (show k < xs.length by omega), List.getElem?_eq_getElem (show k < xs.length by omega)]
        rw [show k + 1 - 1 = k by omega, e]
        exact decide_eq_true (h.low _ (List.getElem_mem _)).2
  · rcases List.mem_append.1 hy with hy | hy
    · have := h.low y hy; omega
    · rw [List.mem_singleton.1 hy, ax]; omega
theorem drawFacts0_call (code : List Int) (hc : byteL code) (hl : code.length ≤ 1048576) (a : Nat) (ha : a ≤ 1000000) (sd : Int) :
    CallA Tryz.prog 25 [.ptr 0 0 0, .int .i64 3] [srcB code a sd] (fun r hp => ∃ (xs : List Int) (a' : Nat) (sd' : Int), WdOk xs 7 ∧ a' ≤ a + 12 ∧ r = .sl 1 0 xs.length ∧ hp = [srcB code a' sd', intB xs]) := by
  refine CallP.out (t := .mk) (go_in (md := md25) mixed Tryz.func25 rfl go25 (by kernel_rfl) ?_)
  simp only [q0, q1, q2, q3, q4, q5, q6, q7, q8, q9, zr0, zr1, zr2, zr3, zq0, zq1, zq2, zq3, zq4, Nat.reduceAdd, Nat.reduceSub, lenA, convA, indexA, indexS, Int.reduceToNat, cond_true, cond_false, ↓reduceIte, reduceCtorEq, Nat.reduceLT, Nat.reduceLeDiff, Nat.reduceMul, Nat.reduceEqDiff, exists_eq', implies_true, exists_true_left, tys0, tys1, tys2, tys3, tys4, und0, und1, und2, und3, md25, Tryz.ntmps25, Tryz.results25]
  refine go_round (md := md25) mixed (by kernel_rfl) (fun p : {p : List Int × Nat × Nat × Int // WdOk p.1 ((p.2.1 : Nat) : Int) ∧ 1 ≤ p.2.1 ∧ p.2.1 ≤ 7 ∧ p.2.2.1 + 2 ≤ a + 2 * p.2.1} => ⟨[.ptr 0 0 0, .int .i64 3, .any, .any, .any, .sl 1 0 p.1.1.length, .int .i64 ((p.1.2.1 : Nat) : Int), .any, .any, .any, .any, .any, .any, .any, .any, .any, .any, .any, .any, .any, .any, .any, .any, .any, .any, .any, .any, .any, .any, .any, .any, .any, .any, .any], [srcB code p.1.2.2.1 p.1.2.2.2, intB p.1.1]⟩) (fun p => 7 - p.1.2.1) ⟨([], 1, a, sd), wdOk_nil, by show 1 ≤ 1; omega, by show 1 ≤ 7; omega, by show a + 2 ≤ a + 2 * 1; omega⟩ ?_ ?_
  · exact weak_drop (by simp) (by simp [DropHp, ints_below, flts_below, srcB_below, intB, ints, allBelow_cons, allBelow_nil, below, belowM, belowL]) (by simp [DropTm, DropV, below, belowM, belowL, srcB_below, intB, ints, allBelow_cons, allBelow_nil, below, belowM, belowL])
  rintro ⟨⟨xs, t, a', sd'⟩, W, t1, t7, ha'⟩
  dsimp only at W t1 t7 ha' ⊢
  have fin : ∀ v, PostR 1 (.sl 1 0 xs.length) [srcB code a' sd', { ty := 2, w := 1, els := ints xs }] (fun r hp => ∃ (xs : List Int) (a' : Nat) (sd' : Int), WdOk xs 7 ∧ a' ≤ a + 12 ∧ r = .sl 1 0 xs.length ∧ hp = [srcB code a' sd', intB xs]) := fun v : Unit =>
    PostR.same ⟨xs, a', sd', W.mono (by omega), by omega, rfl, rfl⟩
  simp only [q0, q1, q2, q3, q4, q5, q6, q7, q8, q9, zr0, zr1, zr2, zr3, zq0, zq1, zq2, zq3, zq4, Nat.reduceAdd, Nat.reduceSub, lenA, convA, indexA, indexS, Int.reduceToNat, cond_true, cond_false, ↓reduceIte, reduceCtorEq, Nat.reduceLT, Nat.reduceLeDiff, Nat.reduceMul, Nat.reduceEqDiff, exists_eq', implies_true, exists_true_left, tys0, tys1, tys2, tys3, tys4, und0, und1, und2, und3, md25, Tryz.ntmps25, Tryz.results25, intB, ints_len]
  refine br_intro (fun g => ?_) (fun g => ?_) <;> simp only [q0, q1, q2, q3, q4, q5, q6, q7, q8, q9, zr0, zr1, zr2, zr3, zq0, zq1, zq2, zq3, zq4, Nat.reduceAdd, Nat.reduceSub, lenA, convA, indexA, indexS, Int.reduceToNat, cond_true, cond_false, ↓reduceIte, reduceCtorEq, Nat.reduceLT, Nat.reduceLeDiff, Nat.reduceMul, Nat.reduceEqDiff, exists_eq', implies_true, exists_true_left, tys0, tys1, tys2, tys3, tys4, und0, und1, und2, und3, md25, Tryz.ntmps25, Tryz.results25, intB, ints_len]
  · have g : t ≤ 6 := by have := of_decide_eq_true g; omega
    refine br_intro (fun g2 => ?_) (fun g2 => ?_) <;> simp only [q0, q1, q2, q3, q4, q5, q6, q7, q8, q9, zr0, zr1, zr2, zr3, zq0, zq1, zq2, zq3, zq4, Nat.reduceAdd, Nat.reduceSub, lenA, convA, indexA, indexS, Int.reduceToNat, cond_true, cond_false, ↓reduceIte, reduceCtorEq, Nat.reduceLT, Nat.reduceLeDiff, Nat.reduceMul, Nat.reduceEqDiff, exists_eq', implies_true, exists_true_left, tys0, tys1, tys2, tys3, tys4, und0, und1, und2, und3, md25, Tryz.ntmps25, Tryz.results25, intB, ints_len]
    · have g2 : xs.length < 3 := by have := of_decide_eq_true g2; omega
      refine pick_at hc hl (by omega) (by omega) (by omega) (fun x a2 sd2 hx ha2 => ?_)
      have w1 : IntKind.i64.wrap ((t : Int) + 1) = ((t + 1 : Nat) : Int) := by rw [w64 (by omega) (by omega)]; omega
      have w2 : IntKind.i64.wrap (0 - (t : Int)) = -(t : Int) := by rw [w64 (by omega) (by omega)]; omega
      have go : ∀ y : Int, (y = (t : Int) ∨ y = -(t : Int)) → WdOk (xs ++ [y]) ((t + 1 : Nat) : Int) := fun y hy => W.next g2 (by omega) (by omega) hy
      simp only [q0, q1, q2, q3, q4, q5, q6, q7, q8, q9, zr0, zr1, zr2, zr3, zq0, zq1, zq2, zq3, zq4, Nat.reduceAdd, Nat.reduceSub, lenA, convA, indexA, indexS, Int.reduceToNat, cond_true, cond_false, ↓reduceIte, reduceCtorEq, Nat.reduceLT, Nat.reduceLeDiff, Nat.reduceMul, Nat.reduceEqDiff, exists_eq', implies_true, exists_true_left, tys0, tys1, tys2, tys3, tys4, und0, und1, und2, und3, md25, Tryz.ntmps25, Tryz.results25, intB, ints_len]
      refine br_intro (fun g3 => ?_) (fun g3 => ?_) <;> simp only [q0, q1, q2, q3, q4, q5, q6, q7, q8, q9, zr0, zr1, zr2, zr3, zq0, zq1, zq2, zq3, zq4, Nat.reduceAdd, Nat.reduceSub, lenA, convA, indexA, indexS, Int.reduceToNat, cond_true, cond_false, ↓reduceIte, reduceCtorEq, Nat.reduceLT, Nat.reduceLeDiff, Nat.reduceMul, Nat.reduceEqDiff, exists_eq', implies_true, exists_true_left, tys0, tys1, tys2, tys3, tys4, und0, und1, und2, und3, md25, Tryz.ntmps25, Tryz.results25, intB, ints_len, allW_int, fits, List.isEmpty_cons, brk_false, Nat.reduceMul, srcB_kill]
      · refine ⟨by omega, ⟨(xs ++ [(t : Int)], t + 1, a2, sd2), go _ (.inl rfl), by show 1 ≤ t + 1; omega, by show t + 1 ≤ 7; omega, by show a2 + 2 ≤ a + 2 * (t + 1); omega⟩, by show 7 - (t + 1) < 7 - t; omega, ?_⟩
        rw [w1]
        show Weak 1 _ ⟨_, _⟩
        rw [show xs.length + 1 = (xs ++ [(t : Int)]).length by simp]
        dsimp only
        generalize xs ++ [(t : Int)] = ys
        exact weak_drop (by simp) (by simp [DropHp, ints_below, flts_below, srcB_below, intB, allBelow_cons, allBelow_nil, below, belowM, belowL]) (by simp [DropTm, DropV, below, belowM, belowL, srcB_below, intB, allBelow_cons, allBelow_nil, below, belowM, belowL])
      · refine br_intro (fun g4 => ?_) (fun g4 => ?_) <;> simp only [q0, q1, q2, q3, q4, q5, q6, q7, q8, q9, zr0, zr1, zr2, zr3, zq0, zq1, zq2, zq3, zq4, Nat.reduceAdd, Nat.reduceSub, lenA, convA, indexA, indexS, Int.reduceToNat, cond_true, cond_false, ↓reduceIte, reduceCtorEq, Nat.reduceLT, Nat.reduceLeDiff, Nat.reduceMul, Nat.reduceEqDiff, exists_eq', implies_true, exists_true_left, tys0, tys1, tys2, tys3, tys4, und0, und1, und2, und3, md25, Tryz.ntmps25, Tryz.results25, intB, ints_len, allW_int, fits, List.isEmpty_cons, brk_false, Nat.reduceMul, srcB_kill]
        · refine ⟨by omega, ⟨(xs ++ [-(t : Int)], t + 1, a2, sd2), go _ (.inr rfl), by show 1 ≤ t + 1; omega, by show t + 1 ≤ 7; omega, by show a2 + 2 ≤ a + 2 * (t + 1); omega⟩, by show 7 - (t + 1) < 7 - t; omega, ?_⟩
          rw [w1, w2]
          show Weak 1 _ ⟨_, _⟩
          rw [show xs.length + 1 = (xs ++ [-(t : Int)]).length by simp]
          dsimp only
          generalize xs ++ [-(t : Int)] = ys
          exact weak_drop (by simp) (by simp [DropHp, ints_below, flts_below, srcB_below, intB, allBelow_cons, allBelow_nil, below, belowM, belowL]) (by simp [DropTm, DropV, below, belowM, belowL, srcB_below, intB, allBelow_cons, allBelow_nil, below, belowM, belowL])
        · refine ⟨⟨(xs, t + 1, a2, sd2), (by have := W.skip; rw [show ((t + 1 : Nat) : Int) = (t : Int) + 1 by omega]; exact this), by show 1 ≤ t + 1; omega, by show t + 1 ≤ 7; omega, by show a2 + 2 ≤ a + 2 * (t + 1); omega⟩, by show 7 - (t + 1) < 7 - t; omega, ?_⟩
          rw [w1]
          show Weak 1 _ ⟨_, _⟩
          dsimp only
          exact weak_drop (by simp) (by simp [DropHp, ints_below, flts_below, srcB_below, intB, allBelow_cons, allBelow_nil, below, belowM, belowL]) (by simp [DropTm, DropV, below, belowM, belowL, srcB_below, intB, allBelow_cons, allBelow_nil, below, belowM, belowL])
    · exact fin ()
  · exact fin ()
theorem view_intB (xs : List Int) : view 2 [intB xs] (.sl 0 0 xs.length) = .ro (ints xs) := by
  rw [view_sl]
  simp [intB, ints_len, map_view_ints, take_ints]
theorem drawFacts_call (code : List Int) (hc : byteL code) (hl : code.length ≤ 1048576) (a : Nat) (ha : a ≤ 1000000) (sd : Int) :
    CallA Tryz.prog 25 [.ptr 0 0 0, .int .i64 3] [srcB code a sd] (fun r hp => ∃ (xs : List Int) (a' : Nat) (sd' : Int), WdOk xs 7 ∧ a' ≤ a + 12 ∧ r = .ro (ints xs) ∧ hp = [srcB code a' sd']) := by
  refine CallA.freezeN 2 (drawFacts0_call code hc hl a ha sd) ?_
  rintro r hp ⟨xs, a', sd', W, ha', rfl, rfl⟩
  refine ⟨[srcB code a' sd'], [intB xs], .sl 0 0 xs.length, rfl, rfl, by simp [intB, ints_below], by simp [srcB_below], rfl, rfl, xs, a', sd', W, ha', view_intB xs, rfl⟩
theorem word_at {code : List Int} (hc : byteL code) (hl : code.length ≤ 1048576) {a : Nat} (ha : a ≤ 1000000) {sd : Int} {rest : List Blk} {Q : AV → List Blk → Prop} {t : Tok Q}
    (hQ : ∀ (x : Int) (a' : Nat) (sd' : Int), (wordB x = true ∧ -6 ≤ x ∧ x ≤ 6) → a' ≤ a + 4 → Q (.int .i64 x) (srcB code a' sd' :: rest)) : CallP Tryz.prog 63 [.ptr 0 0 0] (srcB code a sd :: rest) Q t := by
  refine call_handedQ [0] (drawWord_call code hc hl a ha sd) (by decide) ⟨⟨rfl, rfl⟩, trivial⟩ rfl rfl ?_
  rintro r hps' ⟨x, a', sd', hx, ha', rfl, rfl⟩
  refine ⟨by intro q hq; simp at hq; subst hq; rfl, ?_⟩
  have := hQ x a' sd' hx ha'
  simpa [putF, ren, renM, renL] using this
theorem facts_at {code : List Int} (hc : byteL code) (hl : code.length ≤ 1048576) {a : Nat} (ha : a ≤ 1000000) {sd : Int} {rest : List Blk} {Q : AV → List Blk → Prop} {t : Tok Q}
    (hQ : ∀ (xs : List Int) (a' : Nat) (sd' : Int), WdOk xs 7 → a' ≤ a + 12 → Q (.ro (ints xs)) (srcB code a' sd' :: rest)) : CallP Tryz.prog 25 [.ptr 0 0 0, .int .i64 3] (srcB code a sd :: rest) Q t := by
  refine call_handedQ [0] (drawFacts_call code hc hl a ha sd) (by decide) ⟨⟨rfl, rfl⟩, trivial⟩ rfl rfl ?_
  rintro r hps' ⟨xs, a', sd', hx, ha', rfl, rfl⟩
  refine ⟨by intro q hq; simp at hq; subst hq; rfl, ?_⟩
  have := hQ xs a' sd' hx ha'
  simpa [putF, ren, renM, renL] using this
def mdN : Nat → List Bool := fun _ => []
theorem drawOk_call (code : List Int) (hc : byteL code) (hl : code.length ≤ 1048576) (a : Nat) (ha : a ≤ 100000) (sd : Int) :
    CallA Tryz.prog 43 [.ptr 0 0 0] [srcB code a sd] (fun r hp => ∃ (q : Rul) (a' : Nat) (sd' : Int), ruleB q = true ∧ a' ≤ a + 30 ∧ r = rulA q ∧ hp = [srcB code a' sd']) := by
  refine CallP.out (t := .mk) (go_in (md := mdN) mixed Tryz.func43 rfl go43 (by kernel_rfl) ?_)
  simp only [q0, q1, q2, q3, q4, q5, q6, q7, q8, q9, zr0, zr1, zr2, zr3, zq0, zq1, zq2, zq3, zq4, Nat.reduceAdd, Nat.reduceSub, lenA, convA, indexA, indexS, Int.reduceToNat, cond_true, cond_false, ↓reduceIte, reduceCtorEq, Nat.reduceLT, Nat.reduceLeDiff, Nat.reduceMul, Nat.reduceEqDiff, exists_eq', implies_true, exists_true_left, tys0, tys1, tys2, tys3, tys4, und0, und1, und2, und3, md43, Tryz.ntmps43, Tryz.results43, mdN]
  refine word_at hc hl (by omega) (fun x a1 sd1 hx ha1 => ?_)
  simp only [q0, q1, q2, q3, q4, q5, q6, q7, q8, q9, zr0, zr1, zr2, zr3, zq0, zq1, zq2, zq3, zq4, Nat.reduceAdd, Nat.reduceSub, lenA, convA, indexA, indexS, Int.reduceToNat, cond_true, cond_false, ↓reduceIte, reduceCtorEq, Nat.reduceLT, Nat.reduceLeDiff, Nat.reduceMul, Nat.reduceEqDiff, exists_eq', implies_true, exists_true_left, tys0, tys1, tys2, tys3, tys4, und0, und1, und2, und3, md43, Tryz.ntmps43, Tryz.results43, mdN]
  refine facts_at hc hl (by omega) (fun xs a2 sd2 hw ha2 => ?_)
  simp only [q0, q1, q2, q3, q4, q5, q6, q7, q8, q9, zr0, zr1, zr2, zr3, zq0, zq1, zq2, zq3, zq4, Nat.reduceAdd, Nat.reduceSub, lenA, convA, indexA, indexS, Int.reduceToNat, cond_true, cond_false, ↓reduceIte, reduceCtorEq, Nat.reduceLT, Nat.reduceLeDiff, Nat.reduceMul, Nat.reduceEqDiff, exists_eq', implies_true, exists_true_left, tys0, tys1, tys2, tys3, tys4, und0, und1, und2, und3, md43, Tryz.ntmps43, Tryz.results43, srcB_kill, mdN]
  refine pick_at hc hl (by omega) (by omega) (by omega) (fun y a3 sd3 hy ha3 => ?_)
  simp only [q0, q1, q2, q3, q4, q5, q6, q7, q8, q9, zr0, zr1, zr2, zr3, zq0, zq1, zq2, zq3, zq4, Nat.reduceAdd, Nat.reduceSub, lenA, convA, indexA, indexS, Int.reduceToNat, cond_true, cond_false, ↓reduceIte, reduceCtorEq, Nat.reduceLT, Nat.reduceLeDiff, Nat.reduceMul, Nat.reduceEqDiff, exists_eq', implies_true, exists_true_left, tys0, tys1, tys2, tys3, tys4, und0, und1, und2, und3, md43, Tryz.ntmps43, Tryz.results43, srcB_kill, mdN]
  refine go_calls mixed (fun hp => ∃ a4 sd4, a4 ≤ a3 + 2 ∧ hp = [srcB code a4 sd4, { ty := 41, w := 5, els := [.agg [.int .i64 0, .nils, .int .i64 0, .int .i64 0, .int .i64 0]] }, { ty := 41, w := 5, els := [.agg [.int .i64 x, .ro (ints xs), .int .i64 y, .int .i64 0, .int .i64 0]] }]) [0, 1, 2, 3, 4, 5, 6] [0, 0, 0, 2, 1, 1, 1] (by kernel_rfl) ?_
  refine oh_quiet (by rfl) (by rfl) (by rfl) ⟨a3, sd3, by omega, rfl⟩ (v := .ptr 2 0 2) ?_ ?_
  · rintro hp ⟨a4, sd4, h4, rfl⟩
    simp only [q0, q1, q2, q3, q4, q5, q6, q7, q8, q9, zr0, zr1, zr2, zr3, zq0, zq1, zq2, zq3, zq4, Nat.reduceAdd, Nat.reduceSub, lenA, convA, indexA, indexS, Int.reduceToNat, cond_true, cond_false, ↓reduceIte, reduceCtorEq, Nat.reduceLT, Nat.reduceLeDiff, Nat.reduceMul, Nat.reduceEqDiff, exists_eq', implies_true, exists_true_left, tys0, tys1, tys2, tys3, tys4, und0, und1, und2, und3, md43, Tryz.ntmps43, Tryz.results43]
  simp only [q0, q1, q2, q3, q4, q5, q6, q7, q8, q9, zr0, zr1, zr2, zr3, zq0, zq1, zq2, zq3, zq4, Nat.reduceAdd, Nat.reduceSub, lenA, convA, indexA, indexS, Int.reduceToNat, cond_true, cond_false, ↓reduceIte, reduceCtorEq, Nat.reduceLT, Nat.reduceLeDiff, Nat.reduceMul, Nat.reduceEqDiff, exists_eq', implies_true, exists_true_left, tys0, tys1, tys2, tys3, tys4, und0, und1, und2, und3, md43, Tryz.ntmps43, Tryz.results43]
  refine oh_quiet (by rfl) (by rfl) (by rfl) ⟨a3, sd3, by omega, rfl⟩ (v := .int .i64 y) ?_ ?_
  · rintro hp ⟨a4, sd4, h4, rfl⟩
    simp only [q0, q1, q2, q3, q4, q5, q6, q7, q8, q9, zr0, zr1, zr2, zr3, zq0, zq1, zq2, zq3, zq4, Nat.reduceAdd, Nat.reduceSub, lenA, convA, indexA, indexS, Int.reduceToNat, cond_true, cond_false, ↓reduceIte, reduceCtorEq, Nat.reduceLT, Nat.reduceLeDiff, Nat.reduceMul, Nat.reduceEqDiff, exists_eq', implies_true, exists_true_left, tys0, tys1, tys2, tys3, tys4, und0, und1, und2, und3, md43, Tryz.ntmps43, Tryz.results43]
  simp only [q0, q1, q2, q3, q4, q5, q6, q7, q8, q9, zr0, zr1, zr2, zr3, zq0, zq1, zq2, zq3, zq4, Nat.reduceAdd, Nat.reduceSub, lenA, convA, indexA, indexS, Int.reduceToNat, cond_true, cond_false, ↓reduceIte, reduceCtorEq, Nat.reduceLT, Nat.reduceLeDiff, Nat.reduceMul, Nat.reduceEqDiff, exists_eq', implies_true, exists_true_left, tys0, tys1, tys2, tys3, tys4, und0, und1, und2, und3, md43, Tryz.ntmps43, Tryz.results43]
  refine oh_quiet (by rfl) (by rfl) (by rfl) ⟨a3, sd3, by omega, rfl⟩ (v := .ptr 0 0 0) ?_ ?_
  · rintro hp ⟨a4, sd4, h4, rfl⟩
    simp only [q0, q1, q2, q3, q4, q5, q6, q7, q8, q9, zr0, zr1, zr2, zr3, zq0, zq1, zq2, zq3, zq4, Nat.reduceAdd, Nat.reduceSub, lenA, convA, indexA, indexS, Int.reduceToNat, cond_true, cond_false, ↓reduceIte, reduceCtorEq, Nat.reduceLT, Nat.reduceLeDiff, Nat.reduceMul, Nat.reduceEqDiff, exists_eq', implies_true, exists_true_left, tys0, tys1, tys2, tys3, tys4, und0, und1, und2, und3, md43, Tryz.ntmps43, Tryz.results43]
  simp only [q0, q1, q2, q3, q4, q5, q6, q7, q8, q9, zr0, zr1, zr2, zr3, zq0, zq1, zq2, zq3, zq4, Nat.reduceAdd, Nat.reduceSub, lenA, convA, indexA, indexS, Int.reduceToNat, cond_true, cond_false, ↓reduceIte, reduceCtorEq, Nat.reduceLT, Nat.reduceLeDiff, Nat.reduceMul, Nat.reduceEqDiff, exists_eq', implies_true, exists_true_left, tys0, tys1, tys2, tys3, tys4, und0, und1, und2, und3, md43, Tryz.ntmps43, Tryz.results43]
  refine oh_call (by rfl) (by rfl) (by rfl) (by rfl) (by rfl) ?_
  simp only [q0, q1, q2, q3, q4, q5, q6, q7, q8, q9, zr0, zr1, zr2, zr3, zq0, zq1, zq2, zq3, zq4, Nat.reduceAdd, Nat.reduceSub, lenA, convA, indexA, indexS, Int.reduceToNat, cond_true, cond_false, ↓reduceIte, reduceCtorEq, Nat.reduceLT, Nat.reduceLeDiff, Nat.reduceMul, Nat.reduceEqDiff, exists_eq', implies_true, exists_true_left, tys0, tys1, tys2, tys3, tys4, und0, und1, und2, und3, md43, Tryz.ntmps43, Tryz.results43]
  refine pick_at hc hl (by omega) (by omega) (by omega) (fun z a4 sd4 hz ha4 => ?_)
  refine ⟨⟨a4, sd4, by omega, rfl⟩, ?_⟩
  refine oh_one (by rfl) (by rfl) (by rfl) ?_
  have w1 : IntKind.i64.wrap (y + z) = y + z := w64 (by omega) (by omega)
  simp only [q0, q1, q2, q3, q4, q5, q6, q7, q8, q9, zr0, zr1, zr2, zr3, zq0, zq1, zq2, zq3, zq4, Nat.reduceAdd, Nat.reduceSub, lenA, convA, indexA, indexS, Int.reduceToNat, cond_true, cond_false, ↓reduceIte, reduceCtorEq, Nat.reduceLT, Nat.reduceLeDiff, Nat.reduceMul, Nat.reduceEqDiff, exists_eq', implies_true, exists_true_left, tys0, tys1, tys2, tys3, tys4, und0, und1, und2, und3, md43, Tryz.ntmps43, Tryz.results43, srcB_kill, w1]
  refine oh_one (by rfl) (by rfl) (by rfl) ?_
  simp only [q0, q1, q2, q3, q4, q5, q6, q7, q8, q9, zr0, zr1, zr2, zr3, zq0, zq1, zq2, zq3, zq4, Nat.reduceAdd, Nat.reduceSub, lenA, convA, indexA, indexS, Int.reduceToNat, cond_true, cond_false, ↓reduceIte, reduceCtorEq, Nat.reduceLT, Nat.reduceLeDiff, Nat.reduceMul, Nat.reduceEqDiff, exists_eq', implies_true, exists_true_left, tys0, tys1, tys2, tys3, tys4, und0, und1, und2, und3, md43, Tryz.ntmps43, Tryz.results43, srcB_kill]
  refine oh_one (by rfl) (by rfl) (by rfl) ?_
  simp only [q0, q1, q2, q3, q4, q5, q6, q7, q8, q9, zr0, zr1, zr2, zr3, zq0, zq1, zq2, zq3, zq4, Nat.reduceAdd, Nat.reduceSub, lenA, convA, indexA, indexS, Int.reduceToNat, cond_true, cond_false, ↓reduceIte, reduceCtorEq, Nat.reduceLT, Nat.reduceLeDiff, Nat.reduceMul, Nat.reduceEqDiff, exists_eq', implies_true, exists_true_left, tys0, tys1, tys2, tys3, tys4, und0, und1, und2, und3, md43, Tryz.ntmps43, Tryz.results43, srcB_kill]
  refine oh_nil ?_
  simp only [q0, q1, q2, q3, q4, q5, q6, q7, q8, q9, zr0, zr1, zr2, zr3, zq0, zq1, zq2, zq3, zq4, Nat.reduceAdd, Nat.reduceSub, lenA, convA, indexA, indexS, Int.reduceToNat, cond_true, cond_false, ↓reduceIte, reduceCtorEq, Nat.reduceLT, Nat.reduceLeDiff, Nat.reduceMul, Nat.reduceEqDiff, exists_eq', implies_true, exists_true_left, tys0, tys1, tys2, tys3, tys4, und0, und1, und2, und3, md43, Tryz.ntmps43, Tryz.results43, srcB_kill, mdN]
  refine pick_at hc hl (by omega) (by omega) (by omega) (fun u a5 sd5 hu ha5 => ?_)
  simp only [q0, q1, q2, q3, q4, q5, q6, q7, q8, q9, zr0, zr1, zr2, zr3, zq0, zq1, zq2, zq3, zq4, Nat.reduceAdd, Nat.reduceSub, lenA, convA, indexA, indexS, Int.reduceToNat, cond_true, cond_false, ↓reduceIte, reduceCtorEq, Nat.reduceLT, Nat.reduceLeDiff, Nat.reduceMul, Nat.reduceEqDiff, exists_eq', implies_true, exists_true_left, tys0, tys1, tys2, tys3, tys4, und0, und1, und2, und3, md43, Tryz.ntmps43, Tryz.results43, srcB_kill, mdN]
  refine PostR.tell [0] (hp2 := [srcB code a5 sd5]) (by decide) (by decide) (by decide) ⟨⟨rfl, rfl⟩, trivial⟩ rfl rfl ⟨(x, xs, y, y + z, u), a5, sd5, ?_, by omega, rfl, rfl⟩
  unfold ruleB
  dsimp only
  rw [hx.1, hw.ok, decide_eq_true (show xs.length ≤ 6 by have := hw.len; omega), inR_yes (show 0 ≤ y by omega) (show y ≤ 100000 by omega), inR_yes (show 0 ≤ y + z by omega) (show y + z ≤ 100000 by omega), decide_eq_true (show y ≤ y + z by omega), inR_yes (show 0 ≤ u by omega) (show u ≤ 100 by omega)]
  rfl
theorem drawRule_at {code : List Int} (hc : byteL code) (hl : code.length ≤ 1048576) {a : Nat} (ha : a ≤ 100000) {sd : Int} {rest : List Blk} {Q : AV → List Blk → Prop} {t : Tok Q}
    (hQ : ∀ (q : Rul) (a' : Nat) (sd' : Int), ruleB q = true → a' ≤ a + 30 → Q (rulA q) (srcB code a' sd' :: rest)) : CallP Tryz.prog 43 [.ptr 0 0 0] (srcB code a sd :: rest) Q t := by
  refine call_handedQ [0] (drawOk_call code hc hl a ha sd) (by decide) ⟨⟨rfl, rfl⟩, trivial⟩ rfl rfl ?_
  rintro r hps' ⟨q, a', sd', hq, ha', rfl, rfl⟩
  refine ⟨by intro q hq; simp at hq; subst hq; rfl, ?_⟩
  have := hQ q a' sd' hq ha'
  simpa [putF, ren, renM, renL, rulA] using this
structure DrL (n : Nat) (L : List Rul) (a0 a : Nat) : Prop where
  len : L.length ≤ n
  ok : ∀ q ∈ L, ruleB q = true
  at_ : a ≤ a0 + 30 * L.length
theorem DrL.next {n : Nat} {L : List Rul} {a0 a a' : Nat} {q : Rul} (D : DrL n L a0 a) (hl : L.length < n) (hq : ruleB q = true) (ha : a' ≤ a + 30) : DrL n (L ++ [q]) a0 a' :=
  ⟨by simp; omega, fun x hx => by
    rcases List.mem_append.1 hx with h | h
    · exact D.ok x h
    · rw [List.mem_singleton.1 h]; exact hq, by have := D.at_; simp; omega⟩
theorem ruls_below (N : Nat) (L : List Rul) : allBelow N (L.map rulA) = true := by simp [allBelow, rulA, below, belowM, belowL]
theorem drawList_call (code : List Int) (hc : byteL code) (hl : code.length ≤ 1048576) :
    CallA Tryz.prog 20 [.ptr 0 0 0] [srcB code 0 0] (fun r hp => ∃ (L : List Rul) (a' : Nat) (sd' : Int), (∀ q ∈ L, ruleB q = true) ∧ L.length ≤ 8 ∧ r = .sl 1 0 L.length ∧ hp = [srcB code a' sd', rulB (L.map rulA)]) := by
  refine CallP.out (t := .mk) (go_in (md := md20) mixed Tryz.func20 rfl go20 (by kernel_rfl) ?_)
  simp only [q0, q1, q2, q3, q4, q5, q6, q7, q8, q9, zr0, zr1, zr2, zr3, zq0, zq1, zq2, zq3, zq4, Nat.reduceAdd, Nat.reduceSub, lenA, convA, indexA, indexS, Int.reduceToNat, cond_true, cond_false, ↓reduceIte, reduceCtorEq, Nat.reduceLT, Nat.reduceLeDiff, Nat.reduceMul, Nat.reduceEqDiff, exists_eq', implies_true, exists_true_left, tys0, tys1, tys2, tys3, tys4, und0, und1, und2, und3, md20, Tryz.ntmps20, Tryz.results20]
  refine pick_at hc hl (by omega) (by omega) (by omega) (fun x a1 sd1 hx ha1 => ?_)
  simp only [q0, q1, q2, q3, q4, q5, q6, q7, q8, q9, zr0, zr1, zr2, zr3, zq0, zq1, zq2, zq3, zq4, Nat.reduceAdd, Nat.reduceSub, lenA, convA, indexA, indexS, Int.reduceToNat, cond_true, cond_false, ↓reduceIte, reduceCtorEq, Nat.reduceLT, Nat.reduceLeDiff, Nat.reduceMul, Nat.reduceEqDiff, exists_eq', implies_true, exists_true_left, tys0, tys1, tys2, tys3, tys4, und0, und1, und2, und3, md20, Tryz.ntmps20, Tryz.results20, srcB_kill]
  obtain ⟨n, hn, rfl⟩ : ∃ n : Nat, n ≤ 8 ∧ x = (n : Int) := ⟨x.toNat, by omega, by omega⟩
  refine go_round (md := md20) mixed (by kernel_rfl) (fun p : {p : List Rul × Nat × Int // DrL n p.1 a1 p.2.1} => ⟨[.ptr 0 0 0, .any, .any, .sl 1 0 p.1.1.length, .int .i64 ((n : Int) - p.1.1.length), .any, .any, .any, .any, .any, .any, .any, .any, .any, .any, .any, .any, .any], [srcB code p.1.2.1 p.1.2.2, rulB (p.1.1.map rulA)]⟩) (fun p => n - p.1.1.length) ⟨([], a1, sd1), ⟨by simp, by simp, by simp⟩⟩ ?_ ?_
  · exact weak_drop (by simp) (by simp [DropHp, ints_below, flts_below, srcB_below, rulB, allBelow_cons, allBelow_nil, below, belowM, belowL]) (by simp [DropTm, DropV, below, belowM, belowL, srcB_below, rulB, allBelow_cons, allBelow_nil, below, belowM, belowL])
  rintro ⟨⟨L, a, sd⟩, D⟩
  have D1 := D.len
  have D2 := D.at_
  simp only [] at D1 D2
  simp only [q0, q1, q2, q3, q4, q5, q6, q7, q8, q9, zr0, zr1, zr2, zr3, zq0, zq1, zq2, zq3, zq4, Nat.reduceAdd, Nat.reduceSub, lenA, convA, indexA, indexS, Int.reduceToNat, cond_true, cond_false, ↓reduceIte, reduceCtorEq, Nat.reduceLT, Nat.reduceLeDiff, Nat.reduceMul, Nat.reduceEqDiff, exists_eq', implies_true, exists_true_left, tys0, tys1, tys2, tys3, tys4, und0, und1, und2, und3, md20, Tryz.ntmps20, Tryz.results20, rulB]
  refine br_intro (fun g => ?_) (fun g => ?_) <;> simp only [q0, q1, q2, q3, q4, q5, q6, q7, q8, q9, zr0, zr1, zr2, zr3, zq0, zq1, zq2, zq3, zq4, Nat.reduceAdd, Nat.reduceSub, lenA, convA, indexA, indexS, Int.reduceToNat, cond_true, cond_false, ↓reduceIte, reduceCtorEq, Nat.reduceLT, Nat.reduceLeDiff, Nat.reduceMul, Nat.reduceEqDiff, exists_eq', implies_true, exists_true_left, tys0, tys1, tys2, tys3, tys4, und0, und1, und2, und3, md20, Tryz.ntmps20, Tryz.results20, rulB]
  · have hR : L.length < n := by have := of_decide_eq_true g; omega
    refine drawRule_at hc hl (by omega) (fun q a2 sd2 hq ha2 => ?_)
    simp only [q0, q1, q2, q3, q4, q5, q6, q7, q8, q9, zr0, zr1, zr2, zr3, zq0, zq1, zq2, zq3, zq4, Nat.reduceAdd, Nat.reduceSub, lenA, convA, indexA, indexS, Int.reduceToNat, cond_true, cond_false, ↓reduceIte, reduceCtorEq, Nat.reduceLT, Nat.reduceLeDiff, Nat.reduceMul, Nat.reduceEqDiff, exists_eq', implies_true, exists_true_left, tys0, tys1, tys2, tys3, tys4, und0, und1, und2, und3, md20, Tryz.ntmps20, Tryz.results20, rulA, rulB, allW_int, fits, List.isEmpty_cons, brk_false, Nat.reduceMul, List.length_map, srcB_kill]
    have rm : List.map (kill 1) (L.map rulA ++ [.agg [.int .i64 q.1, .ro (ints q.2.1), .int .i64 q.2.2.1, .int .i64 q.2.2.2.1, .int .i64 q.2.2.2.2]]) = (L ++ [q]).map rulA := by
      rw [show L.map rulA ++ [.agg [.int .i64 q.1, .ro (ints q.2.1), .int .i64 q.2.2.1, .int .i64 q.2.2.2.1, .int .i64 q.2.2.2.2]] = (L ++ [q]).map rulA by simp [rulA], List.map_map]
      exact List.map_congr_left fun y _ => rfl
    have ek : IntKind.i64.wrap ((n : Int) - L.length - 1) = (n : Int) - (L ++ [q]).length := by rw [w64 (by omega) (by omega)]; simp; omega
    have el : L.length + 1 = (L ++ [q]).length := by simp
    have DN := D.next hR hq ha2
    refine ⟨fun v hv => (by rw [List.mem_singleton.1 hv]; exact ⟨rfl, rfl⟩), by omega, ⟨(L ++ [q], a2, sd2), DN⟩, by show n - (L ++ [q]).length < _; rw [← el]; omega, ?_⟩
    show Weak 1 _ ⟨_, _⟩
    rw [rm, ek, el]
    dsimp only
    generalize L ++ [q] = R2
    exact weak_drop (by simp) (by simp [DropHp, ints_below, flts_below, srcB_below, rulB, ruls_below, allBelow_cons, allBelow_nil, below, belowM, belowL]) (by simp [DropTm, DropV, below, belowM, belowL, srcB_below, rulB, ruls_below, allBelow_cons, allBelow_nil, below, belowM, belowL])
  · have hR : L.length = n := by have := of_decide_eq_false g; omega
    exact PostR.same ⟨L, a, sd, D.ok, by omega, rfl, rfl⟩
theorem b10Rules_call (code : List Int) (hc : byteL code) (hl : code.length ≤ 1048576) :
    CallA Tryz.prog 5 [.ro (kint .u8 code)] [] (fun r hp => ∃ L : List Rul, (∀ q ∈ L, ruleB q = true) ∧ L.length ≤ 8 ∧ r = .ro (L.map rulA) ∧ hp = []) := by
  have main : CallA Tryz.prog 5 [.ro (kint .u8 code)] [] (fun r hp => ∃ L : List Rul, (∀ q ∈ L, ruleB q = true) ∧ L.length ≤ 8 ∧ r = .sl 0 0 L.length ∧ hp = [rulB (L.map rulA)]) := by
    refine CallP.out (t := .mk) (go_in (md := md5) mixed Tryz.func5 rfl go5 (by kernel_rfl) ?_)
    simp only [q0, q1, q2, q3, q4, q5, q6, q7, q8, q9, zr0, zr1, zr2, zr3, zq0, zq1, zq2, zq3, zq4, Nat.reduceAdd, Nat.reduceSub, lenA, convA, indexA, indexS, Int.reduceToNat, cond_true, cond_false, ↓reduceIte, reduceCtorEq, Nat.reduceLT, Nat.reduceLeDiff, Nat.reduceMul, Nat.reduceEqDiff, exists_eq', implies_true, exists_true_left, tys0, tys1, tys2, tys3, tys4, und0, und1, und2, und3, md5, Tryz.ntmps5, Tryz.results5]
    refine call_new (l00From_call code) rfl (by intro q hq; simp at hq; subst hq; rfl) ?_
    simp only [q0, q1, q2, q3, q4, q5, q6, q7, q8, q9, zr0, zr1, zr2, zr3, zq0, zq1, zq2, zq3, zq4, Nat.reduceAdd, Nat.reduceSub, lenA, convA, indexA, indexS, Int.reduceToNat, cond_true, cond_false, ↓reduceIte, reduceCtorEq, Nat.reduceLT, Nat.reduceLeDiff, Nat.reduceMul, Nat.reduceEqDiff, exists_eq', implies_true, exists_true_left, tys0, tys1, tys2, tys3, tys4, und0, und1, und2, und3, md5, Tryz.ntmps5, Tryz.results5, ren, renM, renL]
    refine call_by (drawList_call code hc hl) ?_
    rintro r hp ⟨L, a, sd, h1, h2, rfl, rfl⟩
    simp only [q0, q1, q2, q3, q4, q5, q6, q7, q8, q9, zr0, zr1, zr2, zr3, zq0, zq1, zq2, zq3, zq4, Nat.reduceAdd, Nat.reduceSub, lenA, convA, indexA, indexS, Int.reduceToNat, cond_true, cond_false, ↓reduceIte, reduceCtorEq, Nat.reduceLT, Nat.reduceLeDiff, Nat.reduceMul, Nat.reduceEqDiff, exists_eq', implies_true, exists_true_left, tys0, tys1, tys2, tys3, tys4, und0, und1, und2, und3, md5, Tryz.ntmps5, Tryz.results5]
    refine PostR.tell [1] (hp2 := [rulB (L.map rulA)]) (by decide) (by decide) (by decide) (by simp [SubG, renB, rulB, ruls_below, rulA, ren, renM, renL]) rfl rfl ⟨L, h1, h2, rfl, rfl⟩
  refine (CallA.freezeQ 3 main).mono ?_
  rintro r hp ⟨r0, new, ⟨L, h1, h2, rfl, rfl⟩, rfl, rfl⟩
  refine ⟨L, h1, h2, ?_, rfl⟩
  have lm : (L.map rulA).length = L.length := List.length_map _
  have hv : (L.map rulA).map (view 2 [rulB (L.map rulA)]) = L.map rulA := by
    rw [List.map_map]
    exact List.map_congr_left fun r _ => rul_view 1 _ r
  have ht : List.take L.length (L.map rulA) = L.map rulA := by rw [← lm]; exact List.take_length
  simp only [rulB] at hv ⊢
  simp only [view_sl, List.getElem?_cons_zero, List.drop_zero, ht, hv, lm, Nat.zero_add, Nat.le_refl, decide_true, Bool.and_self, if_true]
theorem allW_two (k : IntKind) (n m : Int) : AllW 1 [AV.int k n, AV.int k m] = True := by
  simp only [eq_iff_iff, iff_true]
  intro a ha
  simp only [List.mem_cons, List.not_mem_nil, or_false] at ha
  rcases ha with rfl | rfl <;> exact ⟨rfl, rfl⟩
theorem ints_two (l : List Int) (a b : Int) : ints l ++ [AV.int .i64 a, AV.int .i64 b] = ints (l ++ [a, b]) := by simp [ints]
theorem b10Ints_call (xs : List Int) (hm : xs.length ≤ 1048576) : CallA Tryz.prog 8 [.ro (ints xs), .ro (ints xs)] [] (Ret (.bool true) []) := by
  refine CallP.out (t := .mk) (go_in (md := md8) mixed Tryz.func8 rfl go8 (by kernel_rfl) ?_)
  simp only [q0, q1, q2, q3, q4, q5, q6, q7, q8, q9, zr0, zr1, zr2, zr3, zq0, zq1, zq2, zq3, zq4, Nat.reduceAdd, Nat.reduceSub, lenA, convA, indexA, indexS, Int.reduceToNat, cond_true, cond_false, ↓reduceIte, reduceCtorEq, Nat.reduceLT, Nat.reduceLeDiff, Nat.reduceMul, Nat.reduceEqDiff, exists_eq', implies_true, exists_true_left, tys0, tys1, tys2, tys3, tys4, und0, und1, und2, und3, md8, Tryz.ntmps8, Tryz.results8, bne_self_eq_false]
  refine go_round (md := md8) mixed (by kernel_rfl) (fun i : {i : Nat // i ≤ xs.length} => ⟨[.ro (ints xs), .ro (ints xs), .any, .any, .any, .any, .any, .any, .any, .any, .any, .any, .int .i64 xs.length, .int .i64 i.1, .any, .any, .any, .any, .any, .any, .any, .any, .any, .any, .any, .any], []⟩) (fun i => xs.length - i.1) ⟨0, by omega⟩ ?_ ?_
  · exact weak_drop (by simp) (by simp [DropHp, ints_below, flts_below]) (by simp [DropTm, DropV, below, belowM, belowL])
  rintro ⟨i, hi⟩
  simp only [q0, q1, q2, q3, q4, q5, q6, q7, q8, q9, zr0, zr1, zr2, zr3, zq0, zq1, zq2, zq3, zq4, Nat.reduceAdd, Nat.reduceSub, lenA, convA, indexA, indexS, Int.reduceToNat, cond_true, cond_false, ↓reduceIte, reduceCtorEq, Nat.reduceLT, Nat.reduceLeDiff, Nat.reduceMul, Nat.reduceEqDiff, exists_eq', implies_true, exists_true_left, tys0, tys1, tys2, tys3, tys4, und0, und1, und2, und3, md8, Tryz.ntmps8, Tryz.results8]
  refine br_intro (fun h => ?_) (fun h => ?_) <;> simp only [q0, q1, q2, q3, q4, q5, q6, q7, q8, q9, zr0, zr1, zr2, zr3, zq0, zq1, zq2, zq3, zq4, Nat.reduceAdd, Nat.reduceSub, lenA, convA, indexA, indexS, Int.reduceToNat, cond_true, cond_false, ↓reduceIte, reduceCtorEq, Nat.reduceLT, Nat.reduceLeDiff, Nat.reduceMul, Nat.reduceEqDiff, exists_eq', implies_true, exists_true_left, tys0, tys1, tys2, tys3, tys4, und0, und1, und2, und3, md8, Tryz.ntmps8, Tryz.results8]
  · have hi' : i < xs.length := by have := of_decide_eq_true h; omega
    have hI : (i : Int) < (xs.length : Int) := by omega
    simp only [q0, q1, q2, q3, q4, q5, q6, q7, q8, q9, zr0, zr1, zr2, zr3, zq0, zq1, zq2, zq3, zq4, Nat.reduceAdd, Nat.reduceSub, lenA, convA, indexA, indexS, Int.reduceToNat, cond_true, cond_false, ↓reduceIte, reduceCtorEq, Nat.reduceLT, Nat.reduceLeDiff, Nat.reduceMul, Nat.reduceEqDiff, exists_eq', implies_true, exists_true_left, tys0, tys1, tys2, tys3, tys4, und0, und1, und2, und3, md8, Tryz.ntmps8, Tryz.results8, hi', hI, bne_self_eq_false]
    refine ⟨⟨i + 1, by omega⟩, by show xs.length - (i + 1) < _; omega, ?_⟩
    exact weak_drop (by simp) (by simp [DropHp, ints_below, flts_below, w64_succ i (by omega)]) (by simp [DropTm, DropV, below, belowM, belowL, w64_succ i (by omega)])
  · exact PostR.pure ⟨rfl, rfl⟩ rfl
theorem b10Has_call (xs : List Int) (x : Int) (hm : xs.length ≤ 1048576) : CallA Tryz.prog 14 [.ro (ints xs), .int .i64 x] [] (Ret (.bool (decide (x ∈ xs))) []) := by
  refine CallP.out (t := .mk) (go_in (md := md14) mixed Tryz.func14 rfl go14 (by kernel_rfl) ?_)
  simp only [q0, q1, q2, q3, q4, q5, q6, q7, q8, q9, zr0, zr1, zr2, zr3, zq0, zq1, zq2, zq3, zq4, Nat.reduceAdd, Nat.reduceSub, lenA, convA, indexA, indexS, Int.reduceToNat, cond_true, cond_false, ↓reduceIte, reduceCtorEq, Nat.reduceLT, Nat.reduceLeDiff, Nat.reduceMul, Nat.reduceEqDiff, exists_eq', implies_true, exists_true_left, tys0, tys1, tys2, tys3, tys4, und0, und1, und2, und3, md14, Tryz.ntmps14, Tryz.results14]
  refine go_round (md := md14) mixed (by kernel_rfl) (fun i : {i : Nat // i ≤ xs.length ∧ x ∉ xs.take i} => ⟨[.ro (ints xs), .int .i64 x, .any, .any, .any, .any, .any, .int .i64 xs.length, .int .i64 i.1, .any, .any, .any, .any, .any, .any, .any, .any, .any], []⟩) (fun i => xs.length - i.1) ⟨0, by simp⟩ ?_ ?_
  · exact weak_drop (by simp) (by simp [DropHp, ints_below, flts_below]) (by simp [DropTm, DropV, below, belowM, belowL])
  rintro ⟨i, hi, hn⟩
  simp only [q0, q1, q2, q3, q4, q5, q6, q7, q8, q9, zr0, zr1, zr2, zr3, zq0, zq1, zq2, zq3, zq4, Nat.reduceAdd, Nat.reduceSub, lenA, convA, indexA, indexS, Int.reduceToNat, cond_true, cond_false, ↓reduceIte, reduceCtorEq, Nat.reduceLT, Nat.reduceLeDiff, Nat.reduceMul, Nat.reduceEqDiff, exists_eq', implies_true, exists_true_left, tys0, tys1, tys2, tys3, tys4, und0, und1, und2, und3, md14, Tryz.ntmps14, Tryz.results14]
  refine br_intro (fun g => ?_) (fun g => ?_) <;> simp only [q0, q1, q2, q3, q4, q5, q6, q7, q8, q9, zr0, zr1, zr2, zr3, zq0, zq1, zq2, zq3, zq4, Nat.reduceAdd, Nat.reduceSub, lenA, convA, indexA, indexS, Int.reduceToNat, cond_true, cond_false, ↓reduceIte, reduceCtorEq, Nat.reduceLT, Nat.reduceLeDiff, Nat.reduceMul, Nat.reduceEqDiff, exists_eq', implies_true, exists_true_left, tys0, tys1, tys2, tys3, tys4, und0, und1, und2, und3, md14, Tryz.ntmps14, Tryz.results14]
  · have hi' : i < xs.length := by have := of_decide_eq_true g; omega
    have hI : (i : Int) < (xs.length : Int) := by omega
    simp only [q0, q1, q2, q3, q4, q5, q6, q7, q8, q9, zr0, zr1, zr2, zr3, zq0, zq1, zq2, zq3, zq4, Nat.reduceAdd, Nat.reduceSub, lenA, convA, indexA, indexS, Int.reduceToNat, cond_true, cond_false, ↓reduceIte, reduceCtorEq, Nat.reduceLT, Nat.reduceLeDiff, Nat.reduceMul, Nat.reduceEqDiff, exists_eq', implies_true, exists_true_left, tys0, tys1, tys2, tys3, tys4, und0, und1, und2, und3, md14, Tryz.ntmps14, Tryz.results14, hi', hI]
    refine br_intro (fun u => ?_) (fun u => ?_) <;> simp only [q0, q1, q2, q3, q4, q5, q6, q7, q8, q9, zr0, zr1, zr2, zr3, zq0, zq1, zq2, zq3, zq4, Nat.reduceAdd, Nat.reduceSub, lenA, convA, indexA, indexS, Int.reduceToNat, cond_true, cond_false, ↓reduceIte, reduceCtorEq, Nat.reduceLT, Nat.reduceLeDiff, Nat.reduceMul, Nat.reduceEqDiff, exists_eq', implies_true, exists_true_left, tys0, tys1, tys2, tys3, tys4, und0, und1, und2, und3, md14, Tryz.ntmps14, Tryz.results14]
    · have u' : xs[i] = x := by simpa using u
      have : x ∈ xs := by rw [← u']; exact List.getElem_mem hi'
      exact PostR.pure ⟨by rw [decide_eq_true this], rfl⟩ rfl
    · have u' : xs[i] ≠ x := by simpa using u
      refine ⟨⟨i + 1, by omega, by rw [take_snoc _ _ hi']; intro h; rcases List.mem_append.1 h with h | h; exact hn h; simp at h; exact u' h.symm⟩, by show xs.length - (i + 1) < _; omega, ?_⟩
      exact weak_drop (by simp) (by simp [DropHp, ints_below, flts_below, w64_succ i (by omega)]) (by simp [DropTm, DropV, below, belowM, belowL, w64_succ i (by omega)])
  · have hi' : i = xs.length := by have := of_decide_eq_false g; omega
    subst hi'
    rw [List.take_length] at hn
    exact PostR.pure ⟨by rw [decide_eq_false hn], rfl⟩ rfl
theorem index_call (xs : List Int) (x : Int) (hm : xs.length ≤ 1048576) : CallA Tryz.prog 105 [.ro (ints xs), .int .i64 x] [] (Ret (.int .i64 (findI (fun y => x == y) xs 0)) []) := by
  refine CallP.out (t := .mk) (go_in (md := md105) mixed Tryz.func105 rfl go105 (by kernel_rfl) ?_)
  simp only [q0, q1, q2, q3, q4, q5, q6, q7, q8, q9, zr0, zr1, zr2, zr3, zq0, zq1, zq2, zq3, zq4, Nat.reduceAdd, Nat.reduceSub, lenA, convA, indexA, indexS, Int.reduceToNat, cond_true, cond_false, ↓reduceIte, reduceCtorEq, Nat.reduceLT, Nat.reduceLeDiff, Nat.reduceMul, Nat.reduceEqDiff, exists_eq', implies_true, exists_true_left, tys0, tys1, tys2, tys3, tys4, und0, und1, und2, und3, md105, Tryz.ntmps105, Tryz.results105]
  refine go_round (md := md105) mixed (by kernel_rfl) (fun i : {i : Nat // i ≤ xs.length ∧ findI (fun y => x == y) xs 0 = findI (fun y => x == y) (xs.drop i) i} => ⟨[.ro (ints xs), .int .i64 x, .any, .any, .any, .any, .any, .int .i64 xs.length, .int .i64 i.1, .any, .any, .any, .any, .any, .any, .any, .any, .any, .any], []⟩) (fun i => xs.length - i.1) ⟨0, by simp⟩ ?_ ?_
  · exact weak_drop (by simp) (by simp [DropHp, ints_below, flts_below]) (by simp [DropTm, DropV, below, belowM, belowL])
  rintro ⟨i, hi, he⟩
  simp only [q0, q1, q2, q3, q4, q5, q6, q7, q8, q9, zr0, zr1, zr2, zr3, zq0, zq1, zq2, zq3, zq4, Nat.reduceAdd, Nat.reduceSub, lenA, convA, indexA, indexS, Int.reduceToNat, cond_true, cond_false, ↓reduceIte, reduceCtorEq, Nat.reduceLT, Nat.reduceLeDiff, Nat.reduceMul, Nat.reduceEqDiff, exists_eq', implies_true, exists_true_left, tys0, tys1, tys2, tys3, tys4, und0, und1, und2, und3, md105, Tryz.ntmps105, Tryz.results105]
  refine br_intro (fun h => ?_) (fun h => ?_) <;> simp only [q0, q1, q2, q3, q4, q5, q6, q7, q8, q9, zr0, zr1, zr2, zr3, zq0, zq1, zq2, zq3, zq4, Nat.reduceAdd, Nat.reduceSub, lenA, convA, indexA, indexS, Int.reduceToNat, cond_true, cond_false, ↓reduceIte, reduceCtorEq, Nat.reduceLT, Nat.reduceLeDiff, Nat.reduceMul, Nat.reduceEqDiff, exists_eq', implies_true, exists_true_left, tys0, tys1, tys2, tys3, tys4, und0, und1, und2, und3, md105, Tryz.ntmps105, Tryz.results105]
  · have hi' : i < xs.length := by have := of_decide_eq_true h; omega
    have hI : (i : Int) < (xs.length : Int) := by omega
    rw [findI_step (fun y => x == y) xs i hi'] at he
    simp only [q0, q1, q2, q3, q4, q5, q6, q7, q8, q9, zr0, zr1, zr2, zr3, zq0, zq1, zq2, zq3, zq4, Nat.reduceAdd, Nat.reduceSub, lenA, convA, indexA, indexS, Int.reduceToNat, cond_true, cond_false, ↓reduceIte, reduceCtorEq, Nat.reduceLT, Nat.reduceLeDiff, Nat.reduceMul, Nat.reduceEqDiff, exists_eq', implies_true, exists_true_left, tys0, tys1, tys2, tys3, tys4, und0, und1, und2, und3, md105, Tryz.ntmps105, Tryz.results105, hi', hI]
    refine br_intro (fun h2 => ?_) (fun h2 => ?_) <;> simp only [q0, q1, q2, q3, q4, q5, q6, q7, q8, q9, zr0, zr1, zr2, zr3, zq0, zq1, zq2, zq3, zq4, Nat.reduceAdd, Nat.reduceSub, lenA, convA, indexA, indexS, Int.reduceToNat, cond_true, cond_false, ↓reduceIte, reduceCtorEq, Nat.reduceLT, Nat.reduceLeDiff, Nat.reduceMul, Nat.reduceEqDiff, exists_eq', implies_true, exists_true_left, tys0, tys1, tys2, tys3, tys4, und0, und1, und2, und3, md105, Tryz.ntmps105, Tryz.results105]
    · rw [h2] at he
      exact PostR.pure ⟨by rw [he]; rfl, rfl⟩ rfl
    · rw [h2] at he
      refine ⟨⟨i + 1, by omega, he⟩, by show xs.length - (i + 1) < _; omega, ?_⟩
      exact weak_drop (by simp) (by simp [DropHp, ints_below, flts_below, w64_succ i (by omega)]) (by simp [DropTm, DropV, below, belowM, belowL, w64_succ i (by omega)])
  · have hi' : i = xs.length := by have := of_decide_eq_false h; omega
    subst hi'
    rw [List.drop_length] at he
    exact PostR.pure ⟨by rw [he]; rfl, rfl⟩ rfl
theorem any_mem (x : Int) (xs : List Int) : (xs.any fun y => x == y) = decide (x ∈ xs) := by
  rw [Bool.eq_iff_iff, List.any_eq_true, decide_eq_true_eq]
  constructor
  · rintro ⟨y, hy, e⟩
    rw [beq_iff_eq] at e
    subst e
    exact hy
  · intro h
    exact ⟨x, h, beq_self_eq_true x⟩
theorem contains_call (xs : List Int) (x : Int) (hm : xs.length ≤ 1048576) : CallA Tryz.prog 93 [.ro (ints xs), .int .i64 x] [] (Ret (.bool (decide (x ∈ xs))) []) := by
  refine CallP.out (t := .mk) (go_in (md := md93) mixed Tryz.func93 rfl go93 (by kernel_rfl) ?_)
  simp only [q0, q1, q2, q3, q4, q5, q6, q7, q8, q9, zr0, zr1, zr2, zr3, zq0, zq1, zq2, zq3, zq4, Nat.reduceAdd, Nat.reduceSub, lenA, convA, indexA, indexS, Int.reduceToNat, cond_true, cond_false, ↓reduceIte, reduceCtorEq, Nat.reduceLT, Nat.reduceLeDiff, Nat.reduceMul, Nat.reduceEqDiff, exists_eq', implies_true, exists_true_left, tys0, tys1, tys2, tys3, tys4, und0, und1, und2, und3, md93, Tryz.ntmps93, Tryz.results93]
  refine call_ret (index_call xs x hm) rfl rfl ?_
  simp only [q0, q1, q2, q3, q4, q5, q6, q7, q8, q9, zr0, zr1, zr2, zr3, zq0, zq1, zq2, zq3, zq4, Nat.reduceAdd, Nat.reduceSub, lenA, convA, indexA, indexS, Int.reduceToNat, cond_true, cond_false, ↓reduceIte, reduceCtorEq, Nat.reduceLT, Nat.reduceLeDiff, Nat.reduceMul, Nat.reduceEqDiff, exists_eq', implies_true, exists_true_left, tys0, tys1, tys2, tys3, tys4, und0, und1, und2, und3, md93, Tryz.ntmps93, Tryz.results93]
  exact PostR.pure ⟨by rw [← any_mem, ← findI_any (fun y => x == y) xs 0], rfl⟩ rfl
end Go.Proofs.YtmllengggncmkaaGreat
