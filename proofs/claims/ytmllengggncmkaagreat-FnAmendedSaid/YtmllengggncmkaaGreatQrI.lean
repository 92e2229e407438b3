/- The program's court: whether a word is proved, whether it is disproved. -/
import Derived.Test.YtmllengggncmkaaGreatQrH
set_option maxRecDepth 10000
set_option maxHeartbeats 8000000
set_option linter.unusedSimpArgs false
set_option linter.unusedVariables false
namespace Go.Proofs.YtmllengggncmkaaGreat
open Go Go.Abs

theorem any_neg {α : Type} (R : List α) (f : α → Bool) : (!R.any f) = R.all fun r => !f r := by
  rw [Bool.eq_iff_iff, Bool.not_eq_true', List.any_eq_false, List.all_eq_true]
  constructor
  · intro h r hr; simpa using h r hr
  · intro h r hr; simpa using h r hr
theorem any_ext {α : Type} {R : List α} {f g : α → Bool} (h : ∀ r, f r = g r) : R.any f = R.any g := by rw [show f = g from funext h]
theorem all_ext {α : Type} {R : List α} {f g : α → Bool} (h : ∀ r, f r = g r) : R.all f = R.all g := by rw [show f = g from funext h]
def p82 (Y N : Int → Bool) (R : List Rul) (w : Int) (r : Rul) : Bool := somG N r || R.any fun t => t.1 == w && (allG Y t && decide (t.2.2.2.2 > r.2.2.2.2))
def p85 (Y N : Int → Bool) (R : List Rul) (w : Int) (s : Rul) : Bool := allG Y s && !(R.any fun t => t.1 == w && !(somG N t || decide (t.2.2.2.2 ≤ s.2.2.2.2)))
theorem prG_eq (Y N : Int → Bool) (R : List Rul) (w : Int) : prG Y N R w = ((R.any fun r => r.1 == w && allG Y r) && !(R.any fun r => r.1 == -w && !p82 Y N R w r)) := by
  unfold prG
  rw [any_neg]
  congr 1
  refine all_ext fun s => ?_
  have e : (R.any fun t => (t.1 == w && allG Y t) && decide (t.2.2.2.2 > s.2.2.2.2)) = R.any fun t => t.1 == w && (allG Y t && decide (t.2.2.2.2 > s.2.2.2.2)) := any_ext fun t => Bool.and_assoc _ _ _
  rw [e]
  unfold p82
  rw [show (s.1 != -w) = !(s.1 == -w) from rfl]
  generalize (s.1 == -w) = a
  generalize somG N s = b
  generalize (R.any fun t => t.1 == w && (allG Y t && decide (t.2.2.2.2 > s.2.2.2.2))) = c
  cases a <;> cases b <;> cases c <;> rfl
theorem dsG_eq (Y N : Int → Bool) (R : List Rul) (w : Int) : dsG Y N R w = (!(R.any fun t => t.1 == w && !somG N t) || R.any fun s => s.1 == -w && p85 Y N R w s) := by
  have eb : beatsG Y N R w = R.any fun s => s.1 == -w && p85 Y N R w s := by
    unfold beatsG
    refine any_ext fun s => ?_
    rw [Bool.and_assoc]
    congr 1
    unfold p85 unbG
    rw [any_neg]
    congr 1
    refine all_ext fun t => ?_
    by_cases h : t.2.2.2.2 ≤ s.2.2.2.2
    · have h2 : ¬ t.2.2.2.2 > s.2.2.2.2 := by omega
      simp [h, h2]
    · have h2 : t.2.2.2.2 > s.2.2.2.2 := by omega
      simp only [h, h2, decide_true, decide_false, Bool.or_false, Bool.and_true]
  unfold dsG
  rw [← eb, any_neg]
  cases beatsG Y N R w with
  | true => simp
  | false => simp
def prvP (Y N : Int → Bool) (R : List Rul) (fs : List Int) (w : Int) : Bool := decide (w ∈ fs) || (!decide (-w ∈ fs) && prG Y N R w)
def dsvP (Y N : Int → Bool) (R : List Rul) (fs : List Int) (w : Int) : Bool := !decide (w ∈ fs) && (decide (-w ∈ fs) || dsG Y N R w)
section
variable {R : List Rul} {idx fs : List Int} {p q : List AV}
theorem crt_view (d : Nat) (hp : List Blk) : view d hp (crtA R idx fs p q) = crtA R idx fs p q := rop_view d hp _
theorem pred_holds (hR : Rls R) : Pred (.mv 71 [crtA R idx fs p q]) R (allG (yP p)) :=
  ⟨.mv _ _, fun r hr => holds_call r (hR.ok r hr).2.1, fun d hp => by simp [view_mv, crt_view], rfl⟩
theorem pred_fails (hR : Rls R) : Pred (.mv 74 [crtA R idx fs p q]) R (somG (yP q)) :=
  ⟨.mv _ _, fun r hr => fails_call r (hR.ok r hr).2.1, fun d hp => by simp [view_mv, crt_view], rfl⟩
theorem proves11_call (hR : Rls R) (s t : Rul) (ht : t ∈ R) : CallA Tryz.prog 75 [rulA t, .rop [crtA R idx fs p q], ruP s] [] (Ret (.bool (allG (yP p) t && decide (t.2.2.2.2 > s.2.2.2.2))) []) := by
  have hc := holds_call (R := R) (idx := idx) (fs := fs) (p := p) (q := q) t (hR.ok t ht).2.1
  refine CallP.out (t := .mk) (go_in (md := md75) mixed Tryz.func75 rfl go75 (by kernel_rfl) ?_)
  unfold rulA ruP
  simp only [q0, q1, q2, q3, q4, q5, q6, q7, q8, q9, zr0, zr1, zr2, zr3, zq0, zq1, zq2, zq3, zq4, Nat.reduceAdd, Nat.reduceSub, lenA, convA, indexA, indexS, Int.reduceToNat, cond_true, cond_false, ↓reduceIte, reduceCtorEq, Nat.reduceLT, Nat.reduceLeDiff, Nat.reduceMul, Nat.reduceEqDiff, exists_eq', implies_true, exists_true_left, tys0, tys1, tys2, tys3, tys4, und0, und1, und2, und3, md75, Tryz.ntmps75, Tryz.results75, crtA]
  refine call_ret hc rfl rfl ?_
  simp only [q0, q1, q2, q3, q4, q5, q6, q7, q8, q9, zr0, zr1, zr2, zr3, zq0, zq1, zq2, zq3, zq4, Nat.reduceAdd, Nat.reduceSub, lenA, convA, indexA, indexS, Int.reduceToNat, cond_true, cond_false, ↓reduceIte, reduceCtorEq, Nat.reduceLT, Nat.reduceLeDiff, Nat.reduceMul, Nat.reduceEqDiff, exists_eq', implies_true, exists_true_left, tys0, tys1, tys2, tys3, tys4, und0, und1, und2, und3, md75, Tryz.ntmps75, Tryz.results75, crtA]
  refine br_intro (fun b => ?_) (fun b => ?_) <;> simp only [q0, q1, q2, q3, q4, q5, q6, q7, q8, q9, zr0, zr1, zr2, zr3, zq0, zq1, zq2, zq3, zq4, Nat.reduceAdd, Nat.reduceSub, lenA, convA, indexA, indexS, Int.reduceToNat, cond_true, cond_false, ↓reduceIte, reduceCtorEq, Nat.reduceLT, Nat.reduceLeDiff, Nat.reduceMul, Nat.reduceEqDiff, exists_eq', implies_true, exists_true_left, tys0, tys1, tys2, tys3, tys4, und0, und1, und2, und3, md75, Tryz.ntmps75, Tryz.results75, crtA]
  · rw [b, Bool.true_and]; exact PostR.pure ⟨rfl, rfl⟩ (by rfl)
  · rw [b, Bool.false_and]; exact PostR.pure ⟨rfl, rfl⟩ (by rfl)
theorem disproves11_call (hR : Rls R) (s t : Rul) (ht : t ∈ R) : CallA Tryz.prog 77 [rulA t, .rop [crtA R idx fs p q], ruP s] [] (Ret (.bool (somG (yP q) t || decide (t.2.2.2.2 ≤ s.2.2.2.2))) []) := by
  have hc := fails_call (R := R) (idx := idx) (fs := fs) (p := p) (q := q) t (hR.ok t ht).2.1
  refine CallP.out (t := .mk) (go_in (md := md77) mixed Tryz.func77 rfl go77 (by kernel_rfl) ?_)
  unfold rulA ruP
  simp only [q0, q1, q2, q3, q4, q5, q6, q7, q8, q9, zr0, zr1, zr2, zr3, zq0, zq1, zq2, zq3, zq4, Nat.reduceAdd, Nat.reduceSub, lenA, convA, indexA, indexS, Int.reduceToNat, cond_true, cond_false, ↓reduceIte, reduceCtorEq, Nat.reduceLT, Nat.reduceLeDiff, Nat.reduceMul, Nat.reduceEqDiff, exists_eq', implies_true, exists_true_left, tys0, tys1, tys2, tys3, tys4, und0, und1, und2, und3, md77, Tryz.ntmps77, Tryz.results77, crtA]
  refine call_ret hc rfl rfl ?_
  simp only [q0, q1, q2, q3, q4, q5, q6, q7, q8, q9, zr0, zr1, zr2, zr3, zq0, zq1, zq2, zq3, zq4, Nat.reduceAdd, Nat.reduceSub, lenA, convA, indexA, indexS, Int.reduceToNat, cond_true, cond_false, ↓reduceIte, reduceCtorEq, Nat.reduceLT, Nat.reduceLeDiff, Nat.reduceMul, Nat.reduceEqDiff, exists_eq', implies_true, exists_true_left, tys0, tys1, tys2, tys3, tys4, und0, und1, und2, und3, md77, Tryz.ntmps77, Tryz.results77, crtA]
  refine br_intro (fun b => ?_) (fun b => ?_) <;> simp only [q0, q1, q2, q3, q4, q5, q6, q7, q8, q9, zr0, zr1, zr2, zr3, zq0, zq1, zq2, zq3, zq4, Nat.reduceAdd, Nat.reduceSub, lenA, convA, indexA, indexS, Int.reduceToNat, cond_true, cond_false, ↓reduceIte, reduceCtorEq, Nat.reduceLT, Nat.reduceLeDiff, Nat.reduceMul, Nat.reduceEqDiff, exists_eq', implies_true, exists_true_left, tys0, tys1, tys2, tys3, tys4, und0, und1, und2, und3, md77, Tryz.ntmps77, Tryz.results77, crtA]
  · rw [b, Bool.true_or]; exact PostR.pure ⟨rfl, rfl⟩ (by rfl)
  · rw [b, Bool.false_or]; exact PostR.pure ⟨rfl, rfl⟩ (by rfl)
theorem proves1_call (hR : Rls R) (w : Int) (s : Rul) (hs : s ∈ R) : CallA Tryz.prog 73 [rulA s, .rop [crtA R idx fs p q], .rop [.int .i64 w]] [] (Ret (.bool (p82 (yP p) (yP q) R w s)) []) := by
  have hc := fails_call (R := R) (idx := idx) (fs := fs) (p := p) (q := q) s (hR.ok s hs).2.1
  have G : Pred (.fn 75 [.rop [crtA R idx fs p q], ruP s]) R (fun t => allG (yP p) t && decide (t.2.2.2.2 > s.2.2.2.2)) :=
    ⟨.fn _ _, fun t ht => proves11_call hR s t ht, fun d hp => by simp [view_fn, rop_view, ruP], rfl⟩
  have hs2 := some_call (idx := idx) (fs := fs) (p := p) (q := q) hR.len G w
  refine CallP.out (t := .mk) (go_in (md := md73) mixed Tryz.func73 rfl go73 (by kernel_rfl) ?_)
  unfold rulA
  simp only [q0, q1, q2, q3, q4, q5, q6, q7, q8, q9, zr0, zr1, zr2, zr3, zq0, zq1, zq2, zq3, zq4, Nat.reduceAdd, Nat.reduceSub, lenA, convA, indexA, indexS, Int.reduceToNat, cond_true, cond_false, ↓reduceIte, reduceCtorEq, Nat.reduceLT, Nat.reduceLeDiff, Nat.reduceMul, Nat.reduceEqDiff, exists_eq', implies_true, exists_true_left, tys0, tys1, tys2, tys3, tys4, und0, und1, und2, und3, md73, Tryz.ntmps73, Tryz.results73, crtA]
  refine call_ret hc rfl rfl ?_
  simp only [q0, q1, q2, q3, q4, q5, q6, q7, q8, q9, zr0, zr1, zr2, zr3, zq0, zq1, zq2, zq3, zq4, Nat.reduceAdd, Nat.reduceSub, lenA, convA, indexA, indexS, Int.reduceToNat, cond_true, cond_false, ↓reduceIte, reduceCtorEq, Nat.reduceLT, Nat.reduceLeDiff, Nat.reduceMul, Nat.reduceEqDiff, exists_eq', implies_true, exists_true_left, tys0, tys1, tys2, tys3, tys4, und0, und1, und2, und3, md73, Tryz.ntmps73, Tryz.results73, crtA]
  refine br_intro (fun b => ?_) (fun b => ?_) <;> simp only [q0, q1, q2, q3, q4, q5, q6, q7, q8, q9, zr0, zr1, zr2, zr3, zq0, zq1, zq2, zq3, zq4, Nat.reduceAdd, Nat.reduceSub, lenA, convA, indexA, indexS, Int.reduceToNat, cond_true, cond_false, ↓reduceIte, reduceCtorEq, Nat.reduceLT, Nat.reduceLeDiff, Nat.reduceMul, Nat.reduceEqDiff, exists_eq', implies_true, exists_true_left, tys0, tys1, tys2, tys3, tys4, und0, und1, und2, und3, md73, Tryz.ntmps73, Tryz.results73, crtA]
  · rw [show p82 (yP p) (yP q) R w s = true by unfold p82; rw [b]; rfl]
    exact PostR.pure ⟨rfl, rfl⟩ (by rfl)
  · refine call_lent 3 (by simp [view_ptr, view_fn, view_ro, view_int, AV.cells, crtA, ruP, rop_view]) hs2 rfl rfl ?_
    simp only [q0, q1, q2, q3, q4, q5, q6, q7, q8, q9, zr0, zr1, zr2, zr3, zq0, zq1, zq2, zq3, zq4, Nat.reduceAdd, Nat.reduceSub, lenA, convA, indexA, indexS, Int.reduceToNat, cond_true, cond_false, ↓reduceIte, reduceCtorEq, Nat.reduceLT, Nat.reduceLeDiff, Nat.reduceMul, Nat.reduceEqDiff, exists_eq', implies_true, exists_true_left, tys0, tys1, tys2, tys3, tys4, und0, und1, und2, und3, md73, Tryz.ntmps73, Tryz.results73, crtA]
    rw [show p82 (yP p) (yP q) R w s = R.any fun t => t.1 == w && (allG (yP p) t && decide (t.2.2.2.2 > s.2.2.2.2)) by unfold p82; rw [b]; rfl]
    exact PostR.pure ⟨rfl, rfl⟩ (by rfl)
theorem disproves1_call (hR : Rls R) (w : Int) (s : Rul) (hs : s ∈ R) : CallA Tryz.prog 76 [rulA s, .rop [crtA R idx fs p q], .rop [.int .i64 w]] [] (Ret (.bool (p85 (yP p) (yP q) R w s)) []) := by
  have hc := holds_call (R := R) (idx := idx) (fs := fs) (p := p) (q := q) s (hR.ok s hs).2.1
  have G : Pred (.fn 77 [.rop [crtA R idx fs p q], ruP s]) R (fun t => somG (yP q) t || decide (t.2.2.2.2 ≤ s.2.2.2.2)) :=
    ⟨.fn _ _, fun t ht => disproves11_call hR s t ht, fun d hp => by simp [view_fn, rop_view, ruP], rfl⟩
  have hs2 := every_call (idx := idx) (fs := fs) (p := p) (q := q) hR.len G w
  refine CallP.out (t := .mk) (go_in (md := md76) mixed Tryz.func76 rfl go76 (by kernel_rfl) ?_)
  unfold rulA
  simp only [q0, q1, q2, q3, q4, q5, q6, q7, q8, q9, zr0, zr1, zr2, zr3, zq0, zq1, zq2, zq3, zq4, Nat.reduceAdd, Nat.reduceSub, lenA, convA, indexA, indexS, Int.reduceToNat, cond_true, cond_false, ↓reduceIte, reduceCtorEq, Nat.reduceLT, Nat.reduceLeDiff, Nat.reduceMul, Nat.reduceEqDiff, exists_eq', implies_true, exists_true_left, tys0, tys1, tys2, tys3, tys4, und0, und1, und2, und3, md76, Tryz.ntmps76, Tryz.results76, crtA]
  refine call_ret hc rfl rfl ?_
  simp only [q0, q1, q2, q3, q4, q5, q6, q7, q8, q9, zr0, zr1, zr2, zr3, zq0, zq1, zq2, zq3, zq4, Nat.reduceAdd, Nat.reduceSub, lenA, convA, indexA, indexS, Int.reduceToNat, cond_true, cond_false, ↓reduceIte, reduceCtorEq, Nat.reduceLT, Nat.reduceLeDiff, Nat.reduceMul, Nat.reduceEqDiff, exists_eq', implies_true, exists_true_left, tys0, tys1, tys2, tys3, tys4, und0, und1, und2, und3, md76, Tryz.ntmps76, Tryz.results76, crtA]
  refine br_intro (fun b => ?_) (fun b => ?_) <;> simp only [q0, q1, q2, q3, q4, q5, q6, q7, q8, q9, zr0, zr1, zr2, zr3, zq0, zq1, zq2, zq3, zq4, Nat.reduceAdd, Nat.reduceSub, lenA, convA, indexA, indexS, Int.reduceToNat, cond_true, cond_false, ↓reduceIte, reduceCtorEq, Nat.reduceLT, Nat.reduceLeDiff, Nat.reduceMul, Nat.reduceEqDiff, exists_eq', implies_true, exists_true_left, tys0, tys1, tys2, tys3, tys4, und0, und1, und2, und3, md76, Tryz.ntmps76, Tryz.results76, crtA]
  · refine call_lent 3 (by simp [view_ptr, view_fn, view_ro, view_int, AV.cells, crtA, ruP, rop_view]) hs2 rfl rfl ?_
    simp only [q0, q1, q2, q3, q4, q5, q6, q7, q8, q9, zr0, zr1, zr2, zr3, zq0, zq1, zq2, zq3, zq4, Nat.reduceAdd, Nat.reduceSub, lenA, convA, indexA, indexS, Int.reduceToNat, cond_true, cond_false, ↓reduceIte, reduceCtorEq, Nat.reduceLT, Nat.reduceLeDiff, Nat.reduceMul, Nat.reduceEqDiff, exists_eq', implies_true, exists_true_left, tys0, tys1, tys2, tys3, tys4, und0, und1, und2, und3, md76, Tryz.ntmps76, Tryz.results76, crtA]
    rw [show p85 (yP p) (yP q) R w s = !(R.any fun t => t.1 == w && !(somG (yP q) t || decide (t.2.2.2.2 ≤ s.2.2.2.2))) by unfold p85; rw [b]; rfl]
    exact PostR.pure ⟨rfl, rfl⟩ (by rfl)
  · rw [show p85 (yP p) (yP q) R w s = false by unfold p85; rw [b]; rfl]
    exact PostR.pure ⟨rfl, rfl⟩ (by rfl)
theorem proves_call (hR : Rls R) (hf : fs.length ≤ 1048576) (w : Int) (hw : wordB w = true) : CallA Tryz.prog 54 [crtA R idx fs p q, .int .i64 w] [] (Ret (.bool (prvP (yP p) (yP q) R fs w)) []) := by
  have hlo := wordB_low hw
  have wn : IntKind.i64.wrap (0 - w) = -w := by rw [w64 (by omega) (by omega)]; omega
  have f1 := isFact_call (R := R) (idx := idx) (p := p) (q := q) hf w
  have f2 := isFact_call (R := R) (idx := idx) (p := p) (q := q) hf (-w)
  have s1 := some_call (idx := idx) (fs := fs) (p := p) (q := q) hR.len (pred_holds (idx := idx) (fs := fs) (p := p) (q := q) hR) w
  have G : Pred (.fn 73 [.rop [crtA R idx fs p q], .rop [.int .i64 w]]) R (p82 (yP p) (yP q) R w) :=
    ⟨.fn _ _, fun t ht => proves1_call hR w t ht, fun d hp => by simp [view_fn, rop_view], rfl⟩
  have s2 := every_call (idx := idx) (fs := fs) (p := p) (q := q) hR.len G (-w)
  refine CallP.out (t := .mk) (go_in (md := md54) mixed Tryz.func54 rfl go54 (by kernel_rfl) ?_)
  simp only [q0, q1, q2, q3, q4, q5, q6, q7, q8, q9, zr0, zr1, zr2, zr3, zq0, zq1, zq2, zq3, zq4, Nat.reduceAdd, Nat.reduceSub, lenA, convA, indexA, indexS, Int.reduceToNat, cond_true, cond_false, ↓reduceIte, reduceCtorEq, Nat.reduceLT, Nat.reduceLeDiff, Nat.reduceMul, Nat.reduceEqDiff, exists_eq', implies_true, exists_true_left, tys0, tys1, tys2, tys3, tys4, und0, und1, und2, und3, md54, Tryz.ntmps54, Tryz.results54, crtA]
  refine call_ret f1 rfl rfl ?_
  simp only [q0, q1, q2, q3, q4, q5, q6, q7, q8, q9, zr0, zr1, zr2, zr3, zq0, zq1, zq2, zq3, zq4, Nat.reduceAdd, Nat.reduceSub, lenA, convA, indexA, indexS, Int.reduceToNat, cond_true, cond_false, ↓reduceIte, reduceCtorEq, Nat.reduceLT, Nat.reduceLeDiff, Nat.reduceMul, Nat.reduceEqDiff, exists_eq', implies_true, exists_true_left, tys0, tys1, tys2, tys3, tys4, und0, und1, und2, und3, md54, Tryz.ntmps54, Tryz.results54, crtA]
  refine br_intro (fun b1 => ?_) (fun b1 => ?_) <;> simp only [q0, q1, q2, q3, q4, q5, q6, q7, q8, q9, zr0, zr1, zr2, zr3, zq0, zq1, zq2, zq3, zq4, Nat.reduceAdd, Nat.reduceSub, lenA, convA, indexA, indexS, Int.reduceToNat, cond_true, cond_false, ↓reduceIte, reduceCtorEq, Nat.reduceLT, Nat.reduceLeDiff, Nat.reduceMul, Nat.reduceEqDiff, exists_eq', implies_true, exists_true_left, tys0, tys1, tys2, tys3, tys4, und0, und1, und2, und3, md54, Tryz.ntmps54, Tryz.results54, wn, crtA]
  · rw [show prvP (yP p) (yP q) R fs w = true by unfold prvP; rw [b1]; rfl]
    exact PostR.pure ⟨rfl, rfl⟩ (by rfl)
  refine call_ret f2 rfl rfl ?_
  simp only [q0, q1, q2, q3, q4, q5, q6, q7, q8, q9, zr0, zr1, zr2, zr3, zq0, zq1, zq2, zq3, zq4, Nat.reduceAdd, Nat.reduceSub, lenA, convA, indexA, indexS, Int.reduceToNat, cond_true, cond_false, ↓reduceIte, reduceCtorEq, Nat.reduceLT, Nat.reduceLeDiff, Nat.reduceMul, Nat.reduceEqDiff, exists_eq', implies_true, exists_true_left, tys0, tys1, tys2, tys3, tys4, und0, und1, und2, und3, md54, Tryz.ntmps54, Tryz.results54, crtA]
  refine br_intro (fun b2 => ?_) (fun b2 => ?_) <;> simp only [q0, q1, q2, q3, q4, q5, q6, q7, q8, q9, zr0, zr1, zr2, zr3, zq0, zq1, zq2, zq3, zq4, Nat.reduceAdd, Nat.reduceSub, lenA, convA, indexA, indexS, Int.reduceToNat, cond_true, cond_false, ↓reduceIte, reduceCtorEq, Nat.reduceLT, Nat.reduceLeDiff, Nat.reduceMul, Nat.reduceEqDiff, exists_eq', implies_true, exists_true_left, tys0, tys1, tys2, tys3, tys4, und0, und1, und2, und3, md54, Tryz.ntmps54, Tryz.results54, wn, crtA]
  · rw [show prvP (yP p) (yP q) R fs w = false by unfold prvP; rw [b1, b2]; rfl]
    exact PostR.pure ⟨rfl, rfl⟩ (by rfl)
  refine call_ret s1 rfl rfl ?_
  simp only [q0, q1, q2, q3, q4, q5, q6, q7, q8, q9, zr0, zr1, zr2, zr3, zq0, zq1, zq2, zq3, zq4, Nat.reduceAdd, Nat.reduceSub, lenA, convA, indexA, indexS, Int.reduceToNat, cond_true, cond_false, ↓reduceIte, reduceCtorEq, Nat.reduceLT, Nat.reduceLeDiff, Nat.reduceMul, Nat.reduceEqDiff, exists_eq', implies_true, exists_true_left, tys0, tys1, tys2, tys3, tys4, und0, und1, und2, und3, md54, Tryz.ntmps54, Tryz.results54, wn, crtA]
  refine br_intro (fun b3 => ?_) (fun b3 => ?_) <;> simp only [q0, q1, q2, q3, q4, q5, q6, q7, q8, q9, zr0, zr1, zr2, zr3, zq0, zq1, zq2, zq3, zq4, Nat.reduceAdd, Nat.reduceSub, lenA, convA, indexA, indexS, Int.reduceToNat, cond_true, cond_false, ↓reduceIte, reduceCtorEq, Nat.reduceLT, Nat.reduceLeDiff, Nat.reduceMul, Nat.reduceEqDiff, exists_eq', implies_true, exists_true_left, tys0, tys1, tys2, tys3, tys4, und0, und1, und2, und3, md54, Tryz.ntmps54, Tryz.results54, wn, crtA]
  · refine call_lent 3 (by simp [view_ptr, view_fn, view_ro, view_int, AV.cells, crtA, ruP, rop_view]) s2 rfl rfl ?_
    simp only [q0, q1, q2, q3, q4, q5, q6, q7, q8, q9, zr0, zr1, zr2, zr3, zq0, zq1, zq2, zq3, zq4, Nat.reduceAdd, Nat.reduceSub, lenA, convA, indexA, indexS, Int.reduceToNat, cond_true, cond_false, ↓reduceIte, reduceCtorEq, Nat.reduceLT, Nat.reduceLeDiff, Nat.reduceMul, Nat.reduceEqDiff, exists_eq', implies_true, exists_true_left, tys0, tys1, tys2, tys3, tys4, und0, und1, und2, und3, md54, Tryz.ntmps54, Tryz.results54, crtA]
    rw [show prvP (yP p) (yP q) R fs w = !(R.any fun r => r.1 == -w && !p82 (yP p) (yP q) R w r) by unfold prvP; rw [b1, b2, prG_eq, b3]; rfl]
    exact PostR.pure ⟨rfl, rfl⟩ (by rfl)
  · rw [show prvP (yP p) (yP q) R fs w = false by unfold prvP; rw [b1, b2, prG_eq, b3]; rfl]
    exact PostR.pure ⟨rfl, rfl⟩ (by rfl)
theorem disproves_call (hR : Rls R) (hf : fs.length ≤ 1048576) (w : Int) (hw : wordB w = true) : CallA Tryz.prog 55 [crtA R idx fs p q, .int .i64 w] [] (Ret (.bool (dsvP (yP p) (yP q) R fs w)) []) := by
  have hlo := wordB_low hw
  have wn : IntKind.i64.wrap (0 - w) = -w := by rw [w64 (by omega) (by omega)]; omega
  have f1 := isFact_call (R := R) (idx := idx) (p := p) (q := q) hf w
  have f2 := isFact_call (R := R) (idx := idx) (p := p) (q := q) hf (-w)
  have s1 := every_call (idx := idx) (fs := fs) (p := p) (q := q) hR.len (pred_fails (idx := idx) (fs := fs) (p := p) (q := q) hR) w
  have G : Pred (.fn 76 [.rop [crtA R idx fs p q], .rop [.int .i64 w]]) R (p85 (yP p) (yP q) R w) :=
    ⟨.fn _ _, fun t ht => disproves1_call hR w t ht, fun d hp => by simp [view_fn, rop_view], rfl⟩
  have s2 := some_call (idx := idx) (fs := fs) (p := p) (q := q) hR.len G (-w)
  refine CallP.out (t := .mk) (go_in (md := md55) mixed Tryz.func55 rfl go55 (by kernel_rfl) ?_)
  simp only [q0, q1, q2, q3, q4, q5, q6, q7, q8, q9, zr0, zr1, zr2, zr3, zq0, zq1, zq2, zq3, zq4, Nat.reduceAdd, Nat.reduceSub, lenA, convA, indexA, indexS, Int.reduceToNat, cond_true, cond_false, ↓reduceIte, reduceCtorEq, Nat.reduceLT, Nat.reduceLeDiff, Nat.reduceMul, Nat.reduceEqDiff, exists_eq', implies_true, exists_true_left, tys0, tys1, tys2, tys3, tys4, und0, und1, und2, und3, md55, Tryz.ntmps55, Tryz.results55, crtA]
  refine call_ret f1 rfl rfl ?_
  simp only [q0, q1, q2, q3, q4, q5, q6, q7, q8, q9, zr0, zr1, zr2, zr3, zq0, zq1, zq2, zq3, zq4, Nat.reduceAdd, Nat.reduceSub, lenA, convA, indexA, indexS, Int.reduceToNat, cond_true, cond_false, ↓reduceIte, reduceCtorEq, Nat.reduceLT, Nat.reduceLeDiff, Nat.reduceMul, Nat.reduceEqDiff, exists_eq', implies_true, exists_true_left, tys0, tys1, tys2, tys3, tys4, und0, und1, und2, und3, md55, Tryz.ntmps55, Tryz.results55, crtA]
  refine br_intro (fun b1 => ?_) (fun b1 => ?_) <;> simp only [q0, q1, q2, q3, q4, q5, q6, q7, q8, q9, zr0, zr1, zr2, zr3, zq0, zq1, zq2, zq3, zq4, Nat.reduceAdd, Nat.reduceSub, lenA, convA, indexA, indexS, Int.reduceToNat, cond_true, cond_false, ↓reduceIte, reduceCtorEq, Nat.reduceLT, Nat.reduceLeDiff, Nat.reduceMul, Nat.reduceEqDiff, exists_eq', implies_true, exists_true_left, tys0, tys1, tys2, tys3, tys4, und0, und1, und2, und3, md55, Tryz.ntmps55, Tryz.results55, wn, crtA]
  · rw [show dsvP (yP p) (yP q) R fs w = false by unfold dsvP; rw [b1]; rfl]
    exact PostR.pure ⟨rfl, rfl⟩ (by rfl)
  refine call_ret f2 rfl rfl ?_
  simp only [q0, q1, q2, q3, q4, q5, q6, q7, q8, q9, zr0, zr1, zr2, zr3, zq0, zq1, zq2, zq3, zq4, Nat.reduceAdd, Nat.reduceSub, lenA, convA, indexA, indexS, Int.reduceToNat, cond_true, cond_false, ↓reduceIte, reduceCtorEq, Nat.reduceLT, Nat.reduceLeDiff, Nat.reduceMul, Nat.reduceEqDiff, exists_eq', implies_true, exists_true_left, tys0, tys1, tys2, tys3, tys4, und0, und1, und2, und3, md55, Tryz.ntmps55, Tryz.results55, crtA]
  refine br_intro (fun b2 => ?_) (fun b2 => ?_) <;> simp only [q0, q1, q2, q3, q4, q5, q6, q7, q8, q9, zr0, zr1, zr2, zr3, zq0, zq1, zq2, zq3, zq4, Nat.reduceAdd, Nat.reduceSub, lenA, convA, indexA, indexS, Int.reduceToNat, cond_true, cond_false, ↓reduceIte, reduceCtorEq, Nat.reduceLT, Nat.reduceLeDiff, Nat.reduceMul, Nat.reduceEqDiff, exists_eq', implies_true, exists_true_left, tys0, tys1, tys2, tys3, tys4, und0, und1, und2, und3, md55, Tryz.ntmps55, Tryz.results55, wn, crtA]
  · rw [show dsvP (yP p) (yP q) R fs w = true by unfold dsvP; rw [b1, b2]; rfl]
    exact PostR.pure ⟨rfl, rfl⟩ (by rfl)
  refine call_ret s1 rfl rfl ?_
  simp only [q0, q1, q2, q3, q4, q5, q6, q7, q8, q9, zr0, zr1, zr2, zr3, zq0, zq1, zq2, zq3, zq4, Nat.reduceAdd, Nat.reduceSub, lenA, convA, indexA, indexS, Int.reduceToNat, cond_true, cond_false, ↓reduceIte, reduceCtorEq, Nat.reduceLT, Nat.reduceLeDiff, Nat.reduceMul, Nat.reduceEqDiff, exists_eq', implies_true, exists_true_left, tys0, tys1, tys2, tys3, tys4, und0, und1, und2, und3, md55, Tryz.ntmps55, Tryz.results55, wn, crtA]
  refine br_intro (fun b3 => ?_) (fun b3 => ?_) <;> simp only [q0, q1, q2, q3, q4, q5, q6, q7, q8, q9, zr0, zr1, zr2, zr3, zq0, zq1, zq2, zq3, zq4, Nat.reduceAdd, Nat.reduceSub, lenA, convA, indexA, indexS, Int.reduceToNat, cond_true, cond_false, ↓reduceIte, reduceCtorEq, Nat.reduceLT, Nat.reduceLeDiff, Nat.reduceMul, Nat.reduceEqDiff, exists_eq', implies_true, exists_true_left, tys0, tys1, tys2, tys3, tys4, und0, und1, und2, und3, md55, Tryz.ntmps55, Tryz.results55, wn, crtA]
  · refine call_lent 3 (by simp [view_ptr, view_fn, view_ro, view_int, AV.cells, crtA, ruP, rop_view]) s2 rfl rfl ?_
    simp only [q0, q1, q2, q3, q4, q5, q6, q7, q8, q9, zr0, zr1, zr2, zr3, zq0, zq1, zq2, zq3, zq4, Nat.reduceAdd, Nat.reduceSub, lenA, convA, indexA, indexS, Int.reduceToNat, cond_true, cond_false, ↓reduceIte, reduceCtorEq, Nat.reduceLT, Nat.reduceLeDiff, Nat.reduceMul, Nat.reduceEqDiff, exists_eq', implies_true, exists_true_left, tys0, tys1, tys2, tys3, tys4, und0, und1, und2, und3, md55, Tryz.ntmps55, Tryz.results55, crtA]
    rw [show dsvP (yP p) (yP q) R fs w = R.any fun s => s.1 == -w && p85 (yP p) (yP q) R w s by unfold dsvP; rw [b1, b2, dsG_eq, b3]; rfl]
    exact PostR.pure ⟨rfl, rfl⟩ (by rfl)
  · rw [show dsvP (yP p) (yP q) R fs w = true by unfold dsvP; rw [b1, b2, dsG_eq, b3]; rfl]
    exact PostR.pure ⟨rfl, rfl⟩ (by rfl)
end
end Go.Proofs.YtmllengggncmkaaGreat
