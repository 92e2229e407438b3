/- Days that are proved. -/
import Derived.Test.YtmllengggncmkaaGreatAmC
set_option maxRecDepth 10000
set_option maxHeartbeats 8000000
set_option linter.unusedSimpArgs false
set_option linter.unusedVariables false
namespace Go.Proofs.YtmllengggncmkaaGreat
open Go Go.Abs

def stF (a b : Int) (d : Int) : Bool := decide (a < d) && decide (d ≤ b)
def stL (C : List Int) (a b : Int) : List Int := a :: C.filter (stF a b)
theorem stL_asc {C : List Int} (h : C.Pairwise (· < ·)) (a b : Int) : (stL C a b).Pairwise (· < ·) := by
  refine List.pairwise_cons.2 ⟨fun d hd => ?_, h.filter _⟩
  have := (List.mem_filter.1 hd).2
  unfold stF at this
  rw [Bool.and_eq_true, decide_eq_true_eq] at this
  exact this.1
theorem stL_rng {C : List Int} {a b : Int} (hab : a ≤ b) : ∀ d ∈ stL C a b, a ≤ d ∧ d ≤ b := fun d hd => by
  rcases List.mem_cons.1 hd with rfl | hd
  · exact ⟨Int.le_refl _, hab⟩
  · have := (List.mem_filter.1 hd).2
    unfold stF at this
    rw [Bool.and_eq_true, decide_eq_true_eq, decide_eq_true_eq] at this
    omega
theorem asc_at {S : List Int} (h : S.Pairwise (· < ·)) {i j : Nat} (hij : i < j) (hj : j < S.length) : S[i]'(by omega) < S[j] := List.pairwise_iff_getElem.1 h i j (by omega) hj hij
def sAt (S : List Int) (z : Int) (i : Nat) : Int := S.getD i z
theorem sAt_in {S : List Int} {z : Int} {i : Nat} (h : i < S.length) : sAt S z i = S[i] := by simp [sAt, List.getD_eq_getElem?_getD, h]
theorem sAt_out {S : List Int} {z : Int} {i : Nat} (h : S.length ≤ i) : sAt S z i = z := by simp [sAt, List.getD_eq_getElem?_getD, h]
theorem stL_next {C : List Int} (hC : C.Pairwise (· < ·)) {a b : Int} (hab : a ≤ b) (i : Nat) (hi : i < (stL C a b).length) :
    (stL C a b)[i] < sAt (stL C a b) (b + 1) (i + 1) ∧ sAt (stL C a b) (b + 1) (i + 1) ≤ b + 1 ∧ ∀ d ∈ C, ¬ ((stL C a b)[i] < d ∧ d ≤ sAt (stL C a b) (b + 1) (i + 1) - 1) := by
  have asc := stL_asc hC a b
  have rng := stL_rng (C := C) hab
  have mem : ∀ d ∈ C, a < d → d ≤ b → d ∈ stL C a b := fun d hd h1 h2 => List.mem_cons_of_mem _ (List.mem_filter.2 ⟨hd, by unfold stF; rw [decide_eq_true h1, decide_eq_true h2]; rfl⟩)
  generalize stL C a b = S at *
  have r0 := rng _ (List.getElem_mem hi)
  by_cases h : i + 1 < S.length
  · have e : sAt S (b + 1) (i + 1) = S[i + 1] := sAt_in h
    have r1 := rng _ (List.getElem_mem h)
    have lt := asc_at asc (show i < i + 1 by omega) h
    rw [e]
    refine ⟨lt, by omega, fun d hd hx => ?_⟩
    obtain ⟨j, hj, rfl⟩ := List.mem_iff_getElem.1 (mem d hd (by omega) (by omega))
    rcases Nat.lt_trichotomy j (i + 1) with q | q | q
    · rcases Nat.lt_or_ge j i with q2 | q2
      · have := asc_at asc q2 hi; omega
      · have : j = i := by omega
        subst this; omega
    · subst q; omega
    · have := asc_at asc q hj; omega
  · have e : sAt S (b + 1) (i + 1) = b + 1 := sAt_out (by omega)
    rw [e]
    refine ⟨by omega, by omega, fun d hd hx => ?_⟩
    obtain ⟨j, hj, rfl⟩ := List.mem_iff_getElem.1 (mem d hd (by omega) (by omega))
    rcases Nat.lt_or_ge j i with q2 | q2
    · have := asc_at asc q2 hi; omega
    · have : j = i := by omega
      subst this; omega
theorem cnt_stretch {R : List Rul} {C fs : List Int} (hC : Chs R C) {x : Int} {p : Int → Bool} (hp : ∀ d Y N, Least (R.filter (onB d)) fs Y N → Y x = p d) {a s e : Int} (ha : a ≤ s) (h0 : 0 ≤ s) (hse : s < e) (he : e ≤ 100001) (hn : ∀ d ∈ C, ¬ (s < d ∧ d ≤ e - 1)) {Y N : Int → Bool} (L : Least (R.filter (onB s)) fs Y N) :
    cntP p a (e - a).toNat = cntP p a (s - a).toNat + if Y x = true then e - s else 0 := by
  have h1 : (e - a).toNat = (s - a).toNat + (e - s).toNat := by omega
  rw [h1, cntP_add, show a + (((s - a).toNat : Nat) : Int) = s by omega, cntP_const p s]
  · rw [hp s Y N L, show (((e - s).toNat : Nat) : Int) = e - s by omega]
  · intro i hi
    have hs := on_same hC h0 (show s ≤ s + (i : Int) by omega) (by omega) (fun d hd hx => hn d hd ⟨hx.1, by omega⟩)
    have := hp (s + i) Y N (by rw [hs]; exact L)
    rw [← this, hp s Y N L]

theorem implDaysProved_call {R : List Rul} {fs : List Int} {a b : Int} (A : Ask R fs a) (hb : inR 0 100000 b = true) (hab : a ≤ b) (x : Int) (hx : wordB x = true) {C : List Int} (hC : Chs R C) {p : Int → Bool} (hp : ∀ d Y N, Least (R.filter (onB d)) fs Y N → Y x = p d) :
    CallA Tryz.prog 11 [.ro (R.map rulA), .ro (ints fs), .int .i64 x, .int .i64 a, .int .i64 b] [] (Ret (.tup [.int .i64 (cntP p a (b + 1 - a).toNat), .bool true]) []) := by
  have hl := A.hR.len
  have cl := chs_len hC
  have wx := isWord_call x
  rw [hx] at wx
  have wb := isDate_call b
  rw [hb] at wb
  have ra : 0 ≤ a ∧ a ≤ 100000 := by have := A.hd; unfold inR at this; rw [Bool.and_eq_true, decide_eq_true_eq, decide_eq_true_eq] at this; exact this
  have rb : 0 ≤ b ∧ b ≤ 100000 := by unfold inR at hb; rw [Bool.and_eq_true, decide_eq_true_eq, decide_eq_true_eq] at hb; exact hb
  have cp := fun n => cntP_le p a n
  refine CallP.out (t := .mk) (go_in (md := md11) mixed Tryz.func11 rfl go11 (by kernel_rfl) ?_)
  simp only [q0, q1, q2, q3, q4, q5, q6, q7, q8, q9, zr0, zr1, zr2, zr3, zq0, zq1, zq2, zq3, zq4, Nat.reduceAdd, Nat.reduceSub, lenA, convA, indexA, indexS, Int.reduceToNat, cond_true, cond_false, ↓reduceIte, reduceCtorEq, Nat.reduceLT, Nat.reduceLeDiff, Nat.reduceMul, Nat.reduceEqDiff, exists_eq', implies_true, exists_true_left, tys0, tys1, tys2, tys3, tys4, und0, und1, und2, und3, md11, Tryz.ntmps11, Tryz.results11]
  refine call_ret (areFacts_call A) rfl rfl ?_
  simp only [q0, q1, q2, q3, q4, q5, q6, q7, q8, q9, zr0, zr1, zr2, zr3, zq0, zq1, zq2, zq3, zq4, Nat.reduceAdd, Nat.reduceSub, lenA, convA, indexA, indexS, Int.reduceToNat, cond_true, cond_false, ↓reduceIte, reduceCtorEq, Nat.reduceLT, Nat.reduceLeDiff, Nat.reduceMul, Nat.reduceEqDiff, exists_eq', implies_true, exists_true_left, tys0, tys1, tys2, tys3, tys4, und0, und1, und2, und3, md11, Tryz.ntmps11, Tryz.results11]
  refine call_ret wx rfl rfl ?_
  simp only [q0, q1, q2, q3, q4, q5, q6, q7, q8, q9, zr0, zr1, zr2, zr3, zq0, zq1, zq2, zq3, zq4, Nat.reduceAdd, Nat.reduceSub, lenA, convA, indexA, indexS, Int.reduceToNat, cond_true, cond_false, ↓reduceIte, reduceCtorEq, Nat.reduceLT, Nat.reduceLeDiff, Nat.reduceMul, Nat.reduceEqDiff, exists_eq', implies_true, exists_true_left, tys0, tys1, tys2, tys3, tys4, und0, und1, und2, und3, md11, Tryz.ntmps11, Tryz.results11]
  refine call_ret wb rfl rfl ?_
  simp only [q0, q1, q2, q3, q4, q5, q6, q7, q8, q9, zr0, zr1, zr2, zr3, zq0, zq1, zq2, zq3, zq4, Nat.reduceAdd, Nat.reduceSub, lenA, convA, indexA, indexS, Int.reduceToNat, cond_true, cond_false, ↓reduceIte, reduceCtorEq, Nat.reduceLT, Nat.reduceLeDiff, Nat.reduceMul, Nat.reduceEqDiff, exists_eq', implies_true, exists_true_left, tys0, tys1, tys2, tys3, tys4, und0, und1, und2, und3, md11, Tryz.ntmps11, Tryz.results11, show decide (b < a) = false from decide_eq_false (by omega)]
  refine call_ret (changes_call R A.rb (by omega) hC) rfl rfl ?_
  simp only [q0, q1, q2, q3, q4, q5, q6, q7, q8, q9, zr0, zr1, zr2, zr3, zq0, zq1, zq2, zq3, zq4, Nat.reduceAdd, Nat.reduceSub, lenA, convA, indexA, indexS, Int.reduceToNat, cond_true, cond_false, ↓reduceIte, reduceCtorEq, Nat.reduceLT, Nat.reduceLeDiff, Nat.reduceMul, Nat.reduceEqDiff, exists_eq', implies_true, exists_true_left, tys0, tys1, tys2, tys3, tys4, und0, und1, und2, und3, md11, Tryz.ntmps11, Tryz.results11, ints_len]
  have ss : ∀ k, (h : k < C.length) → stL (C.take (k + 1)) a b = stL (C.take k) a b ++ if stF a b C[k] = true then [C[k]] else [] := fun k h => by
    unfold stL
    rw [take_filt _ _ _ h]; rfl
  have sl : ∀ k, (stL (C.take k) a b).length ≤ k + 1 := fun k => by
    unfold stL
    have := List.length_filter_le (stF a b) (C.take k)
    rw [List.length_take] at this
    simp only [List.length_cons]
    omega
  refine go_round (md := md11) mixed (by kernel_rfl) (fun k : {k : Nat // k ≤ C.length} => ⟨[.ro (R.map rulA), .ro (ints fs), .int .i64 x, .int .i64 a, .int .i64 b, .any, .any, .any, .any, .any, .any, .any, .sl 0 0 (stL (C.take k.1) a b).length, .int .i64 0, .any, .any, .any, .any, .any, .any, .any, .any, .any, .any, .any, .any, .any, .any, .any, .any, .any, .any, .any, .any, .any, .any, .any, .any, .any, .any, .any, .any, .ro (ints C), .int .i64 C.length, .int .i64 k.1, .any, .any, .any, .any, .any, .any, .any, .any, .any, .any, .any, .any, .any, .any, .any, .any, .any, .any, .any, .any, .any, .any, .any, .any, .any, .any, .any, .any, .any, .any, .any, .any, .any, .any, .any, .any, .any, .any, .any, .any, .any, .any, .any, .any, .any, .any, .any, .any, .any, .any, .any], [intB (stL (C.take k.1) a b)]⟩) (fun k => C.length - k.1) ⟨0, Nat.zero_le _⟩ ?_ ?_
  · exact weak_drop (by simp) (by simp [DropHp, ints_below, flts_below, intB, allBelow_cons, allBelow_nil, below, belowM, belowL, List.take_zero, show stL [] a b = [a] from rfl, show ints [a] = [.int .i64 a] from rfl, List.length_singleton]) (by simp [DropTm, DropV, below, belowM, belowL, intB, allBelow_cons, allBelow_nil, below, belowM, belowL, List.take_zero, show stL [] a b = [a] from rfl, show ints [a] = [.int .i64 a] from rfl, List.length_singleton])
  rintro ⟨k, hk⟩
  have slk := sl k
  simp only [q0, q1, q2, q3, q4, q5, q6, q7, q8, q9, zr0, zr1, zr2, zr3, zq0, zq1, zq2, zq3, zq4, Nat.reduceAdd, Nat.reduceSub, lenA, convA, indexA, indexS, Int.reduceToNat, cond_true, cond_false, ↓reduceIte, reduceCtorEq, Nat.reduceLT, Nat.reduceLeDiff, Nat.reduceMul, Nat.reduceEqDiff, exists_eq', implies_true, exists_true_left, tys0, tys1, tys2, tys3, tys4, und0, und1, und2, und3, md11, Tryz.ntmps11, Tryz.results11, intB, ints_len]
  refine br_intro (fun h1 => ?_) (fun h1 => ?_) <;> simp only [q0, q1, q2, q3, q4, q5, q6, q7, q8, q9, zr0, zr1, zr2, zr3, zq0, zq1, zq2, zq3, zq4, Nat.reduceAdd, Nat.reduceSub, lenA, convA, indexA, indexS, Int.reduceToNat, cond_true, cond_false, ↓reduceIte, reduceCtorEq, Nat.reduceLT, Nat.reduceLeDiff, Nat.reduceMul, Nat.reduceEqDiff, exists_eq', implies_true, exists_true_left, tys0, tys1, tys2, tys3, tys4, und0, und1, und2, und3, md11, Tryz.ntmps11, Tryz.results11, intB, ints_len]
  · have hk' : k < C.length := by have := of_decide_eq_true h1; omega
    have es := ss k hk'
    have wk := w64_succ k (by omega)
    have el : (stL (C.take k) a b).length + 1 = (stL (C.take k) a b ++ [C[k]]).length := by simp
    refine ⟨hk', ?_⟩
    refine br_intro (fun h2 => ?_) (fun h2 => ?_) <;> simp only [q0, q1, q2, q3, q4, q5, q6, q7, q8, q9, zr0, zr1, zr2, zr3, zq0, zq1, zq2, zq3, zq4, Nat.reduceAdd, Nat.reduceSub, lenA, convA, indexA, indexS, Int.reduceToNat, cond_true, cond_false, ↓reduceIte, reduceCtorEq, Nat.reduceLT, Nat.reduceLeDiff, Nat.reduceMul, Nat.reduceEqDiff, exists_eq', implies_true, exists_true_left, tys0, tys1, tys2, tys3, tys4, und0, und1, und2, und3, md11, Tryz.ntmps11, Tryz.results11, intB, ints_len, allW_int, fits, List.isEmpty_cons, brk_false, Nat.reduceMul]
    · refine br_intro (fun h3 => ?_) (fun h3 => ?_) <;> simp only [q0, q1, q2, q3, q4, q5, q6, q7, q8, q9, zr0, zr1, zr2, zr3, zq0, zq1, zq2, zq3, zq4, Nat.reduceAdd, Nat.reduceSub, lenA, convA, indexA, indexS, Int.reduceToNat, cond_true, cond_false, ↓reduceIte, reduceCtorEq, Nat.reduceLT, Nat.reduceLeDiff, Nat.reduceMul, Nat.reduceEqDiff, exists_eq', implies_true, exists_true_left, tys0, tys1, tys2, tys3, tys4, und0, und1, und2, und3, md11, Tryz.ntmps11, Tryz.results11, intB, ints_len, allW_int, fits, List.isEmpty_cons, brk_false, Nat.reduceMul]
      · rw [show stF a b C[k] = true from by unfold stF; rw [h2, h3]; rfl, if_pos rfl] at es
        refine ⟨by omega, ⟨k + 1, by omega⟩, by show C.length - (k + 1) < _; omega, ?_⟩
        dsimp only
        rw [el, ← es]
        exact weak_drop (by simp) (by simp [DropHp, ints_below, flts_below, wk, intB, allBelow_cons, allBelow_nil, below, belowM, belowL]) (by simp [DropTm, DropV, below, belowM, belowL, wk, intB, allBelow_cons, allBelow_nil, below, belowM, belowL])
      · rw [show stF a b C[k] = false from by unfold stF; rw [h2, h3]; rfl, if_neg (by decide), List.append_nil] at es
        refine ⟨⟨k + 1, by omega⟩, by show C.length - (k + 1) < _; omega, ?_⟩
        exact weak_drop (by simp) (by simp [DropHp, ints_below, flts_below, wk, intB, allBelow_cons, allBelow_nil, below, belowM, belowL, es]) (by simp [DropTm, DropV, below, belowM, belowL, wk, intB, allBelow_cons, allBelow_nil, below, belowM, belowL, es])
    · rw [show stF a b C[k] = false from by unfold stF; rw [h2]; rfl, if_neg (by decide), List.append_nil] at es
      refine ⟨⟨k + 1, by omega⟩, by show C.length - (k + 1) < _; omega, ?_⟩
      exact weak_drop (by simp) (by simp [DropHp, ints_below, flts_below, wk, intB, allBelow_cons, allBelow_nil, below, belowM, belowL, es]) (by simp [DropTm, DropV, below, belowM, belowL, wk, intB, allBelow_cons, allBelow_nil, below, belowM, belowL, es])
  · have hk' : k = C.length := by have := of_decide_eq_false h1; omega
    subst hk'
    rw [List.take_length] at slk ⊢
    have nx := stL_next hC.asc hab
    have rg := stL_rng (C := C) hab
    have s0 : sAt (stL C a b) (b + 1) 0 = a := rfl
    have hS1 : 1 ≤ (stL C a b).length := by unfold stL; simp
    generalize stL C a b = S at *
    refine go_round (md := md11) mixed (by kernel_rfl) (fun i : {i : Nat // i ≤ S.length} => ⟨[.ro (R.map rulA), .ro (ints fs), .int .i64 x, .any, .int .i64 b, .any, .any, .any, .any, .any, .any, .any, .sl 0 0 S.length, .int .i64 (cntP p a (sAt S (b + 1) i.1 - a).toNat), .any, .any, .any, .any, .any, .any, .any, .any, .any, .any, .any, .any, .any, .any, .any, .any, .any, .any, .any, .any, .any, .any, .any, .any, .any, .any, .any, .any, .any, .any, .any, .any, .any, .any, .any, .any, .any, .any, .any, .any, .any, .any, .any, .any, .any, .any, .any, .sl 0 0 S.length, .int .i64 S.length, .int .i64 i.1, .any, .any, .any, .any, .any, .any, .any, .any, .any, .any, .any, .any, .any, .any, .any, .any, .any, .any, .any, .any, .any, .any, .any, .any, .any, .any, .any, .any, .any, .any, .any, .any], [intB S]⟩) (fun i => S.length - i.1) ⟨0, Nat.zero_le _⟩ ?_ ?_
    · exact weak_drop (by simp) (by simp [DropHp, ints_below, flts_below, intB, allBelow_cons, allBelow_nil, below, belowM, belowL, s0, Int.sub_self, show cntP p a (0 : Int).toNat = 0 from rfl, show cntP p a 0 = 0 from rfl]) (by simp [DropTm, DropV, below, belowM, belowL, intB, allBelow_cons, allBelow_nil, below, belowM, belowL, s0, Int.sub_self, show cntP p a (0 : Int).toNat = 0 from rfl, show cntP p a 0 = 0 from rfl])
    rintro ⟨i, hi⟩
    simp only [q0, q1, q2, q3, q4, q5, q6, q7, q8, q9, zr0, zr1, zr2, zr3, zq0, zq1, zq2, zq3, zq4, Nat.reduceAdd, Nat.reduceSub, lenA, convA, indexA, indexS, Int.reduceToNat, cond_true, cond_false, ↓reduceIte, reduceCtorEq, Nat.reduceLT, Nat.reduceLeDiff, Nat.reduceMul, Nat.reduceEqDiff, exists_eq', implies_true, exists_true_left, tys0, tys1, tys2, tys3, tys4, und0, und1, und2, und3, md11, Tryz.ntmps11, Tryz.results11, intB, ints_len]
    refine br_intro (fun h4 => ?_) (fun h4 => ?_) <;> simp only [q0, q1, q2, q3, q4, q5, q6, q7, q8, q9, zr0, zr1, zr2, zr3, zq0, zq1, zq2, zq3, zq4, Nat.reduceAdd, Nat.reduceSub, lenA, convA, indexA, indexS, Int.reduceToNat, cond_true, cond_false, ↓reduceIte, reduceCtorEq, Nat.reduceLT, Nat.reduceLeDiff, Nat.reduceMul, Nat.reduceEqDiff, exists_eq', implies_true, exists_true_left, tys0, tys1, tys2, tys3, tys4, und0, und1, und2, und3, md11, Tryz.ntmps11, Tryz.results11, intB, ints_len]
    · have hi' : i < S.length := by have := of_decide_eq_true h4; omega
      have wi := w64_succ i (by omega)
      have wb1 : IntKind.i64.wrap (b + 1) = b + 1 := w64 (by omega) (by omega)
      obtain ⟨n1, n2, n3⟩ := nx i hi'
      have n4 := rg _ (List.getElem_mem hi')
      refine ⟨by omega, by omega, ?_⟩
      simp only [q0, q1, q2, q3, q4, q5, q6, q7, q8, q9, zr0, zr1, zr2, zr3, zq0, zq1, zq2, zq3, zq4, Nat.reduceAdd, Nat.reduceSub, lenA, convA, indexA, indexS, Int.reduceToNat, cond_true, cond_false, ↓reduceIte, reduceCtorEq, Nat.reduceLT, Nat.reduceLeDiff, Nat.reduceMul, Nat.reduceEqDiff, exists_eq', implies_true, exists_true_left, tys0, tys1, tys2, tys3, tys4, und0, und1, und2, und3, md11, Tryz.ntmps11, Tryz.results11, intB, ints_len, wi, wb1]
      have si := sAt_in (z := b + 1) hi'
      have c1 := cp (S[i] - a).toNat
      have ww : ∀ e, S[i] < e ∧ e ≤ b + 1 → IntKind.i64.wrap (cntP p a (S[i] - a).toNat + IntKind.i64.wrap (e - S[i])) = cntP p a (S[i] - a).toNat + (e - S[i]) := fun e he => by
        have h1 : IntKind.i64.wrap (e - S[i]) = e - S[i] := w64 (by omega) (by omega)
        rw [h1]
        exact w64 (by omega) (by omega)
      refine br_intro (fun h5 => ?_) (fun h5 => ?_) <;> simp only [q0, q1, q2, q3, q4, q5, q6, q7, q8, q9, zr0, zr1, zr2, zr3, zq0, zq1, zq2, zq3, zq4, Nat.reduceAdd, Nat.reduceSub, lenA, convA, indexA, indexS, Int.reduceToNat, cond_true, cond_false, ↓reduceIte, reduceCtorEq, Nat.reduceLT, Nat.reduceLeDiff, Nat.reduceMul, Nat.reduceEqDiff, exists_eq', implies_true, exists_true_left, tys0, tys1, tys2, tys3, tys4, und0, und1, und2, und3, md11, Tryz.ntmps11, Tryz.results11, intB, ints_len, wi, si]
      · have h6 : i + 1 < S.length := by have := of_decide_eq_true h5; omega
        have n5 : sAt S (b + 1) (i + 1) = S[i + 1] := sAt_in h6
        have n6 : S[i] < S[i + 1] ∧ S[i + 1] ≤ b + 1 := by rw [← n5]; exact ⟨n1, n2⟩
        refine ⟨by omega, by omega, ?_⟩
        refine call_newQ (judged_call R A.hR fs A.hf S[i]) rfl ?_
        rintro r new ⟨pp, qq, L, rfl, rfl⟩
        refine ⟨by simp, ?_⟩
        have cs := cnt_stretch hC hp (a := a) n4.1 (by omega) n1 (by omega) n3 L
        rw [n5] at cs n1 n2
        generalize R.filter (onB S[i]) = RA at *
        generalize idxD R S[i] R.length = I at *
        simp only [q0, q1, q2, q3, q4, q5, q6, q7, q8, q9, zr0, zr1, zr2, zr3, zq0, zq1, zq2, zq3, zq4, Nat.reduceAdd, Nat.reduceSub, lenA, convA, indexA, indexS, Int.reduceToNat, cond_true, cond_false, ↓reduceIte, reduceCtorEq, Nat.reduceLT, Nat.reduceLeDiff, Nat.reduceMul, Nat.reduceEqDiff, exists_eq', implies_true, exists_true_left, tys0, tys1, tys2, tys3, tys4, und0, und1, und2, und3, md11, Tryz.ntmps11, Tryz.results11, intB, ints_len, wi, wb1, crtA, ren, renM, renL]
        refine br_intro (fun b6 => ?_) (fun b6 => ?_) <;> simp only [q0, q1, q2, q3, q4, q5, q6, q7, q8, q9, zr0, zr1, zr2, zr3, zq0, zq1, zq2, zq3, zq4, Nat.reduceAdd, Nat.reduceSub, lenA, convA, indexA, indexS, Int.reduceToNat, cond_true, cond_false, ↓reduceIte, reduceCtorEq, Nat.reduceLT, Nat.reduceLeDiff, Nat.reduceMul, Nat.reduceEqDiff, exists_eq', implies_true, exists_true_left, tys0, tys1, tys2, tys3, tys4, und0, und1, und2, und3, md11, Tryz.ntmps11, Tryz.results11, intB, ints_len, wi, crtA]
        · rw [if_pos (show yP (pp.map entA) x = true from b6)] at cs
          refine ⟨⟨i + 1, by omega⟩, by show S.length - (i + 1) < _; omega, ?_⟩
          have w1 := ww _ n6
          exact weak_drop (by simp) (by simp [DropHp, ints_below, flts_below, intB, allBelow_cons, allBelow_nil, below, belowM, belowL, wi, n5, w1, cs]) (by simp [DropTm, DropV, below, belowM, belowL, intB, allBelow_cons, allBelow_nil, below, belowM, belowL, wi, n5, w1, cs])
        · rw [if_neg (show ¬ (yP (pp.map entA) x = true) from by show ¬ (lookE x (pp.map entA) = true); rw [b6]; decide), Int.add_zero] at cs
          refine ⟨⟨i + 1, by omega⟩, by show S.length - (i + 1) < _; omega, ?_⟩
          exact weak_drop (by simp) (by simp [DropHp, ints_below, flts_below, intB, allBelow_cons, allBelow_nil, below, belowM, belowL, wi, n5, cs]) (by simp [DropTm, DropV, below, belowM, belowL, intB, allBelow_cons, allBelow_nil, below, belowM, belowL, wi, n5, cs])
      · have n5 : sAt S (b + 1) (i + 1) = b + 1 := sAt_out (by have := of_decide_eq_false h5; omega)
        have n6 : S[i] < b + 1 ∧ b + 1 ≤ b + 1 := by omega
        refine call_newQ (judged_call R A.hR fs A.hf S[i]) rfl ?_
        rintro r new ⟨pp, qq, L, rfl, rfl⟩
        refine ⟨by simp, ?_⟩
        have cs := cnt_stretch hC hp (a := a) n4.1 (by omega) n1 (by omega) n3 L
        rw [n5] at cs n1 n2
        generalize R.filter (onB S[i]) = RA at *
        generalize idxD R S[i] R.length = I at *
        simp only [q0, q1, q2, q3, q4, q5, q6, q7, q8, q9, zr0, zr1, zr2, zr3, zq0, zq1, zq2, zq3, zq4, Nat.reduceAdd, Nat.reduceSub, lenA, convA, indexA, indexS, Int.reduceToNat, cond_true, cond_false, ↓reduceIte, reduceCtorEq, Nat.reduceLT, Nat.reduceLeDiff, Nat.reduceMul, Nat.reduceEqDiff, exists_eq', implies_true, exists_true_left, tys0, tys1, tys2, tys3, tys4, und0, und1, und2, und3, md11, Tryz.ntmps11, Tryz.results11, intB, ints_len, wi, wb1, crtA, ren, renM, renL]
        refine br_intro (fun b6 => ?_) (fun b6 => ?_) <;> simp only [q0, q1, q2, q3, q4, q5, q6, q7, q8, q9, zr0, zr1, zr2, zr3, zq0, zq1, zq2, zq3, zq4, Nat.reduceAdd, Nat.reduceSub, lenA, convA, indexA, indexS, Int.reduceToNat, cond_true, cond_false, ↓reduceIte, reduceCtorEq, Nat.reduceLT, Nat.reduceLeDiff, Nat.reduceMul, Nat.reduceEqDiff, exists_eq', implies_true, exists_true_left, tys0, tys1, tys2, tys3, tys4, und0, und1, und2, und3, md11, Tryz.ntmps11, Tryz.results11, intB, ints_len, wi, crtA]
        · rw [if_pos (show yP (pp.map entA) x = true from b6)] at cs
          refine ⟨⟨i + 1, by omega⟩, by show S.length - (i + 1) < _; omega, ?_⟩
          have w1 := ww _ n6
          exact weak_drop (by simp) (by simp [DropHp, ints_below, flts_below, intB, allBelow_cons, allBelow_nil, below, belowM, belowL, wi, n5, w1, cs]) (by simp [DropTm, DropV, below, belowM, belowL, intB, allBelow_cons, allBelow_nil, below, belowM, belowL, wi, n5, w1, cs])
        · rw [if_neg (show ¬ (yP (pp.map entA) x = true) from by show ¬ (lookE x (pp.map entA) = true); rw [b6]; decide), Int.add_zero] at cs
          refine ⟨⟨i + 1, by omega⟩, by show S.length - (i + 1) < _; omega, ?_⟩
          exact weak_drop (by simp) (by simp [DropHp, ints_below, flts_below, intB, allBelow_cons, allBelow_nil, below, belowM, belowL, wi, n5, cs]) (by simp [DropTm, DropV, below, belowM, belowL, intB, allBelow_cons, allBelow_nil, below, belowM, belowL, wi, n5, cs])
    · have hi' : i = S.length := by have := of_decide_eq_false h4; omega
      subst hi'
      have si := sAt_out (S := S) (z := b + 1) (Nat.le_refl _)
      rw [si]
      exact PostR.pure ⟨rfl, rfl⟩ (by rfl)
end Go.Proofs.YtmllengggncmkaaGreat
