/- Storing all: both sides, the law. -/
import Derived.Test.YtigipcckflcilaaGreatDoorStK
set_option maxRecDepth 10000
set_option maxHeartbeats 4000000
set_option linter.unusedSimpArgs false
set_option linter.unusedVariables false
namespace Go.Proofs.YtigipcckflcilaaGreatDoor
open Go Go.Abs

def allT : List Sav → List UInt8
  | [] => []
  | s :: A => storeT s ++ allT A
theorem allT_snoc (s : Sav) : ∀ A, allT (A ++ [s]) = allT A ++ storeT s
  | [] => by simp [allT]
  | q :: A => by rw [List.cons_append, allT, allT_snoc s A, allT, List.append_assoc]
theorem allT_take (A : List Sav) (i : Nat) (h : i < A.length) : allT (A.take (i + 1)) = allT (A.take i) ++ storeT A[i] := by rw [take_snoc _ _ h, allT_snoc]
theorem storeT_len {s : Sav} (h : OkS s) : (storeT s).length ≤ 6200 := by
  have := h.body
  unfold storeT
  rw [List.length_append, le_len]
  omega
theorem allT_len : ∀ (A : List Sav), (∀ s ∈ A, validB s = true) → (allT A).length ≤ A.length * 6200
  | [], _ => by simp [allT]
  | s :: A, h => by
    have h1 := storeT_len (okS_of (h s List.mem_cons_self))
    have h2 := allT_len A (fun q hq => h q (List.mem_cons_of_mem _ hq))
    rw [allT, List.length_append, List.length_cons]
    omega
def okA (A : List Sav) : Bool := decide (A.length ≤ 8) && A.all validB
def outA (A : List Sav) : List UInt8 := if okA A = true then allT A else []
theorem outA_yes {A : List Sav} (h : okA A = true) : outA A = allT A := by unfold outA; rw [if_pos h]
theorem outA_no {A : List Sav} (h : okA A = false) : outA A = [] := by unfold outA; rw [if_neg (by simp [h])]
theorem okA_bad {A : List Sav} {i : Nat} (hi : i < A.length) (h : validB A[i] = false) : okA A = false := by
  unfold okA
  have : A.all validB = false := by
    rw [List.all_eq_false]
    exact ⟨A[i], List.getElem_mem hi, by simp [h]⟩
  rw [this, Bool.and_false]
theorem okA_good {A : List Sav} (h : A.length ≤ 8) (hv : ∀ s ∈ A, validB s = true) : okA A = true := by
  unfold okA
  rw [decide_eq_true h, List.all_eq_true.2 hv]; rfl
theorem take_more {A : List Sav} {i : Nat} (hi : i < A.length) (hv : ∀ s ∈ A.take i, validB s = true) (h : validB A[i] = true) : ∀ s ∈ A.take (i + 1), validB s = true := by
  intro s hs
  rw [take_snoc _ _ hi] at hs
  rcases List.mem_append.1 hs with m | m
  · exact hv s m
  · rw [List.mem_singleton.1 m]; exact h
theorem implAll_call (A : List Sav) (hm : A.length ≤ 1048576) (hs : ∀ s ∈ A, sizS s ≤ 1048576) : CallA Tryz.prog 13 [.ro (A.map savA)] [] (Ret (.tup [.str (outA A), .bool (okA A)]) []) := by
  refine CallP.out (t := .mk) (go_in (md := md13) mixed Tryz.func13 rfl go13 (by kernel_rfl) ?_)
  simp only [q0, q1, q2, q3, q4, q5, q6, q7, q8, q9, zr0, zr1, zr2, zr3, zq0, zq1, zq2, zq3, zq4, Nat.reduceAdd, Nat.reduceSub, lenA, convA, indexA, indexS, Int.reduceToNat, cond_true, cond_false, ↓reduceIte, reduceCtorEq, Nat.reduceLT, Nat.reduceLeDiff, Nat.reduceMul, Nat.reduceEqDiff, exists_eq', implies_true, exists_true_left, tys0, tys1, tys2, und0, und1, md13, Tryz.ntmps13, Tryz.results13, List.length_map]
  refine br_intro (fun c => ?_) (fun c => ?_) <;> simp only [q0, q1, q2, q3, q4, q5, q6, q7, q8, q9, zr0, zr1, zr2, zr3, zq0, zq1, zq2, zq3, zq4, Nat.reduceAdd, Nat.reduceSub, lenA, convA, indexA, indexS, Int.reduceToNat, cond_true, cond_false, ↓reduceIte, reduceCtorEq, Nat.reduceLT, Nat.reduceLeDiff, Nat.reduceMul, Nat.reduceEqDiff, exists_eq', implies_true, exists_true_left, tys0, tys1, tys2, und0, und1, md13, Tryz.ntmps13, Tryz.results13, List.length_map]
  · have e : okA A = false := by unfold okA; rw [decide_eq_false (by have := of_decide_eq_true c; omega), Bool.false_and]
    exact PostR.pure ⟨by rw [outA_no e, e], rfl⟩ rfl
  have hl : A.length ≤ 8 := by have := of_decide_eq_false c; omega
  refine go_round (md := md13) mixed (by kernel_rfl) (fun i : {i : Nat // i ≤ A.length ∧ ∀ s ∈ A.take i, validB s = true} => ⟨[.any, .any, .any, .any, .str (allT (A.take i.1)), .any, .any, .any, .any, .any, .any, .any, .ro (A.map savA), .int .i64 A.length, .int .i64 i.1, .any, .any, .any, .any, .any, .any, .any, .any, .any, .any, .any, .any, .any, .any, .any], []⟩) (fun i => A.length - i.1) ⟨0, by omega, by simp⟩ ?_ ?_
  · exact weak_drop (by simp) (by simp [DropHp, ints_below, flts_below, allT]) (by simp [DropTm, DropV, below, belowM, belowL, allT])
  rintro ⟨i, hi, hv⟩
  have tl := allT_len (A.take i) hv
  have tk : (A.take i).length = i := by rw [List.length_take]; omega
  have nx := fun h : i < A.length => allT_take A i h
  generalize hT : allT (A.take i) = T at tl nx
  simp only [q0, q1, q2, q3, q4, q5, q6, q7, q8, q9, zr0, zr1, zr2, zr3, zq0, zq1, zq2, zq3, zq4, Nat.reduceAdd, Nat.reduceSub, lenA, convA, indexA, indexS, Int.reduceToNat, cond_true, cond_false, ↓reduceIte, reduceCtorEq, Nat.reduceLT, Nat.reduceLeDiff, Nat.reduceMul, Nat.reduceEqDiff, exists_eq', implies_true, exists_true_left, tys0, tys1, tys2, und0, und1, md13, Tryz.ntmps13, Tryz.results13, List.length_map, List.getElem_map]
  refine br_intro (fun g => ?_) (fun g => ?_) <;> simp only [q0, q1, q2, q3, q4, q5, q6, q7, q8, q9, zr0, zr1, zr2, zr3, zq0, zq1, zq2, zq3, zq4, Nat.reduceAdd, Nat.reduceSub, lenA, convA, indexA, indexS, Int.reduceToNat, cond_true, cond_false, ↓reduceIte, reduceCtorEq, Nat.reduceLT, Nat.reduceLeDiff, Nat.reduceMul, Nat.reduceEqDiff, exists_eq', implies_true, exists_true_left, tys0, tys1, tys2, und0, und1, md13, Tryz.ntmps13, Tryz.results13, List.length_map, List.getElem_map]
  · have hi' : i < A.length := by have := of_decide_eq_true g; omega
    have hI : (i : Int) < (A.length : Int) := by omega
    have nx := nx hi'
    have ls := implStore_call A[i] (hs _ (List.getElem_mem hi'))
    unfold savA at ls
    have sl := fun v : validB A[i] = true => storeT_len (s := A[i]) (okS_of v)
    have w1 : IntKind.i64.wrap ((i : Int) + 1) = ((i + 1 : Nat) : Int) := by rw [w64 (by omega) (by omega)]; omega
    simp only [q0, q1, q2, q3, q4, q5, q6, q7, q8, q9, zr0, zr1, zr2, zr3, zq0, zq1, zq2, zq3, zq4, Nat.reduceAdd, Nat.reduceSub, lenA, convA, indexA, indexS, Int.reduceToNat, cond_true, cond_false, ↓reduceIte, reduceCtorEq, Nat.reduceLT, Nat.reduceLeDiff, Nat.reduceMul, Nat.reduceEqDiff, exists_eq', implies_true, exists_true_left, tys0, tys1, tys2, und0, und1, md13, Tryz.ntmps13, Tryz.results13, List.length_map, List.getElem_map, savA, hi', hI]
    refine call_ret ls rfl rfl ?_
    simp only [q0, q1, q2, q3, q4, q5, q6, q7, q8, q9, zr0, zr1, zr2, zr3, zq0, zq1, zq2, zq3, zq4, Nat.reduceAdd, Nat.reduceSub, lenA, convA, indexA, indexS, Int.reduceToNat, cond_true, cond_false, ↓reduceIte, reduceCtorEq, Nat.reduceLT, Nat.reduceLeDiff, Nat.reduceMul, Nat.reduceEqDiff, exists_eq', implies_true, exists_true_left, tys0, tys1, tys2, und0, und1, md13, Tryz.ntmps13, Tryz.results13, List.length_map, List.getElem_map, savA, hi', hI]
    refine br_intro (fun v => ?_) (fun v => ?_) <;> simp only [q0, q1, q2, q3, q4, q5, q6, q7, q8, q9, zr0, zr1, zr2, zr3, zq0, zq1, zq2, zq3, zq4, Nat.reduceAdd, Nat.reduceSub, lenA, convA, indexA, indexS, Int.reduceToNat, cond_true, cond_false, ↓reduceIte, reduceCtorEq, Nat.reduceLT, Nat.reduceLeDiff, Nat.reduceMul, Nat.reduceEqDiff, exists_eq', implies_true, exists_true_left, tys0, tys1, tys2, und0, und1, md13, Tryz.ntmps13, Tryz.results13, List.length_map, List.getElem_map, savA, hi', hI, w1]
    · have sl := sl v
      rw [outS_yes v]
      refine ⟨by first | omega | (simp only [List.length_append, List.length_cons, List.length_nil, List.length_map, List.length_take]; omega), ⟨i + 1, by omega, take_more hi' hv v⟩, by show A.length - (i + 1) < _; omega, ?_⟩
      show Weak 0 _ ⟨_, _⟩
      rw [nx]
      exact weak_drop (by simp) (by simp [DropHp, ints_below, flts_below]) (by simp [DropTm, DropV, below, belowM, belowL])
    · have e := okA_bad hi' v
      exact PostR.pure ⟨by rw [outA_no e, e], rfl⟩ rfl
  · have hi' : i = A.length := by have := of_decide_eq_false g; omega
    have e : okA A = true := okA_good hl (by rw [hi', List.take_length] at hv; exact hv)
    have hT' : allT A = T := by rw [← hT, hi', List.take_length]
    exact PostR.pure ⟨by rw [outA_yes e, e, hT'], rfl⟩ rfl
end Go.Proofs.YtigipcckflcilaaGreatDoor
