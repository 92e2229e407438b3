/- Sums that match: both sides. -/
import Derived.Test.YtimnfechlomkpaaPdL
set_option maxRecDepth 10000
set_option maxHeartbeats 8000000
set_option linter.unusedSimpArgs false
set_option linter.unusedVariables false
namespace Go.Proofs.Ytimnfechlomkpaa
open Go Go.Abs

def fstM (B : List Int) (u : List Bool) (x : Int) : Nat → Option Nat
  | 0 => none
  | k + 1 => match fstM B u x k with
    | some r => some r
    | none => if B.getD k 0 = x ∧ u.getD k false = false then some k else none
theorem fstM_keep {B : List Int} {u : List Bool} {x : Int} {r : Nat} : ∀ (n k : Nat), k ≤ n → fstM B u x k = some r → fstM B u x n = some r
  | 0, k, h, hk => by
    have : k = 0 := by omega
    subst this; exact hk
  | n + 1, k, h, hk => by
    by_cases e : k = n + 1
    · subst e; exact hk
    · have := fstM_keep n k (by omega) hk
      unfold fstM
      rw [this]
theorem fstM_low {B : List Int} {u : List Bool} {x : Int} {r : Nat} : ∀ (k : Nat), fstM B u x k = some r → r < k
  | 0, h => by simp [fstM] at h
  | k + 1, h => by
    unfold fstM at h
    cases hk : fstM B u x k with
    | some q =>
      rw [hk] at h
      simp only [Option.some.injEq] at h
      subst h
      have := fstM_low k hk
      omega
    | none =>
      rw [hk] at h
      simp only at h
      split at h
      · simp only [Option.some.injEq] at h; omega
      · cases h
abbrev MS := List Bool × List Int
def stepM1 (A B : List Int) (i : Nat) (s : MS) : MS := match fstM B s.1 (A.getD i 0) B.length with
  | some k => (s.1.set k true, s.2)
  | none => (s.1, s.2 ++ [(i : Int)])
def mst (A B : List Int) : Nat → MS
  | 0 => (List.replicate B.length false, [])
  | i + 1 => stepM1 A B i (mst A B i)
theorem mst_len (A B : List Int) : ∀ i, (mst A B i).1.length = B.length ∧ (mst A B i).2.length ≤ i
  | 0 => ⟨by simp [mst], by simp [mst]⟩
  | i + 1 => by
    obtain ⟨h1, h2⟩ := mst_len A B i
    unfold mst stepM1
    split
    · exact ⟨by simp [h1], by show (mst A B i).2.length ≤ _; omega⟩
    · exact ⟨h1, by simp; omega⟩
def twoM (u : List Bool) : Nat → List Int
  | 0 => []
  | k + 1 => if u.getD k false = true then twoM u k else twoM u k ++ [(k : Int)]
theorem twoM_len (u : List Bool) : ∀ k, (twoM u k).length ≤ k
  | 0 => Nat.le_refl _
  | k + 1 => by
    have := twoM_len u k
    unfold twoM
    split
    · omega
    · simp; omega
def resM (A B : List Int) : List Int × List Int := ((mst A B A.length).2, twoM (mst A B A.length).1 B.length)
theorem mst_self (A : List Int) : ∀ i, i ≤ A.length → (∀ k, (mst A A i).1.getD k false = decide (k < i)) ∧ (mst A A i).2 = []
  | 0, _ => ⟨fun k => by simp [mst, List.getD_eq_getElem?_getD, List.getElem?_replicate]; split <;> rfl, rfl⟩
  | i + 1, h => by
    obtain ⟨h1, h2⟩ := mst_self A i (by omega)
    have hl := (mst_len A A i).1
    have low : ∀ k, k ≤ i → fstM A (mst A A i).1 (A.getD i 0) k = none := by
      intro k
      induction k with
      | zero => intro _; rfl
      | succ k ih =>
        intro hk
        unfold fstM
        rw [ih (by omega)]
        simp only
        rw [if_neg]
        rintro ⟨_, h3⟩
        rw [h1 k, decide_eq_true (by omega)] at h3
        cases h3
    have at_ : fstM A (mst A A i).1 (A.getD i 0) (i + 1) = some i := by
      unfold fstM
      rw [low i (Nat.le_refl _)]
      simp only
      rw [if_pos ⟨trivial, by rw [h1 i]; simp⟩]
    have fin := fstM_keep A.length (i + 1) h at_
    unfold mst stepM1
    rw [fin]
    refine ⟨fun k => ?_, h2⟩
    simp only
    rw [List.getD_eq_getElem?_getD, List.getElem?_set]
    by_cases e : i = k
    · subst e
      rw [if_pos rfl, if_pos (by omega)]
      simp
    · rw [if_neg e, ← List.getD_eq_getElem?_getD, h1 k]
      congr 1
      rw [eq_iff_iff]; omega
theorem resM_self (A : List Int) : resM A A = ([], []) := by
  obtain ⟨h1, h2⟩ := mst_self A A.length (Nat.le_refl _)
  unfold resM
  rw [h2]
  congr 1
  have : ∀ k, k ≤ A.length → twoM (mst A A A.length).1 k = [] := by
    intro k
    induction k with
    | zero => intro _; rfl
    | succ k ih =>
      intro hk
      unfold twoM
      rw [if_pos (by rw [h1 k]; exact decide_eq_true (by omega))]
      exact ih (by omega)
  exact this A.length (Nat.le_refl _)
theorem getDb (u : List Bool) (i : Nat) (h : i < u.length) : u.getD i false = u[i] := getD_at u false i h

theorem bls_kill (b : Nat) (B : List Bool) : List.map (kill b) (bls B) = bls B := by
  unfold bls
  rw [List.map_map]
  exact List.map_congr_left fun y _ => rfl
structure Sms (A : List Int) : Prop where
  len : A.length ≤ 64
  low : ∀ x ∈ A, -1000 ≤ x ∧ x ≤ 1000
theorem Sms.has {A : List Int} (S : Sms A) : hasC A 0 64 (-1000000000) 1000000000 = true := by
  have := S.len
  unfold hasC
  rw [decide_eq_true (by omega), decide_eq_true (by omega), Bool.true_and, Bool.true_and, List.all_eq_true]
  intro x hx
  have := S.low x hx
  exact inR_yes (by omega) (by omega)
theorem implMatch_call {A B : List Int} (SA : Sms A) (SB : Sms B) (hB : 1 ≤ B.length) :
    CallA Try.prog 14 [.ro (ints A), .ro (ints B)] [] (Ret (.tup [.sl 0 0 (resM A B).1.length, .sl 1 0 (resM A B).2.length, .bool true]) [intB (resM A B).1, intB (resM A B).2]) := by
  have la := SA.len
  have lb := SB.len
  refine CallP.out (t := .mk) (go_in (md := md14) mixed Try.func14 rfl go14 (by kernel_rfl) ?_)
  simp only [q0, q1, q2, q3, q4, q5, q6, q7, q8, q9, zq0, zq1, zq2, zq3, zq4, guardSlot, quietA, nilC, nilA, quietB, St.ev, St.put, St.after, Nat.reduceAdd, Nat.reduceSub, ofV, ofL, lenA, binA, intBin, fltBin, strBin, cpxBin, unA, convA, convB, convO, pickV, resL, oneA, indexA, indexS, isQuiet, loadA, loadC, storeA, fieldA, partA, sliceA, boundA, buildA, placeA, setAll, appendA, readSl, newEl, AV.cells, AV.solid, AV.one, kill, killM, killL, notInt, Int.reduceToNat, cond_true, cond_false, ↓reduceIte, reduceCtorEq, Nat.reduceLT, Nat.reduceLeDiff, Nat.reduceMul, Nat.reduceEqDiff, exists_eq', putF, implies_true, exists_true_left, tys0, tys1, tys2, tys3, und0, und1, und2, md14, Try.ntmps14, Try.results14]
  refine call_ret (hasCount_call A _ _ _ _ (by omega)) rfl rfl ?_
  rw [SA.has]
  simp only [q0, q1, q2, q3, q4, q5, q6, q7, q8, q9, zq0, zq1, zq2, zq3, zq4, guardSlot, quietA, nilC, nilA, quietB, St.ev, St.put, St.after, Nat.reduceAdd, Nat.reduceSub, ofV, ofL, lenA, binA, intBin, fltBin, strBin, cpxBin, unA, convA, convB, convO, pickV, resL, oneA, indexA, indexS, isQuiet, loadA, loadC, storeA, fieldA, partA, sliceA, boundA, buildA, placeA, setAll, appendA, readSl, newEl, AV.cells, AV.solid, AV.one, kill, killM, killL, notInt, Int.reduceToNat, cond_true, cond_false, ↓reduceIte, reduceCtorEq, Nat.reduceLT, Nat.reduceLeDiff, Nat.reduceMul, Nat.reduceEqDiff, exists_eq', putF, implies_true, exists_true_left, tys0, tys1, tys2, tys3, und0, und1, und2, md14, Try.ntmps14, Try.results14]
  refine call_ret (hasCount_call B _ _ _ _ (by omega)) rfl rfl ?_
  rw [SB.has]
  simp only [q0, q1, q2, q3, q4, q5, q6, q7, q8, q9, zq0, zq1, zq2, zq3, zq4, guardSlot, quietA, nilC, nilA, quietB, St.ev, St.put, St.after, Nat.reduceAdd, Nat.reduceSub, ofV, ofL, lenA, binA, intBin, fltBin, strBin, cpxBin, unA, convA, convB, convO, pickV, resL, oneA, indexA, indexS, isQuiet, loadA, loadC, storeA, fieldA, partA, sliceA, boundA, buildA, placeA, setAll, appendA, readSl, newEl, AV.cells, AV.solid, AV.one, kill, killM, killL, notInt, Int.reduceToNat, cond_true, cond_false, ↓reduceIte, reduceCtorEq, Nat.reduceLT, Nat.reduceLeDiff, Nat.reduceMul, Nat.reduceEqDiff, exists_eq', putF, implies_true, exists_true_left, tys0, tys1, tys2, tys3, und0, und1, und2, md14, Try.ntmps14, Try.results14]
  refine ⟨by omega, by omega, ?_⟩
  refine go_round (md := md14) mixed (by kernel_rfl) (fun i : {i : Nat // i ≤ A.length} => ⟨[.any, .ro (ints B), .any, .any, .any, .any, .any, .sl 0 0 B.length, .sl 1 0 (mst A B i.1).2.length, .sl 2 0 0, .any, .any, .any, .any, .any, .any, .any, .any, .any, .any, .any, .any, .any, .any, .any, .any, .any, .any, .any, .any, .ro (ints A), .int .i64 (A.length : Int), .int .i64 (i.1 : Int), .any, .any, .any, .any, .any, .any, .any, .any, .any, .any, .any, .any, .any, .any, .any, .any, .any, .any, .any, .any, .any, .any, .any, .any, .any, .any, .any, .any, .any, .any, .any, .any, .any, .any, .any, .any, .any, .any, .any, .any, .any, .any, .any, .any, .any, .any, .any, .any], [bolB (mst A B i.1).1, intB (mst A B i.1).2, intB []]⟩) (fun i => A.length - i.1) ⟨0, by omega⟩ ?_ ?_
  · have z : ints [] = [] := rfl
    have z2 : bls (List.replicate B.length false) = List.replicate B.length (.bool false) := by simp [bls]
    have z3 : mst A B 0 = (List.replicate B.length false, []) := rfl
    have zb2 : allBelow 3 (List.replicate B.length (AV.bool false)) = true := by rw [← z2]; exact bls_below _ _
    rw [z3]
    exact weak_drop (by simp) (by simp [DropHp, ints_below, flts_below, intB, bolB, z, z2, zb2, allBelow_cons, allBelow_nil, below, belowM, belowL]) (by simp [DropTm, DropV, below, belowM, belowL, intB, bolB, z, z2, zb2, allBelow_cons, allBelow_nil, below, belowM, belowL])
  rintro ⟨i, hi⟩
  obtain ⟨ml, ol⟩ := mst_len A B i
  generalize hS : mst A B i = S at *
  simp only [q0, q1, q2, q3, q4, q5, q6, q7, q8, q9, zq0, zq1, zq2, zq3, zq4, guardSlot, quietA, nilC, nilA, quietB, St.ev, St.put, St.after, Nat.reduceAdd, Nat.reduceSub, ofV, ofL, lenA, binA, intBin, fltBin, strBin, cpxBin, unA, convA, convB, convO, pickV, resL, oneA, indexA, indexS, isQuiet, loadA, loadC, storeA, fieldA, partA, sliceA, boundA, buildA, placeA, setAll, appendA, readSl, newEl, AV.cells, AV.solid, AV.one, kill, killM, killL, notInt, Int.reduceToNat, cond_true, cond_false, ↓reduceIte, reduceCtorEq, Nat.reduceLT, Nat.reduceLeDiff, Nat.reduceMul, Nat.reduceEqDiff, exists_eq', putF, implies_true, exists_true_left, tys0, tys1, tys2, tys3, und0, und1, und2, md14, Try.ntmps14, Try.results14, intB, bolB, ints_len, bls_len, ml]
  refine br_intro (fun g => ?_) (fun g => ?_) <;> simp only [q0, q1, q2, q3, q4, q5, q6, q7, q8, q9, zq0, zq1, zq2, zq3, zq4, guardSlot, quietA, nilC, nilA, quietB, St.ev, St.put, St.after, Nat.reduceAdd, Nat.reduceSub, ofV, ofL, lenA, binA, intBin, fltBin, strBin, cpxBin, unA, convA, convB, convO, pickV, resL, oneA, indexA, indexS, isQuiet, loadA, loadC, storeA, fieldA, partA, sliceA, boundA, buildA, placeA, setAll, appendA, readSl, newEl, AV.cells, AV.solid, AV.one, kill, killM, killL, notInt, Int.reduceToNat, cond_true, cond_false, ↓reduceIte, reduceCtorEq, Nat.reduceLT, Nat.reduceLeDiff, Nat.reduceMul, Nat.reduceEqDiff, exists_eq', putF, implies_true, exists_true_left, tys0, tys1, tys2, tys3, und0, und1, und2, md14, Try.ntmps14, Try.results14, intB, bolB, ints_len, bls_len, ml]
  · have hi' : i < A.length := by have := of_decide_eq_true g; omega
    have ga := getD_at A 0 i hi'
    refine ⟨hi', ?_⟩
    refine go_round (md := md14) mixed (by kernel_rfl) (fun k : {k : Nat // k ≤ B.length ∧ fstM B S.1 A[i] k = none} => ⟨[.any, .ro (ints B), .any, .any, .any, .any, .any, .sl 0 0 B.length, .sl 1 0 S.2.length, .sl 2 0 0, .int .i64 (i : Int), .int .i64 A[i], .bool false, .any, .any, .any, .any, .any, .any, .any, .any, .any, .any, .any, .any, .any, .any, .any, .any, .any, .ro (ints A), .int .i64 (A.length : Int), .int .i64 (i : Int), .any, .any, .any, .any, .ro (ints B), .int .i64 (B.length : Int), .int .i64 (k.1 : Int), .any, .any, .any, .any, .any, .any, .any, .any, .any, .any, .any, .any, .any, .any, .any, .any, .any, .any, .any, .any, .any, .any, .any, .any, .any, .any, .any, .any, .any, .any, .any, .any, .any, .any, .any, .any, .any, .any, .any, .any, .any], [bolB S.1, intB S.2, intB []]⟩) (fun k => B.length - k.1) ⟨0, by omega, rfl⟩ ?_ ?_
    · exact weak_drop (by simp) (by simp [DropHp, ints_below, flts_below, intB, bolB, bls_below, allBelow_cons, allBelow_nil, below, belowM, belowL]) (by simp [DropTm, DropV, below, belowM, belowL, intB, bolB, bls_below, allBelow_cons, allBelow_nil, below, belowM, belowL])
    rintro ⟨k, hk, hn⟩
    simp only [q0, q1, q2, q3, q4, q5, q6, q7, q8, q9, zq0, zq1, zq2, zq3, zq4, guardSlot, quietA, nilC, nilA, quietB, St.ev, St.put, St.after, Nat.reduceAdd, Nat.reduceSub, ofV, ofL, lenA, binA, intBin, fltBin, strBin, cpxBin, unA, convA, convB, convO, pickV, resL, oneA, indexA, indexS, isQuiet, loadA, loadC, storeA, fieldA, partA, sliceA, boundA, buildA, placeA, setAll, appendA, readSl, newEl, AV.cells, AV.solid, AV.one, kill, killM, killL, notInt, Int.reduceToNat, cond_true, cond_false, ↓reduceIte, reduceCtorEq, Nat.reduceLT, Nat.reduceLeDiff, Nat.reduceMul, Nat.reduceEqDiff, exists_eq', putF, implies_true, exists_true_left, tys0, tys1, tys2, tys3, und0, und1, und2, md14, Try.ntmps14, Try.results14, intB, bolB, ints_len, bls_len, bls_get, ml]
    refine br_intro (fun f => ?_) (fun f => ?_) <;> simp only [q0, q1, q2, q3, q4, q5, q6, q7, q8, q9, zq0, zq1, zq2, zq3, zq4, guardSlot, quietA, nilC, nilA, quietB, St.ev, St.put, St.after, Nat.reduceAdd, Nat.reduceSub, ofV, ofL, lenA, binA, intBin, fltBin, strBin, cpxBin, unA, convA, convB, convO, pickV, resL, oneA, indexA, indexS, isQuiet, loadA, loadC, storeA, fieldA, partA, sliceA, boundA, buildA, placeA, setAll, appendA, readSl, newEl, AV.cells, AV.solid, AV.one, kill, killM, killL, notInt, Int.reduceToNat, cond_true, cond_false, ↓reduceIte, reduceCtorEq, Nat.reduceLT, Nat.reduceLeDiff, Nat.reduceMul, Nat.reduceEqDiff, exists_eq', putF, implies_true, exists_true_left, tys0, tys1, tys2, tys3, und0, und1, und2, md14, Try.ntmps14, Try.results14, intB, bolB, ints_len, bls_len, bls_get, ml]
    · have hk' : k < B.length := by have := of_decide_eq_true f; omega
      have gb := getD_at B 0 k hk'
      have hu : k < S.1.length := by omega
      have gu := getDb S.1 k hu
      refine ⟨hk', ?_⟩
      refine br_intro (fun u => ?_) (fun u => ?_) <;> simp only [q0, q1, q2, q3, q4, q5, q6, q7, q8, q9, zq0, zq1, zq2, zq3, zq4, guardSlot, quietA, nilC, nilA, quietB, St.ev, St.put, St.after, Nat.reduceAdd, Nat.reduceSub, ofV, ofL, lenA, binA, intBin, fltBin, strBin, cpxBin, unA, convA, convB, convO, pickV, resL, oneA, indexA, indexS, isQuiet, loadA, loadC, storeA, fieldA, partA, sliceA, boundA, buildA, placeA, setAll, appendA, readSl, newEl, AV.cells, AV.solid, AV.one, kill, killM, killL, notInt, Int.reduceToNat, cond_true, cond_false, ↓reduceIte, reduceCtorEq, Nat.reduceLT, Nat.reduceLeDiff, Nat.reduceMul, Nat.reduceEqDiff, exists_eq', putF, implies_true, exists_true_left, tys0, tys1, tys2, tys3, und0, und1, und2, md14, Try.ntmps14, Try.results14, intB, bolB, ints_len, bls_len, bls_get, ml]
      · have u' : A[i] = B[k] := by simpa using u
        refine ⟨by omega, hk', ?_⟩
        refine br_intro (fun v => ?_) (fun v => ?_) <;> simp only [q0, q1, q2, q3, q4, q5, q6, q7, q8, q9, zq0, zq1, zq2, zq3, zq4, guardSlot, quietA, nilC, nilA, quietB, St.ev, St.put, St.after, Nat.reduceAdd, Nat.reduceSub, ofV, ofL, lenA, binA, intBin, fltBin, strBin, cpxBin, unA, convA, convB, convO, pickV, resL, oneA, indexA, indexS, isQuiet, loadA, loadC, storeA, fieldA, partA, sliceA, boundA, buildA, placeA, setAll, appendA, readSl, newEl, AV.cells, AV.solid, AV.one, kill, killM, killL, notInt, Int.reduceToNat, cond_true, cond_false, ↓reduceIte, reduceCtorEq, Nat.reduceLT, Nat.reduceLeDiff, Nat.reduceMul, Nat.reduceEqDiff, exists_eq', putF, implies_true, exists_true_left, tys0, tys1, tys2, tys3, und0, und1, und2, md14, Try.ntmps14, Try.results14, intB, bolB, ints_len, bls_len, bls_get, ml]
        · have e : fstM B S.1 A[i] (k + 1) = none := by
            unfold fstM
            rw [hn]
            simp only
            rw [if_neg (fun x => by rw [gu, v] at x; cases x.2)]
          refine ⟨⟨k + 1, by omega, e⟩, by show B.length - (k + 1) < B.length - k; omega, ?_⟩
          exact weak_drop (by simp) (by simp [DropHp, ints_below, flts_below, w64_succ k (by omega), intB, bolB, bls_below, allBelow_cons, allBelow_nil, below, belowM, belowL]) (by simp [DropTm, DropV, below, belowM, belowL, w64_succ k (by omega), intB, bolB, bls_below, allBelow_cons, allBelow_nil, below, belowM, belowL])
        · have e : fstM B S.1 A[i] (k + 1) = some k := by
            unfold fstM
            rw [hn]
            simp only
            rw [if_pos ⟨by rw [gb, u'], by rw [gu, v]⟩]
          have e2 := fstM_keep B.length (k + 1) (by omega) e
          have es : mst A B (i + 1) = (S.1.set k true, S.2) := by
            rw [mst, hS, stepM1, ga, e2]
          refine ⟨by omega, hk', ⟨i + 1, by omega⟩, by show A.length - (i + 1) < A.length - i; omega, ?_⟩
          show Weak 0 _ ⟨_, _⟩
          rw [bls_set, es]
          exact weak_drop (by simp) (by simp [DropHp, ints_below, flts_below, w64_succ i (by omega), intB, bolB, bls_below, allBelow_cons, allBelow_nil, below, belowM, belowL]) (by simp [DropTm, DropV, below, belowM, belowL, w64_succ i (by omega), intB, bolB, bls_below, allBelow_cons, allBelow_nil, below, belowM, belowL])
      · have u' : A[i] ≠ B[k] := by simpa using u
        have e : fstM B S.1 A[i] (k + 1) = none := by
          unfold fstM
          rw [hn]
          simp only
          rw [if_neg (fun x => u' (by rw [← gb]; exact x.1.symm))]
        refine ⟨⟨k + 1, by omega, e⟩, by show B.length - (k + 1) < B.length - k; omega, ?_⟩
        exact weak_drop (by simp) (by simp [DropHp, ints_below, flts_below, w64_succ k (by omega), intB, bolB, bls_below, allBelow_cons, allBelow_nil, below, belowM, belowL]) (by simp [DropTm, DropV, below, belowM, belowL, w64_succ k (by omega), intB, bolB, bls_below, allBelow_cons, allBelow_nil, below, belowM, belowL])
    · have hk' : k = B.length := by have := of_decide_eq_false f; omega
      subst hk'
      have es : mst A B (i + 1) = (S.1, S.2 ++ [(i : Int)]) := by
        rw [mst, hS, stepM1, ga, hn]
      refine ⟨by rw [allW_int]; trivial, by rw [fits]; omega, ⟨i + 1, by omega⟩, by show A.length - (i + 1) < A.length - i; omega, ?_⟩
      show Weak 0 _ ⟨_, _⟩
      rw [bls_kill, es]
      have el : (S.2 ++ [(i : Int)]).length = S.2.length + 1 := by simp
      exact weak_drop (by simp) (by simp [DropHp, ints_below, flts_below, w64_succ i (by omega), el, intB, bolB, bls_below, allBelow_cons, allBelow_nil, below, belowM, belowL]) (by simp [DropTm, DropV, below, belowM, belowL, w64_succ i (by omega), el, intB, bolB, bls_below, allBelow_cons, allBelow_nil, below, belowM, belowL])
  · have hi' : i = A.length := by have := of_decide_eq_false g; omega
    subst hi'
    rw [show resM A B = (S.2, twoM S.1 B.length) from by unfold resM; rw [hS]]
    refine go_round (md := md14) mixed (by kernel_rfl) (fun k : {k : Nat // k ≤ B.length} => ⟨[.any, .any, .any, .any, .any, .any, .any, .any, .sl 1 0 S.2.length, .sl 2 0 (twoM S.1 k.1).length, .any, .any, .any, .any, .any, .any, .any, .any, .any, .any, .any, .any, .any, .any, .any, .any, .any, .any, .any, .any, .any, .any, .any, .any, .any, .any, .any, .any, .any, .any, .any, .any, .any, .any, .any, .any, .any, .any, .any, .any, .any, .any, .any, .any, .any, .any, .any, .any, .any, .any, .any, .any, .any, .any, .any, .sl 0 0 B.length, .int .i64 (B.length : Int), .int .i64 (k.1 : Int), .any, .any, .any, .any, .any, .any, .any, .any, .any, .any, .any, .any, .any], [bolB S.1, intB S.2, intB (twoM S.1 k.1)]⟩) (fun k => B.length - k.1) ⟨0, by omega⟩ ?_ ?_
    · have z : twoM S.1 0 = [] := rfl
      rw [z]
      exact weak_drop (by simp) (by simp [DropHp, ints_below, flts_below, intB, bolB, bls_below, allBelow_cons, allBelow_nil, below, belowM, belowL]) (by simp [DropTm, DropV, below, belowM, belowL, intB, bolB, bls_below, allBelow_cons, allBelow_nil, below, belowM, belowL])
    rintro ⟨k, hk⟩
    have tl := twoM_len S.1 k
    simp only [q0, q1, q2, q3, q4, q5, q6, q7, q8, q9, zq0, zq1, zq2, zq3, zq4, guardSlot, quietA, nilC, nilA, quietB, St.ev, St.put, St.after, Nat.reduceAdd, Nat.reduceSub, ofV, ofL, lenA, binA, intBin, fltBin, strBin, cpxBin, unA, convA, convB, convO, pickV, resL, oneA, indexA, indexS, isQuiet, loadA, loadC, storeA, fieldA, partA, sliceA, boundA, buildA, placeA, setAll, appendA, readSl, newEl, AV.cells, AV.solid, AV.one, kill, killM, killL, notInt, Int.reduceToNat, cond_true, cond_false, ↓reduceIte, reduceCtorEq, Nat.reduceLT, Nat.reduceLeDiff, Nat.reduceMul, Nat.reduceEqDiff, exists_eq', putF, implies_true, exists_true_left, tys0, tys1, tys2, tys3, und0, und1, und2, md14, Try.ntmps14, Try.results14, intB, bolB, ints_len, bls_len, bls_get, ml]
    refine br_intro (fun f => ?_) (fun f => ?_) <;> simp only [q0, q1, q2, q3, q4, q5, q6, q7, q8, q9, zq0, zq1, zq2, zq3, zq4, guardSlot, quietA, nilC, nilA, quietB, St.ev, St.put, St.after, Nat.reduceAdd, Nat.reduceSub, ofV, ofL, lenA, binA, intBin, fltBin, strBin, cpxBin, unA, convA, convB, convO, pickV, resL, oneA, indexA, indexS, isQuiet, loadA, loadC, storeA, fieldA, partA, sliceA, boundA, buildA, placeA, setAll, appendA, readSl, newEl, AV.cells, AV.solid, AV.one, kill, killM, killL, notInt, Int.reduceToNat, cond_true, cond_false, ↓reduceIte, reduceCtorEq, Nat.reduceLT, Nat.reduceLeDiff, Nat.reduceMul, Nat.reduceEqDiff, exists_eq', putF, implies_true, exists_true_left, tys0, tys1, tys2, tys3, und0, und1, und2, md14, Try.ntmps14, Try.results14, intB, bolB, ints_len, bls_len, bls_get, ml]
    · have hk' : k < B.length := by have := of_decide_eq_true f; omega
      have hu : k < S.1.length := by omega
      have gu := getDb S.1 k hu
      refine ⟨by omega, hk', ?_⟩
      refine br_intro (fun v => ?_) (fun v => ?_) <;> simp only [q0, q1, q2, q3, q4, q5, q6, q7, q8, q9, zq0, zq1, zq2, zq3, zq4, guardSlot, quietA, nilC, nilA, quietB, St.ev, St.put, St.after, Nat.reduceAdd, Nat.reduceSub, ofV, ofL, lenA, binA, intBin, fltBin, strBin, cpxBin, unA, convA, convB, convO, pickV, resL, oneA, indexA, indexS, isQuiet, loadA, loadC, storeA, fieldA, partA, sliceA, boundA, buildA, placeA, setAll, appendA, readSl, newEl, AV.cells, AV.solid, AV.one, kill, killM, killL, notInt, Int.reduceToNat, cond_true, cond_false, ↓reduceIte, reduceCtorEq, Nat.reduceLT, Nat.reduceLeDiff, Nat.reduceMul, Nat.reduceEqDiff, exists_eq', putF, implies_true, exists_true_left, tys0, tys1, tys2, tys3, und0, und1, und2, md14, Try.ntmps14, Try.results14, intB, bolB, ints_len, bls_len, bls_get, ml, allW_int, fits, List.isEmpty_cons, brk_false, Nat.reduceMul]
      · have e : twoM S.1 (k + 1) = twoM S.1 k := by rw [twoM, if_pos (by rw [gu, v])]
        refine ⟨⟨k + 1, by omega⟩, by show B.length - (k + 1) < B.length - k; omega, ?_⟩
        exact weak_drop (by simp) (by simp [DropHp, ints_below, flts_below, w64_succ k (by omega), e, intB, bolB, bls_below, allBelow_cons, allBelow_nil, below, belowM, belowL]) (by simp [DropTm, DropV, below, belowM, belowL, w64_succ k (by omega), e, intB, bolB, bls_below, allBelow_cons, allBelow_nil, below, belowM, belowL])
      · have e : twoM S.1 (k + 1) = twoM S.1 k ++ [(k : Int)] := by rw [twoM, if_neg (by rw [gu, v]; simp)]
        have el : (twoM S.1 k ++ [(k : Int)]).length = (twoM S.1 k).length + 1 := by simp
        refine ⟨by omega, ⟨k + 1, by omega⟩, by show B.length - (k + 1) < B.length - k; omega, ?_⟩
        show Weak 0 _ ⟨_, _⟩
        rw [bls_kill, e]
        exact weak_drop (by simp) (by simp [DropHp, ints_below, flts_below, w64_succ k (by omega), el, intB, bolB, bls_below, allBelow_cons, allBelow_nil, below, belowM, belowL]) (by simp [DropTm, DropV, below, belowM, belowL, w64_succ k (by omega), el, intB, bolB, bls_below, allBelow_cons, allBelow_nil, below, belowM, belowL])
    · have hk' : k = B.length := by have := of_decide_eq_false f; omega
      subst hk'
      exact PostR.pick (hp2 := [intB S.2, intB (twoM S.1 B.length)]) (r2 := .tup [.sl 0 0 S.2.length, .sl 1 0 (twoM S.1 B.length).length, .bool true]) [1, 2] (by decide) (by decide) (by decide) ⟨⟨rfl, ints_below _ _⟩, ⟨rfl, ints_below _ _⟩, trivial⟩ rfl rfl ⟨rfl, rfl⟩
end Go.Proofs.Ytimnfechlomkpaa
