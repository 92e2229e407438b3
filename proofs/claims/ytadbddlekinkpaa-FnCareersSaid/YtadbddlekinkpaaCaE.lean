/- Gaps between months that spans have: the program's GapsOf. -/
import Derived.Test.YtadbddlekinkpaaCaD
set_option maxRecDepth 10000
set_option maxHeartbeats 8000000
set_option linter.unusedSimpArgs false
set_option linter.unusedVariables false
namespace Go.Proofs.Ytadbddlekinkpaa
open Go Go.Abs

def idxI (B : List Bool) : Int := match idxB B with
  | some k => (k : Int)
  | none => -1
theorem idxB_at {B : List Bool} {i : Nat} (h : i < B.length) (hb : B[i] = true) (hn : ∀ m, m < i → ∀ h2, B[m]'h2 = false) : idxB B = some i := by
  cases e : idxB B with
  | none => rw [idxB_none e i h] at hb; cases hb
  | some k =>
    obtain ⟨h1, h2, h3⟩ := idxB_some e
    congr 1
    rcases Nat.lt_trichotomy k i with hl | hl | hl
    · rw [hn k hl h1] at h2; cases h2
    · exact hl
    · rw [h3 i hl h] at hb; cases hb
theorem idxB_no {B : List Bool} (hn : ∀ m (h2 : m < B.length), B[m] = false) : idxB B = none := by
  cases e : idxB B with
  | none => rfl
  | some k =>
    obtain ⟨h1, h2, _⟩ := idxB_some e
    rw [hn k h1] at h2; cases h2
theorem indexB_call (B : List Bool) (hl : B.length ≤ 1500) : CallA Try.prog 19 [.ro (bls B), .bool true] [] (Ret (.int .i64 (idxI B)) []) := by
  refine CallP.out (t := .mk) (go_in (md := md19) mixed Try.func19 rfl go19 (by kernel_rfl) ?_)
  simp only [q0, q1, q2, q3, q4, q5, q6, q7, q8, q9, zq0, zq1, zq2, zq3, guardSlot, quietA, nilC, nilA, quietB, St.ev, St.put, St.after, Nat.reduceAdd, Nat.reduceSub, List.replicate_succ, ofV, ofL, lenA, binA, intBin, fltBin, strBin, cpxBin, unA, convA, convB, convO, pickV, resL, oneA, indexA, indexS, isQuiet, loadA, loadC, storeA, fieldA, partA, sliceA, boundA, buildA, placeA, setAll, appendA, readSl, newEl, AV.cells, AV.solid, AV.one, kill, killM, killL, notInt, Int.reduceToNat, cond_true, cond_false, ↓reduceIte, reduceCtorEq, Nat.reduceLT, Nat.reduceLeDiff, Nat.reduceMul, Nat.reduceEqDiff, exists_eq', putF, implies_true, exists_true_left, tys0, tys1, tys2, tys3, und0, und1, und2, md19, Try.ntmps19, Try.results19, bls_len]
  refine go_round (md := md19) mixed (by kernel_rfl) (fun i : {i : Nat // i ≤ B.length ∧ ∀ m, m < i → ∀ h2, B[m]'h2 = false} => ⟨[.ro (bls B), .bool true, .any, .any, .any, .any, .any, .int .i64 B.length, .int .i64 i.1, .any, .any, .any, .any, .any, .any, .any, .any, .any, .any], []⟩) (fun i => B.length - i.1) ⟨0, Nat.zero_le _, fun m hm => absurd hm (by omega)⟩ ?_ ?_
  · exact weak_drop (by simp) (by simp [DropHp, ints_below, flts_below]) (by simp [DropTm, DropV, below, belowM, belowL])
  rintro ⟨i, hi, hn⟩
  dsimp only
  simp only [q0, q1, q2, q3, q4, q5, q6, q7, q8, q9, zq0, zq1, zq2, zq3, guardSlot, quietA, nilC, nilA, quietB, St.ev, St.put, St.after, Nat.reduceAdd, Nat.reduceSub, List.replicate_succ, ofV, ofL, lenA, binA, intBin, fltBin, strBin, cpxBin, unA, convA, convB, convO, pickV, resL, oneA, indexA, indexS, isQuiet, loadA, loadC, storeA, fieldA, partA, sliceA, boundA, buildA, placeA, setAll, appendA, readSl, newEl, AV.cells, AV.solid, AV.one, kill, killM, killL, notInt, Int.reduceToNat, cond_true, cond_false, ↓reduceIte, reduceCtorEq, Nat.reduceLT, Nat.reduceLeDiff, Nat.reduceMul, Nat.reduceEqDiff, exists_eq', putF, implies_true, exists_true_left, tys0, tys1, tys2, tys3, und0, und1, und2, md19, Try.ntmps19, Try.results19, bls_len]
  refine br_intro (fun g => ?_) (fun g => ?_) <;> simp only [q0, q1, q2, q3, q4, q5, q6, q7, q8, q9, zq0, zq1, zq2, zq3, guardSlot, quietA, nilC, nilA, quietB, St.ev, St.put, St.after, Nat.reduceAdd, Nat.reduceSub, List.replicate_succ, ofV, ofL, lenA, binA, intBin, fltBin, strBin, cpxBin, unA, convA, convB, convO, pickV, resL, oneA, indexA, indexS, isQuiet, loadA, loadC, storeA, fieldA, partA, sliceA, boundA, buildA, placeA, setAll, appendA, readSl, newEl, AV.cells, AV.solid, AV.one, kill, killM, killL, notInt, Int.reduceToNat, cond_true, cond_false, ↓reduceIte, reduceCtorEq, Nat.reduceLT, Nat.reduceLeDiff, Nat.reduceMul, Nat.reduceEqDiff, exists_eq', putF, implies_true, exists_true_left, tys0, tys1, tys2, tys3, und0, und1, und2, md19, Try.ntmps19, Try.results19, bls_len]
  · have g : i < B.length := by have := of_decide_eq_true g; omega
    have gi : (i : Int) < (B.length : Int) := by omega
    have w1 : IntKind.i64.wrap ((i : Int) + 1) = ((i + 1 : Nat) : Int) := by rw [w64 (by omega) (by omega)]; omega
    simp only [q0, q1, q2, q3, q4, q5, q6, q7, q8, q9, zq0, zq1, zq2, zq3, guardSlot, quietA, nilC, nilA, quietB, St.ev, St.put, St.after, Nat.reduceAdd, Nat.reduceSub, List.replicate_succ, ofV, ofL, lenA, binA, intBin, fltBin, strBin, cpxBin, unA, convA, convB, convO, pickV, resL, oneA, indexA, indexS, isQuiet, loadA, loadC, storeA, fieldA, partA, sliceA, boundA, buildA, placeA, setAll, appendA, readSl, newEl, AV.cells, AV.solid, AV.one, kill, killM, killL, notInt, Int.reduceToNat, cond_true, cond_false, ↓reduceIte, reduceCtorEq, Nat.reduceLT, Nat.reduceLeDiff, Nat.reduceMul, Nat.reduceEqDiff, exists_eq', putF, implies_true, exists_true_left, tys0, tys1, tys2, tys3, und0, und1, und2, md19, Try.ntmps19, Try.results19, bls_len, bls_get, g, gi]
    refine br_intro (fun e => ?_) (fun e => ?_) <;> simp only [q0, q1, q2, q3, q4, q5, q6, q7, q8, q9, zq0, zq1, zq2, zq3, guardSlot, quietA, nilC, nilA, quietB, St.ev, St.put, St.after, Nat.reduceAdd, Nat.reduceSub, List.replicate_succ, ofV, ofL, lenA, binA, intBin, fltBin, strBin, cpxBin, unA, convA, convB, convO, pickV, resL, oneA, indexA, indexS, isQuiet, loadA, loadC, storeA, fieldA, partA, sliceA, boundA, buildA, placeA, setAll, appendA, readSl, newEl, AV.cells, AV.solid, AV.one, kill, killM, killL, notInt, Int.reduceToNat, cond_true, cond_false, ↓reduceIte, reduceCtorEq, Nat.reduceLT, Nat.reduceLeDiff, Nat.reduceMul, Nat.reduceEqDiff, exists_eq', putF, implies_true, exists_true_left, tys0, tys1, tys2, tys3, und0, und1, und2, md19, Try.ntmps19, Try.results19, bls_len]
    · have e : B[i] = true := by cases hb : B[i] with
        | true => rfl
        | false => rw [hb] at e; cases e
      have r : idxI B = (i : Int) := by unfold idxI; rw [idxB_at g e hn]
      rw [r]
      exact PostR.pure ⟨rfl, rfl⟩ rfl
    · have e : B[i] = false := by cases hb : B[i] with
        | true => rw [hb] at e; cases e
        | false => rfl
      refine ⟨⟨i + 1, by omega, fun m hm h2 => ?_⟩, by show B.length - (i + 1) < B.length - i; omega, ?_⟩
      · rcases Nat.lt_or_ge m i with hl | hl
        · exact hn m hl h2
        · have : m = i := by omega
          subst this; exact e
      exact weak_drop (by simp) (by simp [DropHp, ints_below, flts_below, w1]) (by simp [DropTm, DropV, below, belowM, belowL, w1])
  · have g : i = B.length := by have := of_decide_eq_false g; omega
    subst g
    have e : idxI B = -1 := by unfold idxI; rw [idxB_no fun m hm => hn m hm hm]
    rw [e]
    exact PostR.pure ⟨rfl, rfl⟩ rfl
structure GapQ (B : List Bool) (a : Nat) (G : List (Int × Int)) (z : Nat) : Prop where
  ok : gapsOk a G
  bal : (cntB B 1500 : Int) + freeG G = (z : Int) - a
  last : 1 ≤ z ∧ z ≤ 1500 ∧ ∀ h, B[z - 1]'h = true
  rest : ∀ m, z ≤ m → ∀ h, B[m]'h = false
theorem free_len : ∀ {G : List (Int × Int)} {a : Int}, gapsOk a G → (G.length : Int) ≤ freeG G
  | [], _, _ => by simp [freeG]
  | p :: G, a, h => by
    have := free_len (G := G) h.2.2
    have := h.2.1
    simp only [freeG, List.length_cons]
    omega
theorem allW_two (a b : Int) : AllW 1 [AV.int .i64 a, AV.int .i64 b] := by
  intro v hv
  simp only [List.mem_cons, List.not_mem_nil, or_false] at hv
  rcases hv with rfl | rfl <;> exact ⟨rfl, rfl⟩
theorem ints_two (l : List Int) (a b : Int) : ints l ++ [AV.int .i64 a, AV.int .i64 b] = ints (l ++ [a, b]) := by simp [ints]
theorem gapsOf0_call {P : List (Int × Int)} (S : Spans P) {a : Nat} (ha : a < 1500) (h1 : ∀ h, (mon P 1500)[a]'h = true) (h0 : ∀ m, m < a → ∀ h, (mon P 1500)[m]'h = false) : CallA Try.prog 7 [.ro (ints (flatP P))] [] (fun r hp => ∃ G z, GapQ (mon P 1500) a G z ∧ r = .tup [.sl 0 0 (2 * G.length), .bool true] ∧ hp = [intB (flatP G)]) := by
  have mc := monthsOf_call S
  have ml := mon_len P 1500
  generalize mon P 1500 = B at mc ml h1 h0
  have ic := indexB_call B (by omega)
  have ie : idxI B = (a : Int) := by unfold idxI; rw [idxB_at (by omega) (h1 (by omega)) h0]
  rw [ie] at ic
  refine CallP.out (t := .mk) (go_in (md := md7) mixed Try.func7 rfl go7 (by kernel_rfl) ?_)
  simp only [q0, q1, q2, q3, q4, q5, q6, q7, q8, q9, zq0, zq1, zq2, zq3, guardSlot, quietA, nilC, nilA, quietB, St.ev, St.put, St.after, Nat.reduceAdd, Nat.reduceSub, List.replicate_succ, ofV, ofL, lenA, binA, intBin, fltBin, strBin, cpxBin, unA, convA, convB, convO, pickV, resL, oneA, indexA, indexS, isQuiet, loadA, loadC, storeA, fieldA, partA, sliceA, boundA, buildA, placeA, setAll, appendA, readSl, newEl, AV.cells, AV.solid, AV.one, kill, killM, killL, notInt, Int.reduceToNat, cond_true, cond_false, ↓reduceIte, reduceCtorEq, Nat.reduceLT, Nat.reduceLeDiff, Nat.reduceMul, Nat.reduceEqDiff, exists_eq', putF, implies_true, exists_true_left, tys0, tys1, tys2, tys3, und0, und1, und2, md7, Try.ntmps7, Try.results7]
  refine call_ret mc rfl rfl ?_
  simp only [q0, q1, q2, q3, q4, q5, q6, q7, q8, q9, zq0, zq1, zq2, zq3, guardSlot, quietA, nilC, nilA, quietB, St.ev, St.put, St.after, Nat.reduceAdd, Nat.reduceSub, List.replicate_succ, ofV, ofL, lenA, binA, intBin, fltBin, strBin, cpxBin, unA, convA, convB, convO, pickV, resL, oneA, indexA, indexS, isQuiet, loadA, loadC, storeA, fieldA, partA, sliceA, boundA, buildA, placeA, setAll, appendA, readSl, newEl, AV.cells, AV.solid, AV.one, kill, killM, killL, notInt, Int.reduceToNat, cond_true, cond_false, ↓reduceIte, reduceCtorEq, Nat.reduceLT, Nat.reduceLeDiff, Nat.reduceMul, Nat.reduceEqDiff, exists_eq', putF, implies_true, exists_true_left, tys0, tys1, tys2, tys3, und0, und1, und2, md7, Try.ntmps7, Try.results7, bls_len, ml]
  refine call_ret ic rfl rfl ?_
  simp only [q0, q1, q2, q3, q4, q5, q6, q7, q8, q9, zq0, zq1, zq2, zq3, guardSlot, quietA, nilC, nilA, quietB, St.ev, St.put, St.after, Nat.reduceAdd, Nat.reduceSub, List.replicate_succ, ofV, ofL, lenA, binA, intBin, fltBin, strBin, cpxBin, unA, convA, convB, convO, pickV, resL, oneA, indexA, indexS, isQuiet, loadA, loadC, storeA, fieldA, partA, sliceA, boundA, buildA, placeA, setAll, appendA, readSl, newEl, AV.cells, AV.solid, AV.one, kill, killM, killL, notInt, Int.reduceToNat, cond_true, cond_false, ↓reduceIte, reduceCtorEq, Nat.reduceLT, Nat.reduceLeDiff, Nat.reduceMul, Nat.reduceEqDiff, exists_eq', putF, implies_true, exists_true_left, tys0, tys1, tys2, tys3, und0, und1, und2, md7, Try.ntmps7, Try.results7, bls_len, ml]
  refine go_round (md := md7) mixed (by kernel_rfl) (fun p : {p : Nat × List (Int × Int) // p.1 < 1500 ∧ (∀ h, B[p.1]'h = true) ∧ GapB B p.2 a p.1} => ⟨[.any, .any, .any, .any, .ro (bls B), .any, .sl 0 0 (2 * p.1.2.length), .int .i64 ((p.1.1 : Nat) : Int), .any, .any, .any, .any, .any, .any, .any, .any, .any, .any, .any, .any, .any, .any, .any, .any, .any, .any, .any, .any, .any, .any, .any, .any, .any, .any, .any, .any, .any, .any, .any, .any, .any, .any, .any, .any, .any, .any, .any, .any], [intB (flatP p.1.2)]⟩) (fun p => 1500 - p.1.1) ⟨(a, []), ha, h1, ⟨trivial, rfl, ?_⟩⟩ ?_ ?_
  · have := cntB_same B (i := 0) a (by omega) (fun m _ hm h2 => h0 m (by omega) h2)
    rw [Nat.zero_add, cntB_zero] at this
    rw [this]
    simp [freeG]
  · exact weak_drop (by simp) (by simp [DropHp, ints_below, flts_below, intB, flatP, ints, allBelow_cons, allBelow_nil, below, belowM, belowL]) (by simp [DropTm, DropV, below, belowM, belowL, intB, flatP, ints, allBelow_cons, allBelow_nil, below, belowM, belowL])
  rintro ⟨⟨m, G⟩, hm, hb, D⟩
  dsimp only at hm hb D ⊢
  have gl := flatP_len G
  simp only [q0, q1, q2, q3, q4, q5, q6, q7, q8, q9, zq0, zq1, zq2, zq3, guardSlot, quietA, nilC, nilA, quietB, St.ev, St.put, St.after, Nat.reduceAdd, Nat.reduceSub, List.replicate_succ, ofV, ofL, lenA, binA, intBin, fltBin, strBin, cpxBin, unA, convA, convB, convO, pickV, resL, oneA, indexA, indexS, isQuiet, loadA, loadC, storeA, fieldA, partA, sliceA, boundA, buildA, placeA, setAll, appendA, readSl, newEl, AV.cells, AV.solid, AV.one, kill, killM, killL, notInt, Int.reduceToNat, cond_true, cond_false, ↓reduceIte, reduceCtorEq, Nat.reduceLT, Nat.reduceLeDiff, Nat.reduceMul, Nat.reduceEqDiff, exists_eq', putF, implies_true, exists_true_left, tys0, tys1, tys2, tys3, und0, und1, und2, md7, Try.ntmps7, Try.results7, bls_len, ml, intB, ints_len]
  refine br_yes (by simp) ?_
  simp only [q0, q1, q2, q3, q4, q5, q6, q7, q8, q9, zq0, zq1, zq2, zq3, guardSlot, quietA, nilC, nilA, quietB, St.ev, St.put, St.after, Nat.reduceAdd, Nat.reduceSub, List.replicate_succ, ofV, ofL, lenA, binA, intBin, fltBin, strBin, cpxBin, unA, convA, convB, convO, pickV, resL, oneA, indexA, indexS, isQuiet, loadA, loadC, storeA, fieldA, partA, sliceA, boundA, buildA, placeA, setAll, appendA, readSl, newEl, AV.cells, AV.solid, AV.one, kill, killM, killL, notInt, Int.reduceToNat, cond_true, cond_false, ↓reduceIte, reduceCtorEq, Nat.reduceLT, Nat.reduceLeDiff, Nat.reduceMul, Nat.reduceEqDiff, exists_eq', putF, implies_true, exists_true_left, tys0, tys1, tys2, tys3, und0, und1, und2, md7, Try.ntmps7, Try.results7, bls_len, ml, intB, ints_len]
  refine go_round (md := md7) mixed (by kernel_rfl) (fun f : {f : Nat // m ≤ f ∧ f ≤ 1500 ∧ ∀ j, m ≤ j → j < f → ∀ h, B[j]'h = true} => ⟨[.any, .any, .any, .any, .ro (bls B), .any, .sl 0 0 (2 * G.length), .any, .int .i64 ((f.1 : Nat) : Int), .any, .any, .any, .any, .any, .any, .any, .any, .any, .any, .any, .any, .any, .any, .any, .any, .any, .any, .any, .any, .any, .any, .any, .any, .any, .any, .any, .any, .any, .any, .any, .any, .any, .any, .any, .any, .any, .any, .any], [intB (flatP G)]⟩) (fun f => 1500 - f.1) ⟨m, by omega, by omega, fun j h1 h2 => absurd h2 (by omega)⟩ ?_ ?_
  · exact weak_drop (by simp) (by simp [DropHp, ints_below, flts_below, intB, allBelow_cons, allBelow_nil, below, belowM, belowL]) (by simp [DropTm, DropV, below, belowM, belowL, intB, allBelow_cons, allBelow_nil, below, belowM, belowL])
  rintro ⟨f, hf1, hf2, hfb⟩
  dsimp only
  simp only [q0, q1, q2, q3, q4, q5, q6, q7, q8, q9, zq0, zq1, zq2, zq3, guardSlot, quietA, nilC, nilA, quietB, St.ev, St.put, St.after, Nat.reduceAdd, Nat.reduceSub, List.replicate_succ, ofV, ofL, lenA, binA, intBin, fltBin, strBin, cpxBin, unA, convA, convB, convO, pickV, resL, oneA, indexA, indexS, isQuiet, loadA, loadC, storeA, fieldA, partA, sliceA, boundA, buildA, placeA, setAll, appendA, readSl, newEl, AV.cells, AV.solid, AV.one, kill, killM, killL, notInt, Int.reduceToNat, cond_true, cond_false, ↓reduceIte, reduceCtorEq, Nat.reduceLT, Nat.reduceLeDiff, Nat.reduceMul, Nat.reduceEqDiff, exists_eq', putF, implies_true, exists_true_left, tys0, tys1, tys2, tys3, und0, und1, und2, md7, Try.ntmps7, Try.results7, bls_len, ml, intB, ints_len]
  refine br_intro (fun g => ?_) (fun g => ?_) <;> simp only [q0, q1, q2, q3, q4, q5, q6, q7, q8, q9, zq0, zq1, zq2, zq3, guardSlot, quietA, nilC, nilA, quietB, St.ev, St.put, St.after, Nat.reduceAdd, Nat.reduceSub, List.replicate_succ, ofV, ofL, lenA, binA, intBin, fltBin, strBin, cpxBin, unA, convA, convB, convO, pickV, resL, oneA, indexA, indexS, isQuiet, loadA, loadC, storeA, fieldA, partA, sliceA, boundA, buildA, placeA, setAll, appendA, readSl, newEl, AV.cells, AV.solid, AV.one, kill, killM, killL, notInt, Int.reduceToNat, cond_true, cond_false, ↓reduceIte, reduceCtorEq, Nat.reduceLT, Nat.reduceLeDiff, Nat.reduceMul, Nat.reduceEqDiff, exists_eq', putF, implies_true, exists_true_left, tys0, tys1, tys2, tys3, und0, und1, und2, md7, Try.ntmps7, Try.results7, bls_len, ml, intB, ints_len]
  · have g : f < 1500 := by have := of_decide_eq_true g; omega
    have gi : (f : Int) < 1500 := by omega
    have gb : f < B.length := by omega
    have w1 : IntKind.i64.wrap ((f : Int) + 1) = ((f + 1 : Nat) : Int) := by rw [w64 (by omega) (by omega)]; omega
    simp only [q0, q1, q2, q3, q4, q5, q6, q7, q8, q9, zq0, zq1, zq2, zq3, guardSlot, quietA, nilC, nilA, quietB, St.ev, St.put, St.after, Nat.reduceAdd, Nat.reduceSub, List.replicate_succ, ofV, ofL, lenA, binA, intBin, fltBin, strBin, cpxBin, unA, convA, convB, convO, pickV, resL, oneA, indexA, indexS, isQuiet, loadA, loadC, storeA, fieldA, partA, sliceA, boundA, buildA, placeA, setAll, appendA, readSl, newEl, AV.cells, AV.solid, AV.one, kill, killM, killL, notInt, Int.reduceToNat, cond_true, cond_false, ↓reduceIte, reduceCtorEq, Nat.reduceLT, Nat.reduceLeDiff, Nat.reduceMul, Nat.reduceEqDiff, exists_eq', putF, implies_true, exists_true_left, tys0, tys1, tys2, tys3, und0, und1, und2, md7, Try.ntmps7, Try.results7, bls_len, ml, intB, ints_len, bls_get, g, gi, gb]
    refine br_intro (fun e => ?_) (fun e => ?_) <;> simp only [q0, q1, q2, q3, q4, q5, q6, q7, q8, q9, zq0, zq1, zq2, zq3, guardSlot, quietA, nilC, nilA, quietB, St.ev, St.put, St.after, Nat.reduceAdd, Nat.reduceSub, List.replicate_succ, ofV, ofL, lenA, binA, intBin, fltBin, strBin, cpxBin, unA, convA, convB, convO, pickV, resL, oneA, indexA, indexS, isQuiet, loadA, loadC, storeA, fieldA, partA, sliceA, boundA, buildA, placeA, setAll, appendA, readSl, newEl, AV.cells, AV.solid, AV.one, kill, killM, killL, notInt, Int.reduceToNat, cond_true, cond_false, ↓reduceIte, reduceCtorEq, Nat.reduceLT, Nat.reduceLeDiff, Nat.reduceMul, Nat.reduceEqDiff, exists_eq', putF, implies_true, exists_true_left, tys0, tys1, tys2, tys3, und0, und1, und2, md7, Try.ntmps7, Try.results7, bls_len, ml, intB, ints_len, w1]
    · refine ⟨⟨f + 1, by omega, by omega, fun j j1 j2 h => ?_⟩, by show 1500 - (f + 1) < 1500 - f; omega, ?_⟩
      · rcases Nat.lt_or_ge j f with hl | hl
        · exact hfb j j1 hl h
        · have : j = f := by omega
          subst this; exact e
      exact weak_drop (by simp) (by simp [DropHp, ints_below, flts_below, intB, allBelow_cons, allBelow_nil, below, belowM, belowL]) (by simp [DropTm, DropV, below, belowM, belowL, intB, allBelow_cons, allBelow_nil, below, belowM, belowL])
    · have stop : f = 1500 ∨ ∃ h, B[f]'h = false := .inr ⟨gb, e⟩
      have bd : (B.drop f).length ≤ 1500 := by rw [List.length_drop]; omega
      have id := indexB_call (B.drop f) bd
      have tk : (bls B).drop f = bls (B.drop f) := by unfold bls; rw [List.map_drop]
      have fm : m < f := by
        rcases Nat.lt_or_ge m f with hl | hl
        · exact hl
        · have e : f = m := by omega
          rcases stop with h | ⟨h, h'⟩
          · omega
          · subst e; rw [hb h] at h'; cases h'
      have tt : (bls B).take 1500 = bls B := List.take_of_length_le (by rw [bls_len]; omega)
      have cf : cntB B f = cntB B m + (f - m) := by
        have := cntB_run B (i := m) (f - m) (by omega) (fun j j1 j2 h => hfb j j1 (by omega) h)
        rwa [show m + (f - m) = f by omega] at this
      have db := D.bal
      have dl := D.last
      refine ⟨by omega, by omega, fun v hv => (by obtain ⟨b, _, rfl⟩ := List.mem_map.1 hv; rfl), ?_⟩
      rw [tt, tk]
      cases hx : idxB (B.drop f) with
      | none =>
        have ie2 : idxI (B.drop f) = -1 := by unfold idxI; rw [hx]
        rw [ie2] at id
        have rest : ∀ j, f ≤ j → ∀ h, B[j]'h = false := fun j hj h => by
          have := idxB_none hx (j - f) (by rw [List.length_drop]; omega)
          rw [List.getElem_drop] at this
          have e : f + (j - f) = j := by omega
          simpa only [e] using this
        have ca := cntB_same B (i := f) (1500 - f) (by omega) (fun j j1 _ h => rest j j1 h)
        rw [show f + (1500 - f) = 1500 by omega] at ca
        refine call_ret id rfl rfl ?_
        simp only [q0, q1, q2, q3, q4, q5, q6, q7, q8, q9, zq0, zq1, zq2, zq3, guardSlot, quietA, nilC, nilA, quietB, St.ev, St.put, St.after, Nat.reduceAdd, Nat.reduceSub, List.replicate_succ, ofV, ofL, lenA, binA, intBin, fltBin, strBin, cpxBin, unA, convA, convB, convO, pickV, resL, oneA, indexA, indexS, isQuiet, loadA, loadC, storeA, fieldA, partA, sliceA, boundA, buildA, placeA, setAll, appendA, readSl, newEl, AV.cells, AV.solid, AV.one, kill, killM, killL, notInt, Int.reduceToNat, cond_true, cond_false, ↓reduceIte, reduceCtorEq, Nat.reduceLT, Nat.reduceLeDiff, Nat.reduceMul, Nat.reduceEqDiff, exists_eq', putF, implies_true, exists_true_left, tys0, tys1, tys2, tys3, und0, und1, und2, md7, Try.ntmps7, Try.results7, bls_len, ml, intB, ints_len, Int.reduceLT, Int.reduceLE, Int.reduceNeg, Int.reduceEq, Int.reduceGT, Int.reduceGE, decide_true, decide_false, beq_self_eq_true, bne_self_eq_false, Int.reduceBEq, Int.reduceBNe, Int.reduceAdd, Int.reduceSub]
        exact PostR.same ⟨G, f, ⟨D.ok, by rw [ca, cf]; omega, ⟨by omega, hf2, fun h => hfb (f - 1) (by omega) (by omega) h⟩, rest⟩, rfl, rfl⟩
      | some k =>
        obtain ⟨k1, k2, k3⟩ := idxB_some hx
        rw [List.length_drop] at k1
        have ie2 : idxI (B.drop f) = (k : Int) := by unfold idxI; rw [hx]
        rw [ie2] at id
        have bk : ∀ h, B[f + k]'h = true := fun h => by rw [List.getElem_drop] at k2; exact k2
        have kp : 1 ≤ k := by
          rcases Nat.eq_zero_or_pos k with e | e
          · subst e
            rcases stop with h | ⟨h, h'⟩
            · omega
            · have hq := bk; simp only [Nat.add_zero] at hq; rw [hq h] at h'; cases h'
          · exact e
        have between : ∀ j, f ≤ j → j < f + k → ∀ h, B[j]'h = false := fun j j1 j2 h => by
          have := k3 (j - f) (by omega) (by rw [List.length_drop]; omega)
          rw [List.getElem_drop] at this
          have e : f + (j - f) = j := by omega
          simpa only [e] using this
        have ca := cntB_same B (i := f) k (by omega) (fun j j1 j2 h => between j j1 j2 h)
        have wf : IntKind.i64.wrap ((f : Int) + (k : Int)) = ((f + k : Nat) : Int) := by rw [w64 (by omega) (by omega)]; omega
        refine call_ret id rfl rfl ?_
        simp only [q0, q1, q2, q3, q4, q5, q6, q7, q8, q9, zq0, zq1, zq2, zq3, guardSlot, quietA, nilC, nilA, quietB, St.ev, St.put, St.after, Nat.reduceAdd, Nat.reduceSub, List.replicate_succ, ofV, ofL, lenA, binA, intBin, fltBin, strBin, cpxBin, unA, convA, convB, convO, pickV, resL, oneA, indexA, indexS, isQuiet, loadA, loadC, storeA, fieldA, partA, sliceA, boundA, buildA, placeA, setAll, appendA, readSl, newEl, AV.cells, AV.solid, AV.one, kill, killM, killL, notInt, Int.reduceToNat, cond_true, cond_false, ↓reduceIte, reduceCtorEq, Nat.reduceLT, Nat.reduceLeDiff, Nat.reduceMul, Nat.reduceEqDiff, exists_eq', putF, implies_true, exists_true_left, tys0, tys1, tys2, tys3, und0, und1, und2, md7, Try.ntmps7, Try.results7, bls_len, ml, intB, ints_len]
        refine br_no (by first | exact decide_eq_false (by omega) | exact beq_false_of_ne (by omega) | (simp only [bne_eq_false_iff_eq, beq_eq_false_iff_ne, ne_eq]; omega)) ?_; simp only [q0, q1, q2, q3, q4, q5, q6, q7, q8, q9, zq0, zq1, zq2, zq3, guardSlot, quietA, nilC, nilA, quietB, St.ev, St.put, St.after, Nat.reduceAdd, Nat.reduceSub, List.replicate_succ, ofV, ofL, lenA, binA, intBin, fltBin, strBin, cpxBin, unA, convA, convB, convO, pickV, resL, oneA, indexA, indexS, isQuiet, loadA, loadC, storeA, fieldA, partA, sliceA, boundA, buildA, placeA, setAll, appendA, readSl, newEl, AV.cells, AV.solid, AV.one, kill, killM, killL, notInt, Int.reduceToNat, cond_true, cond_false, ↓reduceIte, reduceCtorEq, Nat.reduceLT, Nat.reduceLeDiff, Nat.reduceMul, Nat.reduceEqDiff, exists_eq', putF, implies_true, exists_true_left, tys0, tys1, tys2, tys3, und0, und1, und2, md7, Try.ntmps7, Try.results7, bls_len, ml, intB, ints_len, wf, allW_int, fits, List.isEmpty_cons, brk_false, Nat.reduceMul]
        have fl := free_len D.ok
        have DN : GapB B (G ++ [((f : Int), ((f + k : Nat) : Int))]) a (f + k) := ⟨gapsOk_snoc D.ok (by rw [dl]; omega) (by show (f : Int) < ((f + k : Nat) : Int); omega), lastG_snoc _ _ _, by rw [freeG_snoc, ca, cf]; show _ + (freeG G + (((f + k : Nat) : Int) - (f : Int))) = _; omega⟩
        refine ⟨by omega, allW_two _ _, by omega, ⟨(f + k, G ++ [((f : Int), ((f + k : Nat) : Int))]), by show f + k < 1500; omega, bk, DN⟩, by show 1500 - (f + k) < 1500 - m; omega, ?_⟩
        rw [ints_two, ints_kill]
        have ef : flatP G ++ [(f : Int), ((f + k : Nat) : Int)] = flatP (G ++ [((f : Int), ((f + k : Nat) : Int))]) := (flatP_snoc ((f : Int), ((f + k : Nat) : Int)) G).symm
        have el : 2 * G.length + 2 = 2 * (G ++ [((f : Int), ((f + k : Nat) : Int))]).length := by rw [List.length_append]; simp; omega
        rw [ef, el]
        show Weak 0 _ ⟨_, [intB (flatP (G ++ [((f : Int), ((f + k : Nat) : Int))]))]⟩
        dsimp only
        generalize G ++ [((f : Int), ((f + k : Nat) : Int))] = G2
        exact weak_drop (by simp) (by simp [DropHp, ints_below, flts_below, intB, allBelow_cons, allBelow_nil, below, belowM, belowL]) (by simp [DropTm, DropV, below, belowM, belowL, intB, allBelow_cons, allBelow_nil, below, belowM, belowL])
  · have stop : f = 1500 ∨ ∃ h, B[f]'h = false := .inl (by have := of_decide_eq_false g; omega)
    have bd : (B.drop f).length ≤ 1500 := by rw [List.length_drop]; omega
    have id := indexB_call (B.drop f) bd
    have tk : (bls B).drop f = bls (B.drop f) := by unfold bls; rw [List.map_drop]
    have fm : m < f := by
      rcases Nat.lt_or_ge m f with hl | hl
      · exact hl
      · have e : f = m := by omega
        rcases stop with h | ⟨h, h'⟩
        · omega
        · subst e; rw [hb h] at h'; cases h'
    have tt : (bls B).take 1500 = bls B := List.take_of_length_le (by rw [bls_len]; omega)
    have cf : cntB B f = cntB B m + (f - m) := by
      have := cntB_run B (i := m) (f - m) (by omega) (fun j j1 j2 h => hfb j j1 (by omega) h)
      rwa [show m + (f - m) = f by omega] at this
    have db := D.bal
    have dl := D.last
    refine ⟨by omega, by omega, fun v hv => (by obtain ⟨b, _, rfl⟩ := List.mem_map.1 hv; rfl), ?_⟩
    rw [tt, tk]
    cases hx : idxB (B.drop f) with
    | none =>
      have ie2 : idxI (B.drop f) = -1 := by unfold idxI; rw [hx]
      rw [ie2] at id
      have rest : ∀ j, f ≤ j → ∀ h, B[j]'h = false := fun j hj h => by
        have := idxB_none hx (j - f) (by rw [List.length_drop]; omega)
        rw [List.getElem_drop] at this
        have e : f + (j - f) = j := by omega
        simpa only [e] using this
      have ca := cntB_same B (i := f) (1500 - f) (by omega) (fun j j1 _ h => rest j j1 h)
      rw [show f + (1500 - f) = 1500 by omega] at ca
      refine call_ret id rfl rfl ?_
      simp only [q0, q1, q2, q3, q4, q5, q6, q7, q8, q9, zq0, zq1, zq2, zq3, guardSlot, quietA, nilC, nilA, quietB, St.ev, St.put, St.after, Nat.reduceAdd, Nat.reduceSub, List.replicate_succ, ofV, ofL, lenA, binA, intBin, fltBin, strBin, cpxBin, unA, convA, convB, convO, pickV, resL, oneA, indexA, indexS, isQuiet, loadA, loadC, storeA, fieldA, partA, sliceA, boundA, buildA, placeA, setAll, appendA, readSl, newEl, AV.cells, AV.solid, AV.one, kill, killM, killL, notInt, Int.reduceToNat, cond_true, cond_false, ↓reduceIte, reduceCtorEq, Nat.reduceLT, Nat.reduceLeDiff, Nat.reduceMul, Nat.reduceEqDiff, exists_eq', putF, implies_true, exists_true_left, tys0, tys1, tys2, tys3, und0, und1, und2, md7, Try.ntmps7, Try.results7, bls_len, ml, intB, ints_len, Int.reduceLT, Int.reduceLE, Int.reduceNeg, Int.reduceEq, Int.reduceGT, Int.reduceGE, decide_true, decide_false, beq_self_eq_true, bne_self_eq_false, Int.reduceBEq, Int.reduceBNe, Int.reduceAdd, Int.reduceSub]
      exact PostR.same ⟨G, f, ⟨D.ok, by rw [ca, cf]; omega, ⟨by omega, hf2, fun h => hfb (f - 1) (by omega) (by omega) h⟩, rest⟩, rfl, rfl⟩
    | some k =>
      obtain ⟨k1, k2, k3⟩ := idxB_some hx
      rw [List.length_drop] at k1
      have ie2 : idxI (B.drop f) = (k : Int) := by unfold idxI; rw [hx]
      rw [ie2] at id
      have bk : ∀ h, B[f + k]'h = true := fun h => by rw [List.getElem_drop] at k2; exact k2
      have kp : 1 ≤ k := by
        rcases Nat.eq_zero_or_pos k with e | e
        · subst e
          rcases stop with h | ⟨h, h'⟩
          · omega
          · have hq := bk; simp only [Nat.add_zero] at hq; rw [hq h] at h'; cases h'
        · exact e
      have between : ∀ j, f ≤ j → j < f + k → ∀ h, B[j]'h = false := fun j j1 j2 h => by
        have := k3 (j - f) (by omega) (by rw [List.length_drop]; omega)
        rw [List.getElem_drop] at this
        have e : f + (j - f) = j := by omega
        simpa only [e] using this
      have ca := cntB_same B (i := f) k (by omega) (fun j j1 j2 h => between j j1 j2 h)
      have wf : IntKind.i64.wrap ((f : Int) + (k : Int)) = ((f + k : Nat) : Int) := by rw [w64 (by omega) (by omega)]; omega
      refine call_ret id rfl rfl ?_
      simp only [q0, q1, q2, q3, q4, q5, q6, q7, q8, q9, zq0, zq1, zq2, zq3, guardSlot, quietA, nilC, nilA, quietB, St.ev, St.put, St.after, Nat.reduceAdd, Nat.reduceSub, List.replicate_succ, ofV, ofL, lenA, binA, intBin, fltBin, strBin, cpxBin, unA, convA, convB, convO, pickV, resL, oneA, indexA, indexS, isQuiet, loadA, loadC, storeA, fieldA, partA, sliceA, boundA, buildA, placeA, setAll, appendA, readSl, newEl, AV.cells, AV.solid, AV.one, kill, killM, killL, notInt, Int.reduceToNat, cond_true, cond_false, ↓reduceIte, reduceCtorEq, Nat.reduceLT, Nat.reduceLeDiff, Nat.reduceMul, Nat.reduceEqDiff, exists_eq', putF, implies_true, exists_true_left, tys0, tys1, tys2, tys3, und0, und1, und2, md7, Try.ntmps7, Try.results7, bls_len, ml, intB, ints_len]
      refine br_no (by first | exact decide_eq_false (by omega) | exact beq_false_of_ne (by omega) | (simp only [bne_eq_false_iff_eq, beq_eq_false_iff_ne, ne_eq]; omega)) ?_; simp only [q0, q1, q2, q3, q4, q5, q6, q7, q8, q9, zq0, zq1, zq2, zq3, guardSlot, quietA, nilC, nilA, quietB, St.ev, St.put, St.after, Nat.reduceAdd, Nat.reduceSub, List.replicate_succ, ofV, ofL, lenA, binA, intBin, fltBin, strBin, cpxBin, unA, convA, convB, convO, pickV, resL, oneA, indexA, indexS, isQuiet, loadA, loadC, storeA, fieldA, partA, sliceA, boundA, buildA, placeA, setAll, appendA, readSl, newEl, AV.cells, AV.solid, AV.one, kill, killM, killL, notInt, Int.reduceToNat, cond_true, cond_false, ↓reduceIte, reduceCtorEq, Nat.reduceLT, Nat.reduceLeDiff, Nat.reduceMul, Nat.reduceEqDiff, exists_eq', putF, implies_true, exists_true_left, tys0, tys1, tys2, tys3, und0, und1, und2, md7, Try.ntmps7, Try.results7, bls_len, ml, intB, ints_len, wf, allW_int, fits, List.isEmpty_cons, brk_false, Nat.reduceMul]
      have fl := free_len D.ok
      have DN : GapB B (G ++ [((f : Int), ((f + k : Nat) : Int))]) a (f + k) := ⟨gapsOk_snoc D.ok (by rw [dl]; omega) (by show (f : Int) < ((f + k : Nat) : Int); omega), lastG_snoc _ _ _, by rw [freeG_snoc, ca, cf]; show _ + (freeG G + (((f + k : Nat) : Int) - (f : Int))) = _; omega⟩
      refine ⟨by omega, allW_two _ _, by omega, ⟨(f + k, G ++ [((f : Int), ((f + k : Nat) : Int))]), by show f + k < 1500; omega, bk, DN⟩, by show 1500 - (f + k) < 1500 - m; omega, ?_⟩
      rw [ints_two, ints_kill]
      have ef : flatP G ++ [(f : Int), ((f + k : Nat) : Int)] = flatP (G ++ [((f : Int), ((f + k : Nat) : Int))]) := (flatP_snoc ((f : Int), ((f + k : Nat) : Int)) G).symm
      have el : 2 * G.length + 2 = 2 * (G ++ [((f : Int), ((f + k : Nat) : Int))]).length := by rw [List.length_append]; simp; omega
      rw [ef, el]
      show Weak 0 _ ⟨_, [intB (flatP (G ++ [((f : Int), ((f + k : Nat) : Int))]))]⟩
      dsimp only
      generalize G ++ [((f : Int), ((f + k : Nat) : Int))] = G2
      exact weak_drop (by simp) (by simp [DropHp, ints_below, flts_below, intB, allBelow_cons, allBelow_nil, below, belowM, belowL]) (by simp [DropTm, DropV, below, belowM, belowL, intB, allBelow_cons, allBelow_nil, below, belowM, belowL])
end Go.Proofs.Ytadbddlekinkpaa
