/- Helpers of the law on returns. -/
import Derived.Test.YthildgdbgjgidaaLibV
import Derived.Test.YthildgdbgjgidaaAbsM4
set_option maxRecDepth 10000
set_option maxHeartbeats 4000000
set_option linter.unusedSimpArgs false
set_option linter.unusedVariables false
namespace Go.Proofs.Ythildgdbgjgidaa
open Go Go.Abs
theorem tdiv_nn {a b : Int} (ha : 0 ≤ a) : a.tdiv b = a / b := Int.tdiv_eq_ediv_of_nonneg ha
theorem tmod_nn {a b : Int} (ha : 0 ≤ a) : a.tmod b = a % b := Int.tmod_eq_emod_of_nonneg ha
theorem rounded_call (a b w : Int) (ha : 0 ≤ a) (ha2 : a ≤ 4000000000000000000) (hb : 0 < b) (hb2 : b ≤ 4000000000000000000) (h0 : 0 ≤ w) (h3 : w ≤ 3) : CallA Try.prog 18 [.int .i64 a, .int .i64 b, .int .i64 w] [] (Ret (.int .i64 (rnd a b w)) []) := by
  have m1 := Int.emod_nonneg a (show b ≠ 0 by omega)
  have m2 := Int.emod_lt_of_pos a hb
  have d1 : 0 ≤ a / b := Int.ediv_nonneg ha (by omega)
  have d2 : a / b ≤ a := Int.ediv_le_self b ha
  have e1 : IntKind.i64.wrap (a.tdiv b) = a / b := by rw [tdiv_nn ha, w64 (by omega) (by omega)]
  have e2 : a.tmod b = a % b := tmod_nn ha
  have e3 : IntKind.i64.wrap (b - a % b) = b - a % b := w64 (by omega) (by omega)
  have e4 : (a / b).tmod 2 = a / b % 2 := tmod_nn d1
  have e5 : IntKind.i64.wrap (a / b + 1) = a / b + 1 := w64 (by omega) (by omega)
  have hb' : b ≠ 0 := by omega
  rcases ways h0 h3 with rfl | rfl | rfl | rfl
  all_goals
    refine CallP.out (t := .mk) (go_in (md := md18) mixed Try.func18 rfl go18 (by kernel_rfl) ?_)
    simp only [q0, q1, q2, q3, q4, q5, q6, q7, q8, q9, zq0, zq1, zq2, zq3, zq4, guardSlot, quietA, nilC, nilA, quietB, St.ev, St.put, St.after, Nat.reduceAdd, Nat.reduceSub, ofV, ofL, lenA, binA, intBin, fltBin, strBin, cpxBin, unA, convA, convB, convO, pickV, resL, oneA, indexA, indexS, isQuiet, loadA, loadC, storeA, fieldA, partA, sliceA, boundA, buildA, placeA, setAll, appendA, readSl, newEl, AV.cells, AV.solid, AV.one, kill, killM, killL, notInt, Int.reduceToNat, cond_true, cond_false, ↓reduceIte, reduceCtorEq, Nat.reduceLT, Nat.reduceLeDiff, Nat.reduceMul, Nat.reduceEqDiff, exists_eq', putF, implies_true, exists_true_left, tys0, tys1, tys2, und0, und1, und2, md18, Try.ntmps18, Try.results18, e1, e2, e3, e4, e5, Int.reduceLT, Int.reduceLE, Int.reduceNeg, Int.reduceEq, Int.reduceGT, Int.reduceGE, decide_true, decide_false, beq_self_eq_true, bne_self_eq_false, Int.reduceBEq, Int.reduceBNe, Int.reduceAdd, Int.reduceSub]
    refine ⟨hb', hb', ?_⟩
  · exact PostR.pure ⟨by rw [rnd0], rfl⟩ rfl
  · refine br_intro (fun h => ?_) (fun h => ?_) <;> simp only [q0, q1, q2, q3, q4, q5, q6, q7, q8, q9, zq0, zq1, zq2, zq3, zq4, guardSlot, quietA, nilC, nilA, quietB, St.ev, St.put, St.after, Nat.reduceAdd, Nat.reduceSub, ofV, ofL, lenA, binA, intBin, fltBin, strBin, cpxBin, unA, convA, convB, convO, pickV, resL, oneA, indexA, indexS, isQuiet, loadA, loadC, storeA, fieldA, partA, sliceA, boundA, buildA, placeA, setAll, appendA, readSl, newEl, AV.cells, AV.solid, AV.one, kill, killM, killL, notInt, Int.reduceToNat, cond_true, cond_false, ↓reduceIte, reduceCtorEq, Nat.reduceLT, Nat.reduceLeDiff, Nat.reduceMul, Nat.reduceEqDiff, exists_eq', putF, implies_true, exists_true_left, tys0, tys1, tys2, und0, und1, und2, md18, Try.ntmps18, Try.results18, e5]
    · have h' := of_decide_eq_true h
      exact PostR.pure ⟨by rw [rnd1, if_pos h'], rfl⟩ rfl
    · have h' := of_decide_eq_false h
      exact PostR.pure ⟨by rw [rnd1, if_neg h']; simp, rfl⟩ rfl
  · refine br_intro (fun h => ?_) (fun h => ?_) <;> simp only [q0, q1, q2, q3, q4, q5, q6, q7, q8, q9, zq0, zq1, zq2, zq3, zq4, guardSlot, quietA, nilC, nilA, quietB, St.ev, St.put, St.after, Nat.reduceAdd, Nat.reduceSub, ofV, ofL, lenA, binA, intBin, fltBin, strBin, cpxBin, unA, convA, convB, convO, pickV, resL, oneA, indexA, indexS, isQuiet, loadA, loadC, storeA, fieldA, partA, sliceA, boundA, buildA, placeA, setAll, appendA, readSl, newEl, AV.cells, AV.solid, AV.one, kill, killM, killL, notInt, Int.reduceToNat, cond_true, cond_false, ↓reduceIte, reduceCtorEq, Nat.reduceLT, Nat.reduceLeDiff, Nat.reduceMul, Nat.reduceEqDiff, exists_eq', putF, implies_true, exists_true_left, tys0, tys1, tys2, und0, und1, und2, md18, Try.ntmps18, Try.results18, e3, e4, e5, Int.reduceLT, Int.reduceLE, Int.reduceNeg, Int.reduceEq, Int.reduceGT, Int.reduceGE, decide_true, decide_false, beq_self_eq_true, bne_self_eq_false, Int.reduceBEq, Int.reduceBNe, Int.reduceAdd, Int.reduceSub]
    · have h' := of_decide_eq_true h
      exact PostR.pure ⟨by rw [rnd2, if_pos (Or.inl h')], rfl⟩ rfl
    · have h' := of_decide_eq_false h
      refine br_intro (fun g => ?_) (fun g => ?_) <;> simp only [q0, q1, q2, q3, q4, q5, q6, q7, q8, q9, zq0, zq1, zq2, zq3, zq4, guardSlot, quietA, nilC, nilA, quietB, St.ev, St.put, St.after, Nat.reduceAdd, Nat.reduceSub, ofV, ofL, lenA, binA, intBin, fltBin, strBin, cpxBin, unA, convA, convB, convO, pickV, resL, oneA, indexA, indexS, isQuiet, loadA, loadC, storeA, fieldA, partA, sliceA, boundA, buildA, placeA, setAll, appendA, readSl, newEl, AV.cells, AV.solid, AV.one, kill, killM, killL, notInt, Int.reduceToNat, cond_true, cond_false, ↓reduceIte, reduceCtorEq, Nat.reduceLT, Nat.reduceLeDiff, Nat.reduceMul, Nat.reduceEqDiff, exists_eq', putF, implies_true, exists_true_left, tys0, tys1, tys2, und0, und1, und2, md18, Try.ntmps18, Try.results18, e3, e4, e5, Int.reduceLT, Int.reduceLE, Int.reduceNeg, Int.reduceEq, Int.reduceGT, Int.reduceGE, decide_true, decide_false, beq_self_eq_true, bne_self_eq_false, Int.reduceBEq, Int.reduceBNe, Int.reduceAdd, Int.reduceSub]
      · have g' := eq_of_beq g
        refine ⟨by decide, ?_⟩
        refine br_intro (fun i => ?_) (fun i => ?_) <;> simp only [q0, q1, q2, q3, q4, q5, q6, q7, q8, q9, zq0, zq1, zq2, zq3, zq4, guardSlot, quietA, nilC, nilA, quietB, St.ev, St.put, St.after, Nat.reduceAdd, Nat.reduceSub, ofV, ofL, lenA, binA, intBin, fltBin, strBin, cpxBin, unA, convA, convB, convO, pickV, resL, oneA, indexA, indexS, isQuiet, loadA, loadC, storeA, fieldA, partA, sliceA, boundA, buildA, placeA, setAll, appendA, readSl, newEl, AV.cells, AV.solid, AV.one, kill, killM, killL, notInt, Int.reduceToNat, cond_true, cond_false, ↓reduceIte, reduceCtorEq, Nat.reduceLT, Nat.reduceLeDiff, Nat.reduceMul, Nat.reduceEqDiff, exists_eq', putF, implies_true, exists_true_left, tys0, tys1, tys2, und0, und1, und2, md18, Try.ntmps18, Try.results18, e3, e4, e5, Int.reduceLT, Int.reduceLE, Int.reduceNeg, Int.reduceEq, Int.reduceGT, Int.reduceGE, decide_true, decide_false, beq_self_eq_true, bne_self_eq_false, Int.reduceBEq, Int.reduceBNe, Int.reduceAdd, Int.reduceSub]
        · have i' := eq_of_beq i
          exact PostR.pure ⟨by rw [rnd2, if_pos (Or.inr ⟨g', i'⟩)], rfl⟩ rfl
        · have i' := ne_of_beq_false i
          exact PostR.pure ⟨by rw [rnd2, if_neg (by rintro (x | ⟨_, x⟩); exact h' x; exact i' x)]; simp, rfl⟩ rfl
      · have g' := ne_of_beq_false g
        exact PostR.pure ⟨by rw [rnd2, if_neg (by rintro (x | ⟨x, _⟩); exact h' x; exact g' x)]; simp, rfl⟩ rfl
  · refine br_intro (fun h => ?_) (fun h => ?_) <;> simp only [q0, q1, q2, q3, q4, q5, q6, q7, q8, q9, zq0, zq1, zq2, zq3, zq4, guardSlot, quietA, nilC, nilA, quietB, St.ev, St.put, St.after, Nat.reduceAdd, Nat.reduceSub, ofV, ofL, lenA, binA, intBin, fltBin, strBin, cpxBin, unA, convA, convB, convO, pickV, resL, oneA, indexA, indexS, isQuiet, loadA, loadC, storeA, fieldA, partA, sliceA, boundA, buildA, placeA, setAll, appendA, readSl, newEl, AV.cells, AV.solid, AV.one, kill, killM, killL, notInt, Int.reduceToNat, cond_true, cond_false, ↓reduceIte, reduceCtorEq, Nat.reduceLT, Nat.reduceLeDiff, Nat.reduceMul, Nat.reduceEqDiff, exists_eq', putF, implies_true, exists_true_left, tys0, tys1, tys2, und0, und1, und2, md18, Try.ntmps18, Try.results18, e5]
    · have h' := of_decide_eq_true h
      exact PostR.pure ⟨by rw [rnd3, if_pos h'], rfl⟩ rfl
    · have h' := of_decide_eq_false h
      exact PostR.pure ⟨by rw [rnd3, if_neg h']; simp, rfl⟩ rfl

theorem dueBy_call (c r w : Int) (c0 : 0 ≤ c) (c1 : c ≤ 1000000000000) (r0 : 0 ≤ r) (r1 : r ≤ 10000) (w0 : 0 ≤ w) (w3 : w ≤ 3) : CallA Try.prog 19 [.int .i64 c, .int .i64 r, .int .i64 w] [] (Ret (.int .i64 (rnd (c * r) 10000 w)) []) := by
  have m := mul_bounds c0 c1 r0 r1
  have e1 : IntKind.i64.wrap (c * r) = c * r := w64 (by omega) (by omega)
  refine CallP.out (t := .mk) (go_in (md := md19) mixed Try.func19 rfl go19 (by kernel_rfl) ?_)
  simp only [q0, q1, q2, q3, q4, q5, q6, q7, q8, q9, zq0, zq1, zq2, zq3, zq4, guardSlot, quietA, nilC, nilA, quietB, St.ev, St.put, St.after, Nat.reduceAdd, Nat.reduceSub, ofV, ofL, lenA, binA, intBin, fltBin, strBin, cpxBin, unA, convA, convB, convO, pickV, resL, oneA, indexA, indexS, isQuiet, loadA, loadC, storeA, fieldA, partA, sliceA, boundA, buildA, placeA, setAll, appendA, readSl, newEl, AV.cells, AV.solid, AV.one, kill, killM, killL, notInt, Int.reduceToNat, cond_true, cond_false, ↓reduceIte, reduceCtorEq, Nat.reduceLT, Nat.reduceLeDiff, Nat.reduceMul, Nat.reduceEqDiff, exists_eq', putF, implies_true, exists_true_left, tys0, tys1, tys2, und0, und1, und2, md19, Try.ntmps19, Try.results19, e1]
  refine call_ret (rounded_call (c * r) 10000 w m.1 (by omega) (by omega) (by omega) w0 w3) rfl rfl ?_
  simp only [q0, q1, q2, q3, q4, q5, q6, q7, q8, q9, zq0, zq1, zq2, zq3, zq4, guardSlot, quietA, nilC, nilA, quietB, St.ev, St.put, St.after, Nat.reduceAdd, Nat.reduceSub, ofV, ofL, lenA, binA, intBin, fltBin, strBin, cpxBin, unA, convA, convB, convO, pickV, resL, oneA, indexA, indexS, isQuiet, loadA, loadC, storeA, fieldA, partA, sliceA, boundA, buildA, placeA, setAll, appendA, readSl, newEl, AV.cells, AV.solid, AV.one, kill, killM, killL, notInt, Int.reduceToNat, cond_true, cond_false, ↓reduceIte, reduceCtorEq, Nat.reduceLT, Nat.reduceLeDiff, Nat.reduceMul, Nat.reduceEqDiff, exists_eq', putF, implies_true, exists_true_left, tys0, tys1, tys2, und0, und1, und2, md19, Try.ntmps19, Try.results19]
  exact PostR.pure ⟨rfl, rfl⟩ rfl
def Sml (m : Int) (l : List Int) : Prop := ∀ x ∈ l, 0 ≤ x ∧ x < m
theorem Sml.at_ {m : Int} {l : List Int} (h : Sml m l) {i : Nat} (hi : i < l.length) : 0 ≤ l.getD i 0 ∧ l.getD i 0 < m := by
  rw [getD_at l 0 i hi]; exact h _ (List.getElem_mem hi)
theorem Sml.all {m : Int} {l : List Int} (h : Sml m l) (lo hi : Int) (h1 : lo ≤ 0) (h2 : m ≤ hi + 1) : l.all (inR lo hi) = true :=
  List.all_eq_true.2 fun x hx => inR_yes (by have := h x hx; omega) (by have := h x hx; omega)
def sumI (l : List Int) : Int := l.foldr (· + ·) 0
theorem Sml.sum {m : Int} {l : List Int} (h : Sml m l) : 0 ≤ sumI l ∧ sumI l ≤ m * l.length := by
  unfold sumI
  induction l with
  | nil => simp
  | cons x l ih =>
    have h1 := h x (by simp)
    have h2 := ih fun y hy => h y (by simp [hy])
    have e : m * ((x :: l).length : Int) = m * l.length + m := by rw [List.length_cons, Int.natCast_add, Int.mul_add]; omega
    rw [e, List.foldr_cons]
    omega
theorem Sml.take {m : Int} {l : List Int} (h : Sml m l) (i : Nat) : Sml m (l.take i) := fun x hx => h x (List.mem_of_mem_take hx)
def rngL (f : Nat → Int) (n : Nat) : List Int := (List.range n).map f
theorem rngL_len (f : Nat → Int) (n : Nat) : (rngL f n).length = n := by simp [rngL]
theorem rngL_succ (f : Nat → Int) (n : Nat) : rngL f n ++ [f n] = rngL f (n + 1) := by simp [rngL, List.range_succ]
theorem rngL_get (f : Nat → Int) (n i : Nat) (h : i < n) : (rngL f n).getD i 0 = f i := by simp [rngL, h]
structure DrB (n : Nat) (most : Int) (xs : List Int) (a : Nat) : Prop where
  len : xs.length ≤ n
  ok : ∀ x ∈ xs, 0 ≤ x ∧ x < most
  at_ : a ≤ 2 * xs.length
theorem DrB.next {n : Nat} {most : Int} {xs : List Int} {a a' : Nat} {x : Int} (D : DrB n most xs a) (hl : xs.length < n) (hx : 0 ≤ x ∧ x < most) (ha : a' ≤ a + 2) : DrB n most (xs ++ [x]) a' :=
  ⟨by simp; omega, fun y hy => by
    rcases List.mem_append.1 hy with h | h
    · exact D.ok y h
    · rw [List.mem_singleton.1 h]; exact hx, by have := D.at_; simp; omega⟩
theorem below0_call (code : List Int) (hc : byteL code) (hl : code.length ≤ 1048576) (n : Nat) (hn : n ≤ 1000) (most : Int) (h1 : 1 ≤ most) (h2 : most ≤ 1000000) :
    CallA Try.prog 6 [.ro (kint .u8 code), .int .i64 n, .int .i64 most] [] (fun r hp => ∃ xs : List Int, xs.length = n ∧ (∀ x ∈ xs, 0 ≤ x ∧ x < most) ∧ r = .sl 0 0 n ∧ hp = [intB xs]) := by
  refine CallP.out (t := .mk) (go_in (md := md6) mixed Try.func6 rfl go6 (by kernel_rfl) ?_)
  simp only [q0, q1, q2, q3, q4, q5, q6, q7, q8, q9, zq0, zq1, zq2, zq3, zq4, guardSlot, quietA, nilC, nilA, quietB, St.ev, St.put, St.after, Nat.reduceAdd, Nat.reduceSub, ofV, ofL, lenA, binA, intBin, fltBin, strBin, cpxBin, unA, convA, convB, convO, pickV, resL, oneA, indexA, indexS, isQuiet, loadA, loadC, storeA, fieldA, partA, sliceA, boundA, buildA, placeA, setAll, appendA, readSl, newEl, AV.cells, AV.solid, AV.one, kill, killM, killL, notInt, Int.reduceToNat, cond_true, cond_false, ↓reduceIte, reduceCtorEq, Nat.reduceLT, Nat.reduceLeDiff, Nat.reduceMul, Nat.reduceEqDiff, exists_eq', putF, implies_true, exists_true_left, tys0, tys1, tys2, und0, und1, und2, md6, Try.ntmps6, Try.results6]
  refine call_new (l00From_call code) rfl (by intro q hq; simp at hq; subst hq; rfl) ?_
  simp only [q0, q1, q2, q3, q4, q5, q6, q7, q8, q9, zq0, zq1, zq2, zq3, zq4, guardSlot, quietA, nilC, nilA, quietB, St.ev, St.put, St.after, Nat.reduceAdd, Nat.reduceSub, ofV, ofL, lenA, binA, intBin, fltBin, strBin, cpxBin, unA, convA, convB, convO, pickV, resL, oneA, indexA, indexS, isQuiet, loadA, loadC, storeA, fieldA, partA, sliceA, boundA, buildA, placeA, setAll, appendA, readSl, newEl, AV.cells, AV.solid, AV.one, kill, killM, killL, notInt, Int.reduceToNat, cond_true, cond_false, ↓reduceIte, reduceCtorEq, Nat.reduceLT, Nat.reduceLeDiff, Nat.reduceMul, Nat.reduceEqDiff, exists_eq', putF, implies_true, exists_true_left, tys0, tys1, tys2, und0, und1, und2, md6, Try.ntmps6, Try.results6, ren, renM, renL]
  refine go_round (md := md6) mixed (by kernel_rfl) (fun p : {p : List Int × Nat × Int // DrB n most p.1 p.2.1} => ⟨[.any, .int .i64 ((n : Int) - p.1.1.length), .int .i64 most, .any, .any, .any, .any, .ptr 0 0 0, .sl 1 0 p.1.1.length, .any, .any, .any, .any, .any, .any, .any, .any, .any, .any, .any, .any, .any, .any, .any, .any], [srcB code p.1.2.1 p.1.2.2, intB p.1.1]⟩) (fun p => n - p.1.1.length) ⟨([], 0, 0), ⟨by simp, by simp, by simp⟩⟩ ?_ ?_
  · exact weak_drop (by simp) (by simp [DropHp, ints_below, flts_below, srcB_below, intB, ints, allBelow_cons, allBelow_nil, below, belowM, belowL]) (by simp [DropTm, DropV, below, belowM, belowL, srcB_below, intB, ints, allBelow_cons, allBelow_nil, below, belowM, belowL])
  rintro ⟨⟨xs, a, sd⟩, D⟩
  have D1 := D.len
  have D2 := D.at_
  simp only [] at D1 D2
  simp only [q0, q1, q2, q3, q4, q5, q6, q7, q8, q9, zq0, zq1, zq2, zq3, zq4, guardSlot, quietA, nilC, nilA, quietB, St.ev, St.put, St.after, Nat.reduceAdd, Nat.reduceSub, ofV, ofL, lenA, binA, intBin, fltBin, strBin, cpxBin, unA, convA, convB, convO, pickV, resL, oneA, indexA, indexS, isQuiet, loadA, loadC, storeA, fieldA, partA, sliceA, boundA, buildA, placeA, setAll, appendA, readSl, newEl, AV.cells, AV.solid, AV.one, kill, killM, killL, notInt, Int.reduceToNat, cond_true, cond_false, ↓reduceIte, reduceCtorEq, Nat.reduceLT, Nat.reduceLeDiff, Nat.reduceMul, Nat.reduceEqDiff, exists_eq', putF, implies_true, exists_true_left, tys0, tys1, tys2, und0, und1, und2, md6, Try.ntmps6, Try.results6, intB, ints_len]
  refine br_intro (fun g => ?_) (fun g => ?_) <;> simp only [q0, q1, q2, q3, q4, q5, q6, q7, q8, q9, zq0, zq1, zq2, zq3, zq4, guardSlot, quietA, nilC, nilA, quietB, St.ev, St.put, St.after, Nat.reduceAdd, Nat.reduceSub, ofV, ofL, lenA, binA, intBin, fltBin, strBin, cpxBin, unA, convA, convB, convO, pickV, resL, oneA, indexA, indexS, isQuiet, loadA, loadC, storeA, fieldA, partA, sliceA, boundA, buildA, placeA, setAll, appendA, readSl, newEl, AV.cells, AV.solid, AV.one, kill, killM, killL, notInt, Int.reduceToNat, cond_true, cond_false, ↓reduceIte, reduceCtorEq, Nat.reduceLT, Nat.reduceLeDiff, Nat.reduceMul, Nat.reduceEqDiff, exists_eq', putF, implies_true, exists_true_left, tys0, tys1, tys2, und0, und1, und2, md6, Try.ntmps6, Try.results6, intB, ints_len]
  · have hR : xs.length < n := by have := of_decide_eq_true g; omega
    refine pick_at hc hl (by omega) h1 h2 (fun x a2 sd2 hx ha2 => ?_)
    simp only [q0, q1, q2, q3, q4, q5, q6, q7, q8, q9, zq0, zq1, zq2, zq3, zq4, guardSlot, quietA, nilC, nilA, quietB, St.ev, St.put, St.after, Nat.reduceAdd, Nat.reduceSub, ofV, ofL, lenA, binA, intBin, fltBin, strBin, cpxBin, unA, convA, convB, convO, pickV, resL, oneA, indexA, indexS, isQuiet, loadA, loadC, storeA, fieldA, partA, sliceA, boundA, buildA, placeA, setAll, appendA, readSl, newEl, AV.cells, AV.solid, AV.one, kill, killM, killL, notInt, Int.reduceToNat, cond_true, cond_false, ↓reduceIte, reduceCtorEq, Nat.reduceLT, Nat.reduceLeDiff, Nat.reduceMul, Nat.reduceEqDiff, exists_eq', putF, implies_true, exists_true_left, tys0, tys1, tys2, und0, und1, und2, md6, Try.ntmps6, Try.results6, intB, ints_len, allW_int, fits, List.isEmpty_cons, brk_false, Nat.reduceMul, srcB_kill]
    have ek : IntKind.i64.wrap ((n : Int) - xs.length - 1) = (n : Int) - (xs ++ [x]).length := by rw [w64 (by omega) (by omega)]; simp; omega
    have el : xs.length + 1 = (xs ++ [x]).length := by simp
    have DN := D.next hR hx ha2
    refine ⟨by omega, ⟨(xs ++ [x], a2, sd2), DN⟩, by show n - (xs ++ [x]).length < _; rw [← el]; omega, ?_⟩
    show Weak 0 _ ⟨_, _⟩
    rw [ek, el]
    dsimp only
    generalize xs ++ [x] = ys
    exact weak_drop (by simp) (by simp [DropHp, ints_below, flts_below, srcB_below, intB, allBelow_cons, allBelow_nil, below, belowM, belowL]) (by simp [DropTm, DropV, below, belowM, belowL, srcB_below, intB, allBelow_cons, allBelow_nil, below, belowM, belowL])
  · have hR : xs.length = n := by have := of_decide_eq_false g; omega
    refine PostR.tell [1] (hp2 := [intB xs]) (by decide) (by decide) (by decide) ⟨⟨congrArg some (renB_flat (r := intB xs) (ints_below _ _)).symm, ints_below _ _⟩, trivial⟩ ?_ rfl ⟨xs, hR, D.ok, rfl, rfl⟩
    rw [hR]; rfl
theorem below_call (code : List Int) (hc : byteL code) (hl : code.length ≤ 1048576) (n : Nat) (hn : n ≤ 1000) (most : Int) (h1 : 1 ≤ most) (h2 : most ≤ 1000000) :
    CallA Try.prog 6 [.ro (kint .u8 code), .int .i64 n, .int .i64 most] [] (fun r hp => ∃ xs : List Int, xs.length = n ∧ (∀ x ∈ xs, 0 ≤ x ∧ x < most) ∧ r = .ro (ints xs) ∧ hp = []) := by
  refine (CallA.freezeQ 2 (below0_call code hc hl n hn most h1 h2)).mono ?_
  rintro r hp ⟨r0, new, ⟨xs, e, ok, rfl, rfl⟩, rfl, rfl⟩
  refine ⟨xs, e, ok, ?_, rfl⟩
  subst e
  rw [view_sl]
  simp [intB, ints_len, map_view_ints, take_ints]
theorem view_one (xs : List Int) (n : Nat) (h : xs.length = n) : view 3 [intB xs] (.tup [.sl 0 0 n, .bool true]) = .tup [.ro (ints xs), .bool true] := by
  subst h
  have h1 : view 2 [intB xs] (.sl 0 0 xs.length) = .ro (ints xs) := by simp [view_sl, map_view_ints, take_ints, ints_len, intB]
  show AV.tup [view 2 [intB xs] (.sl 0 0 xs.length), .bool true] = _
  rw [h1]
theorem f64bits_call (x : Nat) (hx : (FloatKind.f64.decode x).isNaN = false) : CallA Try.prog 41 [.flt .f64 x] [] (Ret (.int .u64 x) []) :=
  bits_call (e := Extern.MathFloatBits.float64bits) Try.func41 (by kernel_rfl) (by kernel_rfl) (by kernel_rfl) (by kernel_rfl) (fun _ _ => rfl) x hx
theorem f64frombits_call (n : Int) : CallA Try.prog 33 [.int .u64 n] [] (Ret (.flt .f64 (canon .f64 n.toNat)) []) :=
  frombits_call (e := Extern.MathFloatBits.float64frombits) Try.func33 (by kernel_rfl) (by kernel_rfl) (by kernel_rfl) (by kernel_rfl) (fun _ _ => rfl) n
theorem abs_call (x : Nat) (hx : (FloatKind.f64.decode x).isNaN = false) (hl : x < 18446744073709551616) : CallA Try.prog 40 [.flt .f64 x] [] (Ret (.flt .f64 (x % 9223372036854775808)) []) := by
  refine CallP.out (t := .mk) (go_in (md := md40) mixed Try.func40 rfl go40 (by kernel_rfl) ?_)
  simp only [q0, q1, q2, q3, q4, q5, q6, q7, q8, q9, zq0, zq1, zq2, zq3, zq4, guardSlot, quietA, nilC, nilA, quietB, St.ev, St.put, St.after, Nat.reduceAdd, Nat.reduceSub, ofV, ofL, lenA, binA, intBin, fltBin, strBin, cpxBin, unA, convA, convB, convO, pickV, resL, oneA, indexA, indexS, isQuiet, loadA, loadC, storeA, fieldA, partA, sliceA, boundA, buildA, placeA, setAll, appendA, readSl, newEl, AV.cells, AV.solid, AV.one, kill, killM, killL, notInt, Int.reduceToNat, cond_true, cond_false, ↓reduceIte, reduceCtorEq, Nat.reduceLT, Nat.reduceLeDiff, Nat.reduceMul, Nat.reduceEqDiff, exists_eq', putF, implies_true, exists_true_left, tys0, tys1, tys2, und0, und1, und2, md40, Try.ntmps40, Try.results40]
  refine call_ret (f64bits_call x hx) rfl rfl ?_
  simp only [q0, q1, q2, q3, q4, q5, q6, q7, q8, q9, zq0, zq1, zq2, zq3, zq4, guardSlot, quietA, nilC, nilA, quietB, St.ev, St.put, St.after, Nat.reduceAdd, Nat.reduceSub, ofV, ofL, lenA, binA, intBin, fltBin, strBin, cpxBin, unA, convA, convB, convO, pickV, resL, oneA, indexA, indexS, isQuiet, loadA, loadC, storeA, fieldA, partA, sliceA, boundA, buildA, placeA, setAll, appendA, readSl, newEl, AV.cells, AV.solid, AV.one, kill, killM, killL, notInt, Int.reduceToNat, cond_true, cond_false, ↓reduceIte, reduceCtorEq, Nat.reduceLT, Nat.reduceLeDiff, Nat.reduceMul, Nat.reduceEqDiff, exists_eq', putF, implies_true, exists_true_left, tys0, tys1, tys2, und0, und1, und2, md40, Try.ntmps40, Try.results40]
  refine call_ret (f64frombits_call _) rfl rfl ?_
  simp only [q0, q1, q2, q3, q4, q5, q6, q7, q8, q9, zq0, zq1, zq2, zq3, zq4, guardSlot, quietA, nilC, nilA, quietB, St.ev, St.put, St.after, Nat.reduceAdd, Nat.reduceSub, ofV, ofL, lenA, binA, intBin, fltBin, strBin, cpxBin, unA, convA, convB, convO, pickV, resL, oneA, indexA, indexS, isQuiet, loadA, loadC, storeA, fieldA, partA, sliceA, boundA, buildA, placeA, setAll, appendA, readSl, newEl, AV.cells, AV.solid, AV.one, kill, killM, killL, notInt, Int.reduceToNat, cond_true, cond_false, ↓reduceIte, reduceCtorEq, Nat.reduceLT, Nat.reduceLeDiff, Nat.reduceMul, Nat.reduceEqDiff, exists_eq', putF, implies_true, exists_true_left, tys0, tys1, tys2, und0, und1, und2, md40, Try.ntmps40, Try.results40, bits_abs x hl, abs_nan x hx]
  exact PostR.ret
theorem isInf_call (x : Nat) (hx : (FloatKind.f64.decode x).isNaN = false) (hl : x < 18446744073709551616) : CallA Try.prog 38 [.flt .f64 x, .int .i64 0] [] (Ret (.bool (infB .f64 x)) []) := by
  refine CallP.out (t := .mk) (go_in (md := md38) mixed Try.func38 rfl go38 (by kernel_rfl) ?_)
  simp only [q0, q1, q2, q3, q4, q5, q6, q7, q8, q9, zq0, zq1, zq2, zq3, zq4, guardSlot, quietA, nilC, nilA, quietB, St.ev, St.put, St.after, Nat.reduceAdd, Nat.reduceSub, ofV, ofL, lenA, binA, intBin, fltBin, strBin, cpxBin, unA, convA, convB, convO, pickV, resL, oneA, indexA, indexS, isQuiet, loadA, loadC, storeA, fieldA, partA, sliceA, boundA, buildA, placeA, setAll, appendA, readSl, newEl, AV.cells, AV.solid, AV.one, kill, killM, killL, notInt, Int.reduceToNat, cond_true, cond_false, ↓reduceIte, reduceCtorEq, Nat.reduceLT, Nat.reduceLeDiff, Nat.reduceMul, Nat.reduceEqDiff, exists_eq', putF, implies_true, exists_true_left, tys0, tys1, tys2, und0, und1, und2, md38, Try.ntmps38, Try.results38, beq_self_eq_true]
  refine call_ret (abs_call x hx hl) rfl rfl ?_
  simp only [q0, q1, q2, q3, q4, q5, q6, q7, q8, q9, zq0, zq1, zq2, zq3, zq4, guardSlot, quietA, nilC, nilA, quietB, St.ev, St.put, St.after, Nat.reduceAdd, Nat.reduceSub, ofV, ofL, lenA, binA, intBin, fltBin, strBin, cpxBin, unA, convA, convB, convO, pickV, resL, oneA, indexA, indexS, isQuiet, loadA, loadC, storeA, fieldA, partA, sliceA, boundA, buildA, placeA, setAll, appendA, readSl, newEl, AV.cells, AV.solid, AV.one, kill, killM, killL, notInt, Int.reduceToNat, cond_true, cond_false, ↓reduceIte, reduceCtorEq, Nat.reduceLT, Nat.reduceLeDiff, Nat.reduceMul, Nat.reduceEqDiff, exists_eq', putF, implies_true, exists_true_left, tys0, tys1, tys2, und0, und1, und2, md38, Try.ntmps38, Try.results38, canon_max, fgt_max]
  exact PostR.ret
theorem isNone_call (x : Nat) : CallA Try.prog 37 [.flt .f64 x] [] (Ret (.bool (FloatKind.f64.decode x).isNaN) []) := by
  refine CallP.out (t := .mk) (go_in (md := md37) mixed Try.func37 rfl go37 (by kernel_rfl) ?_)
  simp only [q0, q1, q2, q3, q4, q5, q6, q7, q8, q9, zq0, zq1, zq2, zq3, zq4, guardSlot, quietA, nilC, nilA, quietB, St.ev, St.put, St.after, Nat.reduceAdd, Nat.reduceSub, ofV, ofL, lenA, binA, intBin, fltBin, strBin, cpxBin, unA, convA, convB, convO, pickV, resL, oneA, indexA, indexS, isQuiet, loadA, loadC, storeA, fieldA, partA, sliceA, boundA, buildA, placeA, setAll, appendA, readSl, newEl, AV.cells, AV.solid, AV.one, kill, killM, killL, notInt, Int.reduceToNat, cond_true, cond_false, ↓reduceIte, reduceCtorEq, Nat.reduceLT, Nat.reduceLeDiff, Nat.reduceMul, Nat.reduceEqDiff, exists_eq', putF, implies_true, exists_true_left, tys0, tys1, tys2, und0, und1, und2, md37, Try.ntmps37, Try.results37, feq_same, Bool.not_not]
  exact PostR.ret
theorem isEnded_call (x : Nat) (hl : x < 18446744073709551616) : CallA Try.prog 34 [.flt .f64 x] [] (Ret (.bool (finB .f64 x)) []) := by
  refine CallP.out (t := .mk) (go_in (md := md34) mixed Try.func34 rfl go34 (by kernel_rfl) ?_)
  simp only [q0, q1, q2, q3, q4, q5, q6, q7, q8, q9, zq0, zq1, zq2, zq3, zq4, guardSlot, quietA, nilC, nilA, quietB, St.ev, St.put, St.after, Nat.reduceAdd, Nat.reduceSub, ofV, ofL, lenA, binA, intBin, fltBin, strBin, cpxBin, unA, convA, convB, convO, pickV, resL, oneA, indexA, indexS, isQuiet, loadA, loadC, storeA, fieldA, partA, sliceA, boundA, buildA, placeA, setAll, appendA, readSl, newEl, AV.cells, AV.solid, AV.one, kill, killM, killL, notInt, Int.reduceToNat, cond_true, cond_false, ↓reduceIte, reduceCtorEq, Nat.reduceLT, Nat.reduceLeDiff, Nat.reduceMul, Nat.reduceEqDiff, exists_eq', putF, implies_true, exists_true_left, tys0, tys1, tys2, und0, und1, und2, md34, Try.ntmps34, Try.results34]
  refine call_ret (isNone_call x) rfl rfl ?_
  simp only [q0, q1, q2, q3, q4, q5, q6, q7, q8, q9, zq0, zq1, zq2, zq3, zq4, guardSlot, quietA, nilC, nilA, quietB, St.ev, St.put, St.after, Nat.reduceAdd, Nat.reduceSub, ofV, ofL, lenA, binA, intBin, fltBin, strBin, cpxBin, unA, convA, convB, convO, pickV, resL, oneA, indexA, indexS, isQuiet, loadA, loadC, storeA, fieldA, partA, sliceA, boundA, buildA, placeA, setAll, appendA, readSl, newEl, AV.cells, AV.solid, AV.one, kill, killM, killL, notInt, Int.reduceToNat, cond_true, cond_false, ↓reduceIte, reduceCtorEq, Nat.reduceLT, Nat.reduceLeDiff, Nat.reduceMul, Nat.reduceEqDiff, exists_eq', putF, implies_true, exists_true_left, tys0, tys1, tys2, und0, und1, und2, md34, Try.ntmps34, Try.results34]
  refine br_intro (fun h => ?_) (fun h => ?_) <;> simp only [q0, q1, q2, q3, q4, q5, q6, q7, q8, q9, zq0, zq1, zq2, zq3, zq4, guardSlot, quietA, nilC, nilA, quietB, St.ev, St.put, St.after, Nat.reduceAdd, Nat.reduceSub, ofV, ofL, lenA, binA, intBin, fltBin, strBin, cpxBin, unA, convA, convB, convO, pickV, resL, oneA, indexA, indexS, isQuiet, loadA, loadC, storeA, fieldA, partA, sliceA, boundA, buildA, placeA, setAll, appendA, readSl, newEl, AV.cells, AV.solid, AV.one, kill, killM, killL, notInt, Int.reduceToNat, cond_true, cond_false, ↓reduceIte, reduceCtorEq, Nat.reduceLT, Nat.reduceLeDiff, Nat.reduceMul, Nat.reduceEqDiff, exists_eq', putF, implies_true, exists_true_left, tys0, tys1, tys2, und0, und1, und2, md34, Try.ntmps34, Try.results34]
  · exact PostR.pure ⟨by simp [fin_of, h], rfl⟩ rfl
  · refine call_ret (isInf_call x h hl) rfl rfl ?_
    simp only [q0, q1, q2, q3, q4, q5, q6, q7, q8, q9, zq0, zq1, zq2, zq3, zq4, guardSlot, quietA, nilC, nilA, quietB, St.ev, St.put, St.after, Nat.reduceAdd, Nat.reduceSub, ofV, ofL, lenA, binA, intBin, fltBin, strBin, cpxBin, unA, convA, convB, convO, pickV, resL, oneA, indexA, indexS, isQuiet, loadA, loadC, storeA, fieldA, partA, sliceA, boundA, buildA, placeA, setAll, appendA, readSl, newEl, AV.cells, AV.solid, AV.one, kill, killM, killL, notInt, Int.reduceToNat, cond_true, cond_false, ↓reduceIte, reduceCtorEq, Nat.reduceLT, Nat.reduceLeDiff, Nat.reduceMul, Nat.reduceEqDiff, exists_eq', putF, implies_true, exists_true_left, tys0, tys1, tys2, und0, und1, und2, md34, Try.ntmps34, Try.results34]
    exact PostR.pure ⟨by simp [fin_of, h], rfl⟩ rfl
theorem isFinite_call (x : Nat) : CallA Try.prog 30 [.flt .f32 x] [] (Ret (.bool (finB .f32 x)) []) := by
  refine CallP.out (t := .mk) (go_in (md := md30) mixed Try.func30 rfl go30 (by kernel_rfl) ?_)
  simp only [q0, q1, q2, q3, q4, q5, q6, q7, q8, q9, zq0, zq1, zq2, zq3, zq4, guardSlot, quietA, nilC, nilA, quietB, St.ev, St.put, St.after, Nat.reduceAdd, Nat.reduceSub, ofV, ofL, lenA, binA, intBin, fltBin, strBin, cpxBin, unA, convA, convB, convO, pickV, resL, oneA, indexA, indexS, isQuiet, loadA, loadC, storeA, fieldA, partA, sliceA, boundA, buildA, placeA, setAll, appendA, readSl, newEl, AV.cells, AV.solid, AV.one, kill, killM, killL, notInt, Int.reduceToNat, cond_true, cond_false, ↓reduceIte, reduceCtorEq, Nat.reduceLT, Nat.reduceLeDiff, Nat.reduceMul, Nat.reduceEqDiff, exists_eq', putF, implies_true, exists_true_left, tys0, tys1, tys2, und0, und1, und2, md30, Try.ntmps30, Try.results30]
  refine call_ret (isEnded_call _ (wide_lt x)) rfl rfl ?_
  simp only [q0, q1, q2, q3, q4, q5, q6, q7, q8, q9, zq0, zq1, zq2, zq3, zq4, guardSlot, quietA, nilC, nilA, quietB, St.ev, St.put, St.after, Nat.reduceAdd, Nat.reduceSub, ofV, ofL, lenA, binA, intBin, fltBin, strBin, cpxBin, unA, convA, convB, convO, pickV, resL, oneA, indexA, indexS, isQuiet, loadA, loadC, storeA, fieldA, partA, sliceA, boundA, buildA, placeA, setAll, appendA, readSl, newEl, AV.cells, AV.solid, AV.one, kill, killM, killL, notInt, Int.reduceToNat, cond_true, cond_false, ↓reduceIte, reduceCtorEq, Nat.reduceLT, Nat.reduceLeDiff, Nat.reduceMul, Nat.reduceEqDiff, exists_eq', putF, implies_true, exists_true_left, tys0, tys1, tys2, und0, und1, und2, md30, Try.ntmps30, Try.results30, wide_fin]
  exact PostR.ret
theorem finite_call (x : Nat) : CallA Try.prog 21 [.flt .f32 x] [] (Ret (.tup [.flt .f32 (if finB .f32 x then x else 0), .bool (finB .f32 x)]) []) := by
  refine CallP.out (t := .mk) (go_in (md := md21) mixed Try.func21 rfl go21 (by kernel_rfl) ?_)
  simp only [q0, q1, q2, q3, q4, q5, q6, q7, q8, q9, zq0, zq1, zq2, zq3, zq4, guardSlot, quietA, nilC, nilA, quietB, St.ev, St.put, St.after, Nat.reduceAdd, Nat.reduceSub, ofV, ofL, lenA, binA, intBin, fltBin, strBin, cpxBin, unA, convA, convB, convO, pickV, resL, oneA, indexA, indexS, isQuiet, loadA, loadC, storeA, fieldA, partA, sliceA, boundA, buildA, placeA, setAll, appendA, readSl, newEl, AV.cells, AV.solid, AV.one, kill, killM, killL, notInt, Int.reduceToNat, cond_true, cond_false, ↓reduceIte, reduceCtorEq, Nat.reduceLT, Nat.reduceLeDiff, Nat.reduceMul, Nat.reduceEqDiff, exists_eq', putF, implies_true, exists_true_left, tys0, tys1, tys2, und0, und1, und2, md21, Try.ntmps21, Try.results21]
  refine call_ret (isFinite_call x) rfl rfl ?_
  simp only [q0, q1, q2, q3, q4, q5, q6, q7, q8, q9, zq0, zq1, zq2, zq3, zq4, guardSlot, quietA, nilC, nilA, quietB, St.ev, St.put, St.after, Nat.reduceAdd, Nat.reduceSub, ofV, ofL, lenA, binA, intBin, fltBin, strBin, cpxBin, unA, convA, convB, convO, pickV, resL, oneA, indexA, indexS, isQuiet, loadA, loadC, storeA, fieldA, partA, sliceA, boundA, buildA, placeA, setAll, appendA, readSl, newEl, AV.cells, AV.solid, AV.one, kill, killM, killL, notInt, Int.reduceToNat, cond_true, cond_false, ↓reduceIte, reduceCtorEq, Nat.reduceLT, Nat.reduceLeDiff, Nat.reduceMul, Nat.reduceEqDiff, exists_eq', putF, implies_true, exists_true_left, tys0, tys1, tys2, und0, und1, und2, md21, Try.ntmps21, Try.results21]
  refine br_intro (fun h => ?_) (fun h => ?_) <;> simp only [q0, q1, q2, q3, q4, q5, q6, q7, q8, q9, zq0, zq1, zq2, zq3, zq4, guardSlot, quietA, nilC, nilA, quietB, St.ev, St.put, St.after, Nat.reduceAdd, Nat.reduceSub, ofV, ofL, lenA, binA, intBin, fltBin, strBin, cpxBin, unA, convA, convB, convO, pickV, resL, oneA, indexA, indexS, isQuiet, loadA, loadC, storeA, fieldA, partA, sliceA, boundA, buildA, placeA, setAll, appendA, readSl, newEl, AV.cells, AV.solid, AV.one, kill, killM, killL, notInt, Int.reduceToNat, cond_true, cond_false, ↓reduceIte, reduceCtorEq, Nat.reduceLT, Nat.reduceLeDiff, Nat.reduceMul, Nat.reduceEqDiff, exists_eq', putF, implies_true, exists_true_left, tys0, tys1, tys2, und0, und1, und2, md21, Try.ntmps21, Try.results21, canon_zero]
  · exact PostR.pure ⟨by simp [h], rfl⟩ rfl
  · exact PostR.pure ⟨by simp [h], rfl⟩ rfl
end Go.Proofs.Ythildgdbgjgidaa
