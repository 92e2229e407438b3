/- Facts that are drawn; lists of bools as cells. -/
import Derived.Test.YtmllengggncmkaaGreatQrA
set_option maxRecDepth 10000
set_option maxHeartbeats 4000000
set_option linter.unusedSimpArgs false
set_option linter.unusedVariables false
namespace Go.Proofs.YtmllengggncmkaaGreat
open Go Go.Abs

structure WfOk (xs : List Int) (t : Int) : Prop where
  len : xs.length ≤ 6
  ok : wordsB xs = true
  low : ∀ x ∈ xs, 1 ≤ atomF x ∧ atomF x < t
theorem WfOk.mono {xs : List Int} {t u : Int} (h : WfOk xs t) (hu : t ≤ u) : WfOk xs u := ⟨h.len, h.ok, fun x hx => by have := h.low x hx; omega⟩
theorem wfOk_nil : WfOk [] 1 := ⟨by simp, rfl, by simp⟩
theorem WfOk.skip {xs : List Int} {t : Int} (h : WfOk xs t) : WfOk xs (t + 1) := ⟨h.len, h.ok, fun x hx => by have := h.low x hx; omega⟩
theorem WfOk.next {xs : List Int} {t x : Int} (h : WfOk xs t) (hl : xs.length < 6) (h1 : 1 ≤ t) (h2 : t ≤ 6) (hx : x = t ∨ x = -t) : WfOk (xs ++ [x]) (t + 1) := by
  have ax : atomF x = t := by unfold atomF; rcases hx with rfl | rfl <;> split <;> omega
  refine ⟨by simp; omega, ?_, fun y hy => ?_⟩
  · unfold wordsB
    rw [List.length_append]
    show pref _ (xs.length + 1) = true
    have g0 : (xs ++ [x]).getD xs.length 0 = x := by simp [List.getD_eq_getElem?_getD]
    refine pref_go ?_ ?_
    · have := h.ok
      unfold wordsB pref at this
      unfold pref
      rw [List.all_eq_true] at this ⊢
      intro j hj
      have hj' : j < xs.length := by simpa using hj
      have e : ∀ i, i < xs.length → (xs ++ [x]).getD i 0 = xs.getD i 0 := fun i hi => by simp [List.getD_eq_getElem?_getD, List.getElem?_append_left hi]
      have := this j hj
      unfold wordP at this ⊢
      rw [e j hj', e (j - 1) (by omega)]
      exact this
    · unfold wordP
      rw [g0, ax]
      have wb : wordB x = true := by
        unfold wordB
        simp only [Bool.and_eq_true, bne_iff_ne, ne_eq]
        exact ⟨by omega, inR_yes (by omega) (by omega)⟩
      rw [wb, Bool.true_and, Bool.or_eq_true]
      cases hn : xs.length with
      | zero => exact .inl rfl
      | succ k =>
        right
        have e : (xs ++ [x]).getD k 0 = xs[k]'(by omega) := by simp [List.getD_eq_getElem?_getD, List.getElem?_append_left (show k < xs.length by omega), List.getElem?_eq_getElem (show k < xs.length by omega)]
        rw [show k + 1 - 1 = k by omega, e]
        exact decide_eq_true (h.low _ (List.getElem_mem _)).2
  · rcases List.mem_append.1 hy with hy | hy
    · have := h.low y hy; omega
    · rw [List.mem_singleton.1 hy, ax]; omega
theorem drawFactsB0_call (code : List Int) (hc : byteL code) (hl : code.length ≤ 1048576) (a : Nat) (ha : a ≤ 1000000) (sd : Int) :
    CallA Tryz.prog 25 [.ptr 0 0 0, .int .i64 6] [srcB code a sd] (fun r hp => ∃ (xs : List Int) (a' : Nat) (sd' : Int), WfOk xs 7 ∧ a' ≤ a + 12 ∧ r = .sl 1 0 xs.length ∧ hp = [srcB code a' sd', intB xs]) := by
  refine CallP.out (t := .mk) (go_in (md := md25) mixed Tryz.func25 rfl go25 (by kernel_rfl) ?_)
  simp only [q0, q1, q2, q3, q4, q5, q6, q7, q8, q9, zr0, zr1, zr2, zr3, zq0, zq1, zq2, zq3, zq4, Nat.reduceAdd, Nat.reduceSub, lenA, convA, indexA, indexS, Int.reduceToNat, cond_true, cond_false, ↓reduceIte, reduceCtorEq, Nat.reduceLT, Nat.reduceLeDiff, Nat.reduceMul, Nat.reduceEqDiff, exists_eq', implies_true, exists_true_left, tys0, tys1, tys2, tys3, tys4, und0, und1, und2, und3, md25, Tryz.ntmps25, Tryz.results25]
  refine go_round (md := md25) mixed (by kernel_rfl) (fun p : {p : List Int × Nat × Nat × Int // WfOk p.1 ((p.2.1 : Nat) : Int) ∧ 1 ≤ p.2.1 ∧ p.2.1 ≤ 7 ∧ p.2.2.1 + 2 ≤ a + 2 * p.2.1} => ⟨[.ptr 0 0 0, .int .i64 6, .any, .any, .any, .sl 1 0 p.1.1.length, .int .i64 ((p.1.2.1 : Nat) : Int), .any, .any, .any, .any, .any, .any, .any, .any, .any, .any, .any, .any, .any, .any, .any, .any, .any, .any, .any, .any, .any, .any, .any, .any, .any, .any, .any], [srcB code p.1.2.2.1 p.1.2.2.2, intB p.1.1]⟩) (fun p => 7 - p.1.2.1) ⟨([], 1, a, sd), wfOk_nil, by show 1 ≤ 1; omega, by show 1 ≤ 7; omega, by show a + 2 ≤ a + 2 * 1; omega⟩ ?_ ?_
  · exact weak_drop (by simp) (by simp [DropHp, ints_below, flts_below, srcB_below, intB, ints, allBelow_cons, allBelow_nil, below, belowM, belowL]) (by simp [DropTm, DropV, below, belowM, belowL, srcB_below, intB, ints, allBelow_cons, allBelow_nil, below, belowM, belowL])
  rintro ⟨⟨xs, t, a', sd'⟩, W, t1, t7, ha'⟩
  dsimp only at W t1 t7 ha' ⊢
  have fin : ∀ v, PostR 1 (.sl 1 0 xs.length) [srcB code a' sd', { ty := 2, w := 1, els := ints xs }] (fun r hp => ∃ (xs : List Int) (a' : Nat) (sd' : Int), WfOk xs 7 ∧ a' ≤ a + 12 ∧ r = .sl 1 0 xs.length ∧ hp = [srcB code a' sd', intB xs]) := fun v : Unit =>
    PostR.same ⟨xs, a', sd', W.mono (by omega), by omega, rfl, rfl⟩
  simp only [q0, q1, q2, q3, q4, q5, q6, q7, q8, q9, zr0, zr1, zr2, zr3, zq0, zq1, zq2, zq3, zq4, Nat.reduceAdd, Nat.reduceSub, lenA, convA, indexA, indexS, Int.reduceToNat, cond_true, cond_false, ↓reduceIte, reduceCtorEq, Nat.reduceLT, Nat.reduceLeDiff, Nat.reduceMul, Nat.reduceEqDiff, exists_eq', implies_true, exists_true_left, tys0, tys1, tys2, tys3, tys4, und0, und1, und2, und3, md25, Tryz.ntmps25, Tryz.results25, intB, ints_len]
  refine br_intro (fun g => ?_) (fun g => ?_) <;> simp only [q0, q1, q2, q3, q4, q5, q6, q7, q8, q9, zr0, zr1, zr2, zr3, zq0, zq1, zq2, zq3, zq4, Nat.reduceAdd, Nat.reduceSub, lenA, convA, indexA, indexS, Int.reduceToNat, cond_true, cond_false, ↓reduceIte, reduceCtorEq, Nat.reduceLT, Nat.reduceLeDiff, Nat.reduceMul, Nat.reduceEqDiff, exists_eq', implies_true, exists_true_left, tys0, tys1, tys2, tys3, tys4, und0, und1, und2, und3, md25, Tryz.ntmps25, Tryz.results25, intB, ints_len]
  · have g : t ≤ 6 := by have := of_decide_eq_true g; omega
    refine br_intro (fun g2 => ?_) (fun g2 => ?_) <;> simp only [q0, q1, q2, q3, q4, q5, q6, q7, q8, q9, zr0, zr1, zr2, zr3, zq0, zq1, zq2, zq3, zq4, Nat.reduceAdd, Nat.reduceSub, lenA, convA, indexA, indexS, Int.reduceToNat, cond_true, cond_false, ↓reduceIte, reduceCtorEq, Nat.reduceLT, Nat.reduceLeDiff, Nat.reduceMul, Nat.reduceEqDiff, exists_eq', implies_true, exists_true_left, tys0, tys1, tys2, tys3, tys4, und0, und1, und2, und3, md25, Tryz.ntmps25, Tryz.results25, intB, ints_len]
    · have g2 : xs.length < 6 := by have := of_decide_eq_true g2; omega
      refine pick_at hc hl (by omega) (by omega) (by omega) (fun x a2 sd2 hx ha2 => ?_)
      have w1 : IntKind.i64.wrap ((t : Int) + 1) = ((t + 1 : Nat) : Int) := by rw [w64 (by omega) (by omega)]; omega
      have w2 : IntKind.i64.wrap (0 - (t : Int)) = -(t : Int) := by rw [w64 (by omega) (by omega)]; omega
      have go : ∀ y : Int, (y = (t : Int) ∨ y = -(t : Int)) → WfOk (xs ++ [y]) ((t + 1 : Nat) : Int) := fun y hy => W.next g2 (by omega) (by omega) hy
      simp only [q0, q1, q2, q3, q4, q5, q6, q7, q8, q9, zr0, zr1, zr2, zr3, zq0, zq1, zq2, zq3, zq4, Nat.reduceAdd, Nat.reduceSub, lenA, convA, indexA, indexS, Int.reduceToNat, cond_true, cond_false, ↓reduceIte, reduceCtorEq, Nat.reduceLT, Nat.reduceLeDiff, Nat.reduceMul, Nat.reduceEqDiff, exists_eq', implies_true, exists_true_left, tys0, tys1, tys2, tys3, tys4, und0, und1, und2, und3, md25, Tryz.ntmps25, Tryz.results25, intB, ints_len]
      refine br_intro (fun g3 => ?_) (fun g3 => ?_) <;> simp only [q0, q1, q2, q3, q4, q5, q6, q7, q8, q9, zr0, zr1, zr2, zr3, zq0, zq1, zq2, zq3, zq4, Nat.reduceAdd, Nat.reduceSub, lenA, convA, indexA, indexS, Int.reduceToNat, cond_true, cond_false, ↓reduceIte, reduceCtorEq, Nat.reduceLT, Nat.reduceLeDiff, Nat.reduceMul, Nat.reduceEqDiff, exists_eq', implies_true, exists_true_left, tys0, tys1, tys2, tys3, tys4, und0, und1, und2, und3, md25, Tryz.ntmps25, Tryz.results25, intB, ints_len, allW_int, fits, List.isEmpty_cons, brk_false, Nat.reduceMul, srcB_kill]
      · refine ⟨by omega, ⟨(xs ++ [(t : Int)], t + 1, a2, sd2), go _ (.inl rfl), by show 1 ≤ t + 1; omega, by show t + 1 ≤ 7; omega, by show a2 + 2 ≤ a + 2 * (t + 1); omega⟩, by show 7 - (t + 1) < 7 - t; omega, ?_⟩
        rw [w1]
        show Weak 1 _ ⟨_, _⟩
        rw [show xs.length + 1 = (xs ++ [(t : Int)]).length by simp]
        dsimp only
        generalize xs ++ [(t : Int)] = ys
        exact weak_drop (by simp) (by simp [DropHp, ints_below, flts_below, srcB_below, intB, allBelow_cons, allBelow_nil, below, belowM, belowL]) (by simp [DropTm, DropV, below, belowM, belowL, srcB_below, intB, allBelow_cons, allBelow_nil, below, belowM, belowL])
      · refine br_intro (fun g4 => ?_) (fun g4 => ?_) <;> simp only [q0, q1, q2, q3, q4, q5, q6, q7, q8, q9, zr0, zr1, zr2, zr3, zq0, zq1, zq2, zq3, zq4, Nat.reduceAdd, Nat.reduceSub, lenA, convA, indexA, indexS, Int.reduceToNat, cond_true, cond_false, ↓reduceIte, reduceCtorEq, Nat.reduceLT, Nat.reduceLeDiff, Nat.reduceMul, Nat.reduceEqDiff, exists_eq', implies_true, exists_true_left, tys0, tys1, tys2, tys3, tys4, und0, und1, und2, und3, md25, Tryz.ntmps25, Tryz.results25, intB, ints_len, allW_int, fits, List.isEmpty_cons, brk_false, Nat.reduceMul, srcB_kill]
        · refine ⟨by omega, ⟨(xs ++ [-(t : Int)], t + 1, a2, sd2), go _ (.inr rfl), by show 1 ≤ t + 1; omega, by show t + 1 ≤ 7; omega, by show a2 + 2 ≤ a + 2 * (t + 1); omega⟩, by show 7 - (t + 1) < 7 - t; omega, ?_⟩
          rw [w1, w2]
          show Weak 1 _ ⟨_, _⟩
          rw [show xs.length + 1 = (xs ++ [-(t : Int)]).length by simp]
          dsimp only
          generalize xs ++ [-(t : Int)] = ys
          exact weak_drop (by simp) (by simp [DropHp, ints_below, flts_below, srcB_below, intB, allBelow_cons, allBelow_nil, below, belowM, belowL]) (by simp [DropTm, DropV, below, belowM, belowL, srcB_below, intB, allBelow_cons, allBelow_nil, below, belowM, belowL])
        · refine ⟨⟨(xs, t + 1, a2, sd2), (by have := W.skip; rw [show ((t + 1 : Nat) : Int) = (t : Int) + 1 by omega]; exact this), by show 1 ≤ t + 1; omega, by show t + 1 ≤ 7; omega, by show a2 + 2 ≤ a + 2 * (t + 1); omega⟩, by show 7 - (t + 1) < 7 - t; omega, ?_⟩
          rw [w1]
          show Weak 1 _ ⟨_, _⟩
          dsimp only
          exact weak_drop (by simp) (by simp [DropHp, ints_below, flts_below, srcB_below, intB, allBelow_cons, allBelow_nil, below, belowM, belowL]) (by simp [DropTm, DropV, below, belowM, belowL, srcB_below, intB, allBelow_cons, allBelow_nil, below, belowM, belowL])
    · exact fin ()
  · exact fin ()
theorem drawFactsB_call (code : List Int) (hc : byteL code) (hl : code.length ≤ 1048576) (a : Nat) (ha : a ≤ 1000000) (sd : Int) :
    CallA Tryz.prog 25 [.ptr 0 0 0, .int .i64 6] [srcB code a sd] (fun r hp => ∃ (xs : List Int) (a' : Nat) (sd' : Int), WfOk xs 7 ∧ a' ≤ a + 12 ∧ r = .ro (ints xs) ∧ hp = [srcB code a' sd']) := by
  refine CallA.freezeN 2 (drawFactsB0_call code hc hl a ha sd) ?_
  rintro r hp ⟨xs, a', sd', W, ha', rfl, rfl⟩
  refine ⟨[srcB code a' sd'], [intB xs], .sl 0 0 xs.length, rfl, rfl, by simp [intB, ints_below], by simp [srcB_below], rfl, rfl, xs, a', sd', W, ha', view_intB xs, rfl⟩
theorem b10Facts_call (code : List Int) (hc : byteL code) (hl : code.length ≤ 1048576) :
    CallA Tryz.prog 9 [.ro (kint .u8 code)] [] (fun r hp => ∃ xs : List Int, WfOk xs 7 ∧ r = .ro (ints xs) ∧ hp = []) := by
  refine CallP.out (t := .mk) (go_in (md := md9) mixed Tryz.func9 rfl go9 (by kernel_rfl) ?_)
  simp only [q0, q1, q2, q3, q4, q5, q6, q7, q8, q9, zr0, zr1, zr2, zr3, zq0, zq1, zq2, zq3, zq4, Nat.reduceAdd, Nat.reduceSub, lenA, convA, indexA, indexS, Int.reduceToNat, cond_true, cond_false, ↓reduceIte, reduceCtorEq, Nat.reduceLT, Nat.reduceLeDiff, Nat.reduceMul, Nat.reduceEqDiff, exists_eq', implies_true, exists_true_left, tys0, tys1, tys2, tys3, tys4, und0, und1, und2, und3, md9, Tryz.ntmps9, Tryz.results9]
  refine call_new (l00From_call code) rfl (by intro q hq; simp at hq; subst hq; rfl) ?_
  simp only [q0, q1, q2, q3, q4, q5, q6, q7, q8, q9, zr0, zr1, zr2, zr3, zq0, zq1, zq2, zq3, zq4, Nat.reduceAdd, Nat.reduceSub, lenA, convA, indexA, indexS, Int.reduceToNat, cond_true, cond_false, ↓reduceIte, reduceCtorEq, Nat.reduceLT, Nat.reduceLeDiff, Nat.reduceMul, Nat.reduceEqDiff, exists_eq', implies_true, exists_true_left, tys0, tys1, tys2, tys3, tys4, und0, und1, und2, und3, md9, Tryz.ntmps9, Tryz.results9, ren, renM, renL]
  refine call_by (drawFactsB_call code hc hl 0 (by omega) 0) ?_
  rintro r hp ⟨xs, a, sd, W, ha, rfl, rfl⟩
  simp only [q0, q1, q2, q3, q4, q5, q6, q7, q8, q9, zr0, zr1, zr2, zr3, zq0, zq1, zq2, zq3, zq4, Nat.reduceAdd, Nat.reduceSub, lenA, convA, indexA, indexS, Int.reduceToNat, cond_true, cond_false, ↓reduceIte, reduceCtorEq, Nat.reduceLT, Nat.reduceLeDiff, Nat.reduceMul, Nat.reduceEqDiff, exists_eq', implies_true, exists_true_left, tys0, tys1, tys2, tys3, tys4, und0, und1, und2, und3, md9, Tryz.ntmps9, Tryz.results9]
  exact PostR.pure ⟨xs, W, rfl, rfl⟩ (by rfl)

def bC (n : Nat) (W : Nat → Bool) : List AV := (List.range n).map fun i => .bool (W i)
theorem bC_len (n : Nat) (W : Nat → Bool) : (bC n W).length = n := by simp [bC]
theorem bC_get (n : Nat) (W : Nat → Bool) (i : Nat) (h : i < (bC n W).length) : (bC n W)[i]'h = .bool (W i) := by simp [bC]
theorem bC_get? (n : Nat) (W : Nat → Bool) (i : Nat) (h : i < n) : (bC n W)[i]? = some (.bool (W i)) := by
  rw [List.getElem?_eq_getElem (by rw [bC_len]; exact h), bC_get]
theorem bC_drop (n a : Nat) (W : Nat → Bool) (i : Nat) (h : i < ((bC n W).drop a).length) : ((bC n W).drop a)[i]'h = .bool (W (a + i)) := by simp [bC]
theorem bC_drop_len (n a : Nat) (W : Nat → Bool) : ((bC n W).drop a).length = n - a := by simp [bC]
def updW (W : Nat → Bool) (j : Nat) (b : Bool) : Nat → Bool := fun i => if i = j then b else W i
theorem bC_put (n : Nat) (W : Nat → Bool) (j : Nat) (b : Bool) (h : j < n) : placeA (bC n W) j [.bool b] = bC n (updW W j b) := by
  unfold placeA
  apply List.ext_getElem?
  intro i
  by_cases h1 : i < j
  · rw [List.append_assoc, List.getElem?_append_left (by simp [bC]; omega), List.getElem?_take_of_lt h1, bC_get? _ _ _ (by omega), bC_get? _ _ _ (by omega)]
    simp [updW, show i ≠ j by omega]
  · by_cases h2 : i = j
    · subst h2
      rw [List.getElem?_append_left (by simp [bC]; omega), List.getElem?_append_right (by simp [bC]; omega), bC_get? _ _ _ h]
      simp [bC, updW, show min i n = i by omega]
    · rw [List.getElem?_append_right (by simp [bC]; omega), List.getElem?_drop]
      by_cases h3 : i < n
      · rw [bC_get? _ _ _ h3, show j + [AV.bool b].length + (i - (List.take j (bC n W) ++ [AV.bool b]).length) = i by simp [bC]; omega, bC_get? _ _ _ h3]
        simp [updW, h2]
      · rw [List.getElem?_eq_none (by simp [bC]; omega), List.getElem?_eq_none (by simp [bC]; omega)]
theorem bC_one (n : Nat) (W : Nat → Bool) : (bC n W).all AV.one = true := by simp [bC, AV.one]
theorem bC_below (N n : Nat) (W : Nat → Bool) : (bC n W).all (belowL N) = true := by simp [bC, belowL]
theorem bC_view (d : Nat) (hp : List Blk) (n : Nat) (W : Nat → Bool) : (bC n W).map (view d hp) = bC n W := by
  unfold bC
  rw [List.map_map]
  exact List.map_congr_left fun x _ => by cases d <;> rfl
def plN (w : Int) : Nat := (if w < 0 then -2 * w - 1 else 2 * w - 2).toNat
theorem plN_lt {w : Int} (h : wordB w = true) : plN w < 32 := by
  have := wordB_low h
  have h0 : w ≠ 0 := by unfold wordB at h; simp at h; exact h.1
  unfold plN; split <;> omega
theorem plN_inj {v w : Int} (hv : wordB v = true) (hw : wordB w = true) (h : plN v = plN w) : v = w := by
  have a1 := wordB_low hv
  have a2 := wordB_low hw
  have b1 : v ≠ 0 := by unfold wordB at hv; simp at hv; exact hv.1
  have b2 : w ≠ 0 := by unfold wordB at hw; simp at hw; exact hw.1
  unfold plN at h
  split at h <;> split at h <;> omega
theorem word_neg {w : Int} (h : wordB w = true) : wordB (-w) = true := by
  have a1 := wordB_low h
  have b1 : w ≠ 0 := by unfold wordB at h; simp at h; exact h.1
  unfold wordB
  simp only [Bool.and_eq_true, bne_iff_ne, ne_eq]
  exact ⟨by omega, inR_yes (by omega) (by omega)⟩
theorem l05Place_call (w : Int) (h : wordB w = true) : CallA Tryz.prog 58 [.int .i64 w] [] (Ret (.int .i64 (plN w : Nat)) []) := by
  have a1 := wordB_low h
  have b1 : w ≠ 0 := by unfold wordB at h; simp at h; exact h.1
  refine CallP.out (t := .mk) (go_in (md := md58) mixed Tryz.func58 rfl go58 (by kernel_rfl) ?_)
  simp only [q0, q1, q2, q3, q4, q5, q6, q7, q8, q9, zr0, zr1, zr2, zr3, zq0, zq1, zq2, zq3, zq4, Nat.reduceAdd, Nat.reduceSub, lenA, convA, indexA, indexS, Int.reduceToNat, cond_true, cond_false, ↓reduceIte, reduceCtorEq, Nat.reduceLT, Nat.reduceLeDiff, Nat.reduceMul, Nat.reduceEqDiff, exists_eq', implies_true, exists_true_left, tys0, tys1, tys2, tys3, tys4, und0, und1, und2, und3, md58, Tryz.ntmps58, Tryz.results58]
  refine br_intro (fun g => ?_) (fun g => ?_) <;> simp only [q0, q1, q2, q3, q4, q5, q6, q7, q8, q9, zr0, zr1, zr2, zr3, zq0, zq1, zq2, zq3, zq4, Nat.reduceAdd, Nat.reduceSub, lenA, convA, indexA, indexS, Int.reduceToNat, cond_true, cond_false, ↓reduceIte, reduceCtorEq, Nat.reduceLT, Nat.reduceLeDiff, Nat.reduceMul, Nat.reduceEqDiff, exists_eq', implies_true, exists_true_left, tys0, tys1, tys2, tys3, tys4, und0, und1, und2, und3, md58, Tryz.ntmps58, Tryz.results58]
  · have g := of_decide_eq_true g
    rw [w64 (n := -2 * w) (by omega) (by omega), w64 (by omega) (by omega), show (-2 * w - 1) = ((plN w : Nat) : Int) by unfold plN; rw [if_pos g]; omega]
    exact PostR.ret
  · have g := of_decide_eq_false g
    rw [w64 (n := 2 * w) (by omega) (by omega), w64 (by omega) (by omega), show (2 * w - 2) = ((plN w : Nat) : Int) by unfold plN; rw [if_neg g]; omega]
    exact PostR.ret
end Go.Proofs.YtmllengggncmkaaGreat
