/- The law FnChained: its parts in read-only form, and its draws. -/
import Derived.Test.YtdlddnnnfjnabaaChG
import Derived.Test.YtdlddnnnfjnabaaLibV
import Derived.Test.YtdlddnnnfjnabaaAbsM3
set_option maxRecDepth 10000
set_option maxHeartbeats 8000000
set_option linter.unusedSimpArgs false
set_option linter.unusedVariables false
namespace Go.Proofs.Ytdlddnnnfjnabaa
open Go Go.Abs

structure DrB (n : Nat) (most : Int) (xs : List Int) (a : Nat) : Prop where
  len : xs.length ≤ n
  ok : ∀ x ∈ xs, 0 ≤ x ∧ x < most
  at_ : a ≤ 2 * xs.length
theorem DrB.next {n : Nat} {most : Int} {xs : List Int} {a a' : Nat} {x : Int} (D : DrB n most xs a) (hl : xs.length < n) (hx : 0 ≤ x ∧ x < most) (ha : a' ≤ a + 2) : DrB n most (xs ++ [x]) a' :=
  ⟨by simp; omega, fun y hy => by
    rcases List.mem_append.1 hy with h | h
    · exact D.ok y h
    · rw [List.mem_singleton.1 h]; exact hx, by have := D.at_; simp; omega⟩
theorem below0_call (code : List Int) (hc : byteL code) (hl : code.length ≤ 1048576) (n : Nat) (hn : n ≤ 1000) (most : Int) (h1 : 1 ≤ most) (h2 : most ≤ 1000000) :
    CallA Try.prog 8 [.ro (kint .u8 code), .int .i64 n, .int .i64 most] [] (fun r hp => ∃ xs : List Int, xs.length = n ∧ (∀ x ∈ xs, 0 ≤ x ∧ x < most) ∧ r = .sl 0 0 n ∧ hp = [intB xs]) := by
  refine CallP.out (t := .mk) (go_in (md := md8) mixed Try.func8 rfl go8 (by kernel_rfl) ?_)
  simp only [q0, q1, q2, q3, q4, q5, q6, q7, q8, q9, zq0, zq1, zq2, zq3, zq4, guardSlot, quietA, nilC, nilA, quietB, St.ev, St.put, St.after, Nat.reduceAdd, Nat.reduceSub, ofV, ofL, lenA, binA, intBin, fltBin, strBin, cpxBin, unA, convA, convB, convO, pickV, resL, oneA, indexA, indexS, isQuiet, loadA, loadC, storeA, fieldA, partA, sliceA, boundA, buildA, placeA, setAll, appendA, readSl, newEl, AV.cells, AV.solid, AV.one, kill, killM, killL, notInt, Int.reduceToNat, cond_true, cond_false, ↓reduceIte, reduceCtorEq, Nat.reduceLT, Nat.reduceLeDiff, Nat.reduceMul, Nat.reduceEqDiff, exists_eq', putF, implies_true, exists_true_left, tys0, tys1, tys2, tys3, tys4, und0, und1, und2, und3, md8, Try.ntmps8, Try.results8]
  refine call_new (l00From_call code) rfl (by intro q hq; simp at hq; subst hq; rfl) ?_
  simp only [q0, q1, q2, q3, q4, q5, q6, q7, q8, q9, zq0, zq1, zq2, zq3, zq4, guardSlot, quietA, nilC, nilA, quietB, St.ev, St.put, St.after, Nat.reduceAdd, Nat.reduceSub, ofV, ofL, lenA, binA, intBin, fltBin, strBin, cpxBin, unA, convA, convB, convO, pickV, resL, oneA, indexA, indexS, isQuiet, loadA, loadC, storeA, fieldA, partA, sliceA, boundA, buildA, placeA, setAll, appendA, readSl, newEl, AV.cells, AV.solid, AV.one, kill, killM, killL, notInt, Int.reduceToNat, cond_true, cond_false, ↓reduceIte, reduceCtorEq, Nat.reduceLT, Nat.reduceLeDiff, Nat.reduceMul, Nat.reduceEqDiff, exists_eq', putF, implies_true, exists_true_left, tys0, tys1, tys2, tys3, tys4, und0, und1, und2, und3, md8, Try.ntmps8, Try.results8, ren, renM, renL]
  refine go_round (md := md8) mixed (by kernel_rfl) (fun p : {p : List Int × Nat × Int // DrB n most p.1 p.2.1} => ⟨[.any, .int .i64 ((n : Int) - p.1.1.length), .int .i64 most, .any, .any, .any, .any, .ptr 0 0 0, .sl 1 0 p.1.1.length, .any, .any, .any, .any, .any, .any, .any, .any, .any, .any, .any, .any, .any, .any, .any, .any], [srcB code p.1.2.1 p.1.2.2, intB p.1.1]⟩) (fun p => n - p.1.1.length) ⟨([], 0, 0), ⟨by simp, by simp, by simp⟩⟩ ?_ ?_
  · exact weak_drop (by simp) (by simp [DropHp, ints_below, flts_below, srcB_below, intB, ints, allBelow_cons, allBelow_nil, below, belowM, belowL]) (by simp [DropTm, DropV, below, belowM, belowL, srcB_below, intB, ints, allBelow_cons, allBelow_nil, below, belowM, belowL])
  rintro ⟨⟨xs, a, sd⟩, D⟩
  have D1 := D.len
  have D2 := D.at_
  simp only [] at D1 D2
  simp only [q0, q1, q2, q3, q4, q5, q6, q7, q8, q9, zq0, zq1, zq2, zq3, zq4, guardSlot, quietA, nilC, nilA, quietB, St.ev, St.put, St.after, Nat.reduceAdd, Nat.reduceSub, ofV, ofL, lenA, binA, intBin, fltBin, strBin, cpxBin, unA, convA, convB, convO, pickV, resL, oneA, indexA, indexS, isQuiet, loadA, loadC, storeA, fieldA, partA, sliceA, boundA, buildA, placeA, setAll, appendA, readSl, newEl, AV.cells, AV.solid, AV.one, kill, killM, killL, notInt, Int.reduceToNat, cond_true, cond_false, ↓reduceIte, reduceCtorEq, Nat.reduceLT, Nat.reduceLeDiff, Nat.reduceMul, Nat.reduceEqDiff, exists_eq', putF, implies_true, exists_true_left, tys0, tys1, tys2, tys3, tys4, und0, und1, und2, und3, md8, Try.ntmps8, Try.results8, intB, ints_len]
  refine br_intro (fun g => ?_) (fun g => ?_) <;> simp only [q0, q1, q2, q3, q4, q5, q6, q7, q8, q9, zq0, zq1, zq2, zq3, zq4, guardSlot, quietA, nilC, nilA, quietB, St.ev, St.put, St.after, Nat.reduceAdd, Nat.reduceSub, ofV, ofL, lenA, binA, intBin, fltBin, strBin, cpxBin, unA, convA, convB, convO, pickV, resL, oneA, indexA, indexS, isQuiet, loadA, loadC, storeA, fieldA, partA, sliceA, boundA, buildA, placeA, setAll, appendA, readSl, newEl, AV.cells, AV.solid, AV.one, kill, killM, killL, notInt, Int.reduceToNat, cond_true, cond_false, ↓reduceIte, reduceCtorEq, Nat.reduceLT, Nat.reduceLeDiff, Nat.reduceMul, Nat.reduceEqDiff, exists_eq', putF, implies_true, exists_true_left, tys0, tys1, tys2, tys3, tys4, und0, und1, und2, und3, md8, Try.ntmps8, Try.results8, intB, ints_len]
  · have hR : xs.length < n := by have := of_decide_eq_true g; omega
    refine pick_at hc hl (by omega) h1 h2 (fun x a2 sd2 hx ha2 => ?_)
    simp only [q0, q1, q2, q3, q4, q5, q6, q7, q8, q9, zq0, zq1, zq2, zq3, zq4, guardSlot, quietA, nilC, nilA, quietB, St.ev, St.put, St.after, Nat.reduceAdd, Nat.reduceSub, ofV, ofL, lenA, binA, intBin, fltBin, strBin, cpxBin, unA, convA, convB, convO, pickV, resL, oneA, indexA, indexS, isQuiet, loadA, loadC, storeA, fieldA, partA, sliceA, boundA, buildA, placeA, setAll, appendA, readSl, newEl, AV.cells, AV.solid, AV.one, kill, killM, killL, notInt, Int.reduceToNat, cond_true, cond_false, ↓reduceIte, reduceCtorEq, Nat.reduceLT, Nat.reduceLeDiff, Nat.reduceMul, Nat.reduceEqDiff, exists_eq', putF, implies_true, exists_true_left, tys0, tys1, tys2, tys3, tys4, und0, und1, und2, und3, md8, Try.ntmps8, Try.results8, intB, ints_len, allW_int, fits, List.isEmpty_cons, brk_false, Nat.reduceMul, srcB_kill]
    have ek : IntKind.i64.wrap ((n : Int) - xs.length - 1) = (n : Int) - (xs ++ [x]).length := by rw [w64 (by omega) (by omega)]; simp; omega
    have el : xs.length + 1 = (xs ++ [x]).length := by simp
    have DN := D.next hR hx ha2
    refine ⟨by omega, ⟨(xs ++ [x], a2, sd2), DN⟩, by show n - (xs ++ [x]).length < _; rw [← el]; omega, ?_⟩
    show Weak 0 _ ⟨_, _⟩
    rw [ek, el]
    dsimp only
    generalize xs ++ [x] = ys
    exact weak_drop (by simp) (by simp [DropHp, ints_below, flts_below, srcB_below, intB, allBelow_cons, allBelow_nil, below, belowM, belowL]) (by simp [DropTm, DropV, below, belowM, belowL, srcB_below, intB, allBelow_cons, allBelow_nil, below, belowM, belowL])
  · have hR : xs.length = n := by have := of_decide_eq_false g; omega
    refine PostR.tell [1] (hp2 := [intB xs]) (by decide) (by decide) (by decide) ⟨⟨congrArg some (renB_flat (r := intB xs) (ints_below _ _)).symm, ints_below _ _⟩, trivial⟩ ?_ rfl ⟨xs, hR, D.ok, rfl, rfl⟩
    rw [hR]; rfl
theorem below_call (code : List Int) (hc : byteL code) (hl : code.length ≤ 1048576) (n : Nat) (hn : n ≤ 1000) (most : Int) (h1 : 1 ≤ most) (h2 : most ≤ 1000000) :
    CallA Try.prog 8 [.ro (kint .u8 code), .int .i64 n, .int .i64 most] [] (fun r hp => ∃ xs : List Int, xs.length = n ∧ (∀ x ∈ xs, 0 ≤ x ∧ x < most) ∧ r = .ro (ints xs) ∧ hp = []) := by
  refine (CallA.freezeQ 2 (below0_call code hc hl n hn most h1 h2)).mono ?_
  rintro r hp ⟨r0, new, ⟨xs, e, ok, rfl, rfl⟩, rfl, rfl⟩
  refine ⟨xs, e, ok, ?_, rfl⟩
  subst e
  rw [view_sl]
  simp [intB, ints_len, map_view_ints, take_ints]
theorem view_one (xs : List Int) (n : Nat) (h : xs.length = n) : view 3 [intB xs] (.tup [.sl 0 0 n, .bool true]) = .tup [.ro (ints xs), .bool true] := by
  subst h
  have h1 : view 2 [intB xs] (.sl 0 0 xs.length) = .ro (ints xs) := by simp [view_sl, map_view_ints, take_ints, ints_len, intB]
  show AV.tup [view 2 [intB xs] (.sl 0 0 xs.length), .bool true] = _
  rw [h1]
theorem chain_ro (xs : List Int) (hx : Sml 2000 xs) (h1 : 1 ≤ xs.length) (hl : xs.length ≤ 10) (r w : Int) (r0 : 0 ≤ r) (r1 : r ≤ 10000) (w0 : 0 ≤ w) (w3 : w ≤ 3) :
    CallA Try.prog 9 [.ro (ints xs), .int .i64 r, .int .i64 w] [] (Ret (.tup [.ro (ints (rngL (chnF r w xs) xs.length)), .bool true]) []) :=
  CallA.frozen 3 (chainDues_call xs hx h1 hl r w r0 r1 w0 w3) (view_one _ _ (rngL_len _ _))
theorem cascade_ro (xs : List Int) (hx : Sml 2000 xs) (h1 : 1 ≤ xs.length) (hl : xs.length ≤ 10) (r w : Int) (r0 : 0 ≤ r) (r1 : r ≤ 10000) (w0 : 0 ≤ w) (w3 : w ≤ 3) :
    CallA Try.prog 11 [.ro (ints xs), .int .i64 r, .int .i64 w] [] (Ret (.tup [.ro (ints (rngL (fun i => casP r w xs (i + 1)) xs.length)), .bool true]) []) :=
  CallA.frozen 3 (cascade_call xs hx h1 hl r w r0 r1 w0 w3) (view_one _ _ (rngL_len _ _))
theorem sprF_bound {xs ks rs : List Int} {w : Int} (L : Lns xs ks rs w) : SpB xs.length xs.length (sprF xs ks rs w) := by
  have key : ∀ (O : List Nat) (j : Nat) (s : List Int × List Int), SpB xs.length j s → (∀ i ∈ O, i < xs.length) → SpB xs.length (j + O.length) (sprG ks O s) := by
    intro O
    induction O with
    | nil => intro j s B _; exact B
    | cons i O ih =>
      intro j s B h
      have hi := h i (by simp)
      have bk := L.k.at_ (show i < ks.length by have := L.kl; omega)
      have := ih (j + 1) (stpG ks i s) (B.step ks i hi (by omega)) fun x hx => h x (by simp [hx])
      rw [List.length_cons, show j + (O.length + 1) = j + 1 + O.length by omega]
      exact this
  have h := key (ordN xs ks rs) 0 (flL xs ks rs, lefL xs ks rs w xs.length) ⟨flL_len _ _ _, lefL_len _ _ _ _ _, fun x hx => by have := fl_bound L x hx; exact ⟨by omega, by show x ≤ 3000 + ((0 : Nat) : Int); omega⟩, lef_bound L _⟩ (fun i hi => by
    obtain ⟨x, hx, rfl⟩ := List.mem_map.1 hi
    have := ordF_mem hx
    omega)
  rw [show (ordN xs ks rs).length = xs.length by simp [ordN, ordF_len], Nat.zero_add] at h
  exact h
end Go.Proofs.Ytdlddnnnfjnabaa
