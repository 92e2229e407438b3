/- Dues of lines and of their rates: what the program's parts compute. -/
import Derived.Test.YtdlddnnnfjnabaaChD
set_option maxRecDepth 10000
set_option maxHeartbeats 8000000
set_option linter.unusedSimpArgs false
set_option linter.unusedVariables false
namespace Go.Proofs.Ytdlddnnnfjnabaa
open Go Go.Abs

structure Lns (xs ks rs : List Int) (w : Int) : Prop where
  x : Sml 2000 xs
  k : Sml 3 ks
  r : Sml 10000 rs
  one : 1 ≤ xs.length
  ten : xs.length ≤ 10
  kl : ks.length = xs.length
  rl : rs.length = 3
  w0 : 0 ≤ w
  w3 : w ≤ 3
theorem areLines_call {xs ks rs : List Int} {w : Int} (L : Lns xs ks rs w) : CallA Try.prog 49 [.ro (ints xs), .ro (ints ks), .ro (ints rs), .int .i64 w] [] (Ret (.bool true) []) := by
  have h1 := L.one
  have h2 := L.ten
  have h3 := L.kl
  have h4 := L.rl
  have s := L.x.sumT h2 xs.length
  rw [List.take_length] at s
  refine CallP.out (t := .mk) (go_in (md := md49) mixed Try.func49 rfl go49 (by kernel_rfl) ?_)
  simp only [q0, q1, q2, q3, q4, q5, q6, q7, q8, q9, zq0, zq1, zq2, zq3, zq4, guardSlot, quietA, nilC, nilA, quietB, St.ev, St.put, St.after, Nat.reduceAdd, Nat.reduceSub, ofV, ofL, lenA, binA, intBin, fltBin, strBin, cpxBin, unA, convA, convB, convO, pickV, resL, oneA, indexA, indexS, isQuiet, loadA, loadC, storeA, fieldA, partA, sliceA, boundA, buildA, placeA, setAll, appendA, readSl, newEl, AV.cells, AV.solid, AV.one, kill, killM, killL, notInt, Int.reduceToNat, cond_true, cond_false, ↓reduceIte, reduceCtorEq, Nat.reduceLT, Nat.reduceLeDiff, Nat.reduceMul, Nat.reduceEqDiff, exists_eq', putF, implies_true, exists_true_left, tys0, tys1, tys2, tys3, tys4, und0, und1, und2, und3, md49, Try.ntmps49, Try.results49]
  refine call_ret (hasCount_call xs _ _ _ _ (by omega)) rfl rfl ?_
  rw [hasC_yes L.x h1 (by omega) (by omega)]
  simp only [q0, q1, q2, q3, q4, q5, q6, q7, q8, q9, zq0, zq1, zq2, zq3, zq4, guardSlot, quietA, nilC, nilA, quietB, St.ev, St.put, St.after, Nat.reduceAdd, Nat.reduceSub, ofV, ofL, lenA, binA, intBin, fltBin, strBin, cpxBin, unA, convA, convB, convO, pickV, resL, oneA, indexA, indexS, isQuiet, loadA, loadC, storeA, fieldA, partA, sliceA, boundA, buildA, placeA, setAll, appendA, readSl, newEl, AV.cells, AV.solid, AV.one, kill, killM, killL, notInt, Int.reduceToNat, cond_true, cond_false, ↓reduceIte, reduceCtorEq, Nat.reduceLT, Nat.reduceLeDiff, Nat.reduceMul, Nat.reduceEqDiff, exists_eq', putF, implies_true, exists_true_left, tys0, tys1, tys2, tys3, tys4, und0, und1, und2, und3, md49, Try.ntmps49, Try.results49]
  refine call_ret (total_call xs L.x h2) rfl rfl ?_
  simp only [q0, q1, q2, q3, q4, q5, q6, q7, q8, q9, zq0, zq1, zq2, zq3, zq4, guardSlot, quietA, nilC, nilA, quietB, St.ev, St.put, St.after, Nat.reduceAdd, Nat.reduceSub, ofV, ofL, lenA, binA, intBin, fltBin, strBin, cpxBin, unA, convA, convB, convO, pickV, resL, oneA, indexA, indexS, isQuiet, loadA, loadC, storeA, fieldA, partA, sliceA, boundA, buildA, placeA, setAll, appendA, readSl, newEl, AV.cells, AV.solid, AV.one, kill, killM, killL, notInt, Int.reduceToNat, cond_true, cond_false, ↓reduceIte, reduceCtorEq, Nat.reduceLT, Nat.reduceLeDiff, Nat.reduceMul, Nat.reduceEqDiff, exists_eq', putF, implies_true, exists_true_left, tys0, tys1, tys2, tys3, tys4, und0, und1, und2, und3, md49, Try.ntmps49, Try.results49]
  refine call_ret (isAmount_call _) rfl rfl ?_
  rw [inR_yes s.1 (by omega)]
  simp only [q0, q1, q2, q3, q4, q5, q6, q7, q8, q9, zq0, zq1, zq2, zq3, zq4, guardSlot, quietA, nilC, nilA, quietB, St.ev, St.put, St.after, Nat.reduceAdd, Nat.reduceSub, ofV, ofL, lenA, binA, intBin, fltBin, strBin, cpxBin, unA, convA, convB, convO, pickV, resL, oneA, indexA, indexS, isQuiet, loadA, loadC, storeA, fieldA, partA, sliceA, boundA, buildA, placeA, setAll, appendA, readSl, newEl, AV.cells, AV.solid, AV.one, kill, killM, killL, notInt, Int.reduceToNat, cond_true, cond_false, ↓reduceIte, reduceCtorEq, Nat.reduceLT, Nat.reduceLeDiff, Nat.reduceMul, Nat.reduceEqDiff, exists_eq', putF, implies_true, exists_true_left, tys0, tys1, tys2, tys3, tys4, und0, und1, und2, und3, md49, Try.ntmps49, Try.results49]
  refine call_ret (hasCount_call rs _ _ _ _ (by omega)) rfl rfl ?_
  rw [hasC_yes L.r (by omega) (by omega) (by omega)]
  simp only [q0, q1, q2, q3, q4, q5, q6, q7, q8, q9, zq0, zq1, zq2, zq3, zq4, guardSlot, quietA, nilC, nilA, quietB, St.ev, St.put, St.after, Nat.reduceAdd, Nat.reduceSub, ofV, ofL, lenA, binA, intBin, fltBin, strBin, cpxBin, unA, convA, convB, convO, pickV, resL, oneA, indexA, indexS, isQuiet, loadA, loadC, storeA, fieldA, partA, sliceA, boundA, buildA, placeA, setAll, appendA, readSl, newEl, AV.cells, AV.solid, AV.one, kill, killM, killL, notInt, Int.reduceToNat, cond_true, cond_false, ↓reduceIte, reduceCtorEq, Nat.reduceLT, Nat.reduceLeDiff, Nat.reduceMul, Nat.reduceEqDiff, exists_eq', putF, implies_true, exists_true_left, tys0, tys1, tys2, tys3, tys4, und0, und1, und2, und3, md49, Try.ntmps49, Try.results49, ints_len, h4, h3]
  try (refine br_yes (by first | exact decide_eq_true (by omega) | (simp only [bne_iff_ne, beq_iff_eq, ne_eq]; omega)) ?_; simp only [q0, q1, q2, q3, q4, q5, q6, q7, q8, q9, zq0, zq1, zq2, zq3, zq4, guardSlot, quietA, nilC, nilA, quietB, St.ev, St.put, St.after, Nat.reduceAdd, Nat.reduceSub, ofV, ofL, lenA, binA, intBin, fltBin, strBin, cpxBin, unA, convA, convB, convO, pickV, resL, oneA, indexA, indexS, isQuiet, loadA, loadC, storeA, fieldA, partA, sliceA, boundA, buildA, placeA, setAll, appendA, readSl, newEl, AV.cells, AV.solid, AV.one, kill, killM, killL, notInt, Int.reduceToNat, cond_true, cond_false, ↓reduceIte, reduceCtorEq, Nat.reduceLT, Nat.reduceLeDiff, Nat.reduceMul, Nat.reduceEqDiff, exists_eq', putF, implies_true, exists_true_left, tys0, tys1, tys2, tys3, tys4, und0, und1, und2, und3, md49, Try.ntmps49, Try.results49, ints_len, h4, h3])
  refine call_ret (areWithin_call ks _ _ (by omega)) rfl rfl ?_
  rw [L.k.all 0 _ (by omega) (by decide)]
  simp only [q0, q1, q2, q3, q4, q5, q6, q7, q8, q9, zq0, zq1, zq2, zq3, zq4, guardSlot, quietA, nilC, nilA, quietB, St.ev, St.put, St.after, Nat.reduceAdd, Nat.reduceSub, ofV, ofL, lenA, binA, intBin, fltBin, strBin, cpxBin, unA, convA, convB, convO, pickV, resL, oneA, indexA, indexS, isQuiet, loadA, loadC, storeA, fieldA, partA, sliceA, boundA, buildA, placeA, setAll, appendA, readSl, newEl, AV.cells, AV.solid, AV.one, kill, killM, killL, notInt, Int.reduceToNat, cond_true, cond_false, ↓reduceIte, reduceCtorEq, Nat.reduceLT, Nat.reduceLeDiff, Nat.reduceMul, Nat.reduceEqDiff, exists_eq', putF, implies_true, exists_true_left, tys0, tys1, tys2, tys3, tys4, und0, und1, und2, und3, md49, Try.ntmps49, Try.results49, ints_len, h4, h3]
  refine call_ret (isRound_call _) rfl rfl ?_
  rw [inR_yes L.w0 L.w3]
  simp only [q0, q1, q2, q3, q4, q5, q6, q7, q8, q9, zq0, zq1, zq2, zq3, zq4, guardSlot, quietA, nilC, nilA, quietB, St.ev, St.put, St.after, Nat.reduceAdd, Nat.reduceSub, ofV, ofL, lenA, binA, intBin, fltBin, strBin, cpxBin, unA, convA, convB, convO, pickV, resL, oneA, indexA, indexS, isQuiet, loadA, loadC, storeA, fieldA, partA, sliceA, boundA, buildA, placeA, setAll, appendA, readSl, newEl, AV.cells, AV.solid, AV.one, kill, killM, killL, notInt, Int.reduceToNat, cond_true, cond_false, ↓reduceIte, reduceCtorEq, Nat.reduceLT, Nat.reduceLeDiff, Nat.reduceMul, Nat.reduceEqDiff, exists_eq', putF, implies_true, exists_true_left, tys0, tys1, tys2, tys3, tys4, und0, und1, und2, und3, md49, Try.ntmps49, Try.results49]
  exact PostR.pure ⟨rfl, rfl⟩ rfl
def lnF (xs ks rs : List Int) (w : Int) (i : Nat) : Int := ownF (rs.getD (ks.getD i 0).toNat 0) w (xs.getD i 0)
theorem lineDues_call {xs ks rs : List Int} {w : Int} (L : Lns xs ks rs w) : CallA Try.prog 13 [.ro (ints xs), .ro (ints ks), .ro (ints rs), .int .i64 w] [] (Ret (.tup [.sl 0 0 xs.length, .bool true]) [intB (rngL (lnF xs ks rs w) xs.length)]) := by
  have h1 := L.one
  have h2 := L.ten
  have h3 := L.kl
  have h4 := L.rl
  refine CallP.out (t := .mk) (go_in (md := md13) mixed Try.func13 rfl go13 (by kernel_rfl) ?_)
  simp only [q0, q1, q2, q3, q4, q5, q6, q7, q8, q9, zq0, zq1, zq2, zq3, zq4, guardSlot, quietA, nilC, nilA, quietB, St.ev, St.put, St.after, Nat.reduceAdd, Nat.reduceSub, ofV, ofL, lenA, binA, intBin, fltBin, strBin, cpxBin, unA, convA, convB, convO, pickV, resL, oneA, indexA, indexS, isQuiet, loadA, loadC, storeA, fieldA, partA, sliceA, boundA, buildA, placeA, setAll, appendA, readSl, newEl, AV.cells, AV.solid, AV.one, kill, killM, killL, notInt, Int.reduceToNat, cond_true, cond_false, ↓reduceIte, reduceCtorEq, Nat.reduceLT, Nat.reduceLeDiff, Nat.reduceMul, Nat.reduceEqDiff, exists_eq', putF, implies_true, exists_true_left, tys0, tys1, tys2, tys3, tys4, und0, und1, und2, und3, md13, Try.ntmps13, Try.results13]
  refine call_ret (areLines_call L) rfl rfl ?_
  simp only [q0, q1, q2, q3, q4, q5, q6, q7, q8, q9, zq0, zq1, zq2, zq3, zq4, guardSlot, quietA, nilC, nilA, quietB, St.ev, St.put, St.after, Nat.reduceAdd, Nat.reduceSub, ofV, ofL, lenA, binA, intBin, fltBin, strBin, cpxBin, unA, convA, convB, convO, pickV, resL, oneA, indexA, indexS, isQuiet, loadA, loadC, storeA, fieldA, partA, sliceA, boundA, buildA, placeA, setAll, appendA, readSl, newEl, AV.cells, AV.solid, AV.one, kill, killM, killL, notInt, Int.reduceToNat, cond_true, cond_false, ↓reduceIte, reduceCtorEq, Nat.reduceLT, Nat.reduceLeDiff, Nat.reduceMul, Nat.reduceEqDiff, exists_eq', putF, implies_true, exists_true_left, tys0, tys1, tys2, tys3, tys4, und0, und1, und2, und3, md13, Try.ntmps13, Try.results13]
  refine go_round (md := md13) mixed (by kernel_rfl) (fun i : {i : Nat // i ≤ xs.length} => ⟨[.any, .ro (ints ks), .ro (ints rs), .int .i64 w, .any, .any, .any, .any, .any, .any, .sl 0 0 i.1, .any, .any, .any, .any, .any, .any, .any, .any, .any, .ro (ints xs), .int .i64 xs.length, .int .i64 i.1, .any, .any, .any, .any, .any, .any, .any, .any, .any, .any, .any, .any, .any, .any, .any, .any, .any, .any, .any], [intB (rngL (lnF xs ks rs w) i.1)]⟩) (fun i => xs.length - i.1) ⟨0, by simp⟩ ?_ ?_
  · exact weak_drop (by simp) (by simp [DropHp, ints_below, flts_below, intB, ints, rngL, allBelow_cons, allBelow_nil, below, belowM, belowL]) (by simp [DropTm, DropV, below, belowM, belowL, intB, ints, rngL, allBelow_cons, allBelow_nil, below, belowM, belowL])
  · intro ⟨i, hi⟩
    have rl := rngL_len (lnF xs ks rs w) i
    simp only [q0, q1, q2, q3, q4, q5, q6, q7, q8, q9, zq0, zq1, zq2, zq3, zq4, guardSlot, quietA, nilC, nilA, quietB, St.ev, St.put, St.after, Nat.reduceAdd, Nat.reduceSub, ofV, ofL, lenA, binA, intBin, fltBin, strBin, cpxBin, unA, convA, convB, convO, pickV, resL, oneA, indexA, indexS, isQuiet, loadA, loadC, storeA, fieldA, partA, sliceA, boundA, buildA, placeA, setAll, appendA, readSl, newEl, AV.cells, AV.solid, AV.one, kill, killM, killL, notInt, Int.reduceToNat, cond_true, cond_false, ↓reduceIte, reduceCtorEq, Nat.reduceLT, Nat.reduceLeDiff, Nat.reduceMul, Nat.reduceEqDiff, exists_eq', putF, implies_true, exists_true_left, tys0, tys1, tys2, tys3, tys4, und0, und1, und2, und3, md13, Try.ntmps13, Try.results13, intB, ints_len, rl]
    refine br_intro (fun h => ?_) (fun h => ?_) <;> simp only [q0, q1, q2, q3, q4, q5, q6, q7, q8, q9, zq0, zq1, zq2, zq3, zq4, guardSlot, quietA, nilC, nilA, quietB, St.ev, St.put, St.after, Nat.reduceAdd, Nat.reduceSub, ofV, ofL, lenA, binA, intBin, fltBin, strBin, cpxBin, unA, convA, convB, convO, pickV, resL, oneA, indexA, indexS, isQuiet, loadA, loadC, storeA, fieldA, partA, sliceA, boundA, buildA, placeA, setAll, appendA, readSl, newEl, AV.cells, AV.solid, AV.one, kill, killM, killL, notInt, Int.reduceToNat, cond_true, cond_false, ↓reduceIte, reduceCtorEq, Nat.reduceLT, Nat.reduceLeDiff, Nat.reduceMul, Nat.reduceEqDiff, exists_eq', putF, implies_true, exists_true_left, tys0, tys1, tys2, tys3, tys4, und0, und1, und2, und3, md13, Try.ntmps13, Try.results13, intB, ints_len, rl]
    · have hi' : i < xs.length := by simpa using h
      have hk' : i < ks.length := by omega
      have bx := L.x _ (List.getElem_mem hi')
      have bk := L.k _ (List.getElem_mem hk')
      have hr' : ks[i].toNat < rs.length := by omega
      have br := L.r _ (List.getElem_mem hr')
      have e1 : rnd (xs[i] * rs[ks[i].toNat]) 10000 w = lnF xs ks rs w i := by
        rw [lnF, ownF, getD_at xs 0 i hi', getD_at ks 0 i hk', getD_at rs 0 _ hr']
      refine ⟨hi', by omega, by omega, by omega, ?_⟩
      refine call_ret (dueBy_call xs[i] rs[ks[i].toNat] w bx.1 (by omega) br.1 (by omega) L.w0 L.w3) rfl rfl ?_
      simp only [q0, q1, q2, q3, q4, q5, q6, q7, q8, q9, zq0, zq1, zq2, zq3, zq4, guardSlot, quietA, nilC, nilA, quietB, St.ev, St.put, St.after, Nat.reduceAdd, Nat.reduceSub, ofV, ofL, lenA, binA, intBin, fltBin, strBin, cpxBin, unA, convA, convB, convO, pickV, resL, oneA, indexA, indexS, isQuiet, loadA, loadC, storeA, fieldA, partA, sliceA, boundA, buildA, placeA, setAll, appendA, readSl, newEl, AV.cells, AV.solid, AV.one, kill, killM, killL, notInt, Int.reduceToNat, cond_true, cond_false, ↓reduceIte, reduceCtorEq, Nat.reduceLT, Nat.reduceLeDiff, Nat.reduceMul, Nat.reduceEqDiff, exists_eq', putF, implies_true, exists_true_left, tys0, tys1, tys2, tys3, tys4, und0, und1, und2, und3, md13, Try.ntmps13, Try.results13, intB, ints_len, rl, e1, allW_int, fits, List.isEmpty_cons, brk_false, Nat.reduceMul]
      refine ⟨by omega, ⟨i + 1, by omega⟩, by show xs.length - (i + 1) < xs.length - i; omega, ?_⟩
      rw [rngL_succ]
      exact weak_drop (by simp) (by simp [DropHp, ints_below, flts_below, w64_succ i (by omega), intB, allBelow_cons, allBelow_nil, below, belowM, belowL]) (by simp [DropTm, DropV, below, belowM, belowL, w64_succ i (by omega), intB, allBelow_cons, allBelow_nil, below, belowM, belowL])
    · have hi' : i = xs.length := by simp at h; omega
      subst hi'
      exact PostR.ret
def sm3 (xs ks : List Int) (i : Nat) : List Int := rngL (fun k => sumK k (ks.take i) (xs.take i)) 3
theorem sm3_len (xs ks : List Int) (i : Nat) : (sm3 xs ks i).length = 3 := rngL_len _ _
theorem sm3_step {xs ks : List Int} {i : Nat} (h : i < xs.length) (hk : i < ks.length) (k0 : 0 ≤ ks[i]) (k3 : ks[i] < 3) : (sm3 xs ks i).set ks[i].toNat ((sm3 xs ks i).getD ks[i].toNat 0 + xs[i]) = sm3 xs ks (i + 1) := by
  have e : ∀ k : Int, sumK k (ks.take (i + 1)) (xs.take (i + 1)) = sumK k (ks.take i) (xs.take i) + (if ks[i] = k then xs[i] else 0) := fun k => by
    rw [gtake_snoc ks i hk, gtake_snoc xs i h, sumK_snoc k _ _ _ _ (by simp; omega)]
  have c : ks[i] = 0 ∨ ks[i] = 1 ∨ ks[i] = 2 := by omega
  have l : ∀ j, sm3 xs ks j = [sumK 0 (ks.take j) (xs.take j), sumK 1 (ks.take j) (xs.take j), sumK 2 (ks.take j) (xs.take j)] := fun j => rfl
  rw [l i, l (i + 1), e 0, e 1, e 2]
  rcases c with c | c | c <;> rw [c] <;> simp
theorem sumK_nonneg (k : Int) : ∀ (ks xs : List Int), (∀ x ∈ xs, 0 ≤ x) → 0 ≤ sumK k ks xs ∧ sumK k ks xs ≤ sumI xs
  | [], xs, h => by
    have : 0 ≤ sumI xs := by
      unfold sumI
      induction xs with
      | nil => simp
      | cons x l ih => have := h x (by simp); have := ih fun y hy => h y (by simp [hy]); simp only [List.foldr_cons]; omega
    simp only [sumK]; omega
  | _ :: _, [], _ => by simp [sumK, sumI]
  | c :: ks, x :: xs, h => by
    have ih := sumK_nonneg k ks xs fun y hy => h y (by simp [hy])
    have hx := h x (by simp)
    have e : sumI (x :: xs) = x + sumI xs := rfl
    rw [sumK, e]
    split <;> omega
theorem sm3_bound {xs ks : List Int} (hx : Sml 2000 xs) (hl : xs.length ≤ 10) (i : Nat) : ∀ s ∈ sm3 xs ks i, 0 ≤ s ∧ s ≤ 20000 := by
  intro s hs
  obtain ⟨k, hk, rfl⟩ := List.mem_map.1 hs
  have h1 := sumK_nonneg (k : Int) (ks.take i) (xs.take i) fun x h => (hx x (List.mem_of_mem_take h)).1
  have h2 := hx.sumT hl i
  show 0 ≤ sumK (k : Int) _ _ ∧ sumK (k : Int) _ _ ≤ _
  omega
def totF (xs ks rs : List Int) (w : Int) (k : Nat) : Int := ownF (rs.getD k 0) w (sumK k ks xs)
theorem rateDues0_call {xs ks rs : List Int} {w : Int} (L : Lns xs ks rs w) : CallA Try.prog 50 [.ro (ints xs), .ro (ints ks), .ro (ints rs), .int .i64 w] [] (Ret (.sl 0 0 3) [intB (rngL (totF xs ks rs w) 3)]) := by
  have h1 := L.one
  have h2 := L.ten
  have h3 := L.kl
  have h4 := L.rl
  refine CallP.out (t := .mk) (go_in (md := md50) mixed Try.func50 rfl go50 (by kernel_rfl) ?_)
  simp only [q0, q1, q2, q3, q4, q5, q6, q7, q8, q9, zq0, zq1, zq2, zq3, zq4, guardSlot, quietA, nilC, nilA, quietB, St.ev, St.put, St.after, Nat.reduceAdd, Nat.reduceSub, ofV, ofL, lenA, binA, intBin, fltBin, strBin, cpxBin, unA, convA, convB, convO, pickV, resL, oneA, indexA, indexS, isQuiet, loadA, loadC, storeA, fieldA, partA, sliceA, boundA, buildA, placeA, setAll, appendA, readSl, newEl, AV.cells, AV.solid, AV.one, kill, killM, killL, notInt, Int.reduceToNat, cond_true, cond_false, ↓reduceIte, reduceCtorEq, Nat.reduceLT, Nat.reduceLeDiff, Nat.reduceMul, Nat.reduceEqDiff, exists_eq', putF, implies_true, exists_true_left, tys0, tys1, tys2, tys3, tys4, und0, und1, und2, und3, md50, Try.ntmps50, Try.results50, ints_len, h4]
  refine ⟨by omega, by omega, ?_⟩
  refine go_round (md := md50) mixed (by kernel_rfl) (fun i : {i : Nat // i ≤ xs.length} => ⟨[.any, .ro (ints ks), .ro (ints rs), .int .i64 w, .any, .any, .any, .any, .any, .sl 0 0 3, .sl 1 0 0, .any, .any, .any, .any, .any, .any, .any, .any, .ro (ints xs), .int .i64 xs.length, .int .i64 i.1, .any, .any, .any, .any, .any, .any, .any, .any, .any, .any, .any, .any, .any, .any, .any, .any, .any, .any, .any, .any, .any, .any, .any, .any, .any, .any, .any, .any, .any, .any, .any, .any, .any, .any], [intB (sm3 xs ks i.1), intB []]⟩) (fun i => xs.length - i.1) ⟨0, by simp⟩ ?_ ?_
  · have z : sm3 xs ks 0 = [0, 0, 0] := by
      have l : ∀ j, sm3 xs ks j = [sumK 0 (ks.take j) (xs.take j), sumK 1 (ks.take j) (xs.take j), sumK 2 (ks.take j) (xs.take j)] := fun j => rfl
      rw [l]
      simp [sumK]
    rw [z]
    exact weak_drop (by simp) (by simp [DropHp, ints_below, flts_below, intB, ints, rngL, allBelow_cons, allBelow_nil, below, belowM, belowL]) (by simp [DropTm, DropV, below, belowM, belowL, intB, ints, rngL, allBelow_cons, allBelow_nil, below, belowM, belowL])
  · intro ⟨i, hi⟩
    have rl := sm3_len xs ks i
    simp only [q0, q1, q2, q3, q4, q5, q6, q7, q8, q9, zq0, zq1, zq2, zq3, zq4, guardSlot, quietA, nilC, nilA, quietB, St.ev, St.put, St.after, Nat.reduceAdd, Nat.reduceSub, ofV, ofL, lenA, binA, intBin, fltBin, strBin, cpxBin, unA, convA, convB, convO, pickV, resL, oneA, indexA, indexS, isQuiet, loadA, loadC, storeA, fieldA, partA, sliceA, boundA, buildA, placeA, setAll, appendA, readSl, newEl, AV.cells, AV.solid, AV.one, kill, killM, killL, notInt, Int.reduceToNat, cond_true, cond_false, ↓reduceIte, reduceCtorEq, Nat.reduceLT, Nat.reduceLeDiff, Nat.reduceMul, Nat.reduceEqDiff, exists_eq', putF, implies_true, exists_true_left, tys0, tys1, tys2, tys3, tys4, und0, und1, und2, und3, md50, Try.ntmps50, Try.results50, intB, ints_len, rl]
    refine br_intro (fun h => ?_) (fun h => ?_) <;> simp only [q0, q1, q2, q3, q4, q5, q6, q7, q8, q9, zq0, zq1, zq2, zq3, zq4, guardSlot, quietA, nilC, nilA, quietB, St.ev, St.put, St.after, Nat.reduceAdd, Nat.reduceSub, ofV, ofL, lenA, binA, intBin, fltBin, strBin, cpxBin, unA, convA, convB, convO, pickV, resL, oneA, indexA, indexS, isQuiet, loadA, loadC, storeA, fieldA, partA, sliceA, boundA, buildA, placeA, setAll, appendA, readSl, newEl, AV.cells, AV.solid, AV.one, kill, killM, killL, notInt, Int.reduceToNat, cond_true, cond_false, ↓reduceIte, reduceCtorEq, Nat.reduceLT, Nat.reduceLeDiff, Nat.reduceMul, Nat.reduceEqDiff, exists_eq', putF, implies_true, exists_true_left, tys0, tys1, tys2, tys3, tys4, und0, und1, und2, und3, md50, Try.ntmps50, Try.results50, intB, ints_len, rl]
    · have hi' : i < xs.length := by simpa using h
      have hk' : i < ks.length := by omega
      have bx := L.x _ (List.getElem_mem hi')
      have bk := L.k _ (List.getElem_mem hk')
      have hs' : ks[i].toNat < (sm3 xs ks i).length := by omega
      have st := sm3_step hi' hk' bk.1 bk.2
      have sb := sm3_bound L.x h2 i _ (List.getElem_mem hs')
      have e1 : IntKind.i64.wrap ((sm3 xs ks i)[ks[i].toNat] + xs[i]) = (sm3 xs ks i)[ks[i].toNat] + xs[i] := w64 (by omega) (by omega)
      refine ⟨hi', hk', bk.1, by omega, hs', bk.1, by omega, by omega, ⟨i + 1, by omega⟩, by show xs.length - (i + 1) < xs.length - i; omega, ?_⟩
      rw [e1, ints_set, ← getD_at (sm3 xs ks i) 0 _ hs', st]
      exact weak_drop (by simp) (by simp [DropHp, ints_below, flts_below, w64_succ i (by omega), intB, allBelow_cons, allBelow_nil, below, belowM, belowL]) (by simp [DropTm, DropV, below, belowM, belowL, w64_succ i (by omega), intB, allBelow_cons, allBelow_nil, below, belowM, belowL])
    · have hi' : i = xs.length := by simp at h; omega
      subst hi'
      have tk : sm3 xs ks xs.length = rngL (fun k => sumK k ks xs) 3 := by rw [sm3, List.take_length, ← h3, List.take_length]
      refine go_round (md := md50) mixed (by kernel_rfl) (fun i : {i : Nat // i ≤ 3} => ⟨[.any, .any, .ro (ints rs), .int .i64 w, .any, .any, .any, .any, .any, .any, .sl 1 0 i.1, .any, .any, .any, .any, .any, .any, .any, .any, .any, .any, .any, .any, .any, .any, .any, .any, .any, .any, .any, .any, .any, .any, .any, .any, .any, .any, .sl 0 0 3, .int .i64 3, .int .i64 i.1, .any, .any, .any, .any, .any, .any, .any, .any, .any, .any, .any, .any, .any, .any, .any, .any], [intB (sm3 xs ks xs.length), intB (rngL (totF xs ks rs w) i.1)]⟩) (fun i => 3 - i.1) ⟨0, by simp⟩ ?_ ?_
      · have z2 : rngL (totF xs ks rs w) 0 = [] := rfl
        rw [z2]
        exact weak_drop (by simp) (by simp [DropHp, ints_below, flts_below, intB, allBelow_cons, allBelow_nil, below, belowM, belowL]) (by simp [DropTm, DropV, below, belowM, belowL, intB, allBelow_cons, allBelow_nil, below, belowM, belowL])
      · intro ⟨i, hi⟩
        have rl2 := rngL_len (totF xs ks rs w) i
        simp only [q0, q1, q2, q3, q4, q5, q6, q7, q8, q9, zq0, zq1, zq2, zq3, zq4, guardSlot, quietA, nilC, nilA, quietB, St.ev, St.put, St.after, Nat.reduceAdd, Nat.reduceSub, ofV, ofL, lenA, binA, intBin, fltBin, strBin, cpxBin, unA, convA, convB, convO, pickV, resL, oneA, indexA, indexS, isQuiet, loadA, loadC, storeA, fieldA, partA, sliceA, boundA, buildA, placeA, setAll, appendA, readSl, newEl, AV.cells, AV.solid, AV.one, kill, killM, killL, notInt, Int.reduceToNat, cond_true, cond_false, ↓reduceIte, reduceCtorEq, Nat.reduceLT, Nat.reduceLeDiff, Nat.reduceMul, Nat.reduceEqDiff, exists_eq', putF, implies_true, exists_true_left, tys0, tys1, tys2, tys3, tys4, und0, und1, und2, und3, md50, Try.ntmps50, Try.results50, intB, ints_len, rl, rl2]
        refine br_intro (fun h => ?_) (fun h => ?_) <;> simp only [q0, q1, q2, q3, q4, q5, q6, q7, q8, q9, zq0, zq1, zq2, zq3, zq4, guardSlot, quietA, nilC, nilA, quietB, St.ev, St.put, St.after, Nat.reduceAdd, Nat.reduceSub, ofV, ofL, lenA, binA, intBin, fltBin, strBin, cpxBin, unA, convA, convB, convO, pickV, resL, oneA, indexA, indexS, isQuiet, loadA, loadC, storeA, fieldA, partA, sliceA, boundA, buildA, placeA, setAll, appendA, readSl, newEl, AV.cells, AV.solid, AV.one, kill, killM, killL, notInt, Int.reduceToNat, cond_true, cond_false, ↓reduceIte, reduceCtorEq, Nat.reduceLT, Nat.reduceLeDiff, Nat.reduceMul, Nat.reduceEqDiff, exists_eq', putF, implies_true, exists_true_left, tys0, tys1, tys2, tys3, tys4, und0, und1, und2, und3, md50, Try.ntmps50, Try.results50, intB, ints_len, rl, rl2]
        · have hi' : i < 3 := by have := of_decide_eq_true h; omega
          have hs' : i < (sm3 xs ks xs.length).length := by omega
          have sb := sm3_bound L.x h2 xs.length _ (List.getElem_mem hs')
          have hr' : i < rs.length := by omega
          have br := L.r _ (List.getElem_mem hr')
          have e1 : rnd ((sm3 xs ks xs.length)[i] * rs[i]) 10000 w = totF xs ks rs w i := by
            rw [totF, ownF, getD_at rs 0 i hr', ← getD_at (sm3 xs ks xs.length) 0 i hs', tk, rngL_get _ 3 i hi']
          refine ⟨by omega, by omega, by omega, ?_⟩
          refine call_ret (dueBy_call (sm3 xs ks xs.length)[i] rs[i] w sb.1 (by omega) br.1 (by omega) L.w0 L.w3) rfl rfl ?_
          simp only [q0, q1, q2, q3, q4, q5, q6, q7, q8, q9, zq0, zq1, zq2, zq3, zq4, guardSlot, quietA, nilC, nilA, quietB, St.ev, St.put, St.after, Nat.reduceAdd, Nat.reduceSub, ofV, ofL, lenA, binA, intBin, fltBin, strBin, cpxBin, unA, convA, convB, convO, pickV, resL, oneA, indexA, indexS, isQuiet, loadA, loadC, storeA, fieldA, partA, sliceA, boundA, buildA, placeA, setAll, appendA, readSl, newEl, AV.cells, AV.solid, AV.one, kill, killM, killL, notInt, Int.reduceToNat, cond_true, cond_false, ↓reduceIte, reduceCtorEq, Nat.reduceLT, Nat.reduceLeDiff, Nat.reduceMul, Nat.reduceEqDiff, exists_eq', putF, implies_true, exists_true_left, tys0, tys1, tys2, tys3, tys4, und0, und1, und2, und3, md50, Try.ntmps50, Try.results50, intB, ints_len, rl, rl2, e1, allW_int, fits, List.isEmpty_cons, brk_false, Nat.reduceMul]
          refine ⟨by omega, ⟨i + 1, by omega⟩, by show 3 - (i + 1) < 3 - i; omega, ?_⟩
          rw [rngL_succ]
          exact weak_drop (by simp) (by simp [DropHp, ints_below, flts_below, w64_succ i (by omega), intB, allBelow_cons, allBelow_nil, below, belowM, belowL]) (by simp [DropTm, DropV, below, belowM, belowL, w64_succ i (by omega), intB, allBelow_cons, allBelow_nil, below, belowM, belowL])
        · have hi' : i = 3 := by have := of_decide_eq_false h; omega
          subst hi'
          refine PostR.tell [1] (hp2 := [intB (rngL (totF xs ks rs w) 3)]) (by decide) (by decide) (by decide) ⟨⟨congrArg some (renB_flat (r := intB _) (ints_below _ _)).symm, ints_below _ _⟩, trivial⟩ ?_ rfl ⟨rfl, rfl⟩
          rfl
theorem rateDues_call {xs ks rs : List Int} {w : Int} (L : Lns xs ks rs w) : CallA Try.prog 14 [.ro (ints xs), .ro (ints ks), .ro (ints rs), .int .i64 w] [] (Ret (.tup [.sl 0 0 3, .bool true]) [intB (rngL (totF xs ks rs w) 3)]) := by
  refine CallP.out (t := .mk) (go_in (md := md14) mixed Try.func14 rfl go14 (by kernel_rfl) ?_)
  simp only [q0, q1, q2, q3, q4, q5, q6, q7, q8, q9, zq0, zq1, zq2, zq3, zq4, guardSlot, quietA, nilC, nilA, quietB, St.ev, St.put, St.after, Nat.reduceAdd, Nat.reduceSub, ofV, ofL, lenA, binA, intBin, fltBin, strBin, cpxBin, unA, convA, convB, convO, pickV, resL, oneA, indexA, indexS, isQuiet, loadA, loadC, storeA, fieldA, partA, sliceA, boundA, buildA, placeA, setAll, appendA, readSl, newEl, AV.cells, AV.solid, AV.one, kill, killM, killL, notInt, Int.reduceToNat, cond_true, cond_false, ↓reduceIte, reduceCtorEq, Nat.reduceLT, Nat.reduceLeDiff, Nat.reduceMul, Nat.reduceEqDiff, exists_eq', putF, implies_true, exists_true_left, tys0, tys1, tys2, tys3, tys4, und0, und1, und2, und3, md14, Try.ntmps14, Try.results14]
  refine call_ret (areLines_call L) rfl rfl ?_
  simp only [q0, q1, q2, q3, q4, q5, q6, q7, q8, q9, zq0, zq1, zq2, zq3, zq4, guardSlot, quietA, nilC, nilA, quietB, St.ev, St.put, St.after, Nat.reduceAdd, Nat.reduceSub, ofV, ofL, lenA, binA, intBin, fltBin, strBin, cpxBin, unA, convA, convB, convO, pickV, resL, oneA, indexA, indexS, isQuiet, loadA, loadC, storeA, fieldA, partA, sliceA, boundA, buildA, placeA, setAll, appendA, readSl, newEl, AV.cells, AV.solid, AV.one, kill, killM, killL, notInt, Int.reduceToNat, cond_true, cond_false, ↓reduceIte, reduceCtorEq, Nat.reduceLT, Nat.reduceLeDiff, Nat.reduceMul, Nat.reduceEqDiff, exists_eq', putF, implies_true, exists_true_left, tys0, tys1, tys2, tys3, tys4, und0, und1, und2, und3, md14, Try.ntmps14, Try.results14]
  refine call_new (rateDues0_call L) rfl (by intro q hq; simp at hq; subst hq; exact ints_below _ _) ?_
  simp only [q0, q1, q2, q3, q4, q5, q6, q7, q8, q9, zq0, zq1, zq2, zq3, zq4, guardSlot, quietA, nilC, nilA, quietB, St.ev, St.put, St.after, Nat.reduceAdd, Nat.reduceSub, ofV, ofL, lenA, binA, intBin, fltBin, strBin, cpxBin, unA, convA, convB, convO, pickV, resL, oneA, indexA, indexS, isQuiet, loadA, loadC, storeA, fieldA, partA, sliceA, boundA, buildA, placeA, setAll, appendA, readSl, newEl, AV.cells, AV.solid, AV.one, kill, killM, killL, notInt, Int.reduceToNat, cond_true, cond_false, ↓reduceIte, reduceCtorEq, Nat.reduceLT, Nat.reduceLeDiff, Nat.reduceMul, Nat.reduceEqDiff, exists_eq', putF, implies_true, exists_true_left, tys0, tys1, tys2, tys3, tys4, und0, und1, und2, und3, md14, Try.ntmps14, Try.results14, ren, renM, renL]
  exact PostR.ret
end Go.Proofs.Ytdlddnnnfjnabaa
