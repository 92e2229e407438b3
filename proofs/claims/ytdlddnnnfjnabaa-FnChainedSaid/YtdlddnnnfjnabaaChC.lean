/- Dues of chains and of lines: what the program's parts compute. -/
import Derived.Test.YtdlddnnnfjnabaaChB
import Derived.Test.YtdlddnnnfjnabaaLibI3
import Derived.Test.YtdlddnnnfjnabaaAbsM3
set_option maxRecDepth 10000
set_option maxHeartbeats 8000000
set_option linter.unusedSimpArgs false
set_option linter.unusedVariables false
namespace Go.Proofs.Ytdlddnnnfjnabaa
open Go Go.Abs

theorem rnd_bound {a b w : Int} (A : Int) (ha : 0 ≤ a) (hb : 0 < b) (h : a / b ≤ A) : 0 ≤ rnd a b w ∧ rnd a b w ≤ A + 1 := by
  have h1 := rnd_near a b w hb ha
  have h2 := Int.ediv_nonneg ha (show 0 ≤ b by omega)
  omega
theorem dueBy_call (c r w : Int) (c0 : 0 ≤ c) (c1 : c ≤ 1000000000000) (r0 : 0 ≤ r) (r1 : r ≤ 10000) (w0 : 0 ≤ w) (w3 : w ≤ 3) : CallA Try.prog 44 [.int .i64 c, .int .i64 r, .int .i64 w] [] (Ret (.int .i64 (rnd (c * r) 10000 w)) []) := by
  have m := mul_bounds c0 c1 r0 r1
  have e1 : IntKind.i64.wrap (c * r) = c * r := w64 (by omega) (by omega)
  refine CallP.out (t := .mk) (go_in (md := md44) mixed Try.func44 rfl go44 (by kernel_rfl) ?_)
  simp only [q0, q1, q2, q3, q4, q5, q6, q7, q8, q9, zq0, zq1, zq2, zq3, zq4, guardSlot, quietA, nilC, nilA, quietB, St.ev, St.put, St.after, Nat.reduceAdd, Nat.reduceSub, ofV, ofL, lenA, binA, intBin, fltBin, strBin, cpxBin, unA, convA, convB, convO, pickV, resL, oneA, indexA, indexS, isQuiet, loadA, loadC, storeA, fieldA, partA, sliceA, boundA, buildA, placeA, setAll, appendA, readSl, newEl, AV.cells, AV.solid, AV.one, kill, killM, killL, notInt, Int.reduceToNat, cond_true, cond_false, ↓reduceIte, reduceCtorEq, Nat.reduceLT, Nat.reduceLeDiff, Nat.reduceMul, Nat.reduceEqDiff, exists_eq', putF, implies_true, exists_true_left, tys0, tys1, tys2, tys3, tys4, und0, und1, und2, und3, md44, Try.ntmps44, Try.results44, e1]
  refine call_ret (rounded_call (c * r) 10000 w m.1 (by omega) (by omega) (by omega) w0 w3) rfl rfl ?_
  simp only [q0, q1, q2, q3, q4, q5, q6, q7, q8, q9, zq0, zq1, zq2, zq3, zq4, guardSlot, quietA, nilC, nilA, quietB, St.ev, St.put, St.after, Nat.reduceAdd, Nat.reduceSub, ofV, ofL, lenA, binA, intBin, fltBin, strBin, cpxBin, unA, convA, convB, convO, pickV, resL, oneA, indexA, indexS, isQuiet, loadA, loadC, storeA, fieldA, partA, sliceA, boundA, buildA, placeA, setAll, appendA, readSl, newEl, AV.cells, AV.solid, AV.one, kill, killM, killL, notInt, Int.reduceToNat, cond_true, cond_false, ↓reduceIte, reduceCtorEq, Nat.reduceLT, Nat.reduceLeDiff, Nat.reduceMul, Nat.reduceEqDiff, exists_eq', putF, implies_true, exists_true_left, tys0, tys1, tys2, tys3, tys4, und0, und1, und2, und3, md44, Try.ntmps44, Try.results44]
  exact PostR.pure ⟨rfl, rfl⟩ rfl
theorem isRated_call (r w : Int) (r0 : 0 ≤ r) (r1 : r ≤ 10000) (w0 : 0 ≤ w) (w3 : w ≤ 3) : CallA Try.prog 43 [.int .i64 r, .int .i64 w] [] (Ret (.bool true) []) := by
  refine CallP.out (t := .mk) (go_in (md := md43) mixed Try.func43 rfl go43 (by kernel_rfl) ?_)
  simp only [q0, q1, q2, q3, q4, q5, q6, q7, q8, q9, zq0, zq1, zq2, zq3, zq4, guardSlot, quietA, nilC, nilA, quietB, St.ev, St.put, St.after, Nat.reduceAdd, Nat.reduceSub, ofV, ofL, lenA, binA, intBin, fltBin, strBin, cpxBin, unA, convA, convB, convO, pickV, resL, oneA, indexA, indexS, isQuiet, loadA, loadC, storeA, fieldA, partA, sliceA, boundA, buildA, placeA, setAll, appendA, readSl, newEl, AV.cells, AV.solid, AV.one, kill, killM, killL, notInt, Int.reduceToNat, cond_true, cond_false, ↓reduceIte, reduceCtorEq, Nat.reduceLT, Nat.reduceLeDiff, Nat.reduceMul, Nat.reduceEqDiff, exists_eq', putF, implies_true, exists_true_left, tys0, tys1, tys2, tys3, tys4, und0, und1, und2, und3, md43, Try.ntmps43, Try.results43]
  refine call_ret (isRate_call _) rfl rfl ?_
  rw [inR_yes r0 r1]
  simp only [q0, q1, q2, q3, q4, q5, q6, q7, q8, q9, zq0, zq1, zq2, zq3, zq4, guardSlot, quietA, nilC, nilA, quietB, St.ev, St.put, St.after, Nat.reduceAdd, Nat.reduceSub, ofV, ofL, lenA, binA, intBin, fltBin, strBin, cpxBin, unA, convA, convB, convO, pickV, resL, oneA, indexA, indexS, isQuiet, loadA, loadC, storeA, fieldA, partA, sliceA, boundA, buildA, placeA, setAll, appendA, readSl, newEl, AV.cells, AV.solid, AV.one, kill, killM, killL, notInt, Int.reduceToNat, cond_true, cond_false, ↓reduceIte, reduceCtorEq, Nat.reduceLT, Nat.reduceLeDiff, Nat.reduceMul, Nat.reduceEqDiff, exists_eq', putF, implies_true, exists_true_left, tys0, tys1, tys2, tys3, tys4, und0, und1, und2, und3, md43, Try.ntmps43, Try.results43]
  refine call_ret (isRound_call _) rfl rfl ?_
  rw [inR_yes w0 w3]
  simp only [q0, q1, q2, q3, q4, q5, q6, q7, q8, q9, zq0, zq1, zq2, zq3, zq4, guardSlot, quietA, nilC, nilA, quietB, St.ev, St.put, St.after, Nat.reduceAdd, Nat.reduceSub, ofV, ofL, lenA, binA, intBin, fltBin, strBin, cpxBin, unA, convA, convB, convO, pickV, resL, oneA, indexA, indexS, isQuiet, loadA, loadC, storeA, fieldA, partA, sliceA, boundA, buildA, placeA, setAll, appendA, readSl, newEl, AV.cells, AV.solid, AV.one, kill, killM, killL, notInt, Int.reduceToNat, cond_true, cond_false, ↓reduceIte, reduceCtorEq, Nat.reduceLT, Nat.reduceLeDiff, Nat.reduceMul, Nat.reduceEqDiff, exists_eq', putF, implies_true, exists_true_left, tys0, tys1, tys2, tys3, tys4, und0, und1, und2, und3, md43, Try.ntmps43, Try.results43]
  exact PostR.pure ⟨rfl, rfl⟩ rfl
def Sml (m : Int) (l : List Int) : Prop := ∀ x ∈ l, 0 ≤ x ∧ x < m
theorem Sml.at_ {m : Int} {l : List Int} (h : Sml m l) {i : Nat} (hi : i < l.length) : 0 ≤ l.getD i 0 ∧ l.getD i 0 < m := by
  rw [getD_at l 0 i hi]; exact h _ (List.getElem_mem hi)
theorem Sml.all {m : Int} {l : List Int} (h : Sml m l) (lo hi : Int) (h1 : lo ≤ 0) (h2 : m ≤ hi + 1) : l.all (inR lo hi) = true :=
  List.all_eq_true.2 fun x hx => inR_yes (by have := h x hx; omega) (by have := h x hx; omega)
theorem hasC_yes {m : Int} {l : List Int} (h : Sml m l) (h1 : 1 ≤ l.length) {most : Int} (h2 : (l.length : Int) ≤ most) {hi : Int} (h3 : m ≤ hi + 1) : hasC l 1 most 0 hi = true := by
  unfold hasC
  rw [h.all 0 hi (by omega) h3, decide_eq_true h2, decide_eq_true (by omega)]
  rfl
def sumT (l : List Int) (i : Nat) : Int := (l.take i).foldr (· + ·) 0
def sumI (l : List Int) : Int := l.foldr (· + ·) 0
theorem sumI_snoc (l : List Int) (x : Int) : sumI (l ++ [x]) = sumI l + x := by
  unfold sumI
  induction l with
  | nil => simp
  | cons a l ih => simp only [List.cons_append, List.foldr_cons, ih]; omega
theorem sumI_take (l : List Int) (i : Nat) (h : i < l.length) : sumI (l.take (i + 1)) = sumI (l.take i) + l[i] := by
  rw [gtake_snoc _ _ h, sumI_snoc]
theorem Sml.sum {m : Int} {l : List Int} (h : Sml m l) : 0 ≤ sumI l ∧ sumI l ≤ m * l.length := by
  unfold sumI
  induction l with
  | nil => simp
  | cons x l ih =>
    have h1 := h x (by simp)
    have h2 := ih fun y hy => h y (by simp [hy])
    have e : m * ((x :: l).length : Int) = m * l.length + m := by rw [List.length_cons, Int.natCast_add, Int.mul_add]; omega
    rw [e, List.foldr_cons]
    omega
theorem Sml.take {m : Int} {l : List Int} (h : Sml m l) (i : Nat) : Sml m (l.take i) := fun x hx => h x (List.mem_of_mem_take hx)
theorem Sml.sumT {l : List Int} (h : Sml 2000 l) (hl : l.length ≤ 10) (i : Nat) : 0 ≤ sumI (l.take i) ∧ sumI (l.take i) ≤ 20000 := by
  have h1 := (h.take i).sum
  have h2 : (l.take i).length ≤ 10 := by simp; omega
  omega
theorem total_call (xs : List Int) (hx : Sml 2000 xs) (hl : xs.length ≤ 10) : CallA Try.prog 55 [.ro (ints xs)] [] (Ret (.int .i64 (sumI xs)) []) := by
  refine CallP.out (t := .mk) (go_in (md := md55) mixed Try.func55 rfl go55 (by kernel_rfl) ?_)
  simp only [q0, q1, q2, q3, q4, q5, q6, q7, q8, q9, zq0, zq1, zq2, zq3, zq4, guardSlot, quietA, nilC, nilA, quietB, St.ev, St.put, St.after, Nat.reduceAdd, Nat.reduceSub, ofV, ofL, lenA, binA, intBin, fltBin, strBin, cpxBin, unA, convA, convB, convO, pickV, resL, oneA, indexA, indexS, isQuiet, loadA, loadC, storeA, fieldA, partA, sliceA, boundA, buildA, placeA, setAll, appendA, readSl, newEl, AV.cells, AV.solid, AV.one, kill, killM, killL, notInt, Int.reduceToNat, cond_true, cond_false, ↓reduceIte, reduceCtorEq, Nat.reduceLT, Nat.reduceLeDiff, Nat.reduceMul, Nat.reduceEqDiff, exists_eq', putF, implies_true, exists_true_left, tys0, tys1, tys2, tys3, tys4, und0, und1, und2, und3, md55, Try.ntmps55, Try.results55]
  refine go_round (md := md55) mixed (by kernel_rfl) (fun i : {i : Nat // i ≤ xs.length} => ⟨[.any, .any, .any, .int .i64 (sumI (xs.take i.1)), .any, .any, .ro (ints xs), .int .i64 xs.length, .int .i64 i.1, .any, .any, .any, .any, .any, .any, .any, .any], []⟩) (fun i => xs.length - i.1) ⟨0, by simp⟩ ?_ ?_
  · exact weak_drop (by simp) (by simp [DropHp, ints_below, flts_below, sumI]) (by simp [DropTm, DropV, below, belowM, belowL, sumI])
  · intro ⟨i, hi⟩
    simp only [q0, q1, q2, q3, q4, q5, q6, q7, q8, q9, zq0, zq1, zq2, zq3, zq4, guardSlot, quietA, nilC, nilA, quietB, St.ev, St.put, St.after, Nat.reduceAdd, Nat.reduceSub, ofV, ofL, lenA, binA, intBin, fltBin, strBin, cpxBin, unA, convA, convB, convO, pickV, resL, oneA, indexA, indexS, isQuiet, loadA, loadC, storeA, fieldA, partA, sliceA, boundA, buildA, placeA, setAll, appendA, readSl, newEl, AV.cells, AV.solid, AV.one, kill, killM, killL, notInt, Int.reduceToNat, cond_true, cond_false, ↓reduceIte, reduceCtorEq, Nat.reduceLT, Nat.reduceLeDiff, Nat.reduceMul, Nat.reduceEqDiff, exists_eq', putF, implies_true, exists_true_left, tys0, tys1, tys2, tys3, tys4, und0, und1, und2, und3, md55, Try.ntmps55, Try.results55]
    refine br_intro (fun h => ?_) (fun h => ?_) <;> simp only [q0, q1, q2, q3, q4, q5, q6, q7, q8, q9, zq0, zq1, zq2, zq3, zq4, guardSlot, quietA, nilC, nilA, quietB, St.ev, St.put, St.after, Nat.reduceAdd, Nat.reduceSub, ofV, ofL, lenA, binA, intBin, fltBin, strBin, cpxBin, unA, convA, convB, convO, pickV, resL, oneA, indexA, indexS, isQuiet, loadA, loadC, storeA, fieldA, partA, sliceA, boundA, buildA, placeA, setAll, appendA, readSl, newEl, AV.cells, AV.solid, AV.one, kill, killM, killL, notInt, Int.reduceToNat, cond_true, cond_false, ↓reduceIte, reduceCtorEq, Nat.reduceLT, Nat.reduceLeDiff, Nat.reduceMul, Nat.reduceEqDiff, exists_eq', putF, implies_true, exists_true_left, tys0, tys1, tys2, tys3, tys4, und0, und1, und2, und3, md55, Try.ntmps55, Try.results55]
    · have hi' : i < xs.length := by simpa using h
      repeat (refine ⟨?_, ?_⟩; focus first | omega | (simp only [List.length_set, ints_len, flts_len, List.length_map, List.length_append, List.length_cons, List.length_nil]; omega))
      refine ⟨⟨i + 1, by omega⟩, by show xs.length - (i + 1) < _; omega, ?_⟩
      have b1 := hx.sumT hl (i + 1)
      have e2 := sumI_take xs i hi'
      have e1 : IntKind.i64.wrap (sumI (xs.take i) + xs[i]) = sumI (xs.take (i + 1)) := by rw [← e2]; exact w64 (by omega) (by omega)
      exact weak_drop (by simp) (by simp [DropHp, ints_below, flts_below, w64_succ i (by omega), e1]) (by simp [DropTm, DropV, below, belowM, belowL, w64_succ i (by omega), e1])
    · have hi' : i = xs.length := by simp at h; omega
      subst hi'
      rw [List.take_length]
      exact PostR.ret
def rngL (f : Nat → Int) (n : Nat) : List Int := (List.range n).map f
theorem rngL_len (f : Nat → Int) (n : Nat) : (rngL f n).length = n := by simp [rngL]
theorem rngL_succ (f : Nat → Int) (n : Nat) : rngL f n ++ [f n] = rngL f (n + 1) := by simp [rngL, List.range_succ]
theorem rngL_get (f : Nat → Int) (n i : Nat) (h : i < n) : (rngL f n).getD i 0 = f i := by simp [rngL, h]
def ownF (r w x : Int) : Int := rnd (x * r) 10000 w
theorem own_bound {r w x : Int} (r0 : 0 ≤ r) (r1 : r ≤ 10000) (x0 : 0 ≤ x) : 0 ≤ ownF r w x ∧ ownF r w x ≤ x + 1 := by
  have m := mul_bounds x0 (Int.le_refl x) r0 r1
  exact rnd_bound x m.1 (by omega) (by omega)
def befF (r w : Int) (xs : List Int) : Nat → Int
  | 0 => 0
  | i + 1 => ownF r w (xs.getD i 0)
def chnF (r w : Int) (xs : List Int) (i : Nat) : Int := ownF r w (xs.getD i 0) - befF r w xs i
theorem bef_bound {r w : Int} {xs : List Int} (hx : Sml 2000 xs) (r0 : 0 ≤ r) (r1 : r ≤ 10000) (i : Nat) (hi : i ≤ xs.length) : 0 ≤ befF r w xs i ∧ befF r w xs i ≤ 2000 := by
  cases i with
  | zero => simp [befF]
  | succ i =>
    have h := hx.at_ (show i < xs.length by omega)
    have := own_bound (w := w) r0 r1 h.1
    simp only [befF]
    omega
theorem chainDues_call (xs : List Int) (hx : Sml 2000 xs) (h1 : 1 ≤ xs.length) (hl : xs.length ≤ 10) (r w : Int) (r0 : 0 ≤ r) (r1 : r ≤ 10000) (w0 : 0 ≤ w) (w3 : w ≤ 3) :
    CallA Try.prog 9 [.ro (ints xs), .int .i64 r, .int .i64 w] [] (Ret (.tup [.sl 0 0 xs.length, .bool true]) [intB (rngL (chnF r w xs) xs.length)]) := by
  refine CallP.out (t := .mk) (go_in (md := md9) mixed Try.func9 rfl go9 (by kernel_rfl) ?_)
  simp only [q0, q1, q2, q3, q4, q5, q6, q7, q8, q9, zq0, zq1, zq2, zq3, zq4, guardSlot, quietA, nilC, nilA, quietB, St.ev, St.put, St.after, Nat.reduceAdd, Nat.reduceSub, ofV, ofL, lenA, binA, intBin, fltBin, strBin, cpxBin, unA, convA, convB, convO, pickV, resL, oneA, indexA, indexS, isQuiet, loadA, loadC, storeA, fieldA, partA, sliceA, boundA, buildA, placeA, setAll, appendA, readSl, newEl, AV.cells, AV.solid, AV.one, kill, killM, killL, notInt, Int.reduceToNat, cond_true, cond_false, ↓reduceIte, reduceCtorEq, Nat.reduceLT, Nat.reduceLeDiff, Nat.reduceMul, Nat.reduceEqDiff, exists_eq', putF, implies_true, exists_true_left, tys0, tys1, tys2, tys3, tys4, und0, und1, und2, und3, md9, Try.ntmps9, Try.results9]
  refine call_ret (hasCount_call xs _ _ _ _ (by omega)) rfl rfl ?_
  rw [hasC_yes hx h1 (by omega) (by omega)]
  simp only [q0, q1, q2, q3, q4, q5, q6, q7, q8, q9, zq0, zq1, zq2, zq3, zq4, guardSlot, quietA, nilC, nilA, quietB, St.ev, St.put, St.after, Nat.reduceAdd, Nat.reduceSub, ofV, ofL, lenA, binA, intBin, fltBin, strBin, cpxBin, unA, convA, convB, convO, pickV, resL, oneA, indexA, indexS, isQuiet, loadA, loadC, storeA, fieldA, partA, sliceA, boundA, buildA, placeA, setAll, appendA, readSl, newEl, AV.cells, AV.solid, AV.one, kill, killM, killL, notInt, Int.reduceToNat, cond_true, cond_false, ↓reduceIte, reduceCtorEq, Nat.reduceLT, Nat.reduceLeDiff, Nat.reduceMul, Nat.reduceEqDiff, exists_eq', putF, implies_true, exists_true_left, tys0, tys1, tys2, tys3, tys4, und0, und1, und2, und3, md9, Try.ntmps9, Try.results9]
  refine call_ret (isRated_call r w r0 r1 w0 w3) rfl rfl ?_
  simp only [q0, q1, q2, q3, q4, q5, q6, q7, q8, q9, zq0, zq1, zq2, zq3, zq4, guardSlot, quietA, nilC, nilA, quietB, St.ev, St.put, St.after, Nat.reduceAdd, Nat.reduceSub, ofV, ofL, lenA, binA, intBin, fltBin, strBin, cpxBin, unA, convA, convB, convO, pickV, resL, oneA, indexA, indexS, isQuiet, loadA, loadC, storeA, fieldA, partA, sliceA, boundA, buildA, placeA, setAll, appendA, readSl, newEl, AV.cells, AV.solid, AV.one, kill, killM, killL, notInt, Int.reduceToNat, cond_true, cond_false, ↓reduceIte, reduceCtorEq, Nat.reduceLT, Nat.reduceLeDiff, Nat.reduceMul, Nat.reduceEqDiff, exists_eq', putF, implies_true, exists_true_left, tys0, tys1, tys2, tys3, tys4, und0, und1, und2, und3, md9, Try.ntmps9, Try.results9]
  refine go_round (md := md9) mixed (by kernel_rfl) (fun i : {i : Nat // i ≤ xs.length} => ⟨[.any, .int .i64 r, .int .i64 w, .any, .any, .any, .any, .any, .sl 0 0 i.1, .int .i64 (befF r w xs i.1), .any, .any, .any, .any, .any, .any, .any, .any, .any, .any, .any, .any, .any, .ro (ints xs), .int .i64 xs.length, .int .i64 i.1, .any, .any, .any, .any, .any, .any, .any, .any, .any, .any, .any, .any, .any, .any, .any, .any], [intB (rngL (chnF r w xs) i.1)]⟩) (fun i => xs.length - i.1) ⟨0, by simp⟩ ?_ ?_
  · exact weak_drop (by simp) (by simp [DropHp, ints_below, flts_below, intB, ints, rngL, befF, allBelow_cons, allBelow_nil, below, belowM, belowL]) (by simp [DropTm, DropV, below, belowM, belowL, intB, ints, rngL, befF, allBelow_cons, allBelow_nil, below, belowM, belowL])
  · intro ⟨i, hi⟩
    have rl := rngL_len (chnF r w xs) i
    simp only [q0, q1, q2, q3, q4, q5, q6, q7, q8, q9, zq0, zq1, zq2, zq3, zq4, guardSlot, quietA, nilC, nilA, quietB, St.ev, St.put, St.after, Nat.reduceAdd, Nat.reduceSub, ofV, ofL, lenA, binA, intBin, fltBin, strBin, cpxBin, unA, convA, convB, convO, pickV, resL, oneA, indexA, indexS, isQuiet, loadA, loadC, storeA, fieldA, partA, sliceA, boundA, buildA, placeA, setAll, appendA, readSl, newEl, AV.cells, AV.solid, AV.one, kill, killM, killL, notInt, Int.reduceToNat, cond_true, cond_false, ↓reduceIte, reduceCtorEq, Nat.reduceLT, Nat.reduceLeDiff, Nat.reduceMul, Nat.reduceEqDiff, exists_eq', putF, implies_true, exists_true_left, tys0, tys1, tys2, tys3, tys4, und0, und1, und2, und3, md9, Try.ntmps9, Try.results9, intB, ints_len, rl]
    refine br_intro (fun h => ?_) (fun h => ?_) <;> simp only [q0, q1, q2, q3, q4, q5, q6, q7, q8, q9, zq0, zq1, zq2, zq3, zq4, guardSlot, quietA, nilC, nilA, quietB, St.ev, St.put, St.after, Nat.reduceAdd, Nat.reduceSub, ofV, ofL, lenA, binA, intBin, fltBin, strBin, cpxBin, unA, convA, convB, convO, pickV, resL, oneA, indexA, indexS, isQuiet, loadA, loadC, storeA, fieldA, partA, sliceA, boundA, buildA, placeA, setAll, appendA, readSl, newEl, AV.cells, AV.solid, AV.one, kill, killM, killL, notInt, Int.reduceToNat, cond_true, cond_false, ↓reduceIte, reduceCtorEq, Nat.reduceLT, Nat.reduceLeDiff, Nat.reduceMul, Nat.reduceEqDiff, exists_eq', putF, implies_true, exists_true_left, tys0, tys1, tys2, tys3, tys4, und0, und1, und2, und3, md9, Try.ntmps9, Try.results9, intB, ints_len, rl]
    · have hi' : i < xs.length := by simpa using h
      have bx := hx.at_ hi'
      rw [getD_at xs 0 i hi'] at bx
      have bo := own_bound (w := w) r0 r1 bx.1
      have bb := bef_bound (w := w) hx r0 r1 i (by omega)
      have e1 : IntKind.i64.wrap (rnd (xs[i] * r) 10000 w - befF r w xs i) = chnF r w xs i := by
        rw [w64 (by show _ ≤ ownF r w xs[i] - _; omega) (by show ownF r w xs[i] - _ ≤ _; omega), chnF, getD_at xs 0 i hi']; rfl
      refine ⟨hi', ?_⟩
      refine call_ret (dueBy_call xs[i] r w bx.1 (by omega) r0 r1 w0 w3) rfl rfl ?_
      simp only [q0, q1, q2, q3, q4, q5, q6, q7, q8, q9, zq0, zq1, zq2, zq3, zq4, guardSlot, quietA, nilC, nilA, quietB, St.ev, St.put, St.after, Nat.reduceAdd, Nat.reduceSub, ofV, ofL, lenA, binA, intBin, fltBin, strBin, cpxBin, unA, convA, convB, convO, pickV, resL, oneA, indexA, indexS, isQuiet, loadA, loadC, storeA, fieldA, partA, sliceA, boundA, buildA, placeA, setAll, appendA, readSl, newEl, AV.cells, AV.solid, AV.one, kill, killM, killL, notInt, Int.reduceToNat, cond_true, cond_false, ↓reduceIte, reduceCtorEq, Nat.reduceLT, Nat.reduceLeDiff, Nat.reduceMul, Nat.reduceEqDiff, exists_eq', putF, implies_true, exists_true_left, tys0, tys1, tys2, tys3, tys4, und0, und1, und2, und3, md9, Try.ntmps9, Try.results9, intB, ints_len, rl, e1, allW_int, fits, List.isEmpty_cons, brk_false, Nat.reduceMul]
      refine ⟨by omega, ⟨i + 1, by omega⟩, by show xs.length - (i + 1) < xs.length - i; omega, ?_⟩
      have e2 : rnd (xs[i] * r) 10000 w = befF r w xs (i + 1) := by rw [befF, getD_at xs 0 i hi']; rfl
      rw [e2, rngL_succ]
      exact weak_drop (by simp) (by simp [DropHp, ints_below, flts_below, w64_succ i (by omega), intB, allBelow_cons, allBelow_nil, below, belowM, belowL]) (by simp [DropTm, DropV, below, belowM, belowL, w64_succ i (by omega), intB, allBelow_cons, allBelow_nil, below, belowM, belowL])
    · have hi' : i = xs.length := by simp at h; omega
      subst hi'
      exact PostR.ret
end Go.Proofs.Ytdlddnnnfjnabaa
