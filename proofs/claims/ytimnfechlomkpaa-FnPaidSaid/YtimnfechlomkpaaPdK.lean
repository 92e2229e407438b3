/- Losses that are carried: plain numbers, and the program. -/
import Derived.Test.YtimnfechlomkpaaPdJ
set_option maxRecDepth 10000
set_option maxHeartbeats 8000000
set_option linter.unusedSimpArgs false
set_option linter.unusedVariables false
namespace Go.Proofs.Ytimnfechlomkpaa
open Go Go.Abs

abbrev GL := List Int × List Int
def useX (i k : Nat) (s : GL) : Int := min (s.2.getD i 0) (s.1.getD k 0)
def useS (i k : Nat) (s : GL) : GL := (s.1.set k (s.1.getD k 0 - useX i k s), s.2.set i (s.2.getD i 0 - useX i k s))
def carK (i : Nat) : Nat → Nat → GL → GL
  | _, 0, s => s
  | k, m + 1, s => carK i (k + 1) m (useS i k s)
theorem carK_add (i : Nat) : ∀ (a k b : Nat) (s : GL), carK i k (a + b) s = carK i (k + a) b (carK i k a s)
  | 0, k, b, s => by rw [Nat.zero_add, Nat.add_zero]; rfl
  | a + 1, k, b, s => by
    rw [show a + 1 + b = (a + b) + 1 by omega]
    show carK i (k + 1) (a + b) (useS i k s) = carK i (k + (a + 1)) b (carK i (k + 1) a (useS i k s))
    rw [carK_add i a (k + 1) b, show k + 1 + a = k + (a + 1) by omega]
theorem carK_snoc (i k m : Nat) (s : GL) : carK i k (m + 1) s = useS i (k + m) (carK i k m s) := carK_add i m k 1 s
structure Car (X : List Int) (s : GL) : Prop where
  g : s.1.length = X.length
  l : s.2.length = X.length
  low : ∀ j, 0 ≤ s.1.getD j 0 ∧ s.1.getD j 0 ≤ max 0 (X.getD j 0) ∧ 0 ≤ s.2.getD j 0 ∧ s.2.getD j 0 ≤ max 0 (-X.getD j 0)
  sum : sumI s.1 - sumI s.2 = sumI X
theorem set_get (l : List Int) (i j : Nat) (v : Int) (hi : i < l.length) : (l.set i v).getD j 0 = if j = i then v else l.getD j 0 := by
  rw [List.getD_eq_getElem?_getD, List.getElem?_set]
  by_cases e : i = j
  · subst e; rw [if_pos rfl, if_pos hi, if_pos rfl]; rfl
  · rw [if_neg e, if_neg (fun x => e x.symm), List.getD_eq_getElem?_getD]
theorem Car.use {X : List Int} {s : GL} (C : Car X s) {i k : Nat} (hi : i < X.length) (hk : k < X.length) : Car X (useS i k s) := by
  have hg := C.g
  have hl := C.l
  have ai := C.low i
  have ak := C.low k
  refine ⟨by simp [useS, hg], by simp [useS, hl], fun j => ?_, ?_⟩
  · have aj := C.low j
    unfold useS
    simp only
    rw [set_get _ _ _ _ (by omega), set_get _ _ _ _ (by omega)]
    unfold useX
    by_cases e1 : j = k
    · rw [if_pos e1]
      by_cases e2 : j = i
      · rw [if_pos e2]; subst e1; subst e2; omega
      · rw [if_neg e2]; subst e1; omega
    · rw [if_neg e1]
      by_cases e2 : j = i
      · rw [if_pos e2]; subst e2; omega
      · rw [if_neg e2]; omega
  · have := C.sum
    unfold useS
    simp only
    rw [sumI_set _ _ _ (by omega), sumI_set _ _ _ (by omega)]
    omega
theorem Car.useX {X : List Int} {s : GL} (C : Car X s) (i k : Nat) : 0 ≤ useX i k s ∧ useX i k s ≤ s.2.getD i 0 ∧ useX i k s ≤ s.1.getD k 0 := by
  have ai := C.low i
  have ak := C.low k
  unfold Proofs.Ytimnfechlomkpaa.useX
  omega
theorem Car.self {X : List Int} {s : GL} (C : Car X s) {i : Nat} (hi : i < X.length) : useS i i s = s := by
  have hg := C.g
  have hl := C.l
  have a := C.low i
  have x0 : Proofs.Ytimnfechlomkpaa.useX i i s = 0 := by unfold Proofs.Ytimnfechlomkpaa.useX; omega
  unfold useS
  rw [x0, Int.sub_zero, Int.sub_zero, getD_at s.1 0 i (by omega), getD_at s.2 0 i (by omega), List.set_getElem_self, List.set_getElem_self]
theorem Car.many {X : List Int} {i : Nat} (hi : i < X.length) : ∀ (m k : Nat) (s : GL), Car X s → k + m ≤ X.length → Car X (carK i k m s)
  | 0, _, _, C, _ => C
  | m + 1, k, s, C, h => Car.many hi m (k + 1) (useS i k s) (C.use hi (by omega)) (by omega)
def gain (x : Int) : Int := max 0 x
def loss (x : Int) : Int := max 0 (-x)
def car0 (X : List Int) : GL := (X.map gain, X.map loss)
theorem map_getD (f : Int → Int) (hf : f 0 = 0) (X : List Int) (j : Nat) : (X.map f).getD j 0 = f (X.getD j 0) := by
  by_cases h : j < X.length
  · rw [getD_at _ 0 j (by simpa using h), getD_at X 0 j h, List.getElem_map]
  · rw [List.getD_eq_getElem?_getD, List.getD_eq_getElem?_getD, List.getElem?_eq_none (by simp; omega), List.getElem?_eq_none (by omega)]
    exact hf.symm
theorem car0_ok (X : List Int) : Car X (car0 X) := by
  refine ⟨by simp [car0], by simp [car0], fun j => ?_, ?_⟩
  · unfold car0
    simp only
    rw [map_getD gain rfl, map_getD loss rfl]
    unfold gain loss
    omega
  · unfold car0
    simp only
    induction X with
    | nil => rfl
    | cons x X ih =>
      show gain x + sumI (X.map gain) - (loss x + sumI (X.map loss)) = x + sumI X
      unfold gain loss at *
      omega
def rowC (n b o i : Nat) (s : GL) : GL := carK i (i + 1) (min (i + o + 1) n - (i + 1)) (carK i (i - b) (i - (i - b)) s)
def rowsC (n b o : Nat) : Nat → GL → GL
  | 0, s => s
  | i + 1, s => rowC n b o i (rowsC n b o i s)
theorem Car.row {X : List Int} {s : GL} (C : Car X s) (b o i : Nat) (hi : i < X.length) : Car X (rowC X.length b o i s) :=
  Car.many hi _ _ _ (Car.many hi _ _ _ C (by omega)) (by omega)
theorem Car.rows {X : List Int} {s : GL} (C : Car X s) (b o : Nat) : ∀ i, i ≤ X.length → Car X (rowsC X.length b o i s)
  | 0, _ => C
  | i + 1, h => (Car.rows C b o i (by omega)).row b o i (by omega)
theorem rowC_eq {X : List Int} {s : GL} (C : Car X s) (b o i : Nat) (hi : i < X.length) : carK i (i - b) (min (X.length - 1) (i + o) + 1 - (i - b)) s = rowC X.length b o i s := by
  have C1 := Car.many hi (i - (i - b)) (i - b) s C (by omega)
  have e : min (X.length - 1) (i + o) + 1 - (i - b) = (i - (i - b)) + (1 + (min (i + o + 1) X.length - (i + 1))) := by omega
  rw [e, carK_add, show i - b + (i - (i - b)) = i by omega, carK_add]
  show carK i (i + 1) _ (useS i i _) = _
  rw [C1.self hi]
  rfl

theorem mapped_call (fid : FuncId) (f : Int → Int) (X : List Int) (hc : ∀ x ∈ X, CallA Try.prog fid [.int .i64 x] [] (Ret (.int .i64 (f x)) [])) (hX : X.length ≤ 1000) : CallA Try.prog 32 [.ro (ints X), .fn fid []] [] (Ret (.sl 0 0 X.length) [intB (X.map f)]) := by
  refine CallP.out (t := .mk) (go_in (md := md32) mixed Try.func32 rfl go32 (by kernel_rfl) ?_)
  simp only [q0, q1, q2, q3, q4, q5, q6, q7, q8, q9, zq0, zq1, zq2, zq3, zq4, guardSlot, quietA, nilC, nilA, quietB, St.ev, St.put, St.after, Nat.reduceAdd, Nat.reduceSub, ofV, ofL, lenA, binA, intBin, fltBin, strBin, cpxBin, unA, convA, convB, convO, pickV, resL, oneA, indexA, indexS, isQuiet, loadA, loadC, storeA, fieldA, partA, sliceA, boundA, buildA, placeA, setAll, appendA, readSl, newEl, AV.cells, AV.solid, AV.one, kill, killM, killL, notInt, Int.reduceToNat, cond_true, cond_false, ↓reduceIte, reduceCtorEq, Nat.reduceLT, Nat.reduceLeDiff, Nat.reduceMul, Nat.reduceEqDiff, exists_eq', putF, implies_true, exists_true_left, tys0, tys1, tys2, tys3, und0, und1, und2, md32, Try.ntmps32, Try.results32]
  refine go_round (md := md32) mixed (by kernel_rfl) (fun i : {i : Nat // i ≤ X.length} => ⟨[.any, .fn fid [], .any, .any, .any, .sl 0 0 i.1, .any, .any, .any, .ro (ints X), .int .i64 X.length, .int .i64 (i.1 : Int), .any, .any, .any, .any, .any, .any, .any, .any, .any, .any, .any], [intB ((X.map f).take i.1)]⟩) (fun i => X.length - i.1) ⟨0, by omega⟩ ?_ ?_
  · have z : ints [] = [] := rfl
    rw [List.take_zero]
    exact weak_drop (by simp) (by simp [DropHp, ints_below, flts_below, intB, z, allBelow_cons, allBelow_nil, below, belowM, belowL]) (by simp [DropTm, DropV, below, belowM, belowL, intB, z, allBelow_cons, allBelow_nil, below, belowM, belowL])
  rintro ⟨i, hi⟩
  have tl : ((X.map f).take i).length = i := by simp; omega
  simp only [q0, q1, q2, q3, q4, q5, q6, q7, q8, q9, zq0, zq1, zq2, zq3, zq4, guardSlot, quietA, nilC, nilA, quietB, St.ev, St.put, St.after, Nat.reduceAdd, Nat.reduceSub, ofV, ofL, lenA, binA, intBin, fltBin, strBin, cpxBin, unA, convA, convB, convO, pickV, resL, oneA, indexA, indexS, isQuiet, loadA, loadC, storeA, fieldA, partA, sliceA, boundA, buildA, placeA, setAll, appendA, readSl, newEl, AV.cells, AV.solid, AV.one, kill, killM, killL, notInt, Int.reduceToNat, cond_true, cond_false, ↓reduceIte, reduceCtorEq, Nat.reduceLT, Nat.reduceLeDiff, Nat.reduceMul, Nat.reduceEqDiff, exists_eq', putF, implies_true, exists_true_left, tys0, tys1, tys2, tys3, und0, und1, und2, md32, Try.ntmps32, Try.results32, intB, ints_len, tl]
  refine br_intro (fun g => ?_) (fun g => ?_) <;> simp only [q0, q1, q2, q3, q4, q5, q6, q7, q8, q9, zq0, zq1, zq2, zq3, zq4, guardSlot, quietA, nilC, nilA, quietB, St.ev, St.put, St.after, Nat.reduceAdd, Nat.reduceSub, ofV, ofL, lenA, binA, intBin, fltBin, strBin, cpxBin, unA, convA, convB, convO, pickV, resL, oneA, indexA, indexS, isQuiet, loadA, loadC, storeA, fieldA, partA, sliceA, boundA, buildA, placeA, setAll, appendA, readSl, newEl, AV.cells, AV.solid, AV.one, kill, killM, killL, notInt, Int.reduceToNat, cond_true, cond_false, ↓reduceIte, reduceCtorEq, Nat.reduceLT, Nat.reduceLeDiff, Nat.reduceMul, Nat.reduceEqDiff, exists_eq', putF, implies_true, exists_true_left, tys0, tys1, tys2, tys3, und0, und1, und2, md32, Try.ntmps32, Try.results32, intB, ints_len, tl]
  · have hi' : i < X.length := by have := of_decide_eq_true g; omega
    refine ⟨hi', ?_⟩
    refine call_ret (hc _ (List.getElem_mem hi')) rfl rfl ?_
    simp only [q0, q1, q2, q3, q4, q5, q6, q7, q8, q9, zq0, zq1, zq2, zq3, zq4, guardSlot, quietA, nilC, nilA, quietB, St.ev, St.put, St.after, Nat.reduceAdd, Nat.reduceSub, ofV, ofL, lenA, binA, intBin, fltBin, strBin, cpxBin, unA, convA, convB, convO, pickV, resL, oneA, indexA, indexS, isQuiet, loadA, loadC, storeA, fieldA, partA, sliceA, boundA, buildA, placeA, setAll, appendA, readSl, newEl, AV.cells, AV.solid, AV.one, kill, killM, killL, notInt, Int.reduceToNat, cond_true, cond_false, ↓reduceIte, reduceCtorEq, Nat.reduceLT, Nat.reduceLeDiff, Nat.reduceMul, Nat.reduceEqDiff, exists_eq', putF, implies_true, exists_true_left, tys0, tys1, tys2, tys3, und0, und1, und2, md32, Try.ntmps32, Try.results32, intB, ints_len, tl, allW_int, fits, List.isEmpty_cons, brk_false, Nat.reduceMul]
    have e : (X.map f).take i ++ [f X[i]] = (X.map f).take (i + 1) := by
      rw [gtake_snoc (X.map f) i (by simpa using hi'), List.getElem_map]
    refine ⟨by omega, ⟨i + 1, by omega⟩, by show X.length - (i + 1) < X.length - i; omega, ?_⟩
    rw [e]
    exact weak_drop (by simp) (by simp [DropHp, ints_below, flts_below, w64_succ i (by omega), intB, allBelow_cons, allBelow_nil, below, belowM, belowL]) (by simp [DropTm, DropV, below, belowM, belowL, w64_succ i (by omega), intB, allBelow_cons, allBelow_nil, below, belowM, belowL])
  · have hi' : i = X.length := by have := of_decide_eq_false g; omega
    subst hi'
    have e : (X.map f).take X.length = X.map f := List.take_of_length_le (by simp)
    rw [e]
    exact PostR.ret
theorem max_if (a b : Int) : (if b > a then b else a) = max a b := by
  split <;> omega
theorem gain_call (x : Int) : CallA Try.prog 33 [.int .i64 x] [] (Ret (.int .i64 (gain x)) []) := by
  refine CallP.out (t := .mk) (go_in (md := md33) mixed Try.func33 rfl go33 (by kernel_rfl) ?_)
  simp only [q0, q1, q2, q3, q4, q5, q6, q7, q8, q9, zq0, zq1, zq2, zq3, zq4, guardSlot, quietA, nilC, nilA, quietB, St.ev, St.put, St.after, Nat.reduceAdd, Nat.reduceSub, ofV, ofL, lenA, binA, intBin, fltBin, strBin, cpxBin, unA, convA, convB, convO, pickV, resL, oneA, indexA, indexS, isQuiet, loadA, loadC, storeA, fieldA, partA, sliceA, boundA, buildA, placeA, setAll, appendA, readSl, newEl, AV.cells, AV.solid, AV.one, kill, killM, killL, notInt, Int.reduceToNat, cond_true, cond_false, ↓reduceIte, reduceCtorEq, Nat.reduceLT, Nat.reduceLeDiff, Nat.reduceMul, Nat.reduceEqDiff, exists_eq', putF, implies_true, exists_true_left, tys0, tys1, tys2, tys3, und0, und1, und2, md33, Try.ntmps33, Try.results33, maxA, max_if]
  rw [show max x 0 = gain x from by unfold gain; omega]
  exact PostR.ret
theorem loss_call (x : Int) (h : -1000000000 ≤ x ∧ x ≤ 1000000000) : CallA Try.prog 34 [.int .i64 x] [] (Ret (.int .i64 (loss x)) []) := by
  have e : IntKind.i64.wrap (0 - x) = -x := by rw [w64 (by omega) (by omega)]; omega
  refine CallP.out (t := .mk) (go_in (md := md34) mixed Try.func34 rfl go34 (by kernel_rfl) ?_)
  simp only [q0, q1, q2, q3, q4, q5, q6, q7, q8, q9, zq0, zq1, zq2, zq3, zq4, guardSlot, quietA, nilC, nilA, quietB, St.ev, St.put, St.after, Nat.reduceAdd, Nat.reduceSub, ofV, ofL, lenA, binA, intBin, fltBin, strBin, cpxBin, unA, convA, convB, convO, pickV, resL, oneA, indexA, indexS, isQuiet, loadA, loadC, storeA, fieldA, partA, sliceA, boundA, buildA, placeA, setAll, appendA, readSl, newEl, AV.cells, AV.solid, AV.one, kill, killM, killL, notInt, Int.reduceToNat, cond_true, cond_false, ↓reduceIte, reduceCtorEq, Nat.reduceLT, Nat.reduceLeDiff, Nat.reduceMul, Nat.reduceEqDiff, exists_eq', putF, implies_true, exists_true_left, tys0, tys1, tys2, tys3, und0, und1, und2, md34, Try.ntmps34, Try.results34, maxA, max_if, e]
  rw [show max (-x) 0 = loss x from by unfold loss; omega]
  exact PostR.ret
def boxS (v : AV) : Blk := cel 27 v
def carH (n : Nat) (s : GL) (rest : List Blk) : List Blk := intB s.1 :: boxS (.sl 0 0 n) :: intB s.2 :: boxS (.sl 2 0 n) :: rest
theorem use_call {X : List Int} {s : GL} (C : Car X s) (hX : ∀ j, -1000 ≤ X.getD j 0 ∧ X.getD j 0 ≤ 1000) (i k : Nat) (hi : i < X.length) (hk : k < X.length) :
    CallA Try.prog 35 [.int .i64 (k : Int), .ptr 3 0 0, .ptr 4 0 0, .ptr 1 0 0] (carH X.length s [kndC (i : Int)]) (Ret (.tup []) (carH X.length (useS i k s) [kndC (i : Int)])) := by
  have hg := C.g
  have hl := C.l
  have ai := C.low i
  have ak := C.low k
  have xi := hX i
  have xk := hX k
  have hi2 : i < s.2.length := by omega
  have hk2 : k < s.1.length := by omega
  have gi := getD_at s.2 0 i hi2
  have gk := getD_at s.1 0 k hk2
  rw [gi] at ai
  rw [gk] at ak
  have ux : min s.2[i] s.1[k] = Proofs.Ytimnfechlomkpaa.useX i k s := by unfold Proofs.Ytimnfechlomkpaa.useX; rw [gi, gk]
  have ub := C.useX i k
  rw [gi, gk] at ub
  have e1 : IntKind.i64.wrap (s.2[i] - Proofs.Ytimnfechlomkpaa.useX i k s) = s.2[i] - Proofs.Ytimnfechlomkpaa.useX i k s := w64 (by omega) (by omega)
  have e2 : IntKind.i64.wrap (s.1[k] - Proofs.Ytimnfechlomkpaa.useX i k s) = s.1[k] - Proofs.Ytimnfechlomkpaa.useX i k s := w64 (by omega) (by omega)
  refine CallP.out (t := .mk) (go_in (md := md35) mixed Try.func35 rfl go35 (by kernel_rfl) ?_)
  simp only [q0, q1, q2, q3, q4, q5, q6, q7, q8, q9, zq0, zq1, zq2, zq3, zq4, guardSlot, quietA, nilC, nilA, quietB, St.ev, St.put, St.after, Nat.reduceAdd, Nat.reduceSub, ofV, ofL, lenA, binA, intBin, fltBin, strBin, cpxBin, unA, convA, convB, convO, pickV, resL, oneA, indexA, indexS, isQuiet, loadA, loadC, storeA, fieldA, partA, sliceA, boundA, buildA, placeA, setAll, appendA, readSl, newEl, AV.cells, AV.solid, AV.one, kill, killM, killL, notInt, Int.reduceToNat, cond_true, cond_false, ↓reduceIte, reduceCtorEq, Nat.reduceLT, Nat.reduceLeDiff, Nat.reduceMul, Nat.reduceEqDiff, exists_eq', putF, implies_true, exists_true_left, tys0, tys1, tys2, tys3, und0, und1, und2, md35, Try.ntmps35, Try.results35, carH, boxS, kndC, intB, cel, ints_len, hg, hl, minA, min_if]
  refine ⟨by omega, hi, by omega, hk, by omega, hi, by omega, hi, by omega, hk, by omega, hk, ?_⟩
  have es : useS i k s = (s.1.set k (s.1[k] - Proofs.Ytimnfechlomkpaa.useX i k s), s.2.set i (s.2[i] - Proofs.Ytimnfechlomkpaa.useX i k s)) := by unfold useS; rw [gi, gk]
  rw [ux, e1, e2, ints_set, ints_set, es]
  exact PostR.ret
theorem implCarry_call {X : List Int} (h1 : 1 ≤ X.length) (h8 : X.length ≤ 8) (hX : ∀ j, -1000 ≤ X.getD j 0 ∧ X.getD j 0 ≤ 1000) (b o : Nat) (hb : b ≤ 3) (ho : o ≤ 24) :
    CallA Try.prog 12 [.ro (ints X), .int .i64 (b : Int), .int .i64 (o : Int)] [] (Ret (.tup [.sl 0 0 X.length, .sl 1 0 X.length, .bool true]) [intB (rowsC X.length b o X.length (car0 X)).1, intB (rowsC X.length b o X.length (car0 X)).2]) := by
  have hm : ∀ x ∈ X, -1000 ≤ x ∧ x ≤ 1000 := fun x hx => by
    obtain ⟨j, hj, rfl⟩ := List.getElem_of_mem hx
    rw [← getD_at X 0 j hj]; exact hX j
  have hc : hasC X 1 24 (-1000000000) 1000000000 = true := by
    unfold hasC
    rw [decide_eq_true (by omega), decide_eq_true (by omega), Bool.true_and, Bool.true_and, List.all_eq_true]
    intro x hx
    have := hm x hx
    exact inR_yes (by omega) (by omega)
  refine CallP.out (t := .mk) (go_in (md := md12) mixed Try.func12 rfl go12 (by kernel_rfl) ?_)
  simp only [q0, q1, q2, q3, q4, q5, q6, q7, q8, q9, zq0, zq1, zq2, zq3, zq4, guardSlot, quietA, nilC, nilA, quietB, St.ev, St.put, St.after, Nat.reduceAdd, Nat.reduceSub, ofV, ofL, lenA, binA, intBin, fltBin, strBin, cpxBin, unA, convA, convB, convO, pickV, resL, oneA, indexA, indexS, isQuiet, loadA, loadC, storeA, fieldA, partA, sliceA, boundA, buildA, placeA, setAll, appendA, readSl, newEl, AV.cells, AV.solid, AV.one, kill, killM, killL, notInt, Int.reduceToNat, cond_true, cond_false, ↓reduceIte, reduceCtorEq, Nat.reduceLT, Nat.reduceLeDiff, Nat.reduceMul, Nat.reduceEqDiff, exists_eq', putF, implies_true, exists_true_left, tys0, tys1, tys2, tys3, und0, und1, und2, md12, Try.ntmps12, Try.results12]
  refine call_ret (hasCount_call X _ _ _ _ (by omega)) rfl rfl ?_
  rw [hc]
  simp only [q0, q1, q2, q3, q4, q5, q6, q7, q8, q9, zq0, zq1, zq2, zq3, zq4, guardSlot, quietA, nilC, nilA, quietB, St.ev, St.put, St.after, Nat.reduceAdd, Nat.reduceSub, ofV, ofL, lenA, binA, intBin, fltBin, strBin, cpxBin, unA, convA, convB, convO, pickV, resL, oneA, indexA, indexS, isQuiet, loadA, loadC, storeA, fieldA, partA, sliceA, boundA, buildA, placeA, setAll, appendA, readSl, newEl, AV.cells, AV.solid, AV.one, kill, killM, killL, notInt, Int.reduceToNat, cond_true, cond_false, ↓reduceIte, reduceCtorEq, Nat.reduceLT, Nat.reduceLeDiff, Nat.reduceMul, Nat.reduceEqDiff, exists_eq', putF, implies_true, exists_true_left, tys0, tys1, tys2, tys3, und0, und1, und2, md12, Try.ntmps12, Try.results12]
  refine call_ret (within_call _ _ _) rfl rfl ?_
  rw [inR_yes (show (0 : Int) ≤ b by omega) (show (b : Int) ≤ 3 by omega)]
  simp only [q0, q1, q2, q3, q4, q5, q6, q7, q8, q9, zq0, zq1, zq2, zq3, zq4, guardSlot, quietA, nilC, nilA, quietB, St.ev, St.put, St.after, Nat.reduceAdd, Nat.reduceSub, ofV, ofL, lenA, binA, intBin, fltBin, strBin, cpxBin, unA, convA, convB, convO, pickV, resL, oneA, indexA, indexS, isQuiet, loadA, loadC, storeA, fieldA, partA, sliceA, boundA, buildA, placeA, setAll, appendA, readSl, newEl, AV.cells, AV.solid, AV.one, kill, killM, killL, notInt, Int.reduceToNat, cond_true, cond_false, ↓reduceIte, reduceCtorEq, Nat.reduceLT, Nat.reduceLeDiff, Nat.reduceMul, Nat.reduceEqDiff, exists_eq', putF, implies_true, exists_true_left, tys0, tys1, tys2, tys3, und0, und1, und2, md12, Try.ntmps12, Try.results12]
  refine call_ret (within_call _ _ _) rfl rfl ?_
  rw [inR_yes (show (0 : Int) ≤ o by omega) (show (o : Int) ≤ 24 by omega)]
  simp only [q0, q1, q2, q3, q4, q5, q6, q7, q8, q9, zq0, zq1, zq2, zq3, zq4, guardSlot, quietA, nilC, nilA, quietB, St.ev, St.put, St.after, Nat.reduceAdd, Nat.reduceSub, ofV, ofL, lenA, binA, intBin, fltBin, strBin, cpxBin, unA, convA, convB, convO, pickV, resL, oneA, indexA, indexS, isQuiet, loadA, loadC, storeA, fieldA, partA, sliceA, boundA, buildA, placeA, setAll, appendA, readSl, newEl, AV.cells, AV.solid, AV.one, kill, killM, killL, notInt, Int.reduceToNat, cond_true, cond_false, ↓reduceIte, reduceCtorEq, Nat.reduceLT, Nat.reduceLeDiff, Nat.reduceMul, Nat.reduceEqDiff, exists_eq', putF, implies_true, exists_true_left, tys0, tys1, tys2, tys3, und0, und1, und2, md12, Try.ntmps12, Try.results12]
  refine call_new (mapped_call _ gain X (fun x _ => gain_call x) (by omega)) rfl (by intro q hq; rw [List.mem_singleton.1 hq]; exact ints_below _ _) ?_
  simp only [q0, q1, q2, q3, q4, q5, q6, q7, q8, q9, zq0, zq1, zq2, zq3, zq4, guardSlot, quietA, nilC, nilA, quietB, St.ev, St.put, St.after, Nat.reduceAdd, Nat.reduceSub, ofV, ofL, lenA, binA, intBin, fltBin, strBin, cpxBin, unA, convA, convB, convO, pickV, resL, oneA, indexA, indexS, isQuiet, loadA, loadC, storeA, fieldA, partA, sliceA, boundA, buildA, placeA, setAll, appendA, readSl, newEl, AV.cells, AV.solid, AV.one, kill, killM, killL, notInt, Int.reduceToNat, cond_true, cond_false, ↓reduceIte, reduceCtorEq, Nat.reduceLT, Nat.reduceLeDiff, Nat.reduceMul, Nat.reduceEqDiff, exists_eq', putF, implies_true, exists_true_left, tys0, tys1, tys2, tys3, und0, und1, und2, md12, Try.ntmps12, Try.results12, ren, renM, renL]
  refine call_new (mapped_call _ loss X (fun x hx => loss_call x (by have := hm x hx; omega)) (by omega)) rfl (by intro q hq; rw [List.mem_singleton.1 hq]; exact ints_below _ _) ?_
  simp only [q0, q1, q2, q3, q4, q5, q6, q7, q8, q9, zq0, zq1, zq2, zq3, zq4, guardSlot, quietA, nilC, nilA, quietB, St.ev, St.put, St.after, Nat.reduceAdd, Nat.reduceSub, ofV, ofL, lenA, binA, intBin, fltBin, strBin, cpxBin, unA, convA, convB, convO, pickV, resL, oneA, indexA, indexS, isQuiet, loadA, loadC, storeA, fieldA, partA, sliceA, boundA, buildA, placeA, setAll, appendA, readSl, newEl, AV.cells, AV.solid, AV.one, kill, killM, killL, notInt, Int.reduceToNat, cond_true, cond_false, ↓reduceIte, reduceCtorEq, Nat.reduceLT, Nat.reduceLeDiff, Nat.reduceMul, Nat.reduceEqDiff, exists_eq', putF, implies_true, exists_true_left, tys0, tys1, tys2, tys3, und0, und1, und2, md12, Try.ntmps12, Try.results12, ren, renM, renL]
  have fnD : ∀ v : AV, v = .fn 35 [.ptr 3 0 0, .ptr 4 0 0, .ptr 1 0 0] → below 5 v = true := fun v h => by rw [h]; rfl
  refine go_round (md := md12) mixed (by kernel_rfl) (fun i : {i : Nat // i ≤ X.length} => ⟨[.any, .int .i64 (b : Int), .int .i64 (o : Int), .any, .any, .any, .any, .any, .any, .int .i64 (X.length : Int), .ptr 1 0 0, .ptr 3 0 0, .any, .any, .any, .any, .any, .any, .any, .any, .any, .any, .any, .any, .any, .any, .any, .any, .any, .any, .any, .any, .any, .any, .any, .int .i64 (X.length : Int), .int .i64 (i.1 : Int), .any, .any, .any, .any, .any, .any, .any, .any, .any, .any, .any, .any, .any, .any, .any, .any, .any, .any, .any, .any, .any, .any, .any, .any, .any, .any, .any, .any, .any, .any, .any, .any, .any], carH X.length (rowsC X.length b o i.1 (car0 X)) []⟩) (fun i => X.length - i.1) ⟨0, by omega⟩ ?_ ?_
  · have z : rowsC X.length b o 0 (car0 X) = (X.map gain, X.map loss) := rfl
    rw [z]
    exact weak_drop (by simp) (by simp [DropHp, ints_below, flts_below, carH, boxS, intB, cel, allBelow_cons, allBelow_nil, below, belowM, belowL]) (by simp [DropTm, DropV, below, belowM, belowL, carH, boxS, intB, cel, allBelow_cons, allBelow_nil, below, belowM, belowL])
  rintro ⟨i, hi⟩
  have C0 := (car0_ok X).rows b o i hi
  generalize hS0 : rowsC X.length b o i (car0 X) = S0 at *
  simp only [q0, q1, q2, q3, q4, q5, q6, q7, q8, q9, zq0, zq1, zq2, zq3, zq4, guardSlot, quietA, nilC, nilA, quietB, St.ev, St.put, St.after, Nat.reduceAdd, Nat.reduceSub, ofV, ofL, lenA, binA, intBin, fltBin, strBin, cpxBin, unA, convA, convB, convO, pickV, resL, oneA, indexA, indexS, isQuiet, loadA, loadC, storeA, fieldA, partA, sliceA, boundA, buildA, placeA, setAll, appendA, readSl, newEl, AV.cells, AV.solid, AV.one, kill, killM, killL, notInt, Int.reduceToNat, cond_true, cond_false, ↓reduceIte, reduceCtorEq, Nat.reduceLT, Nat.reduceLeDiff, Nat.reduceMul, Nat.reduceEqDiff, exists_eq', putF, implies_true, exists_true_left, tys0, tys1, tys2, tys3, und0, und1, und2, md12, Try.ntmps12, Try.results12, carH, boxS, kndC, intB, cel, ints_len, minA, min_if, maxA, max_if]
  refine br_intro (fun g => ?_) (fun g => ?_) <;> simp only [q0, q1, q2, q3, q4, q5, q6, q7, q8, q9, zq0, zq1, zq2, zq3, zq4, guardSlot, quietA, nilC, nilA, quietB, St.ev, St.put, St.after, Nat.reduceAdd, Nat.reduceSub, ofV, ofL, lenA, binA, intBin, fltBin, strBin, cpxBin, unA, convA, convB, convO, pickV, resL, oneA, indexA, indexS, isQuiet, loadA, loadC, storeA, fieldA, partA, sliceA, boundA, buildA, placeA, setAll, appendA, readSl, newEl, AV.cells, AV.solid, AV.one, kill, killM, killL, notInt, Int.reduceToNat, cond_true, cond_false, ↓reduceIte, reduceCtorEq, Nat.reduceLT, Nat.reduceLeDiff, Nat.reduceMul, Nat.reduceEqDiff, exists_eq', putF, implies_true, exists_true_left, tys0, tys1, tys2, tys3, und0, und1, und2, md12, Try.ntmps12, Try.results12, carH, boxS, kndC, intB, cel, ints_len, minA, min_if, maxA, max_if]
  · have hi' : i < X.length := by have := of_decide_eq_true g; omega
    have ek : max (IntKind.i64.wrap ((i : Int) - (b : Int))) 0 = ((i - b : Nat) : Int) := by rw [w64 (by omega) (by omega)]; omega
    have C1 : ∀ m, m ≤ i - (i - b) → Car X (carK i (i - b) m S0) := fun m hm => Car.many hi' m _ _ C0 (by omega)
    refine go_round (md := md12) mixed (by kernel_rfl) (fun m : {m : Nat // m ≤ i - (i - b)} => ⟨[.any, .int .i64 (b : Int), .int .i64 (o : Int), .any, .any, .any, .any, .any, .any, .int .i64 (X.length : Int), .ptr 1 0 0, .ptr 3 0 0, .ptr 4 0 0, .fn 35 [.ptr 3 0 0, .ptr 4 0 0, .ptr 1 0 0], .int .i64 ((i - b + m.1 : Nat) : Int), .any, .any, .any, .any, .any, .any, .any, .any, .any, .any, .any, .any, .any, .any, .any, .any, .any, .any, .any, .any, .int .i64 (X.length : Int), .int .i64 (i : Int), .any, .any, .any, .any, .any, .any, .any, .any, .any, .any, .any, .any, .any, .any, .any, .any, .any, .any, .any, .any, .any, .any, .any, .any, .any, .any, .any, .any, .any, .any, .any, .any, .any], carH X.length (carK i (i - b) m.1 S0) [kndC (i : Int)]⟩) (fun m => i - (i - b) - m.1) ⟨0, by omega⟩ ?_ ?_
    · rw [ek]
      exact weak_drop (by simp) (by simp [DropHp, ints_below, flts_below, carH, boxS, kndC, intB, cel, carK, Nat.add_zero, allBelow_cons, allBelow_nil, below, belowM, belowL]) (by simp [DropTm, DropV, below, belowM, belowL, carH, boxS, kndC, intB, cel, carK, Nat.add_zero, allBelow_cons, allBelow_nil, below, belowM, belowL])
    rintro ⟨m, hm⟩
    have Cm := C1 m hm
    simp only [q0, q1, q2, q3, q4, q5, q6, q7, q8, q9, zq0, zq1, zq2, zq3, zq4, guardSlot, quietA, nilC, nilA, quietB, St.ev, St.put, St.after, Nat.reduceAdd, Nat.reduceSub, ofV, ofL, lenA, binA, intBin, fltBin, strBin, cpxBin, unA, convA, convB, convO, pickV, resL, oneA, indexA, indexS, isQuiet, loadA, loadC, storeA, fieldA, partA, sliceA, boundA, buildA, placeA, setAll, appendA, readSl, newEl, AV.cells, AV.solid, AV.one, kill, killM, killL, notInt, Int.reduceToNat, cond_true, cond_false, ↓reduceIte, reduceCtorEq, Nat.reduceLT, Nat.reduceLeDiff, Nat.reduceMul, Nat.reduceEqDiff, exists_eq', putF, implies_true, exists_true_left, tys0, tys1, tys2, tys3, und0, und1, und2, md12, Try.ntmps12, Try.results12, carH, boxS, kndC, intB, cel, ints_len, minA, min_if, maxA, max_if]
    refine br_intro (fun u => ?_) (fun u => ?_) <;> simp only [q0, q1, q2, q3, q4, q5, q6, q7, q8, q9, zq0, zq1, zq2, zq3, zq4, guardSlot, quietA, nilC, nilA, quietB, St.ev, St.put, St.after, Nat.reduceAdd, Nat.reduceSub, ofV, ofL, lenA, binA, intBin, fltBin, strBin, cpxBin, unA, convA, convB, convO, pickV, resL, oneA, indexA, indexS, isQuiet, loadA, loadC, storeA, fieldA, partA, sliceA, boundA, buildA, placeA, setAll, appendA, readSl, newEl, AV.cells, AV.solid, AV.one, kill, killM, killL, notInt, Int.reduceToNat, cond_true, cond_false, ↓reduceIte, reduceCtorEq, Nat.reduceLT, Nat.reduceLeDiff, Nat.reduceMul, Nat.reduceEqDiff, exists_eq', putF, implies_true, exists_true_left, tys0, tys1, tys2, tys3, und0, und1, und2, md12, Try.ntmps12, Try.results12, carH, boxS, kndC, intB, cel, ints_len, minA, min_if, maxA, max_if]
    · have u' : m < i - (i - b) := by have := of_decide_eq_true u; omega
      have uc := use_call Cm hX i (i - b + m) hi' (by omega)
      refine call_by uc ?_
      rintro r hp' ⟨rfl, rfl⟩
      simp only [q0, q1, q2, q3, q4, q5, q6, q7, q8, q9, zq0, zq1, zq2, zq3, zq4, guardSlot, quietA, nilC, nilA, quietB, St.ev, St.put, St.after, Nat.reduceAdd, Nat.reduceSub, ofV, ofL, lenA, binA, intBin, fltBin, strBin, cpxBin, unA, convA, convB, convO, pickV, resL, oneA, indexA, indexS, isQuiet, loadA, loadC, storeA, fieldA, partA, sliceA, boundA, buildA, placeA, setAll, appendA, readSl, newEl, AV.cells, AV.solid, AV.one, kill, killM, killL, notInt, Int.reduceToNat, cond_true, cond_false, ↓reduceIte, reduceCtorEq, Nat.reduceLT, Nat.reduceLeDiff, Nat.reduceMul, Nat.reduceEqDiff, exists_eq', putF, implies_true, exists_true_left, tys0, tys1, tys2, tys3, und0, und1, und2, md12, Try.ntmps12, Try.results12, carH, boxS, kndC, intB, cel, ints_len, minA, min_if, maxA, max_if]
      have ew : IntKind.i64.wrap (((i - b + m : Nat) : Int) + 1) = ((i - b + (m + 1) : Nat) : Int) := w64_succ (i - b + m) (by omega)
      have es := carK_snoc i (i - b) m S0
      refine ⟨⟨m + 1, by omega⟩, by show i - (i - b) - (m + 1) < i - (i - b) - m; omega, ?_⟩
      show Weak 0 _ ⟨_, _⟩
      rw [ew, es]
      exact weak_drop (by simp) (by simp [DropHp, ints_below, flts_below, carH, boxS, kndC, intB, cel, allBelow_cons, allBelow_nil, below, belowM, belowL]) (by simp [DropTm, DropV, below, belowM, belowL, carH, boxS, kndC, intB, cel, allBelow_cons, allBelow_nil, below, belowM, belowL])
    · have u' : m = i - (i - b) := by have := of_decide_eq_false u; omega
      subst u'
      have D2 : ∀ m, m ≤ min (i + o + 1) X.length - (i + 1) → Car X (carK i (i + 1) m (carK i (i - b) (i - (i - b)) S0)) := fun m hm => Car.many hi' m _ _ Cm (by omega)
      have er : rowsC X.length b o (i + 1) (car0 X) = carK i (i + 1) (min (i + o + 1) X.length - (i + 1)) (carK i (i - b) (i - (i - b)) S0) := by rw [rowsC, hS0]; rfl
      generalize carK i (i - b) (i - (i - b)) S0 = S1 at *
      have ej : min (IntKind.i64.wrap (IntKind.i64.wrap ((i : Int) + (o : Int)) + 1)) (X.length : Int) = ((min (i + o + 1) X.length : Nat) : Int) := by
        rw [w64 (n := (i : Int) + (o : Int)) (by omega) (by omega), w64 (by omega) (by omega)]; omega
      refine go_round (md := md12) mixed (by kernel_rfl) (fun m : {m : Nat // m ≤ min (i + o + 1) X.length - (i + 1)} => ⟨[.any, .int .i64 (b : Int), .int .i64 (o : Int), .any, .any, .any, .any, .any, .any, .int .i64 (X.length : Int), .ptr 1 0 0, .ptr 3 0 0, .ptr 4 0 0, .fn 35 [.ptr 3 0 0, .ptr 4 0 0, .ptr 1 0 0], .any, .int .i64 ((i + 1 + m.1 : Nat) : Int), .any, .any, .any, .any, .any, .any, .any, .any, .any, .any, .any, .any, .any, .any, .any, .any, .any, .any, .any, .int .i64 (X.length : Int), .int .i64 (i : Int), .any, .any, .any, .any, .any, .any, .any, .any, .any, .any, .any, .any, .any, .any, .any, .any, .any, .any, .any, .any, .any, .any, .any, .any, .any, .any, .any, .any, .any, .any, .any, .any, .any], carH X.length (carK i (i + 1) m.1 S1) [kndC (i : Int)]⟩) (fun m => min (i + o + 1) X.length - (i + 1) - m.1) ⟨0, by omega⟩ ?_ ?_
      · exact weak_drop (by simp) (by simp [DropHp, ints_below, flts_below, carH, boxS, kndC, intB, cel, carK, Nat.add_zero, w64_succ i (by omega), allBelow_cons, allBelow_nil, below, belowM, belowL]) (by simp [DropTm, DropV, below, belowM, belowL, carH, boxS, kndC, intB, cel, carK, Nat.add_zero, w64_succ i (by omega), allBelow_cons, allBelow_nil, below, belowM, belowL])
      rintro ⟨m, hm2⟩
      have Dm := D2 m hm2
      simp only [q0, q1, q2, q3, q4, q5, q6, q7, q8, q9, zq0, zq1, zq2, zq3, zq4, guardSlot, quietA, nilC, nilA, quietB, St.ev, St.put, St.after, Nat.reduceAdd, Nat.reduceSub, ofV, ofL, lenA, binA, intBin, fltBin, strBin, cpxBin, unA, convA, convB, convO, pickV, resL, oneA, indexA, indexS, isQuiet, loadA, loadC, storeA, fieldA, partA, sliceA, boundA, buildA, placeA, setAll, appendA, readSl, newEl, AV.cells, AV.solid, AV.one, kill, killM, killL, notInt, Int.reduceToNat, cond_true, cond_false, ↓reduceIte, reduceCtorEq, Nat.reduceLT, Nat.reduceLeDiff, Nat.reduceMul, Nat.reduceEqDiff, exists_eq', putF, implies_true, exists_true_left, tys0, tys1, tys2, tys3, und0, und1, und2, md12, Try.ntmps12, Try.results12, carH, boxS, kndC, intB, cel, ints_len, minA, min_if, maxA, max_if, ej]
      refine br_intro (fun v => ?_) (fun v => ?_) <;> simp only [q0, q1, q2, q3, q4, q5, q6, q7, q8, q9, zq0, zq1, zq2, zq3, zq4, guardSlot, quietA, nilC, nilA, quietB, St.ev, St.put, St.after, Nat.reduceAdd, Nat.reduceSub, ofV, ofL, lenA, binA, intBin, fltBin, strBin, cpxBin, unA, convA, convB, convO, pickV, resL, oneA, indexA, indexS, isQuiet, loadA, loadC, storeA, fieldA, partA, sliceA, boundA, buildA, placeA, setAll, appendA, readSl, newEl, AV.cells, AV.solid, AV.one, kill, killM, killL, notInt, Int.reduceToNat, cond_true, cond_false, ↓reduceIte, reduceCtorEq, Nat.reduceLT, Nat.reduceLeDiff, Nat.reduceMul, Nat.reduceEqDiff, exists_eq', putF, implies_true, exists_true_left, tys0, tys1, tys2, tys3, und0, und1, und2, md12, Try.ntmps12, Try.results12, carH, boxS, kndC, intB, cel, ints_len, minA, min_if, maxA, max_if]
      · have v' : m < min (i + o + 1) X.length - (i + 1) := by have := of_decide_eq_true v; omega
        have uc := use_call Dm hX i (i + 1 + m) hi' (by omega)
        refine call_by uc ?_
        rintro r hp' ⟨rfl, rfl⟩
        simp only [q0, q1, q2, q3, q4, q5, q6, q7, q8, q9, zq0, zq1, zq2, zq3, zq4, guardSlot, quietA, nilC, nilA, quietB, St.ev, St.put, St.after, Nat.reduceAdd, Nat.reduceSub, ofV, ofL, lenA, binA, intBin, fltBin, strBin, cpxBin, unA, convA, convB, convO, pickV, resL, oneA, indexA, indexS, isQuiet, loadA, loadC, storeA, fieldA, partA, sliceA, boundA, buildA, placeA, setAll, appendA, readSl, newEl, AV.cells, AV.solid, AV.one, kill, killM, killL, notInt, Int.reduceToNat, cond_true, cond_false, ↓reduceIte, reduceCtorEq, Nat.reduceLT, Nat.reduceLeDiff, Nat.reduceMul, Nat.reduceEqDiff, exists_eq', putF, implies_true, exists_true_left, tys0, tys1, tys2, tys3, und0, und1, und2, md12, Try.ntmps12, Try.results12, carH, boxS, kndC, intB, cel, ints_len, minA, min_if, maxA, max_if]
        have ew : IntKind.i64.wrap (((i + 1 + m : Nat) : Int) + 1) = ((i + 1 + (m + 1) : Nat) : Int) := w64_succ (i + 1 + m) (by omega)
        have es := carK_snoc i (i + 1) m S1
        refine ⟨⟨m + 1, by omega⟩, by show min (i + o + 1) X.length - (i + 1) - (m + 1) < min (i + o + 1) X.length - (i + 1) - m; omega, ?_⟩
        show Weak 0 _ ⟨_, _⟩
        rw [ew, es]
        exact weak_drop (by simp) (by simp [DropHp, ints_below, flts_below, carH, boxS, kndC, intB, cel, allBelow_cons, allBelow_nil, below, belowM, belowL]) (by simp [DropTm, DropV, below, belowM, belowL, carH, boxS, kndC, intB, cel, allBelow_cons, allBelow_nil, below, belowM, belowL])
      · have v' : m = min (i + o + 1) X.length - (i + 1) := by have := of_decide_eq_false v; omega
        subst v'
        refine ⟨⟨i + 1, by omega⟩, by show X.length - (i + 1) < X.length - i; omega, ?_⟩
        show Weak 0 _ ⟨_, _⟩
        rw [er]
        exact weak_drop (by simp) (by simp [DropHp, ints_below, flts_below, carH, boxS, kndC, intB, cel, w64_succ i (by omega), allBelow_cons, allBelow_nil, below, belowM, belowL]) (by simp [DropTm, DropV, below, belowM, belowL, carH, boxS, kndC, intB, cel, w64_succ i (by omega), allBelow_cons, allBelow_nil, below, belowM, belowL])
  · have hi' : i = X.length := by have := of_decide_eq_false g; omega
    subst hi'
    rw [hS0]
    exact PostR.pick (hp2 := [intB S0.1, intB S0.2]) (r2 := .tup [.sl 0 0 X.length, .sl 1 0 X.length, .bool true]) [0, 2] (by decide) (by decide) (by decide) ⟨⟨rfl, ints_below _ _⟩, ⟨rfl, ints_below _ _⟩, trivial⟩ rfl rfl ⟨rfl, rfl⟩
end Go.Proofs.Ytimnfechlomkpaa
