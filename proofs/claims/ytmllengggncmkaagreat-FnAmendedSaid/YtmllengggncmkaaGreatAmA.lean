/- Sorted lists made compact (out of other texts).  -/
import Derived.Test.YtmllengggncmkaaGreatQrK
import Derived.Test.YtmllengggncmkaaGreatAmT
import Derived.Test.YtmllengggncmkaaGreatAbsM4
set_option maxRecDepth 10000
set_option maxHeartbeats 4000000
set_option linter.unusedSimpArgs false
set_option linter.unusedVariables false
namespace Go.Proofs.YtmllengggncmkaaGreat
open Go Go.Abs
def cmpI : List Int → List Int
  | a :: b :: l => if a = b then cmpI (b :: l) else a :: cmpI (b :: l)
  | l => l
theorem cmpI_snoc : ∀ (l : List Int) (a b : Int), cmpI (l ++ [a, b]) = if a = b then cmpI (l ++ [a]) else cmpI (l ++ [a]) ++ [b]
  | [], a, b => by
    show cmpI [a, b] = if a = b then [a] else [a] ++ [b]
    unfold cmpI
    by_cases h : a = b
    · rw [if_pos h, if_pos h, h]; rfl
    · rw [if_neg h, if_neg h]; rfl
  | [x], a, b => by
    have ih := cmpI_snoc [] a b
    show cmpI (x :: a :: [b]) = if a = b then cmpI (x :: a :: []) else cmpI (x :: a :: []) ++ [b]
    have e1 : cmpI (x :: a :: [b]) = if x = a then cmpI (a :: [b]) else x :: cmpI (a :: [b]) := rfl
    have e2 : cmpI (x :: a :: []) = if x = a then cmpI [a] else x :: cmpI [a] := rfl
    have ih' : cmpI (a :: [b]) = if a = b then cmpI [a] else cmpI [a] ++ [b] := ih
    rw [e1, e2, ih']
    split <;> split <;> simp_all
  | x :: y :: l, a, b => by
    have ih := cmpI_snoc (y :: l) a b
    have e1 : ∀ t, cmpI (x :: y :: t) = if x = y then cmpI (y :: t) else x :: cmpI (y :: t) := fun _ => rfl
    simp only [List.cons_append] at ih ⊢
    rw [e1, e1, ih]
    split <;> split <;> simp_all
theorem cmpI_diff : ∀ (l : List Int), (∀ j, 0 < j → j < l.length → l.getD j 0 ≠ l.getD (j - 1) 0) → cmpI l = l
  | [], _ => rfl
  | [_], _ => rfl
  | a :: b :: l, h => by
    have h1 := h 1 (by omega) (by simp)
    have ih := cmpI_diff (b :: l) (fun j h0 hj => by
      have := h (j + 1) (by omega) (by simpa using hj)
      obtain ⟨j, rfl⟩ : ∃ i, j = i + 1 := ⟨j - 1, by omega⟩
      simpa using this)
    unfold cmpI
    rw [if_neg (by simpa using fun e : a = b => h1 (by simp [e])), ih]
theorem take_one (l : List Int) (m : Nat) (h : m < l.length) : l.take (m + 1) = l.take m ++ [l.getD m 0] := by
  rw [List.take_add_one, List.getElem?_eq_getElem h, getD_at l 0 m h]; rfl
theorem take_two (l : List Int) (m : Nat) (h : m + 1 < l.length) : l.take (m + 2) = l.take m ++ [l.getD m 0, l.getD (m + 1) 0] := by
  rw [show m + 2 = (m + 1) + 1 from rfl, take_one l (m + 1) h, take_one l m (by omega), List.append_assoc]; rfl
theorem cmpI_next (l : List Int) (m : Nat) (h : m + 1 < l.length) : cmpI (l.take (m + 2)) = if l.getD m 0 = l.getD (m + 1) 0 then cmpI (l.take (m + 1)) else cmpI (l.take (m + 1)) ++ [l.getD (m + 1) 0] := by
  rw [take_two l m h, cmpI_snoc, take_one l m (by omega)]
structure Cmp (zs es : List Int) (k m : Nat) : Prop where
  len : es.length = zs.length
  km : k ≤ m
  top : m < zs.length
  done : es.take k = cmpI (zs.take (m + 1))
  rest : ∀ j, m ≤ j → es.getD j 0 = zs.getD j 0
theorem Cmp.skip {zs es : List Int} {k m : Nat} (C : Cmp zs es k m) (h : m + 1 < zs.length) (e : zs.getD (m + 1) 0 = zs.getD m 0) : Cmp zs es k (m + 1) :=
  ⟨C.len, Nat.le_succ_of_le C.km, h, by rw [cmpI_next zs m h, if_pos e.symm]; exact C.done, fun j hj => C.rest j (by omega)⟩
theorem Cmp.put {zs es : List Int} {k m : Nat} (C : Cmp zs es k m) (h : m + 1 < zs.length) (e : zs.getD (m + 1) 0 ≠ zs.getD m 0) : Cmp zs (es.set k (zs.getD (m + 1) 0)) (k + 1) (m + 1) := by
  have hl := C.len
  have hk := C.km
  refine ⟨by simp [hl], by omega, h, ?_, fun j hj => ?_⟩
  · rw [cmpI_next zs m h, if_neg (fun x => e x.symm), ← C.done, List.take_add_one, List.getElem?_set_self (by omega), List.take_set_of_le (Nat.le_refl k)]
    rfl
  · rw [show (es.set k (zs.getD (m + 1) 0)).getD j 0 = es.getD j 0 from by simp only [List.getD_eq_getElem?_getD]; rw [List.getElem?_set_ne (by omega)]]
    exact C.rest j (by omega)
theorem compact_call (zs : List Int) (hm : zs.length ≤ 1048576) : CallA Tryz.prog 48 [.sl 0 0 zs.length] [intB zs] (Ret (.sl 0 0 (cmpI zs).length) [intB (cmpI zs)]) := by
  refine CallP.out (t := .mk) (go_in (md := md48) mixed Tryz.func48 rfl go48 (by kernel_rfl) ?_)
  simp only [q0, q1, q2, q3, q4, q5, q6, q7, q8, q9, zr0, zr1, zr2, zr3, zq0, zq1, zq2, zq3, zq4, Nat.reduceAdd, Nat.reduceSub, lenA, convA, indexA, indexS, sliceA, Int.reduceToNat, cond_true, cond_false, ↓reduceIte, reduceCtorEq, Nat.reduceLT, Nat.reduceLeDiff, Nat.reduceMul, Nat.reduceEqDiff, exists_eq', implies_true, exists_true_left, tys0, tys1, tys2, tys3, tys4, und0, und1, und2, und3, md48, Tryz.ntmps48, Tryz.results48]
  refine br_intro (fun h0 => ?_) (fun h0 => ?_) <;> simp only [q0, q1, q2, q3, q4, q5, q6, q7, q8, q9, zr0, zr1, zr2, zr3, zq0, zq1, zq2, zq3, zq4, Nat.reduceAdd, Nat.reduceSub, lenA, convA, indexA, indexS, sliceA, Int.reduceToNat, cond_true, cond_false, ↓reduceIte, reduceCtorEq, Nat.reduceLT, Nat.reduceLeDiff, Nat.reduceMul, Nat.reduceEqDiff, exists_eq', implies_true, exists_true_left, tys0, tys1, tys2, tys3, tys4, und0, und1, und2, und3, md48, Tryz.ntmps48, Tryz.results48]
  · have h1 := of_decide_eq_true h0
    have e : cmpI zs = zs := by
      match zs, h1 with
      | [], _ => rfl
      | [_], _ => rfl
      | _ :: _ :: _, h1 => simp at h1; omega
    rw [e]
    exact PostR.ret
  have h1 := of_decide_eq_false h0
  refine go_round (md := md48) mixed (by kernel_rfl) (fun k : {k : Nat // 1 ≤ k ∧ k ≤ zs.length ∧ ∀ j, 0 < j → j < k → zs.getD j 0 ≠ zs.getD (j - 1) 0} => ⟨[.sl 0 0 zs.length, .any, .any, .int .i64 k.1, .any, .any, .any, .any, .any, .any, .any, .any, .any, .any, .any, .any, .any, .any, .any, .any, .any, .any, .any, .any, .any, .any, .any, .any, .any, .any, .any, .any, .any, .any, .any, .any, .any, .any, .any, .any, .any, .any, .any, .any, .any, .any, .any, .any, .any, .any, .any, .any, .any, .any, .any, .any, .any, .any, .any, .any, .any], [intB zs]⟩) (fun k => zs.length - k.1) ⟨1, by omega, by omega, fun j a b => by omega⟩ ?_ ?_
  · exact weak_drop (by simp) (by simp [DropHp, ints_below, flts_below, intB, allBelow_cons, allBelow_nil, below, belowM, belowL]) (by simp [DropTm, DropV, below, belowM, belowL, intB, allBelow_cons, allBelow_nil, below, belowM, belowL])
  · intro ⟨k, k1, k2, k3⟩
    have ek : IntKind.i64.wrap ((k : Int) - 1) = ((k - 1 : Nat) : Int) := by rw [w64 (by omega) (by omega)]; omega
    simp only [q0, q1, q2, q3, q4, q5, q6, q7, q8, q9, zr0, zr1, zr2, zr3, zq0, zq1, zq2, zq3, zq4, Nat.reduceAdd, Nat.reduceSub, lenA, convA, indexA, indexS, sliceA, Int.reduceToNat, cond_true, cond_false, ↓reduceIte, reduceCtorEq, Nat.reduceLT, Nat.reduceLeDiff, Nat.reduceMul, Nat.reduceEqDiff, exists_eq', implies_true, exists_true_left, tys0, tys1, tys2, tys3, tys4, und0, und1, und2, und3, md48, Tryz.ntmps48, Tryz.results48, intB, ek]
    refine br_intro (fun h2 => ?_) (fun h2 => ?_) <;> simp only [q0, q1, q2, q3, q4, q5, q6, q7, q8, q9, zr0, zr1, zr2, zr3, zq0, zq1, zq2, zq3, zq4, Nat.reduceAdd, Nat.reduceSub, lenA, convA, indexA, indexS, sliceA, Int.reduceToNat, cond_true, cond_false, ↓reduceIte, reduceCtorEq, Nat.reduceLT, Nat.reduceLeDiff, Nat.reduceMul, Nat.reduceEqDiff, exists_eq', implies_true, exists_true_left, tys0, tys1, tys2, tys3, tys4, und0, und1, und2, und3, md48, Tryz.ntmps48, Tryz.results48, intB, ek]
    rotate_left
    · have hk : k = zs.length := by have := of_decide_eq_false h2; omega
      subst hk
      rw [cmpI_diff zs k3]
      exact PostR.ret
    have hk : k < zs.length := by have := of_decide_eq_true h2; omega
    refine ⟨by omega, hk, by omega, by omega, ?_⟩
    have g1 := getD_at zs 0 k hk
    have g0 := getD_at zs 0 (k - 1) (by omega)
    refine br_intro (fun h3 => ?_) (fun h3 => ?_) <;> simp only [q0, q1, q2, q3, q4, q5, q6, q7, q8, q9, zr0, zr1, zr2, zr3, zq0, zq1, zq2, zq3, zq4, Nat.reduceAdd, Nat.reduceSub, lenA, convA, indexA, indexS, sliceA, Int.reduceToNat, cond_true, cond_false, ↓reduceIte, reduceCtorEq, Nat.reduceLT, Nat.reduceLeDiff, Nat.reduceMul, Nat.reduceEqDiff, exists_eq', implies_true, exists_true_left, tys0, tys1, tys2, tys3, tys4, und0, und1, und2, und3, md48, Tryz.ntmps48, Tryz.results48, intB, ek]
    rotate_left
    · have hne := ne_of_beq_false h3
      refine ⟨⟨k + 1, by omega, by omega, fun j a b => ?_⟩, by show zs.length - (k + 1) < zs.length - k; omega, ?_⟩
      · by_cases e : j < k
        · exact k3 j a e
        · have : j = k := by omega
          subst this
          rw [g1, g0]; exact hne
      · exact weak_drop (by simp) (by simp [DropHp, ints_below, flts_below, w64_succ k (by omega), intB, allBelow_cons, allBelow_nil, below, belowM, belowL]) (by simp [DropTm, DropV, below, belowM, belowL, w64_succ k (by omega), intB, allBelow_cons, allBelow_nil, below, belowM, belowL])
    have heq := eq_of_beq h3
    have C0 : Cmp zs zs k k := by
      refine ⟨rfl, Nat.le_refl _, hk, ?_, fun j _ => rfl⟩
      have h := cmpI_next zs (k - 1) (by omega)
      rw [show k - 1 + 2 = k + 1 by omega, show k - 1 + 1 = k by omega, if_pos (by rw [g1, g0, heq])] at h
      rw [h, cmpI_diff _ (fun j a b => ?_)]
      have hj : j < k := by simp at b; omega
      have e : ∀ i, i < k → (zs.take k).getD i 0 = zs.getD i 0 := fun i hi => by simp only [List.getD_eq_getElem?_getD]; rw [List.getElem?_take_of_lt hi]
      rw [e j hj, e (j - 1) (by omega)]
      exact k3 j a hj
    refine ⟨by omega, Int.le_refl _, ?_⟩
    refine go_round (md := md48) mixed (by kernel_rfl) (fun p : {p : List Int × Nat × Nat // Cmp zs p.1 p.2.1 p.2.2 ∧ k ≤ p.2.1} => ⟨[.sl 0 0 zs.length, .any, .any, .int .i64 p.1.2.1, .sl 0 k (zs.length - k), .int .i64 ((p.1.2.2 + 1 - k : Nat) : Int), .any, .any, .any, .any, .any, .any, .any, .any, .any, .any, .any, .any, .any, .any, .any, .any, .any, .any, .any, .any, .any, .any, .any, .any, .any, .any, .any, .any, .any, .any, .any, .any, .any, .any, .any, .any, .any, .any, .any, .any, .any, .any, .any, .any, .any, .any, .any, .any, .any, .any, .any, .any, .any, .any, .any], [intB p.1.1]⟩) (fun p => zs.length - p.1.2.2) ⟨(zs, k, k), C0, Nat.le_refl _⟩ ?_ ?_
    · exact weak_drop (by simp) (by simp [DropHp, ints_below, flts_below, intB, allBelow_cons, allBelow_nil, below, belowM, belowL, show k + 1 - k = 1 by omega]) (by simp [DropTm, DropV, below, belowM, belowL, intB, allBelow_cons, allBelow_nil, below, belowM, belowL, show k + 1 - k = 1 by omega])
    · rintro ⟨⟨es, q, m⟩, C, hq⟩
      simp only [] at C hq
      have hl := C.len
      have hkm := C.km
      have htop := C.top
      have e2 : IntKind.i64.wrap (((m + 1 - k : Nat) : Int) - 1) = ((m - k : Nat) : Int) := by rw [w64 (by omega) (by omega)]; omega
      simp only [q0, q1, q2, q3, q4, q5, q6, q7, q8, q9, zr0, zr1, zr2, zr3, zq0, zq1, zq2, zq3, zq4, Nat.reduceAdd, Nat.reduceSub, lenA, convA, indexA, indexS, sliceA, Int.reduceToNat, cond_true, cond_false, ↓reduceIte, reduceCtorEq, Nat.reduceLT, Nat.reduceLeDiff, Nat.reduceMul, Nat.reduceEqDiff, exists_eq', implies_true, exists_true_left, tys0, tys1, tys2, tys3, tys4, und0, und1, und2, und3, md48, Tryz.ntmps48, Tryz.results48, intB, e2]
      refine br_intro (fun i1 => ?_) (fun i1 => ?_) <;> simp only [q0, q1, q2, q3, q4, q5, q6, q7, q8, q9, zr0, zr1, zr2, zr3, zq0, zq1, zq2, zq3, zq4, Nat.reduceAdd, Nat.reduceSub, lenA, convA, indexA, indexS, sliceA, Int.reduceToNat, cond_true, cond_false, ↓reduceIte, reduceCtorEq, Nat.reduceLT, Nat.reduceLeDiff, Nat.reduceMul, Nat.reduceEqDiff, exists_eq', implies_true, exists_true_left, tys0, tys1, tys2, tys3, tys4, und0, und1, und2, und3, md48, Tryz.ntmps48, Tryz.results48, intB, e2]
      · have i1' := of_decide_eq_true i1
        have hm1 : m + 1 < zs.length := by omega
        refine ⟨by omega, by omega, by omega, by omega, ?_⟩
        have ga : es[k + (m + 1 - k)]'(by omega) = zs.getD (m + 1) 0 := by
          rw [← C.rest (m + 1) (by omega), getD_at es 0 (m + 1) (by omega)]
          congr 1; omega
        have gb : es[k + (m - k)]'(by omega) = zs.getD m 0 := by
          rw [← C.rest m (Nat.le_refl _), getD_at es 0 m (by omega)]
          congr 1; omega
        have e3 : IntKind.i64.wrap (((m + 1 - k : Nat) : Int) + 1) = ((m + 1 + 1 - k : Nat) : Int) := by rw [w64 (by omega) (by omega)]; omega
        rw [ga, gb]
        refine br_intro (fun c => ?_) (fun c => ?_) <;> simp only [q0, q1, q2, q3, q4, q5, q6, q7, q8, q9, zr0, zr1, zr2, zr3, zq0, zq1, zq2, zq3, zq4, Nat.reduceAdd, Nat.reduceSub, lenA, convA, indexA, indexS, sliceA, Int.reduceToNat, cond_true, cond_false, ↓reduceIte, reduceCtorEq, Nat.reduceLT, Nat.reduceLeDiff, Nat.reduceMul, Nat.reduceEqDiff, exists_eq', implies_true, exists_true_left, tys0, tys1, tys2, tys3, tys4, und0, und1, und2, und3, md48, Tryz.ntmps48, Tryz.results48, intB, e2, e3]
        · have hne : zs.getD (m + 1) 0 ≠ zs.getD m 0 := by simpa using c
          refine ⟨by omega, by omega, by omega, by omega, ?_⟩
          rw [ga]
          refine ⟨⟨⟨es.set q (zs.getD (m + 1) 0), q + 1, m + 1⟩, C.put hm1 hne, by show k ≤ q + 1; omega⟩, by show zs.length - (m + 1) < zs.length - m; omega, ?_⟩
          exact weak_drop (by simp) (by simp [DropHp, ints_below, flts_below, w64_succ q (by omega), ints_set, e3, intB, allBelow_cons, allBelow_nil, below, belowM, belowL]) (by simp [DropTm, DropV, below, belowM, belowL, w64_succ q (by omega), ints_set, e3, intB, allBelow_cons, allBelow_nil, below, belowM, belowL])
        · have heq2 : zs.getD (m + 1) 0 = zs.getD m 0 := by simpa using c
          refine ⟨⟨⟨es, q, m + 1⟩, C.skip hm1 heq2, hq⟩, by show zs.length - (m + 1) < zs.length - m; omega, ?_⟩
          exact weak_drop (by simp) (by simp [DropHp, ints_below, flts_below, e3, intB, allBelow_cons, allBelow_nil, below, belowM, belowL]) (by simp [DropTm, DropV, below, belowM, belowL, e3, intB, allBelow_cons, allBelow_nil, below, belowM, belowL])
      · have i1' := of_decide_eq_false i1
        have hm1 : m + 1 = zs.length := by omega
        refine ⟨by omega, Int.le_refl _, ?_⟩
        simp only [q0, q1, q2, q3, q4, q5, q6, q7, q8, q9, zr0, zr1, zr2, zr3, zq0, zq1, zq2, zq3, zq4, Nat.reduceAdd, Nat.reduceSub, lenA, convA, indexA, indexS, sliceA, Int.reduceToNat, cond_true, cond_false, ↓reduceIte, reduceCtorEq, Nat.reduceLT, Nat.reduceLeDiff, Nat.reduceMul, Nat.reduceEqDiff, exists_eq', implies_true, exists_true_left, tys0, tys1, tys2, tys3, tys4, und0, und1, und2, und3, md48, Tryz.ntmps48, Tryz.results48, clearA]
        refine ⟨by omega, by omega, by omega, by omega, ?_⟩
        have e4 : es.take q = cmpI zs := by rw [C.done, hm1, List.take_length]
        have e5 : q = (cmpI zs).length := by rw [← e4, List.length_take]; omega
        refine PostR.cut 0 q rfl (by show (0 : Nat) < 1; decide) ?_
        have e6 : (List.take q (ints es) ++ List.replicate (zs.length - q) (AV.int IntKind.i64 0) ++ List.drop (q + (zs.length - q)) (ints es)).take q = ints (cmpI zs) := by
          rw [List.append_assoc, List.take_append_of_le_length (by rw [ints_take, ints_len, List.length_take]; omega), ints_take, ints_take, e4, List.take_of_length_le (by omega)]
        show PostR 1 _ [{ ty := 2, w := 1, els := (List.take q (ints es) ++ List.replicate (zs.length - q) (AV.int IntKind.i64 0) ++ List.drop (q + (zs.length - q)) (ints es)).take q }] _
        rw [e6, Nat.sub_zero, ← e5]
        rw [e5]
        exact PostR.ret
theorem sortI_call (xs : List Int) (h : xs.length ≤ 1048576) (e : TypeId) : CallA Tryz.prog 47 [.sl 0 0 xs.length] [{ ty := e, w := 1, els := ints xs }] (Ret (.tup []) [{ ty := e, w := 1, els := ints (sortI xs) }]) :=
  sort_call go47 fun blk off cap w hH hb => slices_Sort_int blk off cap xs w hH hb (by omega)
theorem active0_call (R : List Rul) (hR : Rls R) (rb : rulesB R = true) (day : Int) (hd : inR 0 100000 day = true) : CallA Tryz.prog 36 [.ro (R.map rulA), .int .i64 day] [] (Ret (.tup [.sl 0 0 (idxD R day R.length).length, .bool true]) [intB (idxD R day R.length)]) := by
  have hl := hR.len
  have c1 := areRules_call R (by omega) (fun r h => by have := (hR.ok r h).2.1.1; omega)
  rw [rb] at c1
  have c3 := isDate_call day
  rw [hd] at c3
  refine CallP.out (t := .mk) (go_in (md := md36) mixed Tryz.func36 rfl go36 (by kernel_rfl) ?_)
  simp only [q0, q1, q2, q3, q4, q5, q6, q7, q8, q9, zr0, zr1, zr2, zr3, zq0, zq1, zq2, zq3, zq4, Nat.reduceAdd, Nat.reduceSub, lenA, convA, indexA, indexS, sliceA, Int.reduceToNat, cond_true, cond_false, ↓reduceIte, reduceCtorEq, Nat.reduceLT, Nat.reduceLeDiff, Nat.reduceMul, Nat.reduceEqDiff, exists_eq', implies_true, exists_true_left, tys0, tys1, tys2, tys3, tys4, und0, und1, und2, und3, md36, Tryz.ntmps36, Tryz.results36]
  refine call_ret c1 rfl rfl ?_
  simp only [q0, q1, q2, q3, q4, q5, q6, q7, q8, q9, zr0, zr1, zr2, zr3, zq0, zq1, zq2, zq3, zq4, Nat.reduceAdd, Nat.reduceSub, lenA, convA, indexA, indexS, sliceA, Int.reduceToNat, cond_true, cond_false, ↓reduceIte, reduceCtorEq, Nat.reduceLT, Nat.reduceLeDiff, Nat.reduceMul, Nat.reduceEqDiff, exists_eq', implies_true, exists_true_left, tys0, tys1, tys2, tys3, tys4, und0, und1, und2, und3, md36, Tryz.ntmps36, Tryz.results36]
  refine call_ret c3 rfl rfl ?_
  simp only [q0, q1, q2, q3, q4, q5, q6, q7, q8, q9, zr0, zr1, zr2, zr3, zq0, zq1, zq2, zq3, zq4, Nat.reduceAdd, Nat.reduceSub, lenA, convA, indexA, indexS, sliceA, Int.reduceToNat, cond_true, cond_false, ↓reduceIte, reduceCtorEq, Nat.reduceLT, Nat.reduceLeDiff, Nat.reduceMul, Nat.reduceEqDiff, exists_eq', implies_true, exists_true_left, tys0, tys1, tys2, tys3, tys4, und0, und1, und2, und3, md36, Tryz.ntmps36, Tryz.results36]
  refine go_round (md := md36) mixed (by kernel_rfl) (fun k : {k : Nat // k ≤ R.length} => ⟨[.any, .int .i64 day, .any, .any, .any, .any, .sl 0 0 (idxD R day k.1).length, .any, .any, .any, .any, .any, .any, .any, .any, .any, .any, .any, .ro (R.map rulA), .int .i64 R.length, .int .i64 k.1, .any, .any, .any, .any, .any, .any, .any, .any, .any, .any, .any, .any, .any], [intB (idxD R day k.1)]⟩) (fun k => R.length - k.1) ⟨0, Nat.zero_le _⟩ ?_ ?_
  · exact weak_drop (by simp) (by simp [DropHp, ints_below, flts_below, intB, allBelow_cons, allBelow_nil, below, belowM, belowL, show idxD R day 0 = [] from rfl, show ints [] = [] from rfl]) (by simp [DropTm, DropV, below, belowM, belowL, intB, allBelow_cons, allBelow_nil, below, belowM, belowL, show idxD R day 0 = [] from rfl, show ints [] = [] from rfl])
  rintro ⟨k, hk⟩
  have hln := idxD_len R day k hk
  have hl2 : ((R.take k).filter (onB day)).length ≤ k := Nat.le_trans (List.length_filter_le _ _) (by rw [List.length_take]; omega)
  simp only [q0, q1, q2, q3, q4, q5, q6, q7, q8, q9, zr0, zr1, zr2, zr3, zq0, zq1, zq2, zq3, zq4, Nat.reduceAdd, Nat.reduceSub, lenA, convA, indexA, indexS, sliceA, Int.reduceToNat, cond_true, cond_false, ↓reduceIte, reduceCtorEq, Nat.reduceLT, Nat.reduceLeDiff, Nat.reduceMul, Nat.reduceEqDiff, exists_eq', implies_true, exists_true_left, tys0, tys1, tys2, tys3, tys4, und0, und1, und2, und3, md36, Tryz.ntmps36, Tryz.results36, intB, List.length_map]
  refine br_intro (fun h => ?_) (fun h => ?_) <;> simp only [q0, q1, q2, q3, q4, q5, q6, q7, q8, q9, zr0, zr1, zr2, zr3, zq0, zq1, zq2, zq3, zq4, Nat.reduceAdd, Nat.reduceSub, lenA, convA, indexA, indexS, sliceA, Int.reduceToNat, cond_true, cond_false, ↓reduceIte, reduceCtorEq, Nat.reduceLT, Nat.reduceLeDiff, Nat.reduceMul, Nat.reduceEqDiff, exists_eq', implies_true, exists_true_left, tys0, tys1, tys2, tys3, tys4, und0, und1, und2, und3, md36, Tryz.ntmps36, Tryz.results36, intB, List.length_map]
  · have hk' : k < R.length := by simpa using h
    have e1 := idxD_succ R day k hk'
    refine ⟨hk', ?_⟩
    simp only [q0, q1, q2, q3, q4, q5, q6, q7, q8, q9, zr0, zr1, zr2, zr3, zq0, zq1, zq2, zq3, zq4, Nat.reduceAdd, Nat.reduceSub, lenA, convA, indexA, indexS, sliceA, Int.reduceToNat, cond_true, cond_false, ↓reduceIte, reduceCtorEq, Nat.reduceLT, Nat.reduceLeDiff, Nat.reduceMul, Nat.reduceEqDiff, exists_eq', implies_true, exists_true_left, tys0, tys1, tys2, tys3, tys4, und0, und1, und2, und3, md36, Tryz.ntmps36, Tryz.results36, List.getElem_map, rulA, intB]
    refine call_ret (isActive_call R[k] day) (by rfl) rfl ?_
    simp only [q0, q1, q2, q3, q4, q5, q6, q7, q8, q9, zr0, zr1, zr2, zr3, zq0, zq1, zq2, zq3, zq4, Nat.reduceAdd, Nat.reduceSub, lenA, convA, indexA, indexS, sliceA, Int.reduceToNat, cond_true, cond_false, ↓reduceIte, reduceCtorEq, Nat.reduceLT, Nat.reduceLeDiff, Nat.reduceMul, Nat.reduceEqDiff, exists_eq', implies_true, exists_true_left, tys0, tys1, tys2, tys3, tys4, und0, und1, und2, und3, md36, Tryz.ntmps36, Tryz.results36, List.getElem_map, rulA, intB, allW_int, fits, List.isEmpty_cons, brk_false, Nat.reduceMul]
    refine br_intro (fun b => ?_) (fun b => ?_) <;> simp only [q0, q1, q2, q3, q4, q5, q6, q7, q8, q9, zr0, zr1, zr2, zr3, zq0, zq1, zq2, zq3, zq4, Nat.reduceAdd, Nat.reduceSub, lenA, convA, indexA, indexS, sliceA, Int.reduceToNat, cond_true, cond_false, ↓reduceIte, reduceCtorEq, Nat.reduceLT, Nat.reduceLeDiff, Nat.reduceMul, Nat.reduceEqDiff, exists_eq', implies_true, exists_true_left, tys0, tys1, tys2, tys3, tys4, und0, und1, und2, und3, md36, Tryz.ntmps36, Tryz.results36, List.getElem_map, rulA, intB, allW_int, fits, List.isEmpty_cons, brk_false, Nat.reduceMul]
    · rw [b, if_pos rfl] at e1
      have el : (idxD R day k).length + 1 = (idxD R day (k + 1)).length := by rw [e1]; simp
      refine ⟨by omega, ⟨k + 1, by omega⟩, by show R.length - (k + 1) < _; omega, ?_⟩
      dsimp only
      rw [el, ← e1]
      exact weak_drop (by simp) (by simp [DropHp, ints_below, flts_below, w64_succ k (by omega), intB, allBelow_cons, allBelow_nil, below, belowM, belowL]) (by simp [DropTm, DropV, below, belowM, belowL, w64_succ k (by omega), intB, allBelow_cons, allBelow_nil, below, belowM, belowL])
    · rw [b, if_neg (by decide), List.append_nil] at e1
      refine ⟨⟨k + 1, by omega⟩, by show R.length - (k + 1) < _; omega, ?_⟩
      exact weak_drop (by simp) (by simp [DropHp, ints_below, flts_below, w64_succ k (by omega), intB, allBelow_cons, allBelow_nil, below, belowM, belowL, e1]) (by simp [DropTm, DropV, below, belowM, belowL, w64_succ k (by omega), intB, allBelow_cons, allBelow_nil, below, belowM, belowL, e1])
  · have hk' : k = R.length := by simp at h; omega
    subst hk'
    exact PostR.ret
theorem active_call (R : List Rul) (hR : Rls R) (rb : rulesB R = true) (day : Int) (hd : inR 0 100000 day = true) : CallA Tryz.prog 36 [.ro (R.map rulA), .int .i64 day] [] (Ret (.tup [.ro (ints (idxD R day R.length)), .bool true]) []) :=
  (active0_call R hR rb day hd).frozen 3 (by
    show AV.tup [view 2 _ _, view 2 _ _] = _
    rw [view_intB]
    rfl)
theorem areWords16_call (xs : List Int) (hm : xs.length ≤ 1048576) : CallA Tryz.prog 51 [.ro (ints xs), .int .i64 16] [] (Ret (.bool (wordsB xs && decide (xs.length ≤ 16))) []) := by
  refine CallP.out (t := .mk) (go_in (md := md51) mixed Tryz.func51 rfl go51 (by kernel_rfl) ?_)
  simp only [q0, q1, q2, q3, q4, q5, q6, q7, q8, q9, zr0, zr1, zr2, zr3, zq0, zq1, zq2, zq3, zq4, Nat.reduceAdd, Nat.reduceSub, lenA, convA, indexA, indexS, sliceA, Int.reduceToNat, cond_true, cond_false, ↓reduceIte, reduceCtorEq, Nat.reduceLT, Nat.reduceLeDiff, Nat.reduceMul, Nat.reduceEqDiff, exists_eq', implies_true, exists_true_left, tys0, tys1, tys2, tys3, tys4, und0, und1, und2, und3, md51, Tryz.ntmps51, Tryz.results51]
  refine go_round (md := md51) mixed (by kernel_rfl) (fun i : {i : Nat // i ≤ xs.length ∧ pref (wordP xs) i = true} => ⟨[.ro (ints xs), .int .i64 16, .any, .any, .any, .any, .any, .ro (ints xs), .int .i64 xs.length, .int .i64 i.1, .any, .any, .any, .any, .any, .any, .any, .any, .any, .any, .any, .any, .any, .any, .any, .any, .any, .any, .any, .any, .any, .any, .any, .any, .any, .any, .any], []⟩) (fun i => xs.length - i.1) ⟨0, by omega, rfl⟩ ?_ ?_
  · exact weak_drop (by simp) (by simp [DropHp, ints_below, flts_below]) (by simp [DropTm, DropV, below, belowM, belowL])
  rintro ⟨i, hi, hp⟩
  simp only [q0, q1, q2, q3, q4, q5, q6, q7, q8, q9, zr0, zr1, zr2, zr3, zq0, zq1, zq2, zq3, zq4, Nat.reduceAdd, Nat.reduceSub, lenA, convA, indexA, indexS, sliceA, Int.reduceToNat, cond_true, cond_false, ↓reduceIte, reduceCtorEq, Nat.reduceLT, Nat.reduceLeDiff, Nat.reduceMul, Nat.reduceEqDiff, exists_eq', implies_true, exists_true_left, tys0, tys1, tys2, tys3, tys4, und0, und1, und2, und3, md51, Tryz.ntmps51, Tryz.results51]
  refine br_intro (fun h => ?_) (fun h => ?_) <;> simp only [q0, q1, q2, q3, q4, q5, q6, q7, q8, q9, zr0, zr1, zr2, zr3, zq0, zq1, zq2, zq3, zq4, Nat.reduceAdd, Nat.reduceSub, lenA, convA, indexA, indexS, sliceA, Int.reduceToNat, cond_true, cond_false, ↓reduceIte, reduceCtorEq, Nat.reduceLT, Nat.reduceLeDiff, Nat.reduceMul, Nat.reduceEqDiff, exists_eq', implies_true, exists_true_left, tys0, tys1, tys2, tys3, tys4, und0, und1, und2, und3, md51, Tryz.ntmps51, Tryz.results51]
  · have hi' : i < xs.length := by have := of_decide_eq_true h; omega
    have hI : (i : Int) < (xs.length : Int) := by omega
    have ga := getD_at xs 0 i hi'
    have ew : IntKind.i64.wrap ((i : Int) + 1) = (i : Int) + 1 := w64 (by omega) (by omega)
    simp only [q0, q1, q2, q3, q4, q5, q6, q7, q8, q9, zr0, zr1, zr2, zr3, zq0, zq1, zq2, zq3, zq4, Nat.reduceAdd, Nat.reduceSub, lenA, convA, indexA, indexS, sliceA, Int.reduceToNat, cond_true, cond_false, ↓reduceIte, reduceCtorEq, Nat.reduceLT, Nat.reduceLeDiff, Nat.reduceMul, Nat.reduceEqDiff, exists_eq', implies_true, exists_true_left, tys0, tys1, tys2, tys3, tys4, und0, und1, und2, und3, md51, Tryz.ntmps51, Tryz.results51, hi', hI]
    refine call_ret (isWord_call _) rfl rfl ?_
    simp only [q0, q1, q2, q3, q4, q5, q6, q7, q8, q9, zr0, zr1, zr2, zr3, zq0, zq1, zq2, zq3, zq4, Nat.reduceAdd, Nat.reduceSub, lenA, convA, indexA, indexS, sliceA, Int.reduceToNat, cond_true, cond_false, ↓reduceIte, reduceCtorEq, Nat.reduceLT, Nat.reduceLeDiff, Nat.reduceMul, Nat.reduceEqDiff, exists_eq', implies_true, exists_true_left, tys0, tys1, tys2, tys3, tys4, und0, und1, und2, und3, md51, Tryz.ntmps51, Tryz.results51]
    refine br_intro (fun u => ?_) (fun u => ?_) <;> simp only [q0, q1, q2, q3, q4, q5, q6, q7, q8, q9, zr0, zr1, zr2, zr3, zq0, zq1, zq2, zq3, zq4, Nat.reduceAdd, Nat.reduceSub, lenA, convA, indexA, indexS, sliceA, Int.reduceToNat, cond_true, cond_false, ↓reduceIte, reduceCtorEq, Nat.reduceLT, Nat.reduceLeDiff, Nat.reduceMul, Nat.reduceEqDiff, exists_eq', implies_true, exists_true_left, tys0, tys1, tys2, tys3, tys4, und0, und1, und2, und3, md51, Tryz.ntmps51, Tryz.results51]
    · have lw := wordB_low u
      cases i with
      | zero =>
        refine br_no (by first | exact decide_eq_false (by omega) | exact beq_false_of_ne (by omega) | (simp only [bne_eq_false_iff_eq, beq_eq_false_iff_ne, ne_eq]; omega)) ?_; simp only [q0, q1, q2, q3, q4, q5, q6, q7, q8, q9, zr0, zr1, zr2, zr3, zq0, zq1, zq2, zq3, zq4, Nat.reduceAdd, Nat.reduceSub, lenA, convA, indexA, indexS, sliceA, Int.reduceToNat, cond_true, cond_false, ↓reduceIte, reduceCtorEq, Nat.reduceLT, Nat.reduceLeDiff, Nat.reduceMul, Nat.reduceEqDiff, exists_eq', implies_true, exists_true_left, tys0, tys1, tys2, tys3, tys4, und0, und1, und2, und3, md51, Tryz.ntmps51, Tryz.results51]
        refine ⟨⟨1, by omega, pref_go hp (by unfold wordP; rw [ga, u]; rfl)⟩, by show xs.length - 1 < _; omega, ?_⟩
        exact weak_drop (by simp) (by simp [DropHp, ints_below, flts_below, (show IntKind.i64.wrap 1 = 1 from by decide)]) (by simp [DropTm, DropV, below, belowM, belowL, (show IntKind.i64.wrap 1 = 1 from by decide)])
      | succ k =>
        have hk : k < xs.length := by omega
        have hkI : (k : Int) < (xs.length : Int) := by omega
        have gb := getD_at xs 0 k hk
        have pk := pref_at hp k (by omega)
        have wk : wordB xs[k] = true := by unfold wordP at pk; rw [gb, Bool.and_eq_true] at pk; exact pk.1
        have lk := wordB_low wk
        have e1 : IntKind.i64.wrap (((k + 1 : Nat) : Int) - 1) = (k : Int) := by rw [w64 (by omega) (by omega)]; omega
        refine br_yes (by first | exact decide_eq_true (by omega) | (simp only [bne_iff_ne, beq_iff_eq, ne_eq]; omega)) ?_; simp only [q0, q1, q2, q3, q4, q5, q6, q7, q8, q9, zr0, zr1, zr2, zr3, zq0, zq1, zq2, zq3, zq4, Nat.reduceAdd, Nat.reduceSub, lenA, convA, indexA, indexS, sliceA, Int.reduceToNat, cond_true, cond_false, ↓reduceIte, reduceCtorEq, Nat.reduceLT, Nat.reduceLeDiff, Nat.reduceMul, Nat.reduceEqDiff, exists_eq', implies_true, exists_true_left, tys0, tys1, tys2, tys3, tys4, und0, und1, und2, und3, md51, Tryz.ntmps51, Tryz.results51, e1, hk, hkI]
        refine call_ret (atom_call _ lk) rfl rfl ?_
        simp only [q0, q1, q2, q3, q4, q5, q6, q7, q8, q9, zr0, zr1, zr2, zr3, zq0, zq1, zq2, zq3, zq4, Nat.reduceAdd, Nat.reduceSub, lenA, convA, indexA, indexS, sliceA, Int.reduceToNat, cond_true, cond_false, ↓reduceIte, reduceCtorEq, Nat.reduceLT, Nat.reduceLeDiff, Nat.reduceMul, Nat.reduceEqDiff, exists_eq', implies_true, exists_true_left, tys0, tys1, tys2, tys3, tys4, und0, und1, und2, und3, md51, Tryz.ntmps51, Tryz.results51]
        refine call_ret (atom_call _ lw) rfl rfl ?_
        simp only [q0, q1, q2, q3, q4, q5, q6, q7, q8, q9, zr0, zr1, zr2, zr3, zq0, zq1, zq2, zq3, zq4, Nat.reduceAdd, Nat.reduceSub, lenA, convA, indexA, indexS, sliceA, Int.reduceToNat, cond_true, cond_false, ↓reduceIte, reduceCtorEq, Nat.reduceLT, Nat.reduceLeDiff, Nat.reduceMul, Nat.reduceEqDiff, exists_eq', implies_true, exists_true_left, tys0, tys1, tys2, tys3, tys4, und0, und1, und2, und3, md51, Tryz.ntmps51, Tryz.results51]
        refine br_intro (fun v => ?_) (fun v => ?_) <;> simp only [q0, q1, q2, q3, q4, q5, q6, q7, q8, q9, zr0, zr1, zr2, zr3, zq0, zq1, zq2, zq3, zq4, Nat.reduceAdd, Nat.reduceSub, lenA, convA, indexA, indexS, sliceA, Int.reduceToNat, cond_true, cond_false, ↓reduceIte, reduceCtorEq, Nat.reduceLT, Nat.reduceLeDiff, Nat.reduceMul, Nat.reduceEqDiff, exists_eq', implies_true, exists_true_left, tys0, tys1, tys2, tys3, tys4, und0, und1, und2, und3, md51, Tryz.ntmps51, Tryz.results51]
        · have v' := of_decide_eq_true v
          have : wordP xs (k + 1) = false := by unfold wordP; rw [ga, u, Nat.add_sub_cancel, gb, decide_eq_false (by omega)]; rfl
          exact PostR.pure ⟨by unfold wordsB; rw [pref_no (k + 1) hi' this]; rfl, rfl⟩ rfl
        · have v' := of_decide_eq_false v
          have : wordP xs (k + 1) = true := by unfold wordP; rw [ga, u, Nat.add_sub_cancel, gb, decide_eq_true (by omega)]; simp
          refine ⟨⟨k + 1 + 1, by omega, pref_go hp this⟩, by show xs.length - (k + 1 + 1) < _; omega, ?_⟩
          have ew2 : IntKind.i64.wrap ((k : Int) + 1 + 1) = (k : Int) + 1 + 1 := w64 (by omega) (by omega)
          exact weak_drop (by simp) (by simp [DropHp, ints_below, flts_below, ew2]) (by simp [DropTm, DropV, below, belowM, belowL, ew2])
    · exact PostR.pure ⟨by unfold wordsB; rw [pref_no i hi' (by unfold wordP; rw [ga, u]; rfl)]; rfl, rfl⟩ rfl
  · have hi' : i = xs.length := by have := of_decide_eq_false h; omega
    subst hi'
    exact PostR.pure ⟨by unfold wordsB; rw [hp, Bool.true_and]; congr 1; exact decide_eq_decide.2 (by omega), rfl⟩ rfl
structure Ask (R : List Rul) (fs : List Int) (day : Int) : Prop where
  hR : Rls R
  rb : rulesB R = true
  hf : Fcs fs
  wb : wordsB fs = true
  hd : inR 0 100000 day = true
theorem areFacts_call {R : List Rul} {fs : List Int} {day : Int} (A : Ask R fs day) : CallA Tryz.prog 26 [.ro (R.map rulA), .ro (ints fs), .int .i64 day] [] (Ret (.bool true) []) := by
  have hl := A.hR.len
  have hf := A.hf.len
  have c1 := areRules_call R (by omega) (fun r h => by have := (A.hR.ok r h).2.1.1; omega)
  rw [A.rb] at c1
  have c2 := areWords16_call fs (by omega)
  have c3 := isDate_call day
  rw [A.hd] at c3
  rw [A.wb, show decide (fs.length ≤ 16) = true by simpa using hf] at c2
  refine CallP.out (t := .mk) (go_in (md := md26) mixed Tryz.func26 rfl go26 (by kernel_rfl) ?_)
  simp only [q0, q1, q2, q3, q4, q5, q6, q7, q8, q9, zr0, zr1, zr2, zr3, zq0, zq1, zq2, zq3, zq4, Nat.reduceAdd, Nat.reduceSub, lenA, convA, indexA, indexS, sliceA, Int.reduceToNat, cond_true, cond_false, ↓reduceIte, reduceCtorEq, Nat.reduceLT, Nat.reduceLeDiff, Nat.reduceMul, Nat.reduceEqDiff, exists_eq', implies_true, exists_true_left, tys0, tys1, tys2, tys3, tys4, und0, und1, und2, und3, md26, Tryz.ntmps26, Tryz.results26]
  refine call_ret c1 rfl rfl ?_
  simp only [q0, q1, q2, q3, q4, q5, q6, q7, q8, q9, zr0, zr1, zr2, zr3, zq0, zq1, zq2, zq3, zq4, Nat.reduceAdd, Nat.reduceSub, lenA, convA, indexA, indexS, sliceA, Int.reduceToNat, cond_true, cond_false, ↓reduceIte, reduceCtorEq, Nat.reduceLT, Nat.reduceLeDiff, Nat.reduceMul, Nat.reduceEqDiff, exists_eq', implies_true, exists_true_left, tys0, tys1, tys2, tys3, tys4, und0, und1, und2, und3, md26, Tryz.ntmps26, Tryz.results26]
  refine call_ret c2 rfl rfl ?_
  simp only [q0, q1, q2, q3, q4, q5, q6, q7, q8, q9, zr0, zr1, zr2, zr3, zq0, zq1, zq2, zq3, zq4, Nat.reduceAdd, Nat.reduceSub, lenA, convA, indexA, indexS, sliceA, Int.reduceToNat, cond_true, cond_false, ↓reduceIte, reduceCtorEq, Nat.reduceLT, Nat.reduceLeDiff, Nat.reduceMul, Nat.reduceEqDiff, exists_eq', implies_true, exists_true_left, tys0, tys1, tys2, tys3, tys4, und0, und1, und2, und3, md26, Tryz.ntmps26, Tryz.results26]
  refine call_ret c3 rfl rfl ?_
  simp only [q0, q1, q2, q3, q4, q5, q6, q7, q8, q9, zr0, zr1, zr2, zr3, zq0, zq1, zq2, zq3, zq4, Nat.reduceAdd, Nat.reduceSub, lenA, convA, indexA, indexS, sliceA, Int.reduceToNat, cond_true, cond_false, ↓reduceIte, reduceCtorEq, Nat.reduceLT, Nat.reduceLeDiff, Nat.reduceMul, Nat.reduceEqDiff, exists_eq', implies_true, exists_true_left, tys0, tys1, tys2, tys3, tys4, und0, und1, und2, und3, md26, Tryz.ntmps26, Tryz.results26]
  exact PostR.ret
def rkR (R : List Rul) (i : Nat) : Rul := R.getD i (0, [], 0, 0, 0)
theorem rkR_at (R : List Rul) (i : Nat) (h : i < R.length) : rkR R i = R[i] := by simp [rkR, List.getD_eq_getElem?_getD, h]
theorem frzTm_drop {new : List Blk} {N : Nat} : ∀ {tm tm2 : List AV}, DropTm N tm tm2 → FrzTm new N tm tm2
  | [], [], _ => trivial
  | a :: l, b :: m, h => ⟨by
      rcases h.1 with e | ⟨e, hb⟩
      · exact .inl (.inl e)
      · exact .inl (.inr (.inl ⟨by rw [e]; exact hb, e.symm⟩)), frzTm_drop h.2⟩
  | [], _ :: _, h => h.elim
  | _ :: _, [], h => h.elim
theorem dropTm_more {N M : Nat} (hm : N ≤ M) : ∀ {tm tm2 : List AV}, DropTm N tm tm2 → DropTm M tm tm2
  | [], [], _ => trivial
  | a :: l, b :: m, h => ⟨by
      rcases h.1 with e | ⟨e, hb⟩
      · exact .inl e
      · exact .inr ⟨e, below_le hm b hb⟩, dropTm_more hm h.2⟩
  | [], _ :: _, h => h.elim
  | _ :: _, [], h => h.elim
theorem dropTm_self {N : Nat} : ∀ {tm tm2 : List AV}, DropTm N tm tm2 → DropTm N tm2 tm2
  | [], [], _ => trivial
  | a :: l, b :: m, h => ⟨by
      rcases h.1 with e | ⟨e, hb⟩
      · exact .inl e
      · exact .inr ⟨rfl, hb⟩, dropTm_self h.2⟩
  | [], _ :: _, h => h.elim
  | _ :: _, [], h => h.elim
theorem below_cells {N : Nat} {e : AV} (h : below N e = true) : ∀ c ∈ e.cells, below N c = true := by
  intro c hc
  cases e with
  | agg l =>
    have hl : ∀ x ∈ l, belowL N x = true := by simpa [below, belowM] using h
    have := hl c hc
    cases c <;> simp_all [belowL, below, belowM]
  | _ => simp only [AV.cells, List.mem_singleton] at hc; subst hc; exact h
theorem wordsB_at {xs : List Int} (h : wordsB xs = true) (j : Nat) (hj : j < xs.length) : wordB xs[j] = true ∧ (0 < j → ∀ h2 : j - 1 < xs.length, atomF xs[j - 1] < atomF xs[j]) := by
  unfold wordsB pref at h
  have := List.all_eq_true.1 h j (List.mem_range.2 hj)
  unfold wordP at this
  rw [Bool.and_eq_true, Bool.or_eq_true] at this
  have e : xs.getD j 0 = xs[j] := by simp [List.getD_eq_getElem?_getD, hj]
  rw [e] at this
  refine ⟨this.1, fun h0 h2 => ?_⟩
  have e2 : xs.getD (j - 1) 0 = xs[j - 1] := by simp [List.getD_eq_getElem?_getD, h2]
  rw [e2] at this
  rcases this.2 with h3 | h3
  · have := eq_of_beq h3; omega
  · exact of_decide_eq_true h3
theorem wordsB_lt {xs : List Int} (h : wordsB xs = true) (i : Nat) : ∀ j, (_ : i < j) → (hj : j < xs.length) → atomF (xs[i]'(by omega)) < atomF xs[j]
  | 0, h1, _ => by omega
  | j + 1, h1, hj => by
    have h2 := (wordsB_at h (j + 1) hj).2 (by omega) (by omega)
    simp only [Nat.add_sub_cancel] at h2
    by_cases e : i = j
    · subst e; exact h2
    · exact Int.lt_trans (wordsB_lt h i j (by omega) (by omega)) h2
theorem wordsB_all {xs : List Int} (h : wordsB xs = true) : ∀ w ∈ xs, wordB w = true := fun w hw => by
  obtain ⟨i, hi, rfl⟩ := List.mem_iff_getElem.1 hw
  exact (wordsB_at h i hi).1
theorem fcs_of {fs : List Int} (W : WfOk fs 7) : Fcs fs := by
  refine ⟨by have := W.len; omega, wordsB_all W.ok, fun w hw hn => ?_⟩
  obtain ⟨i, hi, rfl⟩ := List.mem_iff_getElem.1 hw
  obtain ⟨j, hj, e⟩ := List.mem_iff_getElem.1 hn
  have h0 := (wordsB_at W.ok i hi).1
  have hz : fs[i] ≠ 0 := by unfold wordB at h0; simp at h0; exact h0.1
  have ea : atomF fs[j] = atomF fs[i] := by rw [e]; unfold atomF; split <;> split <;> omega
  rcases Nat.lt_trichotomy i j with h | h | h
  · have := wordsB_lt W.ok i j h hj; omega
  · subst h; omega
  · have := wordsB_lt W.ok j i h hi; omega
theorem rls_of {L : List Rul} (h : ∀ q ∈ L, ruleB q = true) (h8 : L.length ≤ 8) : Rls L := by
  refine ⟨by omega, fun r hr => ?_⟩
  have := h r hr
  unfold ruleB at this
  simp only [Bool.and_eq_true, decide_eq_true_eq] at this
  obtain ⟨⟨⟨⟨⟨h1, h2, h3⟩, _⟩, _⟩, _⟩, h5⟩ := this
  unfold inR at h5
  simp only [Bool.and_eq_true, decide_eq_true_eq] at h5
  exact ⟨h1, ⟨h2, wordsB_all h3⟩, h5.1, h5.2⟩
theorem ask_of {L : List Rul} (h : ∀ q ∈ L, ruleB q = true) (h8 : L.length ≤ 8) {fs : List Int} (W : WfOk fs 7) {day : Int} (h0 : 0 ≤ day) (h1 : day < 14) : Ask L fs day := by
  refine ⟨rls_of h h8, ?_, fcs_of W, W.ok, ?_⟩
  · unfold rulesB
    rw [decide_eq_true (by omega), Bool.and_true, List.all_eq_true]
    exact h
  · unfold inR
    rw [decide_eq_true h0, decide_eq_true (by omega)]; rfl
end Go.Proofs.YtmllengggncmkaaGreat
