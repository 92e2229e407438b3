/- Journals of lines: the reference. -/
import Derived.Test.YtdhomifcjakbgaaDoorJnB
set_option maxRecDepth 10000
set_option maxHeartbeats 4000000
set_option linter.unusedSimpArgs false
set_option linter.unusedVariables false
namespace Go.Proofs.YtdhomifcjakbgaaDoor
open Go Go.Abs

/-- A line with its check. -/
def jl (c : Int) (l : List UInt8) : List UInt8 := Lib.itoa (chk c l) ++ [32] ++ l ++ [10]
/-- The check behind some lines. -/
def cks (c : Int) (L : List (List UInt8)) : Int := L.foldl chk c
/-- The journal of some lines. -/
def jt : Int → List (List UInt8) → List UInt8
  | _, [] => []
  | c, l :: L => jl c l ++ jt (chk c l) L
theorem jt_snoc : ∀ (L : List (List UInt8)) (c : Int) (x : List UInt8), jt c (L ++ [x]) = jt c L ++ jl (cks c L) x
  | [], c, x => by simp [jt, cks]
  | l :: L, c, x => by
    rw [List.cons_append, jt, jt_snoc L, jt, List.append_assoc]
    rfl
theorem cks_snoc (L : List (List UInt8)) (c : Int) (x : List UInt8) : cks c (L ++ [x]) = chk (cks c L) x := by simp [cks]
theorem cks_in : ∀ (L : List (List UInt8)) (c : Int), 0 ≤ c → c ≤ 65002 → 0 ≤ cks c L ∧ cks c L ≤ 65002
  | [], c, h0, h1 => ⟨h0, h1⟩
  | l :: L, c, h0, h1 => cks_in L (chk c l) (chk_in l c h0 h1).1 (chk_in l c h0 h1).2
theorem dec_len : ∀ (k u : Nat), u < 10 ^ (k + 1) → (Lib.decDigits u).length ≤ k + 1
  | 0, u, h => by
    unfold Lib.decDigits
    rw [dif_pos (by simpa using h)]
    simp
  | k + 1, u, h => by
    unfold Lib.decDigits
    split
    · simp
    · have : u / 10 < 10 ^ (k + 1) := by
        rw [Nat.div_lt_iff_lt_mul (by omega)]
        rw [Nat.pow_succ] at h
        exact h
      have := dec_len k (u / 10) this
      simp; omega
theorem ck_len {n : Int} (h0 : 0 ≤ n) (h1 : n ≤ 65002) : (Lib.itoa n).length ≤ 5 := by
  rw [itoa_abs, if_neg (by omega)]
  exact dec_len 4 n.natAbs (by have : (10 : Nat) ^ (4 + 1) = 100000 := by decide
                               omega)
theorem dec_pos (u : Nat) : 1 ≤ (Lib.decDigits u).length := by
  unfold Lib.decDigits
  split
  · simp
  · simp
theorem ck_pos {n : Int} (h0 : 0 ≤ n) : 1 ≤ (Lib.itoa n).length := by
  rw [itoa_abs, if_neg (by omega)]
  exact dec_pos _
theorem jl_len (c : Int) (l : List UInt8) (h0 : 0 ≤ c) (h1 : c ≤ 65002) : l.length + 3 ≤ (jl c l).length ∧ (jl c l).length ≤ l.length + 7 := by
  have hc := chk_in l c h0 h1
  have a := ck_len hc.1 hc.2
  have b := ck_pos hc.1
  simp only [jl, List.length_append, List.length_cons, List.length_nil]
  omega
theorem jt_len : ∀ (L : List (List UInt8)) (c : Int), 0 ≤ c → c ≤ 65002 → (∀ x ∈ L, x.length ≤ 1048576) → (jt c L).length ≤ L.length * 1048583
  | [], c, _, _, _ => by simp [jt]
  | l :: L, c, h0, h1, h => by
    have hc := chk_in l c h0 h1
    have a := jt_len L (chk c l) hc.1 hc.2 (fun x hx => h x (List.mem_cons_of_mem _ hx))
    have b := (jl_len c l h0 h1).2
    have d := h l List.mem_cons_self
    rw [jt, List.length_append, List.length_cons]
    omega
theorem l08Journal_call (L : List (List UInt8)) (hL : L.length ≤ 1048576) (hx : ∀ x ∈ L, x.length ≤ 1048576) : CallA Tryd.prog 27 [.ro (strs L)] [] (Ret (.str (jt 0 L)) []) := by
  refine CallP.out (t := .mk) (go_in (md := md27) mixed Tryd.func27 rfl go27 (by kernel_rfl) ?_)
  simp only [q0, q1, q2, q3, q4, q5, q6, q7, q8, q9, guardSlot, quietA, nilC, nilA, quietB, St.ev, St.put, St.after, List.getD_cons_succ, List.getD_cons_zero, List.length_cons, List.length_nil, Nat.reduceAdd, Nat.reduceSub, List.replicate_succ, List.replicate_zero, List.cons_append, List.nil_append, List.append_nil, List.set_cons_succ, List.set_cons_zero, ofV, ofL, lenA, binA, intBin, fltBin, strBin, cpxBin, true_and, and_true, unA, convA, convB, pickV, List.map_cons, List.map_nil, resL, oneA, indexA, indexS, isQuiet, loadA, loadC, storeA, fieldA, partA, sliceA, boundA, buildA, placeA, setAll, appendA, readSl, newEl, Int.toNat_natCast, AV.cells, AV.solid, AV.one, Int.natCast_nonneg, exists_prop, List.getElem_cons_zero, List.getElem_cons_succ, List.getElem?_cons_zero, List.getElem?_cons_succ, Nat.zero_lt_one, Option.bind_some, Option.map_some, Option.map_none, kill, killM, killL, Bool.not_true, Bool.not_false, List.all_cons, List.all_nil, Bool.and_true, Bool.true_and, List.take_zero, List.drop_zero, List.drop_succ_cons, List.take_succ_cons, Nat.zero_add, Nat.add_zero, notInt, List.getElem?_toArray, ge_iff_le, gt_iff_lt, Nat.le_refl, Int.reduceToNat, cond_true, cond_false, ↓reduceIte, reduceCtorEq, Bool.false_eq_true, Bool.not_eq_true, Nat.reduceLT, Nat.reduceLeDiff, Nat.reduceMul, Nat.reduceEqDiff, Nat.succ_ne_self, Option.some.injEq, exists_eq', putF, List.forall_mem_cons, List.not_mem_nil, false_implies, implies_true, exists_true_left, tys0, tys1, und0, und1, md27, Tryd.ntmps27, Tryd.results27]
  refine go_round (md := md27) mixed (by kernel_rfl) (fun i : {i : Nat // i ≤ L.length} => ⟨[.ro (strs L), .any, .any, .str (jt 0 (L.take i.1)), .int .i64 (cks 0 (L.take i.1)), .int .i64 i.1, .any, .any, .any, .any, .any, .any, .any, .any, .any, .any, .any, .any, .any, .any, .any, .any, .any, .any, .any, .any, .any, .any, .any, .any], []⟩) (fun i => L.length - i.1) ⟨0, by omega⟩ ?_ ?_
  · exact weak_drop (by simp) (by simp [DropHp, ints_below, flts_below, jt, cks, List.foldl_nil]) (by simp [DropTm, DropV, below, belowM, belowL, jt, cks, List.foldl_nil])
  rintro ⟨i, hi⟩
  have cb := cks_in (L.take i) 0 (by decide) (by decide)
  have tl := jt_len (L.take i) 0 (by decide) (by decide) (fun x h => hx x (List.mem_of_mem_take h))
  have tk : (L.take i).length = i := by rw [List.length_take]; omega
  have n1 := fun h : i < L.length => (show jt 0 (L.take (i + 1)) = jt 0 (L.take i) ++ jl (cks 0 (L.take i)) L[i] by rw [take_snoc _ _ h, jt_snoc])
  have n2 := fun h : i < L.length => (show cks 0 (L.take (i + 1)) = chk (cks 0 (L.take i)) L[i] by rw [take_snoc _ _ h, cks_snoc])
  generalize hT : jt 0 (L.take i) = T at tl n1
  generalize cks 0 (L.take i) = c at cb n1 n2
  simp only [q0, q1, q2, q3, q4, q5, q6, q7, q8, q9, guardSlot, quietA, nilC, nilA, quietB, St.ev, St.put, St.after, List.getD_cons_succ, List.getD_cons_zero, List.length_cons, List.length_nil, Nat.reduceAdd, Nat.reduceSub, List.replicate_succ, List.replicate_zero, List.cons_append, List.nil_append, List.append_nil, List.set_cons_succ, List.set_cons_zero, ofV, ofL, lenA, binA, intBin, fltBin, strBin, cpxBin, true_and, and_true, unA, convA, convB, pickV, List.map_cons, List.map_nil, resL, oneA, indexA, indexS, isQuiet, loadA, loadC, storeA, fieldA, partA, sliceA, boundA, buildA, placeA, setAll, appendA, readSl, newEl, Int.toNat_natCast, AV.cells, AV.solid, AV.one, Int.natCast_nonneg, exists_prop, List.getElem_cons_zero, List.getElem_cons_succ, List.getElem?_cons_zero, List.getElem?_cons_succ, Nat.zero_lt_one, Option.bind_some, Option.map_some, Option.map_none, kill, killM, killL, Bool.not_true, Bool.not_false, List.all_cons, List.all_nil, Bool.and_true, Bool.true_and, List.take_zero, List.drop_zero, List.drop_succ_cons, List.take_succ_cons, Nat.zero_add, Nat.add_zero, notInt, List.getElem?_toArray, ge_iff_le, gt_iff_lt, Nat.le_refl, Int.reduceToNat, cond_true, cond_false, ↓reduceIte, reduceCtorEq, Bool.false_eq_true, Bool.not_eq_true, Nat.reduceLT, Nat.reduceLeDiff, Nat.reduceMul, Nat.reduceEqDiff, Nat.succ_ne_self, Option.some.injEq, exists_eq', putF, List.forall_mem_cons, List.not_mem_nil, false_implies, implies_true, exists_true_left, tys0, tys1, und0, und1, md27, Tryd.ntmps27, Tryd.results27, strs_len]
  refine br_intro (fun h => ?_) (fun h => ?_) <;> simp only [q0, q1, q2, q3, q4, q5, q6, q7, q8, q9, guardSlot, quietA, nilC, nilA, quietB, St.ev, St.put, St.after, List.getD_cons_succ, List.getD_cons_zero, List.length_cons, List.length_nil, Nat.reduceAdd, Nat.reduceSub, List.replicate_succ, List.replicate_zero, List.cons_append, List.nil_append, List.append_nil, List.set_cons_succ, List.set_cons_zero, ofV, ofL, lenA, binA, intBin, fltBin, strBin, cpxBin, true_and, and_true, unA, convA, convB, pickV, List.map_cons, List.map_nil, resL, oneA, indexA, indexS, isQuiet, loadA, loadC, storeA, fieldA, partA, sliceA, boundA, buildA, placeA, setAll, appendA, readSl, newEl, Int.toNat_natCast, AV.cells, AV.solid, AV.one, Int.natCast_nonneg, exists_prop, List.getElem_cons_zero, List.getElem_cons_succ, List.getElem?_cons_zero, List.getElem?_cons_succ, Nat.zero_lt_one, Option.bind_some, Option.map_some, Option.map_none, kill, killM, killL, Bool.not_true, Bool.not_false, List.all_cons, List.all_nil, Bool.and_true, Bool.true_and, List.take_zero, List.drop_zero, List.drop_succ_cons, List.take_succ_cons, Nat.zero_add, Nat.add_zero, notInt, List.getElem?_toArray, ge_iff_le, gt_iff_lt, Nat.le_refl, Int.reduceToNat, cond_true, cond_false, ↓reduceIte, reduceCtorEq, Bool.false_eq_true, Bool.not_eq_true, Nat.reduceLT, Nat.reduceLeDiff, Nat.reduceMul, Nat.reduceEqDiff, Nat.succ_ne_self, Option.some.injEq, exists_eq', putF, List.forall_mem_cons, List.not_mem_nil, false_implies, implies_true, exists_true_left, tys0, tys1, und0, und1, md27, Tryd.ntmps27, Tryd.results27, strs_len]
  · have hi' : i < L.length := by have := of_decide_eq_true h; omega
    have hI : (i : Int) < (L.length : Int) := by omega
    have n1 := n1 hi'
    have n2 := n2 hi'
    have xl := hx L[i] (List.getElem_mem hi')
    have jb := jl_len c L[i] cb.1 cb.2
    have w1 : IntKind.i64.wrap ((i : Int) + 1) = ((i + 1 : Nat) : Int) := by rw [w64 (by omega) (by omega)]; omega
    simp only [q0, q1, q2, q3, q4, q5, q6, q7, q8, q9, guardSlot, quietA, nilC, nilA, quietB, St.ev, St.put, St.after, List.getD_cons_succ, List.getD_cons_zero, List.length_cons, List.length_nil, Nat.reduceAdd, Nat.reduceSub, List.replicate_succ, List.replicate_zero, List.cons_append, List.nil_append, List.append_nil, List.set_cons_succ, List.set_cons_zero, ofV, ofL, lenA, binA, intBin, fltBin, strBin, cpxBin, true_and, and_true, unA, convA, convB, pickV, List.map_cons, List.map_nil, resL, oneA, indexA, indexS, isQuiet, loadA, loadC, storeA, fieldA, partA, sliceA, boundA, buildA, placeA, setAll, appendA, readSl, newEl, Int.toNat_natCast, AV.cells, AV.solid, AV.one, Int.natCast_nonneg, exists_prop, List.getElem_cons_zero, List.getElem_cons_succ, List.getElem?_cons_zero, List.getElem?_cons_succ, Nat.zero_lt_one, Option.bind_some, Option.map_some, Option.map_none, kill, killM, killL, Bool.not_true, Bool.not_false, List.all_cons, List.all_nil, Bool.and_true, Bool.true_and, List.take_zero, List.drop_zero, List.drop_succ_cons, List.take_succ_cons, Nat.zero_add, Nat.add_zero, notInt, List.getElem?_toArray, ge_iff_le, gt_iff_lt, Nat.le_refl, Int.reduceToNat, cond_true, cond_false, ↓reduceIte, reduceCtorEq, Bool.false_eq_true, Bool.not_eq_true, Nat.reduceLT, Nat.reduceLeDiff, Nat.reduceMul, Nat.reduceEqDiff, Nat.succ_ne_self, Option.some.injEq, exists_eq', putF, List.forall_mem_cons, List.not_mem_nil, false_implies, implies_true, exists_true_left, tys0, tys1, und0, und1, md27, Tryd.ntmps27, Tryd.results27, strs_len, hi', hI, strs_get]
    refine call_ret (specCheck_call c L[i] cb.1 cb.2 xl) rfl rfl ?_
    simp only [q0, q1, q2, q3, q4, q5, q6, q7, q8, q9, guardSlot, quietA, nilC, nilA, quietB, St.ev, St.put, St.after, List.getD_cons_succ, List.getD_cons_zero, List.length_cons, List.length_nil, Nat.reduceAdd, Nat.reduceSub, List.replicate_succ, List.replicate_zero, List.cons_append, List.nil_append, List.append_nil, List.set_cons_succ, List.set_cons_zero, ofV, ofL, lenA, binA, intBin, fltBin, strBin, cpxBin, true_and, and_true, unA, convA, convB, pickV, List.map_cons, List.map_nil, resL, oneA, indexA, indexS, isQuiet, loadA, loadC, storeA, fieldA, partA, sliceA, boundA, buildA, placeA, setAll, appendA, readSl, newEl, Int.toNat_natCast, AV.cells, AV.solid, AV.one, Int.natCast_nonneg, exists_prop, List.getElem_cons_zero, List.getElem_cons_succ, List.getElem?_cons_zero, List.getElem?_cons_succ, Nat.zero_lt_one, Option.bind_some, Option.map_some, Option.map_none, kill, killM, killL, Bool.not_true, Bool.not_false, List.all_cons, List.all_nil, Bool.and_true, Bool.true_and, List.take_zero, List.drop_zero, List.drop_succ_cons, List.take_succ_cons, Nat.zero_add, Nat.add_zero, notInt, List.getElem?_toArray, ge_iff_le, gt_iff_lt, Nat.le_refl, Int.reduceToNat, cond_true, cond_false, ↓reduceIte, reduceCtorEq, Bool.false_eq_true, Bool.not_eq_true, Nat.reduceLT, Nat.reduceLeDiff, Nat.reduceMul, Nat.reduceEqDiff, Nat.succ_ne_self, Option.some.injEq, exists_eq', putF, List.forall_mem_cons, List.not_mem_nil, false_implies, implies_true, exists_true_left, tys0, tys1, und0, und1, md27, Tryd.ntmps27, Tryd.results27, strs_len, hi', hI, strs_get]
    have cb2 := chk_in L[i] c cb.1 cb.2
    have il := ck_len cb2.1 cb2.2
    refine callr_ret (specDec_call (chk c L[i]) (by omega) (by omega)) rfl rfl ?_
    simp only [q0, q1, q2, q3, q4, q5, q6, q7, q8, q9, guardSlot, quietA, nilC, nilA, quietB, St.ev, St.put, St.after, List.getD_cons_succ, List.getD_cons_zero, List.length_cons, List.length_nil, Nat.reduceAdd, Nat.reduceSub, List.replicate_succ, List.replicate_zero, List.cons_append, List.nil_append, List.append_nil, List.set_cons_succ, List.set_cons_zero, ofV, ofL, lenA, binA, intBin, fltBin, strBin, cpxBin, true_and, and_true, unA, convA, convB, pickV, List.map_cons, List.map_nil, resL, oneA, indexA, indexS, isQuiet, loadA, loadC, storeA, fieldA, partA, sliceA, boundA, buildA, placeA, setAll, appendA, readSl, newEl, Int.toNat_natCast, AV.cells, AV.solid, AV.one, Int.natCast_nonneg, exists_prop, List.getElem_cons_zero, List.getElem_cons_succ, List.getElem?_cons_zero, List.getElem?_cons_succ, Nat.zero_lt_one, Option.bind_some, Option.map_some, Option.map_none, kill, killM, killL, Bool.not_true, Bool.not_false, List.all_cons, List.all_nil, Bool.and_true, Bool.true_and, List.take_zero, List.drop_zero, List.drop_succ_cons, List.take_succ_cons, Nat.zero_add, Nat.add_zero, notInt, List.getElem?_toArray, ge_iff_le, gt_iff_lt, Nat.le_refl, Int.reduceToNat, cond_true, cond_false, ↓reduceIte, reduceCtorEq, Bool.false_eq_true, Bool.not_eq_true, Nat.reduceLT, Nat.reduceLeDiff, Nat.reduceMul, Nat.reduceEqDiff, Nat.succ_ne_self, Option.some.injEq, exists_eq', putF, List.forall_mem_cons, List.not_mem_nil, false_implies, implies_true, exists_true_left, tys0, tys1, und0, und1, md27, Tryd.ntmps27, Tryd.results27, strs_len, hi', hI, strs_get, w1]
    refine ⟨by omega, by simp; omega, by simp; omega, by simp; omega, ⟨i + 1, by omega⟩, by show L.length - (i + 1) < _; omega, ?_⟩
    show Weak 0 _ ⟨_, _⟩
    rw [n1, n2]
    exact weak_drop (by simp) (by simp [DropHp, ints_below, flts_below, jl]) (by simp [DropTm, DropV, below, belowM, belowL, jl])
  · have hi' : i = L.length := by have := of_decide_eq_false h; omega
    rw [show jt 0 L = T from by rw [← hT, hi', List.take_length]]
    exact PostR.ret
/-- Bytes that lines take at least. -/
def tot (L : List (List UInt8)) : Nat := (L.map fun x => x.length + 3).sum
theorem tot_snoc (L : List (List UInt8)) (x : List UInt8) : tot (L ++ [x]) = tot L + (x.length + 3) := by simp [tot]
theorem tot_le : ∀ (L : List (List UInt8)) (c : Int), 0 ≤ c → c ≤ 65002 → tot L ≤ (jt c L).length
  | [], c, _, _ => by simp [tot, jt]
  | l :: L, c, h0, h1 => by
    have hc := chk_in l c h0 h1
    have a := tot_le L (chk c l) hc.1 hc.2
    have b := (jl_len c l h0 h1).1
    rw [jt, List.length_append]
    simp only [tot, List.map_cons, List.sum_cons] at a ⊢
    omega
theorem tot_take (L : List (List UInt8)) (i : Nat) : tot (L.take i) ≤ tot L := by
  have app : ∀ A B : List (List UInt8), tot (A ++ B) = tot A + tot B := fun A B => by simp [tot]
  have := app (L.take i) (L.drop i)
  rw [List.take_append_drop] at this
  omega
def okJ (L : List (List UInt8)) : Bool := L.all (fun x => !x.contains 10) && decide ((jt 0 L).length ≤ 16000)
def outJ (L : List (List UInt8)) : AV := if okJ L then .tup [.str (jt 0 L), .bool true] else .tup [.str [], .bool false]
theorem outJ_long {L : List (List UInt8)} {i : Nat} (h : 16000 < tot (L.take i)) : outJ L = .tup [.str [], .bool false] := by
  have h1 := tot_take L i
  have h2 := tot_le L 0 (by decide) (by decide)
  unfold outJ okJ
  rw [decide_eq_false (by omega), Bool.and_false]
  rfl
theorem outJ_line {L : List (List UInt8)} {x : List UInt8} (hx : x ∈ L) (h : (10 : UInt8) ∈ x) : outJ L = .tup [.str [], .bool false] := by
  have : L.all (fun x => !x.contains 10) = false := by
    rw [List.all_eq_false]
    exact ⟨x, hx, by simp [h]⟩
  unfold outJ okJ
  rw [this, Bool.false_and]
  rfl
theorem specJournal_call (L : List (List UInt8)) (hL : L.length ≤ 1048576) (hx : ∀ x ∈ L, x.length ≤ 1048576) : CallA Tryd.prog 12 [.ro (strs L)] [] (Ret (outJ L) []) := by
  have lc := l08Journal_call L hL hx
  refine CallP.out (t := .mk) (go_in (md := md12) mixed Tryd.func12 rfl go12 (by kernel_rfl) ?_)
  simp only [q0, q1, q2, q3, q4, q5, q6, q7, q8, q9, guardSlot, quietA, nilC, nilA, quietB, St.ev, St.put, St.after, List.getD_cons_succ, List.getD_cons_zero, List.length_cons, List.length_nil, Nat.reduceAdd, Nat.reduceSub, List.replicate_succ, List.replicate_zero, List.cons_append, List.nil_append, List.append_nil, List.set_cons_succ, List.set_cons_zero, ofV, ofL, lenA, binA, intBin, fltBin, strBin, cpxBin, true_and, and_true, unA, convA, convB, pickV, List.map_cons, List.map_nil, resL, oneA, indexA, indexS, isQuiet, loadA, loadC, storeA, fieldA, partA, sliceA, boundA, buildA, placeA, setAll, appendA, readSl, newEl, Int.toNat_natCast, AV.cells, AV.solid, AV.one, Int.natCast_nonneg, exists_prop, List.getElem_cons_zero, List.getElem_cons_succ, List.getElem?_cons_zero, List.getElem?_cons_succ, Nat.zero_lt_one, Option.bind_some, Option.map_some, Option.map_none, kill, killM, killL, Bool.not_true, Bool.not_false, List.all_cons, List.all_nil, Bool.and_true, Bool.true_and, List.take_zero, List.drop_zero, List.drop_succ_cons, List.take_succ_cons, Nat.zero_add, Nat.add_zero, notInt, List.getElem?_toArray, ge_iff_le, gt_iff_lt, Nat.le_refl, Int.reduceToNat, cond_true, cond_false, ↓reduceIte, reduceCtorEq, Bool.false_eq_true, Bool.not_eq_true, Nat.reduceLT, Nat.reduceLeDiff, Nat.reduceMul, Nat.reduceEqDiff, Nat.succ_ne_self, Option.some.injEq, exists_eq', putF, List.forall_mem_cons, List.not_mem_nil, false_implies, implies_true, exists_true_left, tys0, tys1, und0, und1, md12, Tryd.ntmps12, Tryd.results12]
  refine go_round (md := md12) mixed (by kernel_rfl) (fun i : {i : Nat // i ≤ L.length ∧ tot (L.take i) ≤ 16000 ∧ ∀ x ∈ L.take i, (10 : UInt8) ∉ x} => ⟨[.ro (strs L), .any, .any, .any, .int .i64 (tot (L.take i.1)), .int .i64 i.1, .any, .any, .any, .any, .any, .any, .any, .any, .any, .any, .any, .any, .any, .any, .any, .any, .any, .any, .any, .any, .any, .any, .any, .any, .any, .any, .any, .any, .any, .any, .any, .any, .any, .any, .any, .any, .any, .any, .any, .any], []⟩) (fun i => L.length - i.1) ⟨0, by omega, by simp [tot], by simp⟩ ?_ ?_
  · exact weak_drop (by simp) (by simp [DropHp, ints_below, flts_below, tot, List.map_nil, List.sum_nil]) (by simp [DropTm, DropV, below, belowM, belowL, tot, List.map_nil, List.sum_nil])
  rintro ⟨i, hi, ht, hn⟩
  have n1 := fun h : i < L.length => (show tot (L.take (i + 1)) = tot (L.take i) + (L[i].length + 3) by rw [take_snoc _ _ h, tot_snoc])
  simp only [q0, q1, q2, q3, q4, q5, q6, q7, q8, q9, guardSlot, quietA, nilC, nilA, quietB, St.ev, St.put, St.after, List.getD_cons_succ, List.getD_cons_zero, List.length_cons, List.length_nil, Nat.reduceAdd, Nat.reduceSub, List.replicate_succ, List.replicate_zero, List.cons_append, List.nil_append, List.append_nil, List.set_cons_succ, List.set_cons_zero, ofV, ofL, lenA, binA, intBin, fltBin, strBin, cpxBin, true_and, and_true, unA, convA, convB, pickV, List.map_cons, List.map_nil, resL, oneA, indexA, indexS, isQuiet, loadA, loadC, storeA, fieldA, partA, sliceA, boundA, buildA, placeA, setAll, appendA, readSl, newEl, Int.toNat_natCast, AV.cells, AV.solid, AV.one, Int.natCast_nonneg, exists_prop, List.getElem_cons_zero, List.getElem_cons_succ, List.getElem?_cons_zero, List.getElem?_cons_succ, Nat.zero_lt_one, Option.bind_some, Option.map_some, Option.map_none, kill, killM, killL, Bool.not_true, Bool.not_false, List.all_cons, List.all_nil, Bool.and_true, Bool.true_and, List.take_zero, List.drop_zero, List.drop_succ_cons, List.take_succ_cons, Nat.zero_add, Nat.add_zero, notInt, List.getElem?_toArray, ge_iff_le, gt_iff_lt, Nat.le_refl, Int.reduceToNat, cond_true, cond_false, ↓reduceIte, reduceCtorEq, Bool.false_eq_true, Bool.not_eq_true, Nat.reduceLT, Nat.reduceLeDiff, Nat.reduceMul, Nat.reduceEqDiff, Nat.succ_ne_self, Option.some.injEq, exists_eq', putF, List.forall_mem_cons, List.not_mem_nil, false_implies, implies_true, exists_true_left, tys0, tys1, und0, und1, md12, Tryd.ntmps12, Tryd.results12, strs_len]
  refine br_intro (fun h => ?_) (fun h => ?_) <;> simp only [q0, q1, q2, q3, q4, q5, q6, q7, q8, q9, guardSlot, quietA, nilC, nilA, quietB, St.ev, St.put, St.after, List.getD_cons_succ, List.getD_cons_zero, List.length_cons, List.length_nil, Nat.reduceAdd, Nat.reduceSub, List.replicate_succ, List.replicate_zero, List.cons_append, List.nil_append, List.append_nil, List.set_cons_succ, List.set_cons_zero, ofV, ofL, lenA, binA, intBin, fltBin, strBin, cpxBin, true_and, and_true, unA, convA, convB, pickV, List.map_cons, List.map_nil, resL, oneA, indexA, indexS, isQuiet, loadA, loadC, storeA, fieldA, partA, sliceA, boundA, buildA, placeA, setAll, appendA, readSl, newEl, Int.toNat_natCast, AV.cells, AV.solid, AV.one, Int.natCast_nonneg, exists_prop, List.getElem_cons_zero, List.getElem_cons_succ, List.getElem?_cons_zero, List.getElem?_cons_succ, Nat.zero_lt_one, Option.bind_some, Option.map_some, Option.map_none, kill, killM, killL, Bool.not_true, Bool.not_false, List.all_cons, List.all_nil, Bool.and_true, Bool.true_and, List.take_zero, List.drop_zero, List.drop_succ_cons, List.take_succ_cons, Nat.zero_add, Nat.add_zero, notInt, List.getElem?_toArray, ge_iff_le, gt_iff_lt, Nat.le_refl, Int.reduceToNat, cond_true, cond_false, ↓reduceIte, reduceCtorEq, Bool.false_eq_true, Bool.not_eq_true, Nat.reduceLT, Nat.reduceLeDiff, Nat.reduceMul, Nat.reduceEqDiff, Nat.succ_ne_self, Option.some.injEq, exists_eq', putF, List.forall_mem_cons, List.not_mem_nil, false_implies, implies_true, exists_true_left, tys0, tys1, und0, und1, md12, Tryd.ntmps12, Tryd.results12, strs_len]
  · have hi' : i < L.length := by have := of_decide_eq_true h; omega
    have hI : (i : Int) < (L.length : Int) := by omega
    have n1 := n1 hi'
    have hm := List.getElem_mem hi'
    have xl := hx L[i] hm
    have hS : i < (strs L).length := by rw [strs_len]; exact hi'
    have sg : (strs L)[i] = AV.str L[i] := strs_get L i hS
    have w1 : IntKind.i64.wrap ((L[i].length : Int) + 3) = ((L[i].length + 3 : Nat) : Int) := by rw [w64 (by omega) (by omega)]; omega
    have w2 : IntKind.i64.wrap ((tot (L.take i) : Int) + ((L[i].length + 3 : Nat) : Int)) = ((tot (L.take i) + (L[i].length + 3) : Nat) : Int) := by rw [w64 (by omega) (by omega)]; omega
    have w3 : IntKind.i64.wrap ((i : Int) + 1) = ((i + 1 : Nat) : Int) := by rw [w64 (by omega) (by omega)]; omega
    have tk : L.take (i + 1) = L.take i ++ [L[i]] := take_snoc _ _ hi'
    simp only [q0, q1, q2, q3, q4, q5, q6, q7, q8, q9, guardSlot, quietA, nilC, nilA, quietB, St.ev, St.put, St.after, List.getD_cons_succ, List.getD_cons_zero, List.length_cons, List.length_nil, Nat.reduceAdd, Nat.reduceSub, List.replicate_succ, List.replicate_zero, List.cons_append, List.nil_append, List.append_nil, List.set_cons_succ, List.set_cons_zero, ofV, ofL, lenA, binA, intBin, fltBin, strBin, cpxBin, true_and, and_true, unA, convA, convB, pickV, List.map_cons, List.map_nil, resL, oneA, indexA, indexS, isQuiet, loadA, loadC, storeA, fieldA, partA, sliceA, boundA, buildA, placeA, setAll, appendA, readSl, newEl, Int.toNat_natCast, AV.cells, AV.solid, AV.one, Int.natCast_nonneg, exists_prop, List.getElem_cons_zero, List.getElem_cons_succ, List.getElem?_cons_zero, List.getElem?_cons_succ, Nat.zero_lt_one, Option.bind_some, Option.map_some, Option.map_none, kill, killM, killL, Bool.not_true, Bool.not_false, List.all_cons, List.all_nil, Bool.and_true, Bool.true_and, List.take_zero, List.drop_zero, List.drop_succ_cons, List.take_succ_cons, Nat.zero_add, Nat.add_zero, notInt, List.getElem?_toArray, ge_iff_le, gt_iff_lt, Nat.le_refl, Int.reduceToNat, cond_true, cond_false, ↓reduceIte, reduceCtorEq, Bool.false_eq_true, Bool.not_eq_true, Nat.reduceLT, Nat.reduceLeDiff, Nat.reduceMul, Nat.reduceEqDiff, Nat.succ_ne_self, Option.some.injEq, exists_eq', putF, List.forall_mem_cons, List.not_mem_nil, false_implies, implies_true, exists_true_left, tys0, tys1, und0, und1, md12, Tryd.ntmps12, Tryd.results12, strs_len, hi', hI, strs_get, w1, w2]
    refine br_intro (fun u => ?_) (fun u => ?_) <;> simp only [q0, q1, q2, q3, q4, q5, q6, q7, q8, q9, guardSlot, quietA, nilC, nilA, quietB, St.ev, St.put, St.after, List.getD_cons_succ, List.getD_cons_zero, List.length_cons, List.length_nil, Nat.reduceAdd, Nat.reduceSub, List.replicate_succ, List.replicate_zero, List.cons_append, List.nil_append, List.append_nil, List.set_cons_succ, List.set_cons_zero, ofV, ofL, lenA, binA, intBin, fltBin, strBin, cpxBin, true_and, and_true, unA, convA, convB, pickV, List.map_cons, List.map_nil, resL, oneA, indexA, indexS, isQuiet, loadA, loadC, storeA, fieldA, partA, sliceA, boundA, buildA, placeA, setAll, appendA, readSl, newEl, Int.toNat_natCast, AV.cells, AV.solid, AV.one, Int.natCast_nonneg, exists_prop, List.getElem_cons_zero, List.getElem_cons_succ, List.getElem?_cons_zero, List.getElem?_cons_succ, Nat.zero_lt_one, Option.bind_some, Option.map_some, Option.map_none, kill, killM, killL, Bool.not_true, Bool.not_false, List.all_cons, List.all_nil, Bool.and_true, Bool.true_and, List.take_zero, List.drop_zero, List.drop_succ_cons, List.take_succ_cons, Nat.zero_add, Nat.add_zero, notInt, List.getElem?_toArray, ge_iff_le, gt_iff_lt, Nat.le_refl, Int.reduceToNat, cond_true, cond_false, ↓reduceIte, reduceCtorEq, Bool.false_eq_true, Bool.not_eq_true, Nat.reduceLT, Nat.reduceLeDiff, Nat.reduceMul, Nat.reduceEqDiff, Nat.succ_ne_self, Option.some.injEq, exists_eq', putF, List.forall_mem_cons, List.not_mem_nil, false_implies, implies_true, exists_true_left, tys0, tys1, und0, und1, md12, Tryd.ntmps12, Tryd.results12, strs_len, hi', hI, strs_get, w1, w2]
    · have hlong : 16000 < tot (L.take (i + 1)) := by have := of_decide_eq_true u; omega
      rw [outJ_long hlong]
      exact PostR.ret
    · have hshort : tot (L.take i) + (L[i].length + 3) ≤ 16000 := by have := of_decide_eq_false u; omega
      generalize hrow : L[i] = row at w1 w2 sg xl n1 tk hshort hm
      refine go_round (md := md12) mixed (by kernel_rfl) (fun k : {k : Nat // k ≤ row.length ∧ (10 : UInt8) ∉ row.take k} => ⟨[.ro (strs L), .any, .any, .any, .int .i64 ((tot (L.take i) + (row.length + 3) : Nat) : Int), .int .i64 i, .int .i64 k.1, .any, .any, .any, .any, .any, .any, .any, .any, .any, .any, .any, .any, .any, .any, .any, .any, .any, .any, .any, .any, .any, .any, .any, .any, .any, .any, .any, .any, .any, .any, .any, .any, .any, .any, .any, .any, .any, .any, .any], []⟩) (fun k => row.length - k.1) ⟨0, by omega, by simp⟩ ?_ ?_
      · exact weak_drop (by simp) (by simp [DropHp, ints_below, flts_below]) (by simp [DropTm, DropV, below, belowM, belowL])
      rintro ⟨k, hk, hkn⟩
      simp only [q0, q1, q2, q3, q4, q5, q6, q7, q8, q9, guardSlot, quietA, nilC, nilA, quietB, St.ev, St.put, St.after, List.getD_cons_succ, List.getD_cons_zero, List.length_cons, List.length_nil, Nat.reduceAdd, Nat.reduceSub, List.replicate_succ, List.replicate_zero, List.cons_append, List.nil_append, List.append_nil, List.set_cons_succ, List.set_cons_zero, ofV, ofL, lenA, binA, intBin, fltBin, strBin, cpxBin, true_and, and_true, unA, convA, convB, pickV, List.map_cons, List.map_nil, resL, oneA, indexA, indexS, isQuiet, loadA, loadC, storeA, fieldA, partA, sliceA, boundA, buildA, placeA, setAll, appendA, readSl, newEl, Int.toNat_natCast, AV.cells, AV.solid, AV.one, Int.natCast_nonneg, exists_prop, List.getElem_cons_zero, List.getElem_cons_succ, List.getElem?_cons_zero, List.getElem?_cons_succ, Nat.zero_lt_one, Option.bind_some, Option.map_some, Option.map_none, kill, killM, killL, Bool.not_true, Bool.not_false, List.all_cons, List.all_nil, Bool.and_true, Bool.true_and, List.take_zero, List.drop_zero, List.drop_succ_cons, List.take_succ_cons, Nat.zero_add, Nat.add_zero, notInt, List.getElem?_toArray, ge_iff_le, gt_iff_lt, Nat.le_refl, Int.reduceToNat, cond_true, cond_false, ↓reduceIte, reduceCtorEq, Bool.false_eq_true, Bool.not_eq_true, Nat.reduceLT, Nat.reduceLeDiff, Nat.reduceMul, Nat.reduceEqDiff, Nat.succ_ne_self, Option.some.injEq, exists_eq', putF, List.forall_mem_cons, List.not_mem_nil, false_implies, implies_true, exists_true_left, tys0, tys1, und0, und1, md12, Tryd.ntmps12, Tryd.results12, strs_len, hi', hI, hS, sg]
      refine br_intro (fun v => ?_) (fun v => ?_) <;> simp only [q0, q1, q2, q3, q4, q5, q6, q7, q8, q9, guardSlot, quietA, nilC, nilA, quietB, St.ev, St.put, St.after, List.getD_cons_succ, List.getD_cons_zero, List.length_cons, List.length_nil, Nat.reduceAdd, Nat.reduceSub, List.replicate_succ, List.replicate_zero, List.cons_append, List.nil_append, List.append_nil, List.set_cons_succ, List.set_cons_zero, ofV, ofL, lenA, binA, intBin, fltBin, strBin, cpxBin, true_and, and_true, unA, convA, convB, pickV, List.map_cons, List.map_nil, resL, oneA, indexA, indexS, isQuiet, loadA, loadC, storeA, fieldA, partA, sliceA, boundA, buildA, placeA, setAll, appendA, readSl, newEl, Int.toNat_natCast, AV.cells, AV.solid, AV.one, Int.natCast_nonneg, exists_prop, List.getElem_cons_zero, List.getElem_cons_succ, List.getElem?_cons_zero, List.getElem?_cons_succ, Nat.zero_lt_one, Option.bind_some, Option.map_some, Option.map_none, kill, killM, killL, Bool.not_true, Bool.not_false, List.all_cons, List.all_nil, Bool.and_true, Bool.true_and, List.take_zero, List.drop_zero, List.drop_succ_cons, List.take_succ_cons, Nat.zero_add, Nat.add_zero, notInt, List.getElem?_toArray, ge_iff_le, gt_iff_lt, Nat.le_refl, Int.reduceToNat, cond_true, cond_false, ↓reduceIte, reduceCtorEq, Bool.false_eq_true, Bool.not_eq_true, Nat.reduceLT, Nat.reduceLeDiff, Nat.reduceMul, Nat.reduceEqDiff, Nat.succ_ne_self, Option.some.injEq, exists_eq', putF, List.forall_mem_cons, List.not_mem_nil, false_implies, implies_true, exists_true_left, tys0, tys1, und0, und1, md12, Tryd.ntmps12, Tryd.results12, strs_len, hi', hI, hS, sg]
      · have hk' : k < row.length := by have := of_decide_eq_true v; omega
        have hK : (k : Int) < (row.length : Int) := by omega
        have w4 : IntKind.i64.wrap ((k : Int) + 1) = ((k + 1 : Nat) : Int) := by rw [w64 (by omega) (by omega)]; omega
        simp only [q0, q1, q2, q3, q4, q5, q6, q7, q8, q9, guardSlot, quietA, nilC, nilA, quietB, St.ev, St.put, St.after, List.getD_cons_succ, List.getD_cons_zero, List.length_cons, List.length_nil, Nat.reduceAdd, Nat.reduceSub, List.replicate_succ, List.replicate_zero, List.cons_append, List.nil_append, List.append_nil, List.set_cons_succ, List.set_cons_zero, ofV, ofL, lenA, binA, intBin, fltBin, strBin, cpxBin, true_and, and_true, unA, convA, convB, pickV, List.map_cons, List.map_nil, resL, oneA, indexA, indexS, isQuiet, loadA, loadC, storeA, fieldA, partA, sliceA, boundA, buildA, placeA, setAll, appendA, readSl, newEl, Int.toNat_natCast, AV.cells, AV.solid, AV.one, Int.natCast_nonneg, exists_prop, List.getElem_cons_zero, List.getElem_cons_succ, List.getElem?_cons_zero, List.getElem?_cons_succ, Nat.zero_lt_one, Option.bind_some, Option.map_some, Option.map_none, kill, killM, killL, Bool.not_true, Bool.not_false, List.all_cons, List.all_nil, Bool.and_true, Bool.true_and, List.take_zero, List.drop_zero, List.drop_succ_cons, List.take_succ_cons, Nat.zero_add, Nat.add_zero, notInt, List.getElem?_toArray, ge_iff_le, gt_iff_lt, Nat.le_refl, Int.reduceToNat, cond_true, cond_false, ↓reduceIte, reduceCtorEq, Bool.false_eq_true, Bool.not_eq_true, Nat.reduceLT, Nat.reduceLeDiff, Nat.reduceMul, Nat.reduceEqDiff, Nat.succ_ne_self, Option.some.injEq, exists_eq', putF, List.forall_mem_cons, List.not_mem_nil, false_implies, implies_true, exists_true_left, tys0, tys1, und0, und1, md12, Tryd.ntmps12, Tryd.results12, hk', hK]
        refine br_intro (fun z => ?_) (fun z => ?_) <;> simp only [q0, q1, q2, q3, q4, q5, q6, q7, q8, q9, guardSlot, quietA, nilC, nilA, quietB, St.ev, St.put, St.after, List.getD_cons_succ, List.getD_cons_zero, List.length_cons, List.length_nil, Nat.reduceAdd, Nat.reduceSub, List.replicate_succ, List.replicate_zero, List.cons_append, List.nil_append, List.append_nil, List.set_cons_succ, List.set_cons_zero, ofV, ofL, lenA, binA, intBin, fltBin, strBin, cpxBin, true_and, and_true, unA, convA, convB, pickV, List.map_cons, List.map_nil, resL, oneA, indexA, indexS, isQuiet, loadA, loadC, storeA, fieldA, partA, sliceA, boundA, buildA, placeA, setAll, appendA, readSl, newEl, Int.toNat_natCast, AV.cells, AV.solid, AV.one, Int.natCast_nonneg, exists_prop, List.getElem_cons_zero, List.getElem_cons_succ, List.getElem?_cons_zero, List.getElem?_cons_succ, Nat.zero_lt_one, Option.bind_some, Option.map_some, Option.map_none, kill, killM, killL, Bool.not_true, Bool.not_false, List.all_cons, List.all_nil, Bool.and_true, Bool.true_and, List.take_zero, List.drop_zero, List.drop_succ_cons, List.take_succ_cons, Nat.zero_add, Nat.add_zero, notInt, List.getElem?_toArray, ge_iff_le, gt_iff_lt, Nat.le_refl, Int.reduceToNat, cond_true, cond_false, ↓reduceIte, reduceCtorEq, Bool.false_eq_true, Bool.not_eq_true, Nat.reduceLT, Nat.reduceLeDiff, Nat.reduceMul, Nat.reduceEqDiff, Nat.succ_ne_self, Option.some.injEq, exists_eq', putF, List.forall_mem_cons, List.not_mem_nil, false_implies, implies_true, exists_true_left, tys0, tys1, und0, und1, md12, Tryd.ntmps12, Tryd.results12, w4]
        · have z0 : (row[k].toNat : Int) = 10 := by simpa using z
          have ez : row[k] = 10 := UInt8.toNat_inj.1 (show row[k].toNat = 10 by omega)
          rw [outJ_line hm (by rw [← ez]; exact List.getElem_mem hk')]
          exact PostR.ret
        · have ez : ¬ row[k] = 10 := fun e => by rw [e] at z; revert z; decide
          refine ⟨⟨k + 1, by omega, ?_⟩, by show row.length - (k + 1) < _; omega, ?_⟩
          · rw [take_snoc _ _ hk']
            intro m
            rcases List.mem_append.1 m with m | m
            · exact hkn m
            · exact ez (List.mem_singleton.1 m).symm
          · show Weak _ _ ⟨_, _⟩
            exact weak_drop (by simp) (by simp [DropHp, ints_below, flts_below]) (by simp [DropTm, DropV, below, belowM, belowL])
      · have hk' : k = row.length := by have := of_decide_eq_false v; omega
        rw [hk', List.take_length] at hkn
        rw [w3]
        refine ⟨⟨i + 1, by omega, by rw [n1]; exact hshort, fun x hx2 => ?_⟩, by show L.length - (i + 1) < _; omega, ?_⟩
        · rw [tk] at hx2
          rcases List.mem_append.1 hx2 with m | m
          · exact hn x m
          · rw [List.mem_singleton.1 m]; exact hkn
        · show Weak _ _ ⟨_, _⟩
          exact weak_drop (by simp) (by simp [DropHp, ints_below, flts_below, n1]) (by simp [DropTm, DropV, below, belowM, belowL, n1])
  · have hi' : i = L.length := by have := of_decide_eq_false h; omega
    rw [hi', List.take_length] at hn
    have al : L.all (fun x => !x.contains 10) = true := by
      rw [List.all_eq_true]
      exact fun x hx => by simp [hn x hx]
    refine call_ret lc rfl rfl ?_
    simp only [q0, q1, q2, q3, q4, q5, q6, q7, q8, q9, guardSlot, quietA, nilC, nilA, quietB, St.ev, St.put, St.after, List.getD_cons_succ, List.getD_cons_zero, List.length_cons, List.length_nil, Nat.reduceAdd, Nat.reduceSub, List.replicate_succ, List.replicate_zero, List.cons_append, List.nil_append, List.append_nil, List.set_cons_succ, List.set_cons_zero, ofV, ofL, lenA, binA, intBin, fltBin, strBin, cpxBin, true_and, and_true, unA, convA, convB, pickV, List.map_cons, List.map_nil, resL, oneA, indexA, indexS, isQuiet, loadA, loadC, storeA, fieldA, partA, sliceA, boundA, buildA, placeA, setAll, appendA, readSl, newEl, Int.toNat_natCast, AV.cells, AV.solid, AV.one, Int.natCast_nonneg, exists_prop, List.getElem_cons_zero, List.getElem_cons_succ, List.getElem?_cons_zero, List.getElem?_cons_succ, Nat.zero_lt_one, Option.bind_some, Option.map_some, Option.map_none, kill, killM, killL, Bool.not_true, Bool.not_false, List.all_cons, List.all_nil, Bool.and_true, Bool.true_and, List.take_zero, List.drop_zero, List.drop_succ_cons, List.take_succ_cons, Nat.zero_add, Nat.add_zero, notInt, List.getElem?_toArray, ge_iff_le, gt_iff_lt, Nat.le_refl, Int.reduceToNat, cond_true, cond_false, ↓reduceIte, reduceCtorEq, Bool.false_eq_true, Bool.not_eq_true, Nat.reduceLT, Nat.reduceLeDiff, Nat.reduceMul, Nat.reduceEqDiff, Nat.succ_ne_self, Option.some.injEq, exists_eq', putF, List.forall_mem_cons, List.not_mem_nil, false_implies, implies_true, exists_true_left, tys0, tys1, und0, und1, md12, Tryd.ntmps12, Tryd.results12]
    unfold outJ okJ
    rw [al, Bool.true_and]
    refine br_intro (fun z => ?_) (fun z => ?_) <;> simp only [q0, q1, q2, q3, q4, q5, q6, q7, q8, q9, guardSlot, quietA, nilC, nilA, quietB, St.ev, St.put, St.after, List.getD_cons_succ, List.getD_cons_zero, List.length_cons, List.length_nil, Nat.reduceAdd, Nat.reduceSub, List.replicate_succ, List.replicate_zero, List.cons_append, List.nil_append, List.append_nil, List.set_cons_succ, List.set_cons_zero, ofV, ofL, lenA, binA, intBin, fltBin, strBin, cpxBin, true_and, and_true, unA, convA, convB, pickV, List.map_cons, List.map_nil, resL, oneA, indexA, indexS, isQuiet, loadA, loadC, storeA, fieldA, partA, sliceA, boundA, buildA, placeA, setAll, appendA, readSl, newEl, Int.toNat_natCast, AV.cells, AV.solid, AV.one, Int.natCast_nonneg, exists_prop, List.getElem_cons_zero, List.getElem_cons_succ, List.getElem?_cons_zero, List.getElem?_cons_succ, Nat.zero_lt_one, Option.bind_some, Option.map_some, Option.map_none, kill, killM, killL, Bool.not_true, Bool.not_false, List.all_cons, List.all_nil, Bool.and_true, Bool.true_and, List.take_zero, List.drop_zero, List.drop_succ_cons, List.take_succ_cons, Nat.zero_add, Nat.add_zero, notInt, List.getElem?_toArray, ge_iff_le, gt_iff_lt, Nat.le_refl, Int.reduceToNat, cond_true, cond_false, ↓reduceIte, reduceCtorEq, Bool.false_eq_true, Bool.not_eq_true, Nat.reduceLT, Nat.reduceLeDiff, Nat.reduceMul, Nat.reduceEqDiff, Nat.succ_ne_self, Option.some.injEq, exists_eq', putF, List.forall_mem_cons, List.not_mem_nil, false_implies, implies_true, exists_true_left, tys0, tys1, und0, und1, md12, Tryd.ntmps12, Tryd.results12]
    · rw [decide_eq_false (by have := of_decide_eq_true z; omega)]
      exact PostR.ret
    · rw [decide_eq_true (by have := of_decide_eq_false z; omega)]
      exact PostR.ret
end Go.Proofs.YtdhomifcjakbgaaDoor
