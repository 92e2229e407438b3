/- Months that spans have: the program's functions. -/
import Derived.Test.YtadbddlekinkpaaCaC
set_option maxRecDepth 10000
set_option maxHeartbeats 8000000
set_option linter.unusedSimpArgs false
set_option linter.unusedVariables false
namespace Go.Proofs.Ytadbddlekinkpaa
open Go Go.Abs

def blB (B : List Bool) : Blk := { ty := 4, w := 1, els := bls B }
theorem flatP_mem : ∀ {P : List (Int × Int)} {x : Int}, x ∈ flatP P → ∃ p ∈ P, x = p.1 ∨ x = p.2
  | [], x, h => by cases h
  | p :: P, x, h => by
    simp only [flatP, List.mem_cons] at h
    rcases h with rfl | rfl | h
    · exact ⟨p, by simp, .inl rfl⟩
    · exact ⟨p, by simp, .inr rfl⟩
    · obtain ⟨q, hq, e⟩ := flatP_mem h
      exact ⟨q, by simp [hq], e⟩
theorem Spans.has {P : List (Int × Int)} (S : Spans P) : hasC (flatP P) 2 48 0 1500 = true := by
  have l := flatP_len P
  have h1 := S.one
  have h2 := S.most
  unfold hasC
  rw [decide_eq_true (by omega), decide_eq_true (by omega), Bool.true_and, Bool.true_and, List.all_eq_true]
  intro x hx
  obtain ⟨p, hp, e⟩ := flatP_mem hx
  obtain ⟨k1, k2, k3⟩ := S.ok p hp
  exact inR_yes (by omega) (by omega)
theorem monthsOf0_call {P : List (Int × Int)} (S : Spans P) : CallA Try.prog 18 [.ro (ints (flatP P))] [] (Ret (.tup [.sl 0 0 1500, .bool true]) [blB (mon P 1500)]) := by
  have l := flatP_len P
  have h2 := S.most
  have hc := hasCount_call (flatP P) 2 48 0 1500 (by omega)
  rw [S.has] at hc
  have ht : ((flatP P).length : Int).tmod 2 = 0 := by rw [l, Int.tmod_eq_emod_of_nonneg (by omega)]; omega
  refine CallP.out (t := .mk) (go_in (md := md18) mixed Try.func18 rfl go18 (by kernel_rfl) ?_)
  simp only [q0, q1, q2, q3, q4, q5, q6, q7, q8, q9, zq0, zq1, zq2, zq3, guardSlot, quietA, nilC, nilA, quietB, St.ev, St.put, St.after, Nat.reduceAdd, Nat.reduceSub, List.replicate_succ, ofV, ofL, lenA, binA, intBin, fltBin, strBin, cpxBin, unA, convA, convB, convO, pickV, resL, oneA, indexA, indexS, isQuiet, loadA, loadC, storeA, fieldA, partA, sliceA, boundA, buildA, placeA, setAll, appendA, readSl, newEl, AV.cells, AV.solid, AV.one, kill, killM, killL, notInt, Int.reduceToNat, cond_true, cond_false, ↓reduceIte, reduceCtorEq, Nat.reduceLT, Nat.reduceLeDiff, Nat.reduceMul, Nat.reduceEqDiff, exists_eq', putF, implies_true, exists_true_left, tys0, tys1, tys2, tys3, und0, und1, und2, md18, Try.ntmps18, Try.results18, ints_len]
  refine call_ret hc rfl rfl ?_
  simp only [q0, q1, q2, q3, q4, q5, q6, q7, q8, q9, zq0, zq1, zq2, zq3, guardSlot, quietA, nilC, nilA, quietB, St.ev, St.put, St.after, Nat.reduceAdd, Nat.reduceSub, ofV, ofL, lenA, binA, intBin, fltBin, strBin, cpxBin, unA, convA, convB, convO, pickV, resL, oneA, indexA, indexS, isQuiet, loadA, loadC, storeA, fieldA, partA, sliceA, boundA, buildA, placeA, setAll, appendA, readSl, newEl, AV.cells, AV.solid, AV.one, kill, killM, killL, notInt, Int.reduceToNat, cond_true, cond_false, ↓reduceIte, reduceCtorEq, Nat.reduceLT, Nat.reduceLeDiff, Nat.reduceMul, Nat.reduceEqDiff, exists_eq', putF, implies_true, exists_true_left, tys0, tys1, tys2, tys3, und0, und1, und2, md18, Try.ntmps18, Try.results18, ints_len, ht, bne_self_eq_false]
  refine ⟨by decide, by decide, by decide, by decide, ?_⟩
  rw [bls_zero]
  refine go_round (md := md18) mixed (by kernel_rfl) (fun i : {i : Nat // i ≤ P.length} => ⟨[.ro (ints (flatP P)), .any, .any, .any, .sl 0 0 1500, .int .i64 ((2 * i.1 : Nat) : Int), .any, .any, .any, .any, .any, .any, .any, .any, .any, .any, .any, .any, .any, .any, .any, .any, .any, .any, .any, .any, .any, .any, .any, .any, .any, .any, .any, .any, .any, .any, .any, .any, .any, .any, .any, .any, .any, .any, .any, .any, .any, .any, .any, .any], [blB (mon (P.take i.1) 1500)]⟩) (fun i => P.length - i.1) ⟨0, Nat.zero_le _⟩ ?_ ?_
  · exact weak_drop (by simp) (by simp [DropHp, ints_below, flts_below, blB, bls_below, allBelow_cons, allBelow_nil, below, belowM, belowL]) (by simp [DropTm, DropV, below, belowM, belowL, blB, bls_below, allBelow_cons, allBelow_nil, below, belowM, belowL])
  rintro ⟨i, hi⟩
  dsimp only
  simp only [q0, q1, q2, q3, q4, q5, q6, q7, q8, q9, zq0, zq1, zq2, zq3, guardSlot, quietA, nilC, nilA, quietB, St.ev, St.put, St.after, Nat.reduceAdd, Nat.reduceSub, List.replicate_succ, ofV, ofL, lenA, binA, intBin, fltBin, strBin, cpxBin, unA, convA, convB, convO, pickV, resL, oneA, indexA, indexS, isQuiet, loadA, loadC, storeA, fieldA, partA, sliceA, boundA, buildA, placeA, setAll, appendA, readSl, newEl, AV.cells, AV.solid, AV.one, kill, killM, killL, notInt, Int.reduceToNat, cond_true, cond_false, ↓reduceIte, reduceCtorEq, Nat.reduceLT, Nat.reduceLeDiff, Nat.reduceMul, Nat.reduceEqDiff, exists_eq', putF, implies_true, exists_true_left, tys0, tys1, tys2, tys3, und0, und1, und2, md18, Try.ntmps18, Try.results18, ints_len]
  refine br_intro (fun g => ?_) (fun g => ?_) <;> simp only [q0, q1, q2, q3, q4, q5, q6, q7, q8, q9, zq0, zq1, zq2, zq3, guardSlot, quietA, nilC, nilA, quietB, St.ev, St.put, St.after, Nat.reduceAdd, Nat.reduceSub, List.replicate_succ, ofV, ofL, lenA, binA, intBin, fltBin, strBin, cpxBin, unA, convA, convB, convO, pickV, resL, oneA, indexA, indexS, isQuiet, loadA, loadC, storeA, fieldA, partA, sliceA, boundA, buildA, placeA, setAll, appendA, readSl, newEl, AV.cells, AV.solid, AV.one, kill, killM, killL, notInt, Int.reduceToNat, cond_true, cond_false, ↓reduceIte, reduceCtorEq, Nat.reduceLT, Nat.reduceLeDiff, Nat.reduceMul, Nat.reduceEqDiff, exists_eq', putF, implies_true, exists_true_left, tys0, tys1, tys2, tys3, und0, und1, und2, md18, Try.ntmps18, Try.results18, ints_len]
  · have g : i < P.length := by have := of_decide_eq_true g; omega
    obtain ⟨f1, f2⟩ := flatP_get P i g
    obtain ⟨k1, k2, k3⟩ := S.ok _ (List.getElem_mem g)
    have E0 : ∀ h, (flatP P)[2 * i]'h = P[i].1 := fun h => Option.some.inj ((List.getElem?_eq_getElem h).symm.trans f1)
    have E1 : ∀ h, (flatP P)[2 * i + 1]'h = P[i].2 := fun h => Option.some.inj ((List.getElem?_eq_getElem h).symm.trans f2)
    have b1 : 2 * i < (flatP P).length := by omega
    have b2 : 2 * i + 1 < (flatP P).length := by omega
    have b1I : ((2 * i : Nat) : Int) < ((flatP P).length : Int) := by omega
    have b2I : ((2 * i + 1 : Nat) : Int) < ((flatP P).length : Int) := by omega
    have w1 : IntKind.i64.wrap (((2 * i : Nat) : Int) + 1) = ((2 * i + 1 : Nat) : Int) := by rw [w64 (by omega) (by omega)]; omega
    have w2 : IntKind.i64.wrap (((2 * i : Nat) : Int) + 2) = ((2 * (i + 1) : Nat) : Int) := by rw [w64 (by omega) (by omega)]; omega
    have tk : P.take (i + 1) = P.take i ++ [(P[i].1, P[i].2)] := by rw [List.take_succ_eq_append_getElem g]
    generalize P[i].1 = x at *
    generalize P[i].2 = y at *
    obtain ⟨f, rfl⟩ : ∃ f : Nat, x = (f : Int) := ⟨x.toNat, by omega⟩
    simp only [q0, q1, q2, q3, q4, q5, q6, q7, q8, q9, zq0, zq1, zq2, zq3, guardSlot, quietA, nilC, nilA, quietB, St.ev, St.put, St.after, Nat.reduceAdd, Nat.reduceSub, List.replicate_succ, ofV, ofL, lenA, binA, intBin, fltBin, strBin, cpxBin, unA, convA, convB, convO, pickV, resL, oneA, indexA, indexS, isQuiet, loadA, loadC, storeA, fieldA, partA, sliceA, boundA, buildA, placeA, setAll, appendA, readSl, newEl, AV.cells, AV.solid, AV.one, kill, killM, killL, notInt, Int.reduceToNat, cond_true, cond_false, ↓reduceIte, reduceCtorEq, Nat.reduceLT, Nat.reduceLeDiff, Nat.reduceMul, Nat.reduceEqDiff, exists_eq', putF, implies_true, exists_true_left, tys0, tys1, tys2, tys3, und0, und1, und2, md18, Try.ntmps18, Try.results18, ints_len, ints_get, E0, E1, b1, b2, b1I, b2I, w1]
    refine br_no (by first | exact decide_eq_false (by omega) | exact beq_false_of_ne (by omega) | (simp only [bne_eq_false_iff_eq, beq_eq_false_iff_ne, ne_eq]; omega)) ?_; simp only [q0, q1, q2, q3, q4, q5, q6, q7, q8, q9, zq0, zq1, zq2, zq3, guardSlot, quietA, nilC, nilA, quietB, St.ev, St.put, St.after, Nat.reduceAdd, Nat.reduceSub, List.replicate_succ, ofV, ofL, lenA, binA, intBin, fltBin, strBin, cpxBin, unA, convA, convB, convO, pickV, resL, oneA, indexA, indexS, isQuiet, loadA, loadC, storeA, fieldA, partA, sliceA, boundA, buildA, placeA, setAll, appendA, readSl, newEl, AV.cells, AV.solid, AV.one, kill, killM, killL, notInt, Int.reduceToNat, cond_true, cond_false, ↓reduceIte, reduceCtorEq, Nat.reduceLT, Nat.reduceLeDiff, Nat.reduceMul, Nat.reduceEqDiff, exists_eq', putF, implies_true, exists_true_left, tys0, tys1, tys2, tys3, und0, und1, und2, md18, Try.ntmps18, Try.results18, ints_len, ints_get, E0, E1, b1, b2, b1I, b2I, w1, w2]
    refine go_round (md := md18) mixed (by kernel_rfl) (fun m : {m : Nat // f ≤ m ∧ (m : Int) ≤ y} => ⟨[.ro (ints (flatP P)), .any, .any, .any, .sl 0 0 1500, .int .i64 ((2 * i : Nat) : Int), .int .i64 m.1, .any, .any, .any, .any, .any, .any, .any, .any, .any, .any, .any, .any, .any, .any, .any, .any, .any, .any, .any, .any, .any, .any, .any, .any, .any, .any, .any, .any, .any, .any, .any, .any, .any, .any, .any, .any, .any, .any, .any, .any, .any, .any, .any], [blB (mon (P.take i ++ [((f : Int), ((m.1 : Nat) : Int))]) 1500)]⟩) (fun m => y.toNat - m.1) ⟨f, Nat.le_refl _, by omega⟩ ?_ ?_
    · rw [mon_none]
      exact weak_drop (by simp) (by simp [DropHp, ints_below, flts_below, blB, bls_below, allBelow_cons, allBelow_nil, below, belowM, belowL]) (by simp [DropTm, DropV, below, belowM, belowL, blB, bls_below, allBelow_cons, allBelow_nil, below, belowM, belowL])
    rintro ⟨m, hm1, hm2⟩
    dsimp only
    simp only [q0, q1, q2, q3, q4, q5, q6, q7, q8, q9, zq0, zq1, zq2, zq3, guardSlot, quietA, nilC, nilA, quietB, St.ev, St.put, St.after, Nat.reduceAdd, Nat.reduceSub, List.replicate_succ, ofV, ofL, lenA, binA, intBin, fltBin, strBin, cpxBin, unA, convA, convB, convO, pickV, resL, oneA, indexA, indexS, isQuiet, loadA, loadC, storeA, fieldA, partA, sliceA, boundA, buildA, placeA, setAll, appendA, readSl, newEl, AV.cells, AV.solid, AV.one, kill, killM, killL, notInt, Int.reduceToNat, cond_true, cond_false, ↓reduceIte, reduceCtorEq, Nat.reduceLT, Nat.reduceLeDiff, Nat.reduceMul, Nat.reduceEqDiff, exists_eq', putF, implies_true, exists_true_left, tys0, tys1, tys2, tys3, und0, und1, und2, md18, Try.ntmps18, Try.results18, ints_len, ints_get, E0, E1, b1, b2, b1I, b2I, w1, w2, blB, bls_len, mon_len]
    refine br_intro (fun h => ?_) (fun h => ?_) <;> simp only [q0, q1, q2, q3, q4, q5, q6, q7, q8, q9, zq0, zq1, zq2, zq3, guardSlot, quietA, nilC, nilA, quietB, St.ev, St.put, St.after, Nat.reduceAdd, Nat.reduceSub, List.replicate_succ, ofV, ofL, lenA, binA, intBin, fltBin, strBin, cpxBin, unA, convA, convB, convO, pickV, resL, oneA, indexA, indexS, isQuiet, loadA, loadC, storeA, fieldA, partA, sliceA, boundA, buildA, placeA, setAll, appendA, readSl, newEl, AV.cells, AV.solid, AV.one, kill, killM, killL, notInt, Int.reduceToNat, cond_true, cond_false, ↓reduceIte, reduceCtorEq, Nat.reduceLT, Nat.reduceLeDiff, Nat.reduceMul, Nat.reduceEqDiff, exists_eq', putF, implies_true, exists_true_left, tys0, tys1, tys2, tys3, und0, und1, und2, md18, Try.ntmps18, Try.results18, ints_len, ints_get, E0, E1, b1, b2, b1I, b2I, w1, w2, blB, bls_len, mon_len]
    · have h : (m : Int) < y := by have := of_decide_eq_true h; omega
      have c1 : m < 1500 := by omega
      have c2 : (m : Int) < 1500 := by omega
      have w3 : IntKind.i64.wrap ((m : Int) + 1) = ((m + 1 : Nat) : Int) := by rw [w64 (by omega) (by omega)]; omega
      have sm := mon_set (P.take i) 1500 (f : Int) m (by omega)
      refine ⟨by omega, c1, ⟨m + 1, by omega, by omega⟩, by show y.toNat - (m + 1) < y.toNat - m; omega, ?_⟩
      rw [bls_set, sm, w3]
      have ec : ((m : Int) + 1) = ((m + 1 : Nat) : Int) := by omega
      rw [ec]
      show Weak 0 _ ⟨_, [blB (mon (P.take i ++ [((f : Int), ((m + 1 : Nat) : Int))]) 1500)]⟩
      exact weak_drop (by simp) (by simp [DropHp, ints_below, flts_below, blB, bls_below, allBelow_cons, allBelow_nil, below, belowM, belowL]) (by simp [DropTm, DropV, below, belowM, belowL, blB, bls_below, allBelow_cons, allBelow_nil, below, belowM, belowL])
    · have h : y = (m : Int) := by have := of_decide_eq_false h; omega
      subst h
      refine ⟨⟨i + 1, by omega⟩, by show P.length - (i + 1) < P.length - i; omega, ?_⟩
      rw [← tk]
      show Weak 0 _ ⟨_, [blB (mon (P.take (i + 1)) 1500)]⟩
      exact weak_drop (by simp) (by simp [DropHp, ints_below, flts_below, blB, bls_below, allBelow_cons, allBelow_nil, below, belowM, belowL]) (by simp [DropTm, DropV, below, belowM, belowL, blB, bls_below, allBelow_cons, allBelow_nil, below, belowM, belowL])
  · have g : i = P.length := by have := of_decide_eq_false g; omega
    subst g
    rw [List.take_length]
    exact PostR.ret
theorem monthsOf_call {P : List (Int × Int)} (S : Spans P) : CallA Try.prog 18 [.ro (ints (flatP P))] [] (Ret (.tup [.ro (bls (mon P 1500)), .bool true]) []) := by
  refine (monthsOf0_call S).frozen 3 ?_
  have lb : (bls (mon P 1500)).length = 1500 := by rw [bls_len, mon_len]
  have hv : (bls (mon P 1500)).map (view 1 [blB (mon P 1500)]) = bls (mon P 1500) := by
    unfold bls
    rw [List.map_map]
    exact List.map_congr_left fun b _ => rfl
  have ht : List.take 1500 (bls (mon P 1500)) = bls (mon P 1500) := List.take_of_length_le (by omega)
  generalize mon P 1500 = B at lb hv ht
  simp only [blB] at hv ⊢
  simp only [view_tup, List.map_cons, List.map_nil, view_bool, view_sl, List.getElem?_cons_zero, List.drop_zero, ht, hv, lb, Nat.zero_add, Nat.le_refl, decide_true, Bool.and_self, if_true]
theorem countMonths_call {P : List (Int × Int)} (S : Spans P) : CallA Try.prog 6 [.ro (ints (flatP P))] [] (Ret (.tup [.int .i64 ((cntB (mon P 1500) 1500 : Nat) : Int), .bool true]) []) := by
  have mc := monthsOf_call S
  have ml := mon_len P 1500
  generalize mon P 1500 = B at mc ml
  refine CallP.out (t := .mk) (go_in (md := md6) mixed Try.func6 rfl go6 (by kernel_rfl) ?_)
  simp only [q0, q1, q2, q3, q4, q5, q6, q7, q8, q9, zq0, zq1, zq2, zq3, guardSlot, quietA, nilC, nilA, quietB, St.ev, St.put, St.after, Nat.reduceAdd, Nat.reduceSub, List.replicate_succ, ofV, ofL, lenA, binA, intBin, fltBin, strBin, cpxBin, unA, convA, convB, convO, pickV, resL, oneA, indexA, indexS, isQuiet, loadA, loadC, storeA, fieldA, partA, sliceA, boundA, buildA, placeA, setAll, appendA, readSl, newEl, AV.cells, AV.solid, AV.one, kill, killM, killL, notInt, Int.reduceToNat, cond_true, cond_false, ↓reduceIte, reduceCtorEq, Nat.reduceLT, Nat.reduceLeDiff, Nat.reduceMul, Nat.reduceEqDiff, exists_eq', putF, implies_true, exists_true_left, tys0, tys1, tys2, tys3, und0, und1, und2, md6, Try.ntmps6, Try.results6]
  refine call_ret mc rfl rfl ?_
  simp only [q0, q1, q2, q3, q4, q5, q6, q7, q8, q9, zq0, zq1, zq2, zq3, guardSlot, quietA, nilC, nilA, quietB, St.ev, St.put, St.after, Nat.reduceAdd, Nat.reduceSub, List.replicate_succ, ofV, ofL, lenA, binA, intBin, fltBin, strBin, cpxBin, unA, convA, convB, convO, pickV, resL, oneA, indexA, indexS, isQuiet, loadA, loadC, storeA, fieldA, partA, sliceA, boundA, buildA, placeA, setAll, appendA, readSl, newEl, AV.cells, AV.solid, AV.one, kill, killM, killL, notInt, Int.reduceToNat, cond_true, cond_false, ↓reduceIte, reduceCtorEq, Nat.reduceLT, Nat.reduceLeDiff, Nat.reduceMul, Nat.reduceEqDiff, exists_eq', putF, implies_true, exists_true_left, tys0, tys1, tys2, tys3, und0, und1, und2, md6, Try.ntmps6, Try.results6, bls_len, ml]
  refine go_round (md := md6) mixed (by kernel_rfl) (fun i : {i : Nat // i ≤ 1500} => ⟨[.any, .any, .any, .any, .any, .any, .int .i64 ((cntB B i.1 : Nat) : Int), .any, .any, .any, .any, .any, .any, .any, .any, .any, .ro (bls B), .int .i64 1500, .int .i64 i.1, .any, .any, .any, .any, .any, .any, .any, .any], []⟩) (fun i => 1500 - i.1) ⟨0, by omega⟩ ?_ ?_
  · exact weak_drop (by simp) (by simp [DropHp, ints_below, flts_below, cntB_zero]) (by simp [DropTm, DropV, below, belowM, belowL, cntB_zero])
  rintro ⟨i, hi⟩
  dsimp only
  simp only [q0, q1, q2, q3, q4, q5, q6, q7, q8, q9, zq0, zq1, zq2, zq3, guardSlot, quietA, nilC, nilA, quietB, St.ev, St.put, St.after, Nat.reduceAdd, Nat.reduceSub, List.replicate_succ, ofV, ofL, lenA, binA, intBin, fltBin, strBin, cpxBin, unA, convA, convB, convO, pickV, resL, oneA, indexA, indexS, isQuiet, loadA, loadC, storeA, fieldA, partA, sliceA, boundA, buildA, placeA, setAll, appendA, readSl, newEl, AV.cells, AV.solid, AV.one, kill, killM, killL, notInt, Int.reduceToNat, cond_true, cond_false, ↓reduceIte, reduceCtorEq, Nat.reduceLT, Nat.reduceLeDiff, Nat.reduceMul, Nat.reduceEqDiff, exists_eq', putF, implies_true, exists_true_left, tys0, tys1, tys2, tys3, und0, und1, und2, md6, Try.ntmps6, Try.results6, bls_len, ml]
  refine br_intro (fun g => ?_) (fun g => ?_) <;> simp only [q0, q1, q2, q3, q4, q5, q6, q7, q8, q9, zq0, zq1, zq2, zq3, guardSlot, quietA, nilC, nilA, quietB, St.ev, St.put, St.after, Nat.reduceAdd, Nat.reduceSub, List.replicate_succ, ofV, ofL, lenA, binA, intBin, fltBin, strBin, cpxBin, unA, convA, convB, convO, pickV, resL, oneA, indexA, indexS, isQuiet, loadA, loadC, storeA, fieldA, partA, sliceA, boundA, buildA, placeA, setAll, appendA, readSl, newEl, AV.cells, AV.solid, AV.one, kill, killM, killL, notInt, Int.reduceToNat, cond_true, cond_false, ↓reduceIte, reduceCtorEq, Nat.reduceLT, Nat.reduceLeDiff, Nat.reduceMul, Nat.reduceEqDiff, exists_eq', putF, implies_true, exists_true_left, tys0, tys1, tys2, tys3, und0, und1, und2, md6, Try.ntmps6, Try.results6, bls_len, ml]
  · have g : i < 1500 := by have := of_decide_eq_true g; omega
    have gi : (i : Int) < 1500 := by omega
    have cs := cntB_succ B i (by omega)
    have cl : cntB B i ≤ i := by
      have := List.count_le_length (a := true) (l := B.take i)
      rw [List.length_take] at this
      unfold cntB
      omega
    have w1 : IntKind.i64.wrap ((i : Int) + 1) = ((i + 1 : Nat) : Int) := by rw [w64 (by omega) (by omega)]; omega
    have w2 : IntKind.i64.wrap (((cntB B i : Nat) : Int) + 1) = ((cntB B i + 1 : Nat) : Int) := by rw [w64 (by omega) (by omega)]; omega
    have gb : i < B.length := by omega
    simp only [q0, q1, q2, q3, q4, q5, q6, q7, q8, q9, zq0, zq1, zq2, zq3, guardSlot, quietA, nilC, nilA, quietB, St.ev, St.put, St.after, Nat.reduceAdd, Nat.reduceSub, List.replicate_succ, ofV, ofL, lenA, binA, intBin, fltBin, strBin, cpxBin, unA, convA, convB, convO, pickV, resL, oneA, indexA, indexS, isQuiet, loadA, loadC, storeA, fieldA, partA, sliceA, boundA, buildA, placeA, setAll, appendA, readSl, newEl, AV.cells, AV.solid, AV.one, kill, killM, killL, notInt, Int.reduceToNat, cond_true, cond_false, ↓reduceIte, reduceCtorEq, Nat.reduceLT, Nat.reduceLeDiff, Nat.reduceMul, Nat.reduceEqDiff, exists_eq', putF, implies_true, exists_true_left, tys0, tys1, tys2, tys3, und0, und1, und2, md6, Try.ntmps6, Try.results6, bls_len, ml, bls_get, g, gi, gb]
    refine br_intro (fun e => ?_) (fun e => ?_) <;> simp only [q0, q1, q2, q3, q4, q5, q6, q7, q8, q9, zq0, zq1, zq2, zq3, guardSlot, quietA, nilC, nilA, quietB, St.ev, St.put, St.after, Nat.reduceAdd, Nat.reduceSub, List.replicate_succ, ofV, ofL, lenA, binA, intBin, fltBin, strBin, cpxBin, unA, convA, convB, convO, pickV, resL, oneA, indexA, indexS, isQuiet, loadA, loadC, storeA, fieldA, partA, sliceA, boundA, buildA, placeA, setAll, appendA, readSl, newEl, AV.cells, AV.solid, AV.one, kill, killM, killL, notInt, Int.reduceToNat, cond_true, cond_false, ↓reduceIte, reduceCtorEq, Nat.reduceLT, Nat.reduceLeDiff, Nat.reduceMul, Nat.reduceEqDiff, exists_eq', putF, implies_true, exists_true_left, tys0, tys1, tys2, tys3, und0, und1, und2, md6, Try.ntmps6, Try.results6, bls_len, ml, w1, w2]
    · rw [e, if_pos rfl] at cs
      refine ⟨⟨i + 1, by omega⟩, by show 1500 - (i + 1) < 1500 - i; omega, ?_⟩
      rw [← cs]
      exact weak_drop (by simp) (by simp [DropHp, ints_below, flts_below]) (by simp [DropTm, DropV, below, belowM, belowL])
    · rw [e, if_neg (by decide)] at cs
      refine ⟨⟨i + 1, by omega⟩, by show 1500 - (i + 1) < 1500 - i; omega, ?_⟩
      show Weak 0 _ ⟨_, _⟩
      dsimp only
      rw [cs]
      exact weak_drop (by simp) (by simp [DropHp, ints_below, flts_below]) (by simp [DropTm, DropV, below, belowM, belowL])
  · have g : i = 1500 := by have := of_decide_eq_false g; omega
    subst g
    exact PostR.ret
def WaitIs (B : List Bool) (M : Nat) : Option Nat → Prop
  | some e => e < B.length ∧ cntB B (e + 1) = M ∧ ∀ m, m < e → cntB B (m + 1) ≠ M
  | none => ∀ m, m < B.length → cntB B (m + 1) ≠ M
def waitA : Option Nat → AV
  | some e => .tup [.int .i64 ((e + 1 : Nat) : Int), .bool true]
  | none => .tup [.int .i64 0, .bool false]
theorem waitEnd_call {P : List (Int × Int)} (S : Spans P) (M : Nat) (h1 : 1 ≤ M) (h2 : M ≤ 1500) {w : Option Nat} (hw : WaitIs (mon P 1500) M w) : CallA Try.prog 8 [.ro (ints (flatP P)), .int .i64 M] [] (Ret (waitA w) []) := by
  have mc := monthsOf_call S
  have ml := mon_len P 1500
  generalize mon P 1500 = B at mc ml hw
  have wc := within_call (M : Int) 0 1500
  rw [inR_yes (by omega) (by omega)] at wc
  have mz : (((M : Nat) : Int) == 0) = false := by simp; omega
  refine CallP.out (t := .mk) (go_in (md := md8) mixed Try.func8 rfl go8 (by kernel_rfl) ?_)
  simp only [q0, q1, q2, q3, q4, q5, q6, q7, q8, q9, zq0, zq1, zq2, zq3, guardSlot, quietA, nilC, nilA, quietB, St.ev, St.put, St.after, Nat.reduceAdd, Nat.reduceSub, List.replicate_succ, ofV, ofL, lenA, binA, intBin, fltBin, strBin, cpxBin, unA, convA, convB, convO, pickV, resL, oneA, indexA, indexS, isQuiet, loadA, loadC, storeA, fieldA, partA, sliceA, boundA, buildA, placeA, setAll, appendA, readSl, newEl, AV.cells, AV.solid, AV.one, kill, killM, killL, notInt, Int.reduceToNat, cond_true, cond_false, ↓reduceIte, reduceCtorEq, Nat.reduceLT, Nat.reduceLeDiff, Nat.reduceMul, Nat.reduceEqDiff, exists_eq', putF, implies_true, exists_true_left, tys0, tys1, tys2, tys3, und0, und1, und2, md8, Try.ntmps8, Try.results8]
  refine call_ret mc rfl rfl ?_
  simp only [q0, q1, q2, q3, q4, q5, q6, q7, q8, q9, zq0, zq1, zq2, zq3, guardSlot, quietA, nilC, nilA, quietB, St.ev, St.put, St.after, Nat.reduceAdd, Nat.reduceSub, List.replicate_succ, ofV, ofL, lenA, binA, intBin, fltBin, strBin, cpxBin, unA, convA, convB, convO, pickV, resL, oneA, indexA, indexS, isQuiet, loadA, loadC, storeA, fieldA, partA, sliceA, boundA, buildA, placeA, setAll, appendA, readSl, newEl, AV.cells, AV.solid, AV.one, kill, killM, killL, notInt, Int.reduceToNat, cond_true, cond_false, ↓reduceIte, reduceCtorEq, Nat.reduceLT, Nat.reduceLeDiff, Nat.reduceMul, Nat.reduceEqDiff, exists_eq', putF, implies_true, exists_true_left, tys0, tys1, tys2, tys3, und0, und1, und2, md8, Try.ntmps8, Try.results8, bls_len, ml]
  refine call_ret wc rfl rfl ?_
  simp only [q0, q1, q2, q3, q4, q5, q6, q7, q8, q9, zq0, zq1, zq2, zq3, guardSlot, quietA, nilC, nilA, quietB, St.ev, St.put, St.after, Nat.reduceAdd, Nat.reduceSub, List.replicate_succ, ofV, ofL, lenA, binA, intBin, fltBin, strBin, cpxBin, unA, convA, convB, convO, pickV, resL, oneA, indexA, indexS, isQuiet, loadA, loadC, storeA, fieldA, partA, sliceA, boundA, buildA, placeA, setAll, appendA, readSl, newEl, AV.cells, AV.solid, AV.one, kill, killM, killL, notInt, Int.reduceToNat, cond_true, cond_false, ↓reduceIte, reduceCtorEq, Nat.reduceLT, Nat.reduceLeDiff, Nat.reduceMul, Nat.reduceEqDiff, exists_eq', putF, implies_true, exists_true_left, tys0, tys1, tys2, tys3, und0, und1, und2, md8, Try.ntmps8, Try.results8, bls_len, ml, mz]
  refine go_round (md := md8) mixed (by kernel_rfl) (fun i : {i : Nat // i ≤ 1500 ∧ cntB B i < M ∧ ∀ m, m < i → cntB B (m + 1) ≠ M} => ⟨[.any, .int .i64 ((M - cntB B i.1 : Nat) : Int), .any, .any, .any, .any, .any, .any, .any, .any, .any, .any, .any, .any, .any, .any, .any, .any, .any, .any, .any, .any, .any, .any, .ro (bls B), .int .i64 1500, .int .i64 i.1, .any, .any, .any, .any, .any, .any, .any, .any, .any, .any, .any, .any], []⟩) (fun i => 1500 - i.1) ⟨0, by omega, by rw [cntB_zero]; omega, fun m hm => absurd hm (by omega)⟩ ?_ ?_
  · exact weak_drop (by simp) (by simp [DropHp, ints_below, flts_below, cntB_zero]) (by simp [DropTm, DropV, below, belowM, belowL, cntB_zero])
  rintro ⟨i, hi, hc, hb⟩
  dsimp only
  simp only [q0, q1, q2, q3, q4, q5, q6, q7, q8, q9, zq0, zq1, zq2, zq3, guardSlot, quietA, nilC, nilA, quietB, St.ev, St.put, St.after, Nat.reduceAdd, Nat.reduceSub, List.replicate_succ, ofV, ofL, lenA, binA, intBin, fltBin, strBin, cpxBin, unA, convA, convB, convO, pickV, resL, oneA, indexA, indexS, isQuiet, loadA, loadC, storeA, fieldA, partA, sliceA, boundA, buildA, placeA, setAll, appendA, readSl, newEl, AV.cells, AV.solid, AV.one, kill, killM, killL, notInt, Int.reduceToNat, cond_true, cond_false, ↓reduceIte, reduceCtorEq, Nat.reduceLT, Nat.reduceLeDiff, Nat.reduceMul, Nat.reduceEqDiff, exists_eq', putF, implies_true, exists_true_left, tys0, tys1, tys2, tys3, und0, und1, und2, md8, Try.ntmps8, Try.results8, bls_len, ml]
  refine br_intro (fun g => ?_) (fun g => ?_) <;> simp only [q0, q1, q2, q3, q4, q5, q6, q7, q8, q9, zq0, zq1, zq2, zq3, guardSlot, quietA, nilC, nilA, quietB, St.ev, St.put, St.after, Nat.reduceAdd, Nat.reduceSub, List.replicate_succ, ofV, ofL, lenA, binA, intBin, fltBin, strBin, cpxBin, unA, convA, convB, convO, pickV, resL, oneA, indexA, indexS, isQuiet, loadA, loadC, storeA, fieldA, partA, sliceA, boundA, buildA, placeA, setAll, appendA, readSl, newEl, AV.cells, AV.solid, AV.one, kill, killM, killL, notInt, Int.reduceToNat, cond_true, cond_false, ↓reduceIte, reduceCtorEq, Nat.reduceLT, Nat.reduceLeDiff, Nat.reduceMul, Nat.reduceEqDiff, exists_eq', putF, implies_true, exists_true_left, tys0, tys1, tys2, tys3, und0, und1, und2, md8, Try.ntmps8, Try.results8, bls_len, ml]
  · have g : i < 1500 := by have := of_decide_eq_true g; omega
    have gi : (i : Int) < 1500 := by omega
    have cs := cntB_succ B i (by omega)
    have gb : i < B.length := by omega
    have w1 : IntKind.i64.wrap ((i : Int) + 1) = ((i + 1 : Nat) : Int) := by rw [w64 (by omega) (by omega)]; omega
    have w2 : IntKind.i64.wrap (((M - cntB B i : Nat) : Int) - 1) = ((M - cntB B i - 1 : Nat) : Int) := by rw [w64 (by omega) (by omega)]; omega
    have w3 : IntKind.i64.wrap ((i : Int) + 1) = (i : Int) + 1 := w64 (by omega) (by omega)
    have fin : cntB B (i + 1) = M → w = some i := fun hm => by
      cases w with
      | none => exact absurd hm (hw i (by omega))
      | some e =>
        obtain ⟨k1, k2, k3⟩ := hw
        congr 1
        rcases Nat.lt_trichotomy e i with hl | hl | hl
        · exact absurd k2 (hb e hl)
        · exact hl
        · exact absurd hm (k3 i hl)
    have step : cntB B (i + 1) ≠ M → cntB B (i + 1) < M ∧ ∀ m, m < i + 1 → cntB B (m + 1) ≠ M := fun hm => by
      refine ⟨by rw [cs] at hm ⊢; split at hm <;> split <;> simp_all <;> omega, fun m hmi => ?_⟩
      rcases Nat.lt_or_ge m i with hl | hl
      · exact hb m hl
      · rw [show m = i by omega]; exact hm
    simp only [q0, q1, q2, q3, q4, q5, q6, q7, q8, q9, zq0, zq1, zq2, zq3, guardSlot, quietA, nilC, nilA, quietB, St.ev, St.put, St.after, Nat.reduceAdd, Nat.reduceSub, List.replicate_succ, ofV, ofL, lenA, binA, intBin, fltBin, strBin, cpxBin, unA, convA, convB, convO, pickV, resL, oneA, indexA, indexS, isQuiet, loadA, loadC, storeA, fieldA, partA, sliceA, boundA, buildA, placeA, setAll, appendA, readSl, newEl, AV.cells, AV.solid, AV.one, kill, killM, killL, notInt, Int.reduceToNat, cond_true, cond_false, ↓reduceIte, reduceCtorEq, Nat.reduceLT, Nat.reduceLeDiff, Nat.reduceMul, Nat.reduceEqDiff, exists_eq', putF, implies_true, exists_true_left, tys0, tys1, tys2, tys3, und0, und1, und2, md8, Try.ntmps8, Try.results8, bls_len, ml, bls_get, g, gi, gb]
    refine br_intro (fun e => ?_) (fun e => ?_) <;> simp only [q0, q1, q2, q3, q4, q5, q6, q7, q8, q9, zq0, zq1, zq2, zq3, guardSlot, quietA, nilC, nilA, quietB, St.ev, St.put, St.after, Nat.reduceAdd, Nat.reduceSub, List.replicate_succ, ofV, ofL, lenA, binA, intBin, fltBin, strBin, cpxBin, unA, convA, convB, convO, pickV, resL, oneA, indexA, indexS, isQuiet, loadA, loadC, storeA, fieldA, partA, sliceA, boundA, buildA, placeA, setAll, appendA, readSl, newEl, AV.cells, AV.solid, AV.one, kill, killM, killL, notInt, Int.reduceToNat, cond_true, cond_false, ↓reduceIte, reduceCtorEq, Nat.reduceLT, Nat.reduceLeDiff, Nat.reduceMul, Nat.reduceEqDiff, exists_eq', putF, implies_true, exists_true_left, tys0, tys1, tys2, tys3, und0, und1, und2, md8, Try.ntmps8, Try.results8, bls_len, ml, w2]
    · rw [e, if_pos rfl] at cs
      refine br_intro (fun z => ?_) (fun z => ?_) <;> simp only [q0, q1, q2, q3, q4, q5, q6, q7, q8, q9, zq0, zq1, zq2, zq3, guardSlot, quietA, nilC, nilA, quietB, St.ev, St.put, St.after, Nat.reduceAdd, Nat.reduceSub, List.replicate_succ, ofV, ofL, lenA, binA, intBin, fltBin, strBin, cpxBin, unA, convA, convB, convO, pickV, resL, oneA, indexA, indexS, isQuiet, loadA, loadC, storeA, fieldA, partA, sliceA, boundA, buildA, placeA, setAll, appendA, readSl, newEl, AV.cells, AV.solid, AV.one, kill, killM, killL, notInt, Int.reduceToNat, cond_true, cond_false, ↓reduceIte, reduceCtorEq, Nat.reduceLT, Nat.reduceLeDiff, Nat.reduceMul, Nat.reduceEqDiff, exists_eq', putF, implies_true, exists_true_left, tys0, tys1, tys2, tys3, und0, und1, und2, md8, Try.ntmps8, Try.results8, bls_len, ml, w2, w3]
      · have z : cntB B (i + 1) = M := by simp at z; omega
        rw [fin z]
        exact PostR.pure ⟨rfl, rfl⟩ rfl
      · have z : cntB B (i + 1) ≠ M := by simp at z; omega
        obtain ⟨s1, s2⟩ := step z
        refine ⟨⟨i + 1, by omega, s1, s2⟩, by show 1500 - (i + 1) < 1500 - i; omega, ?_⟩
        show Weak 0 _ ⟨_, _⟩
        rw [show M - cntB B i - 1 = M - cntB B (i + 1) by omega]
        exact weak_drop (by simp) (by simp [DropHp, ints_below, flts_below, w1]) (by simp [DropTm, DropV, below, belowM, belowL, w1])
    · rw [e, if_neg (by decide)] at cs
      refine br_intro (fun z => ?_) (fun z => ?_) <;> simp only [q0, q1, q2, q3, q4, q5, q6, q7, q8, q9, zq0, zq1, zq2, zq3, guardSlot, quietA, nilC, nilA, quietB, St.ev, St.put, St.after, Nat.reduceAdd, Nat.reduceSub, List.replicate_succ, ofV, ofL, lenA, binA, intBin, fltBin, strBin, cpxBin, unA, convA, convB, convO, pickV, resL, oneA, indexA, indexS, isQuiet, loadA, loadC, storeA, fieldA, partA, sliceA, boundA, buildA, placeA, setAll, appendA, readSl, newEl, AV.cells, AV.solid, AV.one, kill, killM, killL, notInt, Int.reduceToNat, cond_true, cond_false, ↓reduceIte, reduceCtorEq, Nat.reduceLT, Nat.reduceLeDiff, Nat.reduceMul, Nat.reduceEqDiff, exists_eq', putF, implies_true, exists_true_left, tys0, tys1, tys2, tys3, und0, und1, und2, md8, Try.ntmps8, Try.results8, bls_len, ml, w2, w3]
      · have z : M - cntB B i = 0 := by simp at z; omega
        omega
      · have z : cntB B (i + 1) ≠ M := by omega
        obtain ⟨s1, s2⟩ := step z
        refine ⟨⟨i + 1, by omega, s1, s2⟩, by show 1500 - (i + 1) < 1500 - i; omega, ?_⟩
        show Weak 0 _ ⟨_, _⟩
        dsimp only
        rw [cs, Nat.add_zero]
        exact weak_drop (by simp) (by simp [DropHp, ints_below, flts_below, w1]) (by simp [DropTm, DropV, below, belowM, belowL, w1])
  · have g : i = 1500 := by have := of_decide_eq_false g; omega
    subst g
    cases w with
    | none => exact PostR.pure ⟨rfl, rfl⟩ rfl
    | some e => exact absurd hw.2.1 (hb e (by have := hw.1; omega))
end Go.Proofs.Ytadbddlekinkpaa
