/- Texts of rules; numbers in bytes; the program's side of what is stored. -/
import Derived.Test.YtigipcckflcilaaGreatDoorStH
set_option maxRecDepth 10000
set_option maxHeartbeats 4000000
set_option linter.unusedSimpArgs false
set_option linter.unusedVariables false
namespace Go.Proofs.YtigipcckflcilaaGreatDoor
open Go Go.Abs

def rulesT : List Rul → List UInt8
  | [] => []
  | r :: R => ruleT r ++ [10] ++ rulesT R
theorem rulesT_snoc (r : Rul) : ∀ R, rulesT (R ++ [r]) = rulesT R ++ (ruleT r ++ [10])
  | [] => by simp [rulesT]
  | q :: R => by rw [List.cons_append, rulesT, rulesT_snoc r R, rulesT]; simp only [List.append_assoc]
theorem rulesT_take (R : List Rul) (i : Nat) (h : i < R.length) : rulesT (R.take (i + 1)) = rulesT (R.take i) ++ (ruleT R[i] ++ [10]) := by rw [take_snoc _ _ h, rulesT_snoc]
theorem rulesT_len : ∀ (R : List Rul), (∀ r ∈ R, OkR r) → (rulesT R).length ≤ R.length * 241
  | [], _ => by simp [rulesT]
  | r :: R, h => by
    have h1 := ruleT_len (h r List.mem_cons_self)
    have h2 := rulesT_len R (fun q hq => h q (List.mem_cons_of_mem _ hq))
    rw [rulesT]
    simp only [List.length_append, List.length_cons, List.length_nil]
    omega
theorem inR_of {lo hi n : Int} (h : inR lo hi n = true) (h1 : -9223372036854775807 ≤ lo) (h2 : hi ≤ 9223372036854775807) : okJ n := by
  have := inR_iff.1 h
  unfold okJ; omega
theorem okR_of {r : Rul} (h : ruleB r = true) : OkR r := by
  unfold ruleB at h
  simp only [Bool.and_eq_true, decide_eq_true_eq] at h
  obtain ⟨⟨⟨⟨⟨hw, hn, hi⟩, ha⟩, hb⟩, _⟩, hc⟩ := h
  have wl := wordB_low hw
  refine ⟨by unfold okJ; omega, hn, fun x hx => ?_, inR_of ha (by decide) (by decide), inR_of hb (by decide) (by decide), inR_of hc (by decide) (by decide)⟩
  obtain ⟨j, hj, rfl⟩ := List.getElem_of_mem hx
  have := pref_at hi j hj
  unfold wordP at this
  simp only [Bool.and_eq_true] at this
  rw [getD_at _ _ _ hj] at this
  have := wordB_low this.1
  unfold okJ; omega
theorem rulesB_ok {R : List Rul} (h : rulesB R = true) : R.length ≤ 24 ∧ ∀ r ∈ R, OkR r := by
  unfold rulesB at h
  simp only [Bool.and_eq_true, decide_eq_true_eq, List.all_eq_true] at h
  exact ⟨h.2, fun r hr => okR_of (h.1 r hr)⟩
theorem specRulesText_call (R : List Rul) (hR : rulesB R = true) : CallA Tryz.prog 18 [.ro (R.map rulA)] [] (Ret (.tup [.str (rulesT R), .bool true]) []) := by
  obtain ⟨hm, hr⟩ := rulesB_ok hR
  have lr := l05Rules_call R (by omega) (fun r h => by have := (hr r h).n; omega)
  rw [hR] at lr
  refine CallP.out (t := .mk) (go_in (md := md18) mixed Tryz.func18 rfl go18 (by kernel_rfl) ?_)
  simp only [q0, q1, q2, q3, q4, q5, q6, q7, q8, q9, zq0, zq1, zq2, zq3, zq4, guardSlot, quietA, nilC, nilA, quietB, St.ev, St.put, St.after, Nat.reduceAdd, Nat.reduceSub, ofV, ofL, lenA, binA, intBin, fltBin, strBin, cpxBin, unA, convA, convB, convO, pickV, resL, oneA, indexA, indexS, isQuiet, loadA, loadC, storeA, fieldA, partA, sliceA, boundA, buildA, placeA, setAll, appendA, readSl, newEl, AV.cells, AV.solid, AV.one, kill, killM, killL, notInt, Int.reduceToNat, cond_true, cond_false, ↓reduceIte, reduceCtorEq, Nat.reduceLT, Nat.reduceLeDiff, Nat.reduceMul, Nat.reduceEqDiff, exists_eq', putF, implies_true, exists_true_left, tys0, tys1, tys2, und0, und1, md18, Tryz.ntmps18, Tryz.results18, List.length_map]
  refine call_ret lr rfl rfl ?_
  simp only [q0, q1, q2, q3, q4, q5, q6, q7, q8, q9, zq0, zq1, zq2, zq3, zq4, guardSlot, quietA, nilC, nilA, quietB, St.ev, St.put, St.after, Nat.reduceAdd, Nat.reduceSub, ofV, ofL, lenA, binA, intBin, fltBin, strBin, cpxBin, unA, convA, convB, convO, pickV, resL, oneA, indexA, indexS, isQuiet, loadA, loadC, storeA, fieldA, partA, sliceA, boundA, buildA, placeA, setAll, appendA, readSl, newEl, AV.cells, AV.solid, AV.one, kill, killM, killL, notInt, Int.reduceToNat, cond_true, cond_false, ↓reduceIte, reduceCtorEq, Nat.reduceLT, Nat.reduceLeDiff, Nat.reduceMul, Nat.reduceEqDiff, exists_eq', putF, implies_true, exists_true_left, tys0, tys1, tys2, und0, und1, md18, Tryz.ntmps18, Tryz.results18, List.length_map]
  refine go_round (md := md18) mixed (by kernel_rfl) (fun i : {i : Nat // i ≤ R.length} => ⟨[.ro (R.map rulA), .any, .any, .any, .str (rulesT (R.take i.1)), .any, .any, .any, .any, .any, .int .i64 R.length, .int .i64 i.1, .any, .any, .any, .any, .any, .any, .any, .any, .any, .any, .any], []⟩) (fun i => R.length - i.1) ⟨0, by omega⟩ ?_ ?_
  · exact weak_drop (by simp) (by simp [DropHp, ints_below, flts_below, rulesT]) (by simp [DropTm, DropV, below, belowM, belowL, rulesT])
  rintro ⟨i, hi⟩
  have tl := rulesT_len (R.take i) (fun r h => hr r (List.mem_of_mem_take h))
  have tk : (R.take i).length = i := by rw [List.length_take]; omega
  have nx := fun h : i < R.length => rulesT_take R i h
  generalize hT : rulesT (R.take i) = T at tl nx
  simp only [q0, q1, q2, q3, q4, q5, q6, q7, q8, q9, zq0, zq1, zq2, zq3, zq4, guardSlot, quietA, nilC, nilA, quietB, St.ev, St.put, St.after, Nat.reduceAdd, Nat.reduceSub, ofV, ofL, lenA, binA, intBin, fltBin, strBin, cpxBin, unA, convA, convB, convO, pickV, resL, oneA, indexA, indexS, isQuiet, loadA, loadC, storeA, fieldA, partA, sliceA, boundA, buildA, placeA, setAll, appendA, readSl, newEl, AV.cells, AV.solid, AV.one, kill, killM, killL, notInt, Int.reduceToNat, cond_true, cond_false, ↓reduceIte, reduceCtorEq, Nat.reduceLT, Nat.reduceLeDiff, Nat.reduceMul, Nat.reduceEqDiff, exists_eq', putF, implies_true, exists_true_left, tys0, tys1, tys2, und0, und1, md18, Tryz.ntmps18, Tryz.results18, List.length_map, List.getElem_map]
  refine br_intro (fun g => ?_) (fun g => ?_) <;> simp only [q0, q1, q2, q3, q4, q5, q6, q7, q8, q9, zq0, zq1, zq2, zq3, zq4, guardSlot, quietA, nilC, nilA, quietB, St.ev, St.put, St.after, Nat.reduceAdd, Nat.reduceSub, ofV, ofL, lenA, binA, intBin, fltBin, strBin, cpxBin, unA, convA, convB, convO, pickV, resL, oneA, indexA, indexS, isQuiet, loadA, loadC, storeA, fieldA, partA, sliceA, boundA, buildA, placeA, setAll, appendA, readSl, newEl, AV.cells, AV.solid, AV.one, kill, killM, killL, notInt, Int.reduceToNat, cond_true, cond_false, ↓reduceIte, reduceCtorEq, Nat.reduceLT, Nat.reduceLeDiff, Nat.reduceMul, Nat.reduceEqDiff, exists_eq', putF, implies_true, exists_true_left, tys0, tys1, tys2, und0, und1, md18, Tryz.ntmps18, Tryz.results18, List.length_map, List.getElem_map]
  · have hi' : i < R.length := by have := of_decide_eq_true g; omega
    have hI : (i : Int) < (R.length : Int) := by omega
    have nx := nx hi'
    have ok := hr _ (List.getElem_mem hi')
    have rl := ruleT_len ok
    have lt := l05Text_call R[i] ok
    have w1 : IntKind.i64.wrap ((i : Int) + 1) = ((i + 1 : Nat) : Int) := by rw [w64 (by omega) (by omega)]; omega
    simp only [q0, q1, q2, q3, q4, q5, q6, q7, q8, q9, zq0, zq1, zq2, zq3, zq4, guardSlot, quietA, nilC, nilA, quietB, St.ev, St.put, St.after, Nat.reduceAdd, Nat.reduceSub, ofV, ofL, lenA, binA, intBin, fltBin, strBin, cpxBin, unA, convA, convB, convO, pickV, resL, oneA, indexA, indexS, isQuiet, loadA, loadC, storeA, fieldA, partA, sliceA, boundA, buildA, placeA, setAll, appendA, readSl, newEl, AV.cells, AV.solid, AV.one, kill, killM, killL, notInt, Int.reduceToNat, cond_true, cond_false, ↓reduceIte, reduceCtorEq, Nat.reduceLT, Nat.reduceLeDiff, Nat.reduceMul, Nat.reduceEqDiff, exists_eq', putF, implies_true, exists_true_left, tys0, tys1, tys2, und0, und1, md18, Tryz.ntmps18, Tryz.results18, List.length_map, List.getElem_map, rulA, hi', hI]
    refine call_ret lt rfl rfl ?_
    simp only [q0, q1, q2, q3, q4, q5, q6, q7, q8, q9, zq0, zq1, zq2, zq3, zq4, guardSlot, quietA, nilC, nilA, quietB, St.ev, St.put, St.after, Nat.reduceAdd, Nat.reduceSub, ofV, ofL, lenA, binA, intBin, fltBin, strBin, cpxBin, unA, convA, convB, convO, pickV, resL, oneA, indexA, indexS, isQuiet, loadA, loadC, storeA, fieldA, partA, sliceA, boundA, buildA, placeA, setAll, appendA, readSl, newEl, AV.cells, AV.solid, AV.one, kill, killM, killL, notInt, Int.reduceToNat, cond_true, cond_false, ↓reduceIte, reduceCtorEq, Nat.reduceLT, Nat.reduceLeDiff, Nat.reduceMul, Nat.reduceEqDiff, exists_eq', putF, implies_true, exists_true_left, tys0, tys1, tys2, und0, und1, md18, Tryz.ntmps18, Tryz.results18, w1]
    refine ⟨by first | omega | (simp only [List.length_append, List.length_cons, List.length_nil, List.length_map, List.length_take]; omega), by first | omega | (simp only [List.length_append, List.length_cons, List.length_nil, List.length_map, List.length_take]; omega), ⟨i + 1, by omega⟩, by show R.length - (i + 1) < _; omega, ?_⟩
    show Weak 0 _ ⟨_, _⟩
    rw [nx]
    exact weak_drop (by simp) (by simp [DropHp, ints_below, flts_below]) (by simp [DropTm, DropV, below, belowM, belowL])
  · have hi' : i = R.length := by have := of_decide_eq_false g; omega
    rw [show rulesT R = T from by rw [← hT, hi', List.take_length]]
    exact PostR.pure ⟨rfl, rfl⟩ rfl
theorem rulesText_call (R : List Rul) (hm : R.length ≤ 24) (hr : ∀ r ∈ R, OkR r) : CallA Tryz.prog 47 [.ro (R.map rulA)] [] (Ret (.str (rulesT R)) []) := by
  refine CallP.out (t := .mk) (go_in (md := md47) mixed Tryz.func47 rfl go47 (by kernel_rfl) ?_)
  simp only [q0, q1, q2, q3, q4, q5, q6, q7, q8, q9, zq0, zq1, zq2, zq3, zq4, guardSlot, quietA, nilC, nilA, quietB, St.ev, St.put, St.after, Nat.reduceAdd, Nat.reduceSub, ofV, ofL, lenA, binA, intBin, fltBin, strBin, cpxBin, unA, convA, convB, convO, pickV, resL, oneA, indexA, indexS, isQuiet, loadA, loadC, storeA, fieldA, partA, sliceA, boundA, buildA, placeA, setAll, appendA, readSl, newEl, AV.cells, AV.solid, AV.one, kill, killM, killL, notInt, Int.reduceToNat, cond_true, cond_false, ↓reduceIte, reduceCtorEq, Nat.reduceLT, Nat.reduceLeDiff, Nat.reduceMul, Nat.reduceEqDiff, exists_eq', putF, implies_true, exists_true_left, tys0, tys1, tys2, und0, und1, md47, Tryz.ntmps47, Tryz.results47, List.length_map]
  refine go_round (md := md47) mixed (by kernel_rfl) (fun i : {i : Nat // i ≤ R.length} => ⟨[.any, .any, .any, .str (rulesT (R.take i.1)), .any, .any, .ro (R.map rulA), .int .i64 R.length, .int .i64 i.1, .any, .any, .any, .any, .any, .any, .any, .any, .any, .any], []⟩) (fun i => R.length - i.1) ⟨0, by omega⟩ ?_ ?_
  · exact weak_drop (by simp) (by simp [DropHp, ints_below, flts_below, rulesT]) (by simp [DropTm, DropV, below, belowM, belowL, rulesT])
  rintro ⟨i, hi⟩
  have tl := rulesT_len (R.take i) (fun r h => hr r (List.mem_of_mem_take h))
  have tk : (R.take i).length = i := by rw [List.length_take]; omega
  have nx := fun h : i < R.length => rulesT_take R i h
  generalize hT : rulesT (R.take i) = T at tl nx
  simp only [q0, q1, q2, q3, q4, q5, q6, q7, q8, q9, zq0, zq1, zq2, zq3, zq4, guardSlot, quietA, nilC, nilA, quietB, St.ev, St.put, St.after, Nat.reduceAdd, Nat.reduceSub, ofV, ofL, lenA, binA, intBin, fltBin, strBin, cpxBin, unA, convA, convB, convO, pickV, resL, oneA, indexA, indexS, isQuiet, loadA, loadC, storeA, fieldA, partA, sliceA, boundA, buildA, placeA, setAll, appendA, readSl, newEl, AV.cells, AV.solid, AV.one, kill, killM, killL, notInt, Int.reduceToNat, cond_true, cond_false, ↓reduceIte, reduceCtorEq, Nat.reduceLT, Nat.reduceLeDiff, Nat.reduceMul, Nat.reduceEqDiff, exists_eq', putF, implies_true, exists_true_left, tys0, tys1, tys2, und0, und1, md47, Tryz.ntmps47, Tryz.results47, List.length_map, List.getElem_map]
  refine br_intro (fun g => ?_) (fun g => ?_) <;> simp only [q0, q1, q2, q3, q4, q5, q6, q7, q8, q9, zq0, zq1, zq2, zq3, zq4, guardSlot, quietA, nilC, nilA, quietB, St.ev, St.put, St.after, Nat.reduceAdd, Nat.reduceSub, ofV, ofL, lenA, binA, intBin, fltBin, strBin, cpxBin, unA, convA, convB, convO, pickV, resL, oneA, indexA, indexS, isQuiet, loadA, loadC, storeA, fieldA, partA, sliceA, boundA, buildA, placeA, setAll, appendA, readSl, newEl, AV.cells, AV.solid, AV.one, kill, killM, killL, notInt, Int.reduceToNat, cond_true, cond_false, ↓reduceIte, reduceCtorEq, Nat.reduceLT, Nat.reduceLeDiff, Nat.reduceMul, Nat.reduceEqDiff, exists_eq', putF, implies_true, exists_true_left, tys0, tys1, tys2, und0, und1, md47, Tryz.ntmps47, Tryz.results47, List.length_map, List.getElem_map]
  · have hi' : i < R.length := by have := of_decide_eq_true g; omega
    have hI : (i : Int) < (R.length : Int) := by omega
    have nx := nx hi'
    have ok := hr _ (List.getElem_mem hi')
    have rl := ruleT_len ok
    have lt := ruleText_call R[i] ok
    unfold rulA at lt
    have w1 : IntKind.i64.wrap ((i : Int) + 1) = ((i + 1 : Nat) : Int) := by rw [w64 (by omega) (by omega)]; omega
    simp only [q0, q1, q2, q3, q4, q5, q6, q7, q8, q9, zq0, zq1, zq2, zq3, zq4, guardSlot, quietA, nilC, nilA, quietB, St.ev, St.put, St.after, Nat.reduceAdd, Nat.reduceSub, ofV, ofL, lenA, binA, intBin, fltBin, strBin, cpxBin, unA, convA, convB, convO, pickV, resL, oneA, indexA, indexS, isQuiet, loadA, loadC, storeA, fieldA, partA, sliceA, boundA, buildA, placeA, setAll, appendA, readSl, newEl, AV.cells, AV.solid, AV.one, kill, killM, killL, notInt, Int.reduceToNat, cond_true, cond_false, ↓reduceIte, reduceCtorEq, Nat.reduceLT, Nat.reduceLeDiff, Nat.reduceMul, Nat.reduceEqDiff, exists_eq', putF, implies_true, exists_true_left, tys0, tys1, tys2, und0, und1, md47, Tryz.ntmps47, Tryz.results47, List.length_map, List.getElem_map, rulA, hi', hI]
    refine call_ret lt rfl rfl ?_
    simp only [q0, q1, q2, q3, q4, q5, q6, q7, q8, q9, zq0, zq1, zq2, zq3, zq4, guardSlot, quietA, nilC, nilA, quietB, St.ev, St.put, St.after, Nat.reduceAdd, Nat.reduceSub, ofV, ofL, lenA, binA, intBin, fltBin, strBin, cpxBin, unA, convA, convB, convO, pickV, resL, oneA, indexA, indexS, isQuiet, loadA, loadC, storeA, fieldA, partA, sliceA, boundA, buildA, placeA, setAll, appendA, readSl, newEl, AV.cells, AV.solid, AV.one, kill, killM, killL, notInt, Int.reduceToNat, cond_true, cond_false, ↓reduceIte, reduceCtorEq, Nat.reduceLT, Nat.reduceLeDiff, Nat.reduceMul, Nat.reduceEqDiff, exists_eq', putF, implies_true, exists_true_left, tys0, tys1, tys2, und0, und1, md47, Tryz.ntmps47, Tryz.results47, w1]
    refine ⟨by first | omega | (simp only [List.length_append, List.length_cons, List.length_nil, List.length_map, List.length_take]; omega), by first | omega | (simp only [List.length_append, List.length_cons, List.length_nil, List.length_map, List.length_take]; omega), ⟨i + 1, by omega⟩, by show R.length - (i + 1) < _; omega, ?_⟩
    show Weak 0 _ ⟨_, _⟩
    rw [nx]
    exact weak_drop (by simp) (by simp [DropHp, ints_below, flts_below]) (by simp [DropTm, DropV, below, belowM, belowL])
  · have hi' : i = R.length := by have := of_decide_eq_false g; omega
    rw [show rulesT R = T from by rw [← hT, hi', List.take_length]]
    exact PostR.pure ⟨rfl, rfl⟩ rfl

def le (n : Nat) : Nat → List UInt8
  | 0 => []
  | c + 1 => le n c ++ [UInt8.ofNat (n / 256 ^ c % 256)]
end Go.Proofs.YtigipcckflcilaaGreatDoor
