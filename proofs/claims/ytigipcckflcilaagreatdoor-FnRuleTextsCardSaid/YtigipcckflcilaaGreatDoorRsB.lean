/- Texts of rules that are read: the reference's digits and skips. Printed by gen_rsb.py. -/
import Derived.Test.YtigipcckflcilaaGreatDoorRsA
import Derived.Test.YtigipcckflcilaaGreatDoorRdV
set_option maxRecDepth 10000
set_option maxHeartbeats 4000000
set_option linter.unusedSimpArgs false
set_option linter.unusedVariables false
namespace Go.Proofs.YtigipcckflcilaaGreatDoor
open Go Go.Abs

theorem pre_slice {s p : List UInt8} {a : Nat} (ha : a ≤ s.length) : pre p (s.drop a) = true ↔ a + p.length ≤ s.length ∧ (s.take (a + p.length)).drop a = p := by
  unfold pre
  rw [List.isPrefixOf_iff_prefix, List.prefix_iff_eq_take, List.drop_take, show a + p.length - a = p.length by omega]
  constructor
  · intro h
    refine ⟨?_, h.symm⟩
    have := congrArg List.length h
    rw [List.length_take, List.length_drop] at this
    omega
  · intro h; exact h.2.symm
def skipI (s : List UInt8) (a : Nat) (p : List UInt8) : Int := if pre p (s.drop a) = true then (a + p.length : Nat) else -1
theorem skip_call (s p : List UInt8) (a : Nat) (ha : a ≤ s.length) (hs : s.length ≤ 1048576) (hp : p.length ≤ 3) : CallA Tryz.prog 91 [.str s, .int .i64 a, .str p] [] (Ret (.int .i64 (skipI s a p)) []) := by
  have w1 : IntKind.i64.wrap ((a : Int) + (p.length : Int)) = ((a + p.length : Nat) : Int) := by rw [w64 (by omega) (by omega)]; omega
  have ps := pre_slice (s := s) (p := p) ha
  have si : skipI s a p = if pre p (s.drop a) = true then ((a + p.length : Nat) : Int) else -1 := rfl
  refine CallP.out (t := .mk) (go_in (md := md91) mixed Tryz.func91 rfl go91 (by kernel_rfl) ?_)
  simp only [q0, q1, q2, q3, q4, q5, q6, q7, q8, q9, zq0, zq1, zq2, zq3, zq4, guardSlot, quietA, nilC, nilA, quietB, St.ev, St.put, St.after, Nat.reduceAdd, Nat.reduceSub, ofV, ofL, lenA, binA, intBin, fltBin, strBin, cpxBin, unA, convA, convB, convO, pickV, resL, oneA, indexA, indexS, isQuiet, loadA, loadC, storeA, fieldA, partA, sliceA, boundA, buildA, placeA, setAll, appendA, readSl, newEl, AV.cells, AV.solid, AV.one, kill, killM, killL, notInt, Int.reduceToNat, cond_true, cond_false, ↓reduceIte, reduceCtorEq, Nat.reduceLT, Nat.reduceLeDiff, Nat.reduceMul, Nat.reduceEqDiff, exists_eq', putF, implies_true, exists_true_left, tys0, tys1, tys2, und0, und1, md91, Tryz.ntmps91, Tryz.results91, w1]
  refine br_no (by first | exact decide_eq_false (by omega) | exact beq_false_of_ne (by omega) | (simp only [bne_eq_false_iff_eq, beq_eq_false_iff_ne, ne_eq]; omega)) ?_; simp only [q0, q1, q2, q3, q4, q5, q6, q7, q8, q9, zq0, zq1, zq2, zq3, zq4, guardSlot, quietA, nilC, nilA, quietB, St.ev, St.put, St.after, Nat.reduceAdd, Nat.reduceSub, ofV, ofL, lenA, binA, intBin, fltBin, strBin, cpxBin, unA, convA, convB, convO, pickV, resL, oneA, indexA, indexS, isQuiet, loadA, loadC, storeA, fieldA, partA, sliceA, boundA, buildA, placeA, setAll, appendA, readSl, newEl, AV.cells, AV.solid, AV.one, kill, killM, killL, notInt, Int.reduceToNat, cond_true, cond_false, ↓reduceIte, reduceCtorEq, Nat.reduceLT, Nat.reduceLeDiff, Nat.reduceMul, Nat.reduceEqDiff, exists_eq', putF, implies_true, exists_true_left, tys0, tys1, tys2, und0, und1, md91, Tryz.ntmps91, Tryz.results91, w1]
  refine br_intro (fun c1 => ?_) (fun c1 => ?_) <;> simp only [q0, q1, q2, q3, q4, q5, q6, q7, q8, q9, zq0, zq1, zq2, zq3, zq4, guardSlot, quietA, nilC, nilA, quietB, St.ev, St.put, St.after, Nat.reduceAdd, Nat.reduceSub, ofV, ofL, lenA, binA, intBin, fltBin, strBin, cpxBin, unA, convA, convB, convO, pickV, resL, oneA, indexA, indexS, isQuiet, loadA, loadC, storeA, fieldA, partA, sliceA, boundA, buildA, placeA, setAll, appendA, readSl, newEl, AV.cells, AV.solid, AV.one, kill, killM, killL, notInt, Int.reduceToNat, cond_true, cond_false, ↓reduceIte, reduceCtorEq, Nat.reduceLT, Nat.reduceLeDiff, Nat.reduceMul, Nat.reduceEqDiff, exists_eq', putF, implies_true, exists_true_left, tys0, tys1, tys2, und0, und1, md91, Tryz.ntmps91, Tryz.results91, w1]
  · have c1 := of_decide_eq_true c1
    rw [si, if_neg (fun h => by have := (ps.1 h).1; omega)]
    exact PostR.pure ⟨rfl, rfl⟩ rfl
  have c1 := of_decide_eq_false c1
  refine ⟨by omega, by omega, ?_⟩
  refine br_intro (fun c2 => ?_) (fun c2 => ?_) <;> simp only [q0, q1, q2, q3, q4, q5, q6, q7, q8, q9, zq0, zq1, zq2, zq3, zq4, guardSlot, quietA, nilC, nilA, quietB, St.ev, St.put, St.after, Nat.reduceAdd, Nat.reduceSub, ofV, ofL, lenA, binA, intBin, fltBin, strBin, cpxBin, unA, convA, convB, convO, pickV, resL, oneA, indexA, indexS, isQuiet, loadA, loadC, storeA, fieldA, partA, sliceA, boundA, buildA, placeA, setAll, appendA, readSl, newEl, AV.cells, AV.solid, AV.one, kill, killM, killL, notInt, Int.reduceToNat, cond_true, cond_false, ↓reduceIte, reduceCtorEq, Nat.reduceLT, Nat.reduceLeDiff, Nat.reduceMul, Nat.reduceEqDiff, exists_eq', putF, implies_true, exists_true_left, tys0, tys1, tys2, und0, und1, md91, Tryz.ntmps91, Tryz.results91, w1]
  · have c2 : (s.take (a + p.length)).drop a = p := by simpa using c2
    rw [si, if_pos (ps.2 ⟨by omega, c2⟩)]
    exact PostR.pure ⟨rfl, rfl⟩ rfl
  · have c2 : ¬ (s.take (a + p.length)).drop a = p := by simpa using c2
    rw [si, if_neg (fun h => c2 (ps.1 h).2)]
    exact PostR.pure ⟨rfl, rfl⟩ rfl
theorem take_at {s : List UInt8} {a j : Nat} (h : a + j < s.length) : (s.drop a).take (j + 1) = (s.drop a).take j ++ [s[a + j]] := by
  rw [take_snoc _ _ (by rw [List.length_drop]; omega), List.getElem_drop]
theorem takeW_end {u : List UInt8} {j : Nat} (h6 : j ≤ 6) (hu : j ≤ u.length) (hd : ∀ c ∈ u.take j, dig c = true) (h : j = 6 ∨ j = u.length ∨ ∃ h : j < u.length, dig u[j] = false) : (u.take 6).takeWhile dig = u.take j := by
  have e : u.take 6 = u.take j ++ (u.drop j).take (6 - j) := by
    rw [List.take_drop, show j + (6 - j) = 6 by omega]
    conv => lhs; rw [← List.take_append_drop j (u.take 6)]
    rw [List.take_take, Nat.min_eq_left h6]
  rw [e, takeW_all _ _ hd]
  have : ((u.drop j).take (6 - j)).takeWhile dig = [] := by
    rcases h with h | h | ⟨h, hc⟩
    · rw [h]; simp
    · rw [h]; simp
    · refine takeW_no _ (fun c hc' => ?_) _
      rw [List.head?_drop, List.getElem?_eq_getElem h] at hc'
      cases hc'; exact hc
  rw [this, List.append_nil]
theorem digits_call (s : List UInt8) (a : Nat) (ha : a ≤ s.length) (hs : s.length ≤ 1048576) : CallA Tryz.prog 90 [.str s, .int .i64 a] [] (Ret (.tup [.int .i64 (digR (s.drop a)).1, .int .i64 (a + (digR (s.drop a)).2.1 : Nat), .bool (digR (s.drop a)).2.2]) []) := by
  have w1 : IntKind.i64.wrap ((a : Int) + 1) = ((a + 1 : Nat) : Int) := by rw [w64 (by omega) (by omega)]; omega
  have dr : digR (s.drop a) = (if (s.drop a).head? = some 45 then -valD (dgs (s.drop a)) else valD (dgs (s.drop a)), sgn (s.drop a) + (dgs (s.drop a)).length, !(dgs (s.drop a)).isEmpty) := rfl
  have dg : dgs (s.drop a) = (((s.drop a).drop (sgn (s.drop a))).take 6).takeWhile dig := rfl
  have hd : (s.drop a).head? = s[a]? := by rw [List.head?_drop]
  have sg : sgn (s.drop a) = if (s.drop a).head? = some 45 then 1 else 0 := rfl
  refine CallP.out (t := .mk) (go_in (md := md90) mixed Tryz.func90 rfl go90 (by kernel_rfl) ?_)
  simp only [q0, q1, q2, q3, q4, q5, q6, q7, q8, q9, zq0, zq1, zq2, zq3, zq4, guardSlot, quietA, nilC, nilA, quietB, St.ev, St.put, St.after, Nat.reduceAdd, Nat.reduceSub, ofV, ofL, lenA, binA, intBin, fltBin, strBin, cpxBin, unA, convA, convB, convO, pickV, resL, oneA, indexA, indexS, isQuiet, loadA, loadC, storeA, fieldA, partA, sliceA, boundA, buildA, placeA, setAll, appendA, readSl, newEl, AV.cells, AV.solid, AV.one, kill, killM, killL, notInt, Int.reduceToNat, cond_true, cond_false, ↓reduceIte, reduceCtorEq, Nat.reduceLT, Nat.reduceLeDiff, Nat.reduceMul, Nat.reduceEqDiff, exists_eq', putF, implies_true, exists_true_left, tys0, tys1, tys2, und0, und1, md90, Tryz.ntmps90, Tryz.results90]
  refine br_intro (fun c1 => ?_) (fun c1 => ?_) <;> simp only [q0, q1, q2, q3, q4, q5, q6, q7, q8, q9, zq0, zq1, zq2, zq3, zq4, guardSlot, quietA, nilC, nilA, quietB, St.ev, St.put, St.after, Nat.reduceAdd, Nat.reduceSub, ofV, ofL, lenA, binA, intBin, fltBin, strBin, cpxBin, unA, convA, convB, convO, pickV, resL, oneA, indexA, indexS, isQuiet, loadA, loadC, storeA, fieldA, partA, sliceA, boundA, buildA, placeA, setAll, appendA, readSl, newEl, AV.cells, AV.solid, AV.one, kill, killM, killL, notInt, Int.reduceToNat, cond_true, cond_false, ↓reduceIte, reduceCtorEq, Nat.reduceLT, Nat.reduceLeDiff, Nat.reduceMul, Nat.reduceEqDiff, exists_eq', putF, implies_true, exists_true_left, tys0, tys1, tys2, und0, und1, md90, Tryz.ntmps90, Tryz.results90]
  · have c1 := of_decide_eq_true c1
    have hI : a < s.length := by omega
    refine ⟨hI, ?_⟩
    refine br_intro (fun cq => ?_) (fun cq => ?_) <;> simp only [q0, q1, q2, q3, q4, q5, q6, q7, q8, q9, zq0, zq1, zq2, zq3, zq4, guardSlot, quietA, nilC, nilA, quietB, St.ev, St.put, St.after, Nat.reduceAdd, Nat.reduceSub, ofV, ofL, lenA, binA, intBin, fltBin, strBin, cpxBin, unA, convA, convB, convO, pickV, resL, oneA, indexA, indexS, isQuiet, loadA, loadC, storeA, fieldA, partA, sliceA, boundA, buildA, placeA, setAll, appendA, readSl, newEl, AV.cells, AV.solid, AV.one, kill, killM, killL, notInt, Int.reduceToNat, cond_true, cond_false, ↓reduceIte, reduceCtorEq, Nat.reduceLT, Nat.reduceLeDiff, Nat.reduceMul, Nat.reduceEqDiff, exists_eq', putF, implies_true, exists_true_left, tys0, tys1, tys2, und0, und1, md90, Tryz.ntmps90, Tryz.results90, w1]
    · have c2 : s[a] = 45 := UInt8.toNat_inj.1 (by have := beq_iff_eq.1 cq; show s[a].toNat = 45; omega)
      have hh : (s.drop a).head? = some 45 := by rw [hd, List.getElem?_eq_getElem hI, c2]
      have e1 : (s.drop a).drop (sgn (s.drop a)) = s.drop (a + 1) := by rw [sg, if_pos hh, List.drop_drop]
      rw [e1] at dg
      have s1 : sgn (s.drop a) = 1 := by rw [sg, if_pos hh]
      refine go_round (md := md90) mixed (by kernel_rfl) (fun j : {j : Nat // j ≤ 6 ∧ a + 1 + j ≤ s.length ∧ ∀ c ∈ (s.drop (a + 1)).take j, dig c = true} => ⟨[.str s, .int .i64 ((a + 1 : Nat) : Int), .any, .any, .any, .any, .any, .int .i64 (valD ((s.drop (a + 1)).take j.1)), .bool true, .int .i64 ((a + 1 + j.1 : Nat) : Int), .any, .any, .any, .any, .any, .any, .any, .any, .any, .any, .any, .any, .any, .any, .any, .any, .any, .any, .any, .any, .any, .any, .any, .any, .any, .any, .any, .any, .any, .any, .any, .any, .any, .any, .any, .any, .any, .any, .any, .any, .any, .any, .any, .any, .any, .any, .any, .any, .any, .any, .any, .any, .any, .any], []⟩) (fun j => 6 - j.1) ⟨0, by omega, by omega, by simp⟩ ?_ ?_
      · exact weak_drop (by simp) (by simp [DropHp, ints_below, flts_below, valD, List.foldl_nil, w1, beq_iff_eq.1 cq]) (by simp [DropTm, DropV, below, belowM, belowL, valD, List.foldl_nil, w1, beq_iff_eq.1 cq])
      rintro ⟨j, hj, hl, hj2⟩
      have vb := valD_pow (s.drop (a + 1)) j (by rw [List.length_drop]; omega)
      have vb2 : (10 : Int) ^ j ≤ 1000000 := by
        have h1 : (10 : Int) ^ j ≤ 10 ^ 6 := by exact_mod_cast Nat.pow_le_pow_right (by decide) hj
        have h2 : (10 : Int) ^ 6 = 1000000 := by decide
        omega
      have nx := fun h : a + 1 + j < s.length => take_at h
      have fin := fun h => takeW_end (u := s.drop (a + 1)) hj (by rw [List.length_drop]; omega) hj2 h
      have ul : (s.drop (a + 1)).length = s.length - (a + 1) := by rw [List.length_drop]
      have tl : ((s.drop (a + 1)).take j).length = j := by rw [List.length_take, ul]; omega
      have ug : ∀ h : a + 1 + j < s.length, (s.drop (a + 1))[j]'(by rw [ul]; omega) = s[a + 1 + j] := fun h => by rw [List.getElem_drop]
      have w2 : IntKind.i64.wrap (((a + 1 : Nat) : Int) + 6) = ((a + 1 + 6 : Nat) : Int) := by rw [w64 (by omega) (by omega)]; omega
      have w3 : IntKind.i64.wrap (((a + 1 + j : Nat) : Int) + 1) = ((a + 1 + (j + 1) : Nat) : Int) := by rw [w64 (by omega) (by omega)]; omega
      generalize hv : valD ((s.drop (a + 1)).take j) = v at *
      have fin2 : ∀ h, (if (s.drop a).head? = some 45 then -valD (dgs (s.drop a)) else valD (dgs (s.drop a))) = -v ∧ a + (sgn (s.drop a) + (dgs (s.drop a)).length) = a + 1 + j ∧ (!(dgs (s.drop a)).isEmpty) = decide (((a + 1 : Nat) : Int) < ((a + 1 + j : Nat) : Int)) := fun h => by
        have f := fin h
        rw [dg, f, if_pos hh, hv, s1, tl]
        refine ⟨rfl, by omega, ?_⟩
        by_cases z : j = 0
        · rw [decide_eq_false (by omega), List.length_eq_zero_iff.1 (tl.trans z)]; rfl
        · rw [decide_eq_true (by omega)]
          cases hu : (s.drop (a + 1)).take j with
          | nil => rw [hu] at tl; exact absurd tl.symm z
          | cons x y => rfl
      simp only [q0, q1, q2, q3, q4, q5, q6, q7, q8, q9, zq0, zq1, zq2, zq3, zq4, guardSlot, quietA, nilC, nilA, quietB, St.ev, St.put, St.after, Nat.reduceAdd, Nat.reduceSub, ofV, ofL, lenA, binA, intBin, fltBin, strBin, cpxBin, unA, convA, convB, convO, pickV, resL, oneA, indexA, indexS, isQuiet, loadA, loadC, storeA, fieldA, partA, sliceA, boundA, buildA, placeA, setAll, appendA, readSl, newEl, AV.cells, AV.solid, AV.one, kill, killM, killL, notInt, Int.reduceToNat, cond_true, cond_false, ↓reduceIte, reduceCtorEq, Nat.reduceLT, Nat.reduceLeDiff, Nat.reduceMul, Nat.reduceEqDiff, exists_eq', putF, implies_true, exists_true_left, tys0, tys1, tys2, und0, und1, md90, Tryz.ntmps90, Tryz.results90, w2]
      refine br_intro (fun g1 => ?_) (fun g1 => ?_) <;> simp only [q0, q1, q2, q3, q4, q5, q6, q7, q8, q9, zq0, zq1, zq2, zq3, zq4, guardSlot, quietA, nilC, nilA, quietB, St.ev, St.put, St.after, Nat.reduceAdd, Nat.reduceSub, ofV, ofL, lenA, binA, intBin, fltBin, strBin, cpxBin, unA, convA, convB, convO, pickV, resL, oneA, indexA, indexS, isQuiet, loadA, loadC, storeA, fieldA, partA, sliceA, boundA, buildA, placeA, setAll, appendA, readSl, newEl, AV.cells, AV.solid, AV.one, kill, killM, killL, notInt, Int.reduceToNat, cond_true, cond_false, ↓reduceIte, reduceCtorEq, Nat.reduceLT, Nat.reduceLeDiff, Nat.reduceMul, Nat.reduceEqDiff, exists_eq', putF, implies_true, exists_true_left, tys0, tys1, tys2, und0, und1, md90, Tryz.ntmps90, Tryz.results90, w2]
      · have g1 := of_decide_eq_true g1
        have hk' : a + 1 + j < s.length := by omega
        have hkI : ((a + 1 + j : Nat) : Int) < (s.length : Int) := by omega
        have sb := s[a + 1 + j].toNat_lt
        refine br_intro (fun g2 => ?_) (fun g2 => ?_) <;> simp only [q0, q1, q2, q3, q4, q5, q6, q7, q8, q9, zq0, zq1, zq2, zq3, zq4, guardSlot, quietA, nilC, nilA, quietB, St.ev, St.put, St.after, Nat.reduceAdd, Nat.reduceSub, ofV, ofL, lenA, binA, intBin, fltBin, strBin, cpxBin, unA, convA, convB, convO, pickV, resL, oneA, indexA, indexS, isQuiet, loadA, loadC, storeA, fieldA, partA, sliceA, boundA, buildA, placeA, setAll, appendA, readSl, newEl, AV.cells, AV.solid, AV.one, kill, killM, killL, notInt, Int.reduceToNat, cond_true, cond_false, ↓reduceIte, reduceCtorEq, Nat.reduceLT, Nat.reduceLeDiff, Nat.reduceMul, Nat.reduceEqDiff, exists_eq', putF, implies_true, exists_true_left, tys0, tys1, tys2, und0, und1, md90, Tryz.ntmps90, Tryz.results90, w2, hk', hkI]
        · have g2 := of_decide_eq_true g2
          refine br_intro (fun g3 => ?_) (fun g3 => ?_) <;> simp only [q0, q1, q2, q3, q4, q5, q6, q7, q8, q9, zq0, zq1, zq2, zq3, zq4, guardSlot, quietA, nilC, nilA, quietB, St.ev, St.put, St.after, Nat.reduceAdd, Nat.reduceSub, ofV, ofL, lenA, binA, intBin, fltBin, strBin, cpxBin, unA, convA, convB, convO, pickV, resL, oneA, indexA, indexS, isQuiet, loadA, loadC, storeA, fieldA, partA, sliceA, boundA, buildA, placeA, setAll, appendA, readSl, newEl, AV.cells, AV.solid, AV.one, kill, killM, killL, notInt, Int.reduceToNat, cond_true, cond_false, ↓reduceIte, reduceCtorEq, Nat.reduceLT, Nat.reduceLeDiff, Nat.reduceMul, Nat.reduceEqDiff, exists_eq', putF, implies_true, exists_true_left, tys0, tys1, tys2, und0, und1, md90, Tryz.ntmps90, Tryz.results90, w2, hk', hkI]
          · have g3 := of_decide_eq_true g3
            refine br_intro (fun g4 => ?_) (fun g4 => ?_) <;> simp only [q0, q1, q2, q3, q4, q5, q6, q7, q8, q9, zq0, zq1, zq2, zq3, zq4, guardSlot, quietA, nilC, nilA, quietB, St.ev, St.put, St.after, Nat.reduceAdd, Nat.reduceSub, ofV, ofL, lenA, binA, intBin, fltBin, strBin, cpxBin, unA, convA, convB, convO, pickV, resL, oneA, indexA, indexS, isQuiet, loadA, loadC, storeA, fieldA, partA, sliceA, boundA, buildA, placeA, setAll, appendA, readSl, newEl, AV.cells, AV.solid, AV.one, kill, killM, killL, notInt, Int.reduceToNat, cond_true, cond_false, ↓reduceIte, reduceCtorEq, Nat.reduceLT, Nat.reduceLeDiff, Nat.reduceMul, Nat.reduceEqDiff, exists_eq', putF, implies_true, exists_true_left, tys0, tys1, tys2, und0, und1, md90, Tryz.ntmps90, Tryz.results90, w2, hk', hkI]
            · have g4 := of_decide_eq_true g4
              have dd : dig s[a + 1 + j] = true := by unfold dig; rw [decide_eq_true (by omega), decide_eq_true (by omega)]; rfl
              have x1 : IntKind.u8.wrap ((s[a + 1 + j].toNat : Int) - 48) = (s[a + 1 + j].toNat : Int) - 48 := w8 (by omega) (by omega)
              have x2 : IntKind.i64.wrap ((s[a + 1 + j].toNat : Int) - 48) = (s[a + 1 + j].toNat : Int) - 48 := w64 (by omega) (by omega)
              have x3 : IntKind.i64.wrap (10 * v) = 10 * v := w64 (by omega) (by omega)
              have x4 : IntKind.i64.wrap (10 * v + ((s[a + 1 + j].toNat : Int) - 48)) = 10 * v + ((s[a + 1 + j].toNat : Int) - 48) := w64 (by omega) (by omega)
              have nx := nx hk'
              have vx : valD ((s.drop (a + 1)).take (j + 1)) = 10 * v + ((s[a + 1 + j].toNat : Int) - 48) := by
                rw [nx, valD_snoc, hv]
                unfold valD1
                rw [dd, if_pos rfl]
              refine ⟨⟨j + 1, by omega, by omega, fun c hc => ?_⟩, by show 6 - (j + 1) < 6 - j; omega, ?_⟩
              · rw [nx] at hc
                rcases List.mem_append.1 hc with m | m
                · exact hj2 c m
                · rw [List.mem_singleton.1 m]; exact dd
              · show Weak 0 _ ⟨_, _⟩
                rw [vx, w3]
                exact weak_drop (by simp) (by simp [DropHp, ints_below, flts_below, x1, x2, x3, x4]) (by simp [DropTm, DropV, below, belowM, belowL, x1, x2, x3, x4])
            · have g4 := of_decide_eq_false g4
              obtain ⟨f1, f2, f3⟩ := fin2 (.inr (.inr ⟨by rw [ul]; omega, by rw [ug hk']; unfold dig; rw [decide_eq_false (p := s[a + 1 + j].toNat ≤ 57) (by omega), Bool.and_false]⟩))
              rw [dr, f1]
              dsimp only
              rw [f2, f3]
              exact PostR.pure ⟨by rw [show IntKind.i64.wrap (0 - v) = -v by rw [w64 (by omega) (by omega)]; omega], rfl⟩ rfl
          · have g3 := of_decide_eq_false g3
            obtain ⟨f1, f2, f3⟩ := fin2 (.inr (.inr ⟨by rw [ul]; omega, by rw [ug hk']; unfold dig; rw [decide_eq_false (p := 48 ≤ s[a + 1 + j].toNat) (by omega), Bool.false_and]⟩))
            rw [dr, f1]
            dsimp only
            rw [f2, f3]
            exact PostR.pure ⟨by rw [show IntKind.i64.wrap (0 - v) = -v by rw [w64 (by omega) (by omega)]; omega], rfl⟩ rfl
        · have g2 := of_decide_eq_false g2
          obtain ⟨f1, f2, f3⟩ := fin2 (.inl (by omega))
          rw [dr, f1]
          dsimp only
          rw [f2, f3]
          exact PostR.pure ⟨by rw [show IntKind.i64.wrap (0 - v) = -v by rw [w64 (by omega) (by omega)]; omega], rfl⟩ rfl
      · have g1 := of_decide_eq_false g1
        obtain ⟨f1, f2, f3⟩ := fin2 (.inr (.inl (by rw [ul]; omega)))
        rw [dr, f1]
        dsimp only
        rw [f2, f3]
        exact PostR.pure ⟨by rw [show IntKind.i64.wrap (0 - v) = -v by rw [w64 (by omega) (by omega)]; omega], rfl⟩ rfl

    · have c2 : ¬ s[a] = 45 := fun e => by rw [e] at cq; cases cq
      have hh : ¬ (s.drop a).head? = some 45 := by rw [hd, List.getElem?_eq_getElem hI]; exact fun e => c2 (Option.some.inj e)
      have e1 : (s.drop a).drop (sgn (s.drop a)) = s.drop a := by rw [sg, if_neg hh, List.drop_zero]
      rw [e1] at dg
      have s1 : sgn (s.drop a) = 0 := by rw [sg, if_neg hh]
      refine go_round (md := md90) mixed (by kernel_rfl) (fun j : {j : Nat // j ≤ 6 ∧ a + j ≤ s.length ∧ ∀ c ∈ (s.drop a).take j, dig c = true} => ⟨[.str s, .int .i64 ((a : Nat) : Int), .any, .any, .any, .any, .any, .int .i64 (valD ((s.drop a).take j.1)), .bool false, .int .i64 ((a + j.1 : Nat) : Int), .any, .any, .any, .any, .any, .any, .any, .any, .any, .any, .any, .any, .any, .any, .any, .any, .any, .any, .any, .any, .any, .any, .any, .any, .any, .any, .any, .any, .any, .any, .any, .any, .any, .any, .any, .any, .any, .any, .any, .any, .any, .any, .any, .any, .any, .any, .any, .any, .any, .any, .any, .any, .any, .any], []⟩) (fun j => 6 - j.1) ⟨0, by omega, by omega, by simp⟩ ?_ ?_
      · exact weak_drop (by simp) (by simp [DropHp, ints_below, flts_below, valD, List.foldl_nil, w1, beq_eq_false_iff_ne.1 cq]) (by simp [DropTm, DropV, below, belowM, belowL, valD, List.foldl_nil, w1, beq_eq_false_iff_ne.1 cq])
      rintro ⟨j, hj, hl, hj2⟩
      have vb := valD_pow (s.drop a) j (by rw [List.length_drop]; omega)
      have vb2 : (10 : Int) ^ j ≤ 1000000 := by
        have h1 : (10 : Int) ^ j ≤ 10 ^ 6 := by exact_mod_cast Nat.pow_le_pow_right (by decide) hj
        have h2 : (10 : Int) ^ 6 = 1000000 := by decide
        omega
      have nx := fun h : a + j < s.length => take_at h
      have fin := fun h => takeW_end (u := s.drop a) hj (by rw [List.length_drop]; omega) hj2 h
      have ul : (s.drop a).length = s.length - a := by rw [List.length_drop]
      have tl : ((s.drop a).take j).length = j := by rw [List.length_take, ul]; omega
      have ug : ∀ h : a + j < s.length, (s.drop a)[j]'(by rw [ul]; omega) = s[a + j] := fun h => by rw [List.getElem_drop]
      have w2 : IntKind.i64.wrap (((a : Nat) : Int) + 6) = ((a + 6 : Nat) : Int) := by rw [w64 (by omega) (by omega)]; omega
      have w3 : IntKind.i64.wrap (((a + j : Nat) : Int) + 1) = ((a + (j + 1) : Nat) : Int) := by rw [w64 (by omega) (by omega)]; omega
      generalize hv : valD ((s.drop a).take j) = v at *
      have fin2 : ∀ h, (if (s.drop a).head? = some 45 then -valD (dgs (s.drop a)) else valD (dgs (s.drop a))) = v ∧ a + (sgn (s.drop a) + (dgs (s.drop a)).length) = a + j ∧ (!(dgs (s.drop a)).isEmpty) = decide (((a : Nat) : Int) < ((a + j : Nat) : Int)) := fun h => by
        have f := fin h
        rw [dg, f, if_neg hh, hv, s1, tl]
        refine ⟨rfl, by omega, ?_⟩
        by_cases z : j = 0
        · rw [decide_eq_false (by omega), List.length_eq_zero_iff.1 (tl.trans z)]; rfl
        · rw [decide_eq_true (by omega)]
          cases hu : (s.drop a).take j with
          | nil => rw [hu] at tl; exact absurd tl.symm z
          | cons x y => rfl
      simp only [q0, q1, q2, q3, q4, q5, q6, q7, q8, q9, zq0, zq1, zq2, zq3, zq4, guardSlot, quietA, nilC, nilA, quietB, St.ev, St.put, St.after, Nat.reduceAdd, Nat.reduceSub, ofV, ofL, lenA, binA, intBin, fltBin, strBin, cpxBin, unA, convA, convB, convO, pickV, resL, oneA, indexA, indexS, isQuiet, loadA, loadC, storeA, fieldA, partA, sliceA, boundA, buildA, placeA, setAll, appendA, readSl, newEl, AV.cells, AV.solid, AV.one, kill, killM, killL, notInt, Int.reduceToNat, cond_true, cond_false, ↓reduceIte, reduceCtorEq, Nat.reduceLT, Nat.reduceLeDiff, Nat.reduceMul, Nat.reduceEqDiff, exists_eq', putF, implies_true, exists_true_left, tys0, tys1, tys2, und0, und1, md90, Tryz.ntmps90, Tryz.results90, w2]
      refine br_intro (fun g1 => ?_) (fun g1 => ?_) <;> simp only [q0, q1, q2, q3, q4, q5, q6, q7, q8, q9, zq0, zq1, zq2, zq3, zq4, guardSlot, quietA, nilC, nilA, quietB, St.ev, St.put, St.after, Nat.reduceAdd, Nat.reduceSub, ofV, ofL, lenA, binA, intBin, fltBin, strBin, cpxBin, unA, convA, convB, convO, pickV, resL, oneA, indexA, indexS, isQuiet, loadA, loadC, storeA, fieldA, partA, sliceA, boundA, buildA, placeA, setAll, appendA, readSl, newEl, AV.cells, AV.solid, AV.one, kill, killM, killL, notInt, Int.reduceToNat, cond_true, cond_false, ↓reduceIte, reduceCtorEq, Nat.reduceLT, Nat.reduceLeDiff, Nat.reduceMul, Nat.reduceEqDiff, exists_eq', putF, implies_true, exists_true_left, tys0, tys1, tys2, und0, und1, md90, Tryz.ntmps90, Tryz.results90, w2]
      · have g1 := of_decide_eq_true g1
        have hk' : a + j < s.length := by omega
        have hkI : ((a + j : Nat) : Int) < (s.length : Int) := by omega
        have sb := s[a + j].toNat_lt
        refine br_intro (fun g2 => ?_) (fun g2 => ?_) <;> simp only [q0, q1, q2, q3, q4, q5, q6, q7, q8, q9, zq0, zq1, zq2, zq3, zq4, guardSlot, quietA, nilC, nilA, quietB, St.ev, St.put, St.after, Nat.reduceAdd, Nat.reduceSub, ofV, ofL, lenA, binA, intBin, fltBin, strBin, cpxBin, unA, convA, convB, convO, pickV, resL, oneA, indexA, indexS, isQuiet, loadA, loadC, storeA, fieldA, partA, sliceA, boundA, buildA, placeA, setAll, appendA, readSl, newEl, AV.cells, AV.solid, AV.one, kill, killM, killL, notInt, Int.reduceToNat, cond_true, cond_false, ↓reduceIte, reduceCtorEq, Nat.reduceLT, Nat.reduceLeDiff, Nat.reduceMul, Nat.reduceEqDiff, exists_eq', putF, implies_true, exists_true_left, tys0, tys1, tys2, und0, und1, md90, Tryz.ntmps90, Tryz.results90, w2, hk', hkI]
        · have g2 := of_decide_eq_true g2
          refine br_intro (fun g3 => ?_) (fun g3 => ?_) <;> simp only [q0, q1, q2, q3, q4, q5, q6, q7, q8, q9, zq0, zq1, zq2, zq3, zq4, guardSlot, quietA, nilC, nilA, quietB, St.ev, St.put, St.after, Nat.reduceAdd, Nat.reduceSub, ofV, ofL, lenA, binA, intBin, fltBin, strBin, cpxBin, unA, convA, convB, convO, pickV, resL, oneA, indexA, indexS, isQuiet, loadA, loadC, storeA, fieldA, partA, sliceA, boundA, buildA, placeA, setAll, appendA, readSl, newEl, AV.cells, AV.solid, AV.one, kill, killM, killL, notInt, Int.reduceToNat, cond_true, cond_false, ↓reduceIte, reduceCtorEq, Nat.reduceLT, Nat.reduceLeDiff, Nat.reduceMul, Nat.reduceEqDiff, exists_eq', putF, implies_true, exists_true_left, tys0, tys1, tys2, und0, und1, md90, Tryz.ntmps90, Tryz.results90, w2, hk', hkI]
          · have g3 := of_decide_eq_true g3
            refine br_intro (fun g4 => ?_) (fun g4 => ?_) <;> simp only [q0, q1, q2, q3, q4, q5, q6, q7, q8, q9, zq0, zq1, zq2, zq3, zq4, guardSlot, quietA, nilC, nilA, quietB, St.ev, St.put, St.after, Nat.reduceAdd, Nat.reduceSub, ofV, ofL, lenA, binA, intBin, fltBin, strBin, cpxBin, unA, convA, convB, convO, pickV, resL, oneA, indexA, indexS, isQuiet, loadA, loadC, storeA, fieldA, partA, sliceA, boundA, buildA, placeA, setAll, appendA, readSl, newEl, AV.cells, AV.solid, AV.one, kill, killM, killL, notInt, Int.reduceToNat, cond_true, cond_false, ↓reduceIte, reduceCtorEq, Nat.reduceLT, Nat.reduceLeDiff, Nat.reduceMul, Nat.reduceEqDiff, exists_eq', putF, implies_true, exists_true_left, tys0, tys1, tys2, und0, und1, md90, Tryz.ntmps90, Tryz.results90, w2, hk', hkI]
            · have g4 := of_decide_eq_true g4
              have dd : dig s[a + j] = true := by unfold dig; rw [decide_eq_true (by omega), decide_eq_true (by omega)]; rfl
              have x1 : IntKind.u8.wrap ((s[a + j].toNat : Int) - 48) = (s[a + j].toNat : Int) - 48 := w8 (by omega) (by omega)
              have x2 : IntKind.i64.wrap ((s[a + j].toNat : Int) - 48) = (s[a + j].toNat : Int) - 48 := w64 (by omega) (by omega)
              have x3 : IntKind.i64.wrap (10 * v) = 10 * v := w64 (by omega) (by omega)
              have x4 : IntKind.i64.wrap (10 * v + ((s[a + j].toNat : Int) - 48)) = 10 * v + ((s[a + j].toNat : Int) - 48) := w64 (by omega) (by omega)
              have nx := nx hk'
              have vx : valD ((s.drop a).take (j + 1)) = 10 * v + ((s[a + j].toNat : Int) - 48) := by
                rw [nx, valD_snoc, hv]
                unfold valD1
                rw [dd, if_pos rfl]
              refine ⟨⟨j + 1, by omega, by omega, fun c hc => ?_⟩, by show 6 - (j + 1) < 6 - j; omega, ?_⟩
              · rw [nx] at hc
                rcases List.mem_append.1 hc with m | m
                · exact hj2 c m
                · rw [List.mem_singleton.1 m]; exact dd
              · show Weak 0 _ ⟨_, _⟩
                rw [vx, w3]
                exact weak_drop (by simp) (by simp [DropHp, ints_below, flts_below, x1, x2, x3, x4]) (by simp [DropTm, DropV, below, belowM, belowL, x1, x2, x3, x4])
            · have g4 := of_decide_eq_false g4
              obtain ⟨f1, f2, f3⟩ := fin2 (.inr (.inr ⟨by rw [ul]; omega, by rw [ug hk']; unfold dig; rw [decide_eq_false (p := s[a + j].toNat ≤ 57) (by omega), Bool.and_false]⟩))
              rw [dr, f1]
              dsimp only
              rw [f2, f3]
              exact PostR.pure ⟨rfl, rfl⟩ rfl
          · have g3 := of_decide_eq_false g3
            obtain ⟨f1, f2, f3⟩ := fin2 (.inr (.inr ⟨by rw [ul]; omega, by rw [ug hk']; unfold dig; rw [decide_eq_false (p := 48 ≤ s[a + j].toNat) (by omega), Bool.false_and]⟩))
            rw [dr, f1]
            dsimp only
            rw [f2, f3]
            exact PostR.pure ⟨rfl, rfl⟩ rfl
        · have g2 := of_decide_eq_false g2
          obtain ⟨f1, f2, f3⟩ := fin2 (.inl (by omega))
          rw [dr, f1]
          dsimp only
          rw [f2, f3]
          exact PostR.pure ⟨rfl, rfl⟩ rfl
      · have g1 := of_decide_eq_false g1
        obtain ⟨f1, f2, f3⟩ := fin2 (.inr (.inl (by rw [ul]; omega)))
        rw [dr, f1]
        dsimp only
        rw [f2, f3]
        exact PostR.pure ⟨rfl, rfl⟩ rfl

  · have c1 := of_decide_eq_false c1
    have hh : ¬ (s.drop a).head? = some 45 := by rw [hd, List.getElem?_eq_none (by omega)]; simp
    have e1 : (s.drop a).drop (sgn (s.drop a)) = s.drop a := by rw [sg, if_neg hh, List.drop_zero]
    rw [e1] at dg
    have s1 : sgn (s.drop a) = 0 := by rw [sg, if_neg hh]
    refine go_round (md := md90) mixed (by kernel_rfl) (fun j : {j : Nat // j ≤ 6 ∧ a + j ≤ s.length ∧ ∀ c ∈ (s.drop a).take j, dig c = true} => ⟨[.str s, .int .i64 ((a : Nat) : Int), .any, .any, .any, .any, .any, .int .i64 (valD ((s.drop a).take j.1)), .bool false, .int .i64 ((a + j.1 : Nat) : Int), .any, .any, .any, .any, .any, .any, .any, .any, .any, .any, .any, .any, .any, .any, .any, .any, .any, .any, .any, .any, .any, .any, .any, .any, .any, .any, .any, .any, .any, .any, .any, .any, .any, .any, .any, .any, .any, .any, .any, .any, .any, .any, .any, .any, .any, .any, .any, .any, .any, .any, .any, .any, .any, .any], []⟩) (fun j => 6 - j.1) ⟨0, by omega, by omega, by simp⟩ ?_ ?_
    · exact weak_drop (by simp) (by simp [DropHp, ints_below, flts_below, valD, List.foldl_nil, w1]) (by simp [DropTm, DropV, below, belowM, belowL, valD, List.foldl_nil, w1])
    rintro ⟨j, hj, hl, hj2⟩
    have vb := valD_pow (s.drop a) j (by rw [List.length_drop]; omega)
    have vb2 : (10 : Int) ^ j ≤ 1000000 := by
      have h1 : (10 : Int) ^ j ≤ 10 ^ 6 := by exact_mod_cast Nat.pow_le_pow_right (by decide) hj
      have h2 : (10 : Int) ^ 6 = 1000000 := by decide
      omega
    have nx := fun h : a + j < s.length => take_at h
    have fin := fun h => takeW_end (u := s.drop a) hj (by rw [List.length_drop]; omega) hj2 h
    have ul : (s.drop a).length = s.length - a := by rw [List.length_drop]
    have tl : ((s.drop a).take j).length = j := by rw [List.length_take, ul]; omega
    have ug : ∀ h : a + j < s.length, (s.drop a)[j]'(by rw [ul]; omega) = s[a + j] := fun h => by rw [List.getElem_drop]
    have w2 : IntKind.i64.wrap (((a : Nat) : Int) + 6) = ((a + 6 : Nat) : Int) := by rw [w64 (by omega) (by omega)]; omega
    have w3 : IntKind.i64.wrap (((a + j : Nat) : Int) + 1) = ((a + (j + 1) : Nat) : Int) := by rw [w64 (by omega) (by omega)]; omega
    generalize hv : valD ((s.drop a).take j) = v at *
    have fin2 : ∀ h, (if (s.drop a).head? = some 45 then -valD (dgs (s.drop a)) else valD (dgs (s.drop a))) = v ∧ a + (sgn (s.drop a) + (dgs (s.drop a)).length) = a + j ∧ (!(dgs (s.drop a)).isEmpty) = decide (((a : Nat) : Int) < ((a + j : Nat) : Int)) := fun h => by
      have f := fin h
      rw [dg, f, if_neg hh, hv, s1, tl]
      refine ⟨rfl, by omega, ?_⟩
      by_cases z : j = 0
      · rw [decide_eq_false (by omega), List.length_eq_zero_iff.1 (tl.trans z)]; rfl
      · rw [decide_eq_true (by omega)]
        cases hu : (s.drop a).take j with
        | nil => rw [hu] at tl; exact absurd tl.symm z
        | cons x y => rfl
    simp only [q0, q1, q2, q3, q4, q5, q6, q7, q8, q9, zq0, zq1, zq2, zq3, zq4, guardSlot, quietA, nilC, nilA, quietB, St.ev, St.put, St.after, Nat.reduceAdd, Nat.reduceSub, ofV, ofL, lenA, binA, intBin, fltBin, strBin, cpxBin, unA, convA, convB, convO, pickV, resL, oneA, indexA, indexS, isQuiet, loadA, loadC, storeA, fieldA, partA, sliceA, boundA, buildA, placeA, setAll, appendA, readSl, newEl, AV.cells, AV.solid, AV.one, kill, killM, killL, notInt, Int.reduceToNat, cond_true, cond_false, ↓reduceIte, reduceCtorEq, Nat.reduceLT, Nat.reduceLeDiff, Nat.reduceMul, Nat.reduceEqDiff, exists_eq', putF, implies_true, exists_true_left, tys0, tys1, tys2, und0, und1, md90, Tryz.ntmps90, Tryz.results90, w2]
    refine br_intro (fun g1 => ?_) (fun g1 => ?_) <;> simp only [q0, q1, q2, q3, q4, q5, q6, q7, q8, q9, zq0, zq1, zq2, zq3, zq4, guardSlot, quietA, nilC, nilA, quietB, St.ev, St.put, St.after, Nat.reduceAdd, Nat.reduceSub, ofV, ofL, lenA, binA, intBin, fltBin, strBin, cpxBin, unA, convA, convB, convO, pickV, resL, oneA, indexA, indexS, isQuiet, loadA, loadC, storeA, fieldA, partA, sliceA, boundA, buildA, placeA, setAll, appendA, readSl, newEl, AV.cells, AV.solid, AV.one, kill, killM, killL, notInt, Int.reduceToNat, cond_true, cond_false, ↓reduceIte, reduceCtorEq, Nat.reduceLT, Nat.reduceLeDiff, Nat.reduceMul, Nat.reduceEqDiff, exists_eq', putF, implies_true, exists_true_left, tys0, tys1, tys2, und0, und1, md90, Tryz.ntmps90, Tryz.results90, w2]
    · have g1 := of_decide_eq_true g1
      have hk' : a + j < s.length := by omega
      have hkI : ((a + j : Nat) : Int) < (s.length : Int) := by omega
      have sb := s[a + j].toNat_lt
      refine br_intro (fun g2 => ?_) (fun g2 => ?_) <;> simp only [q0, q1, q2, q3, q4, q5, q6, q7, q8, q9, zq0, zq1, zq2, zq3, zq4, guardSlot, quietA, nilC, nilA, quietB, St.ev, St.put, St.after, Nat.reduceAdd, Nat.reduceSub, ofV, ofL, lenA, binA, intBin, fltBin, strBin, cpxBin, unA, convA, convB, convO, pickV, resL, oneA, indexA, indexS, isQuiet, loadA, loadC, storeA, fieldA, partA, sliceA, boundA, buildA, placeA, setAll, appendA, readSl, newEl, AV.cells, AV.solid, AV.one, kill, killM, killL, notInt, Int.reduceToNat, cond_true, cond_false, ↓reduceIte, reduceCtorEq, Nat.reduceLT, Nat.reduceLeDiff, Nat.reduceMul, Nat.reduceEqDiff, exists_eq', putF, implies_true, exists_true_left, tys0, tys1, tys2, und0, und1, md90, Tryz.ntmps90, Tryz.results90, w2, hk', hkI]
      · have g2 := of_decide_eq_true g2
        refine br_intro (fun g3 => ?_) (fun g3 => ?_) <;> simp only [q0, q1, q2, q3, q4, q5, q6, q7, q8, q9, zq0, zq1, zq2, zq3, zq4, guardSlot, quietA, nilC, nilA, quietB, St.ev, St.put, St.after, Nat.reduceAdd, Nat.reduceSub, ofV, ofL, lenA, binA, intBin, fltBin, strBin, cpxBin, unA, convA, convB, convO, pickV, resL, oneA, indexA, indexS, isQuiet, loadA, loadC, storeA, fieldA, partA, sliceA, boundA, buildA, placeA, setAll, appendA, readSl, newEl, AV.cells, AV.solid, AV.one, kill, killM, killL, notInt, Int.reduceToNat, cond_true, cond_false, ↓reduceIte, reduceCtorEq, Nat.reduceLT, Nat.reduceLeDiff, Nat.reduceMul, Nat.reduceEqDiff, exists_eq', putF, implies_true, exists_true_left, tys0, tys1, tys2, und0, und1, md90, Tryz.ntmps90, Tryz.results90, w2, hk', hkI]
        · have g3 := of_decide_eq_true g3
          refine br_intro (fun g4 => ?_) (fun g4 => ?_) <;> simp only [q0, q1, q2, q3, q4, q5, q6, q7, q8, q9, zq0, zq1, zq2, zq3, zq4, guardSlot, quietA, nilC, nilA, quietB, St.ev, St.put, St.after, Nat.reduceAdd, Nat.reduceSub, ofV, ofL, lenA, binA, intBin, fltBin, strBin, cpxBin, unA, convA, convB, convO, pickV, resL, oneA, indexA, indexS, isQuiet, loadA, loadC, storeA, fieldA, partA, sliceA, boundA, buildA, placeA, setAll, appendA, readSl, newEl, AV.cells, AV.solid, AV.one, kill, killM, killL, notInt, Int.reduceToNat, cond_true, cond_false, ↓reduceIte, reduceCtorEq, Nat.reduceLT, Nat.reduceLeDiff, Nat.reduceMul, Nat.reduceEqDiff, exists_eq', putF, implies_true, exists_true_left, tys0, tys1, tys2, und0, und1, md90, Tryz.ntmps90, Tryz.results90, w2, hk', hkI]
          · have g4 := of_decide_eq_true g4
            have dd : dig s[a + j] = true := by unfold dig; rw [decide_eq_true (by omega), decide_eq_true (by omega)]; rfl
            have x1 : IntKind.u8.wrap ((s[a + j].toNat : Int) - 48) = (s[a + j].toNat : Int) - 48 := w8 (by omega) (by omega)
            have x2 : IntKind.i64.wrap ((s[a + j].toNat : Int) - 48) = (s[a + j].toNat : Int) - 48 := w64 (by omega) (by omega)
            have x3 : IntKind.i64.wrap (10 * v) = 10 * v := w64 (by omega) (by omega)
            have x4 : IntKind.i64.wrap (10 * v + ((s[a + j].toNat : Int) - 48)) = 10 * v + ((s[a + j].toNat : Int) - 48) := w64 (by omega) (by omega)
            have nx := nx hk'
            have vx : valD ((s.drop a).take (j + 1)) = 10 * v + ((s[a + j].toNat : Int) - 48) := by
              rw [nx, valD_snoc, hv]
              unfold valD1
              rw [dd, if_pos rfl]
            refine ⟨⟨j + 1, by omega, by omega, fun c hc => ?_⟩, by show 6 - (j + 1) < 6 - j; omega, ?_⟩
            · rw [nx] at hc
              rcases List.mem_append.1 hc with m | m
              · exact hj2 c m
              · rw [List.mem_singleton.1 m]; exact dd
            · show Weak 0 _ ⟨_, _⟩
              rw [vx, w3]
              exact weak_drop (by simp) (by simp [DropHp, ints_below, flts_below, x1, x2, x3, x4]) (by simp [DropTm, DropV, below, belowM, belowL, x1, x2, x3, x4])
          · have g4 := of_decide_eq_false g4
            obtain ⟨f1, f2, f3⟩ := fin2 (.inr (.inr ⟨by rw [ul]; omega, by rw [ug hk']; unfold dig; rw [decide_eq_false (p := s[a + j].toNat ≤ 57) (by omega), Bool.and_false]⟩))
            rw [dr, f1]
            dsimp only
            rw [f2, f3]
            exact PostR.pure ⟨rfl, rfl⟩ rfl
        · have g3 := of_decide_eq_false g3
          obtain ⟨f1, f2, f3⟩ := fin2 (.inr (.inr ⟨by rw [ul]; omega, by rw [ug hk']; unfold dig; rw [decide_eq_false (p := 48 ≤ s[a + j].toNat) (by omega), Bool.false_and]⟩))
          rw [dr, f1]
          dsimp only
          rw [f2, f3]
          exact PostR.pure ⟨rfl, rfl⟩ rfl
      · have g2 := of_decide_eq_false g2
        obtain ⟨f1, f2, f3⟩ := fin2 (.inl (by omega))
        rw [dr, f1]
        dsimp only
        rw [f2, f3]
        exact PostR.pure ⟨rfl, rfl⟩ rfl
    · have g1 := of_decide_eq_false g1
      obtain ⟨f1, f2, f3⟩ := fin2 (.inr (.inl (by rw [ul]; omega)))
      rw [dr, f1]
      dsimp only
      rw [f2, f3]
      exact PostR.pure ⟨rfl, rfl⟩ rfl

end Go.Proofs.YtigipcckflcilaaGreatDoor
