/- What is saved, as bytes that are read: the reference's reading. -/
import Derived.Test.YtigipcckflcilaaGreatDoorLdA
import Derived.Test.YtigipcckflcilaaGreatDoorAbsM3
set_option maxRecDepth 10000
set_option maxHeartbeats 4000000
set_option linter.unusedSimpArgs false
set_option linter.unusedVariables false
namespace Go.Proofs.YtigipcckflcilaaGreatDoor
open Go Go.Abs

def beginA (o : Option (Sav × Nat)) : AV := match o with
  | some (x, n) => .tup [.agg [.str x.1, .ro (x.2.1.map rulA), slV 0 x.2.2.length], .int .i64 ((n : Nat) : Int)]
  | none => .tup [.agg [.str [], .nils, .nils], .int .i64 0]
def beginH (o : Option (Sav × Nat)) : List Blk := match o with
  | some (x, _) => [incBk x.2.2]
  | none => []
theorem nilD_zero (l : List AV) : l.map (nilD 0) = l := by
  have : ∀ a ∈ l, nilD 0 a = id a := fun _ _ => rfl
  rw [List.map_congr_left this, List.map_id]
theorem take_incs (s : List UInt8) (n : Nat) : (ints (incsOf s n)).take n = ints (incsOf s n) := List.take_of_length_le (by rw [ints_len, incsOf_len]; exact Nat.le_refl _)
theorem validB_pos {x : Sav} (h : validB x = true) : 1 ≤ x.2.2.length := by
  unfold validB incB at h
  simp only [Bool.and_eq_true, decide_eq_true_eq] at h
  exact h.2.1.1
theorem l07Begin_call (s : List UInt8) (hs : s.length ≤ 1048576) : CallA Tryz.prog 61 [.str s] [] (Ret (beginA (beginOf s)) (beginH (beginOf s))) := by
  have hA := at1_lt s 4
  have hT := at2_lt s (pA s)
  have hN := at1_lt s (pB s)
  have eA : pA s = 5 + at1 s 4 := rfl
  have eB : pB s = pA s + 2 + at2 s (pA s) := rfl
  have eN : cN s = at1 s (pB s) := rfl
  have eS : size s = pB s + 1 + 4 * cN s + 2 := rfl
  refine CallP.out (t := .mk) (go_in (md := md61) mixed Tryz.func61 rfl go61 (by kernel_rfl) ?_)
  simp only [q0, q1, q2, q3, q4, q5, q6, q7, q8, q9, zq0, zq1, zq2, zq3, zq4, guardSlot, quietA, nilC, nilA, quietB, St.ev, St.put, St.after, Nat.reduceAdd, Nat.reduceSub, ofV, ofL, lenA, binA, intBin, fltBin, strBin, cpxBin, unA, convA, convB, convO, pickV, resL, oneA, indexA, indexS, isQuiet, loadA, loadC, storeA, fieldA, partA, sliceA, boundA, buildA, placeA, setAll, appendA, readSl, newEl, AV.cells, AV.solid, AV.one, kill, killM, killL, notInt, Int.reduceToNat, cond_true, cond_false, ↓reduceIte, reduceCtorEq, Nat.reduceLT, Nat.reduceLeDiff, Nat.reduceMul, Nat.reduceEqDiff, exists_eq', putF, implies_true, exists_true_left, tys0, tys1, tys2, und0, und1, md61, Tryz.ntmps61, Tryz.results61]
  refine br_intro (fun c1 => ?_) (fun c1 => ?_) <;> simp only [q0, q1, q2, q3, q4, q5, q6, q7, q8, q9, zq0, zq1, zq2, zq3, zq4, guardSlot, quietA, nilC, nilA, quietB, St.ev, St.put, St.after, Nat.reduceAdd, Nat.reduceSub, ofV, ofL, lenA, binA, intBin, fltBin, strBin, cpxBin, unA, convA, convB, convO, pickV, resL, oneA, indexA, indexS, isQuiet, loadA, loadC, storeA, fieldA, partA, sliceA, boundA, buildA, placeA, setAll, appendA, readSl, newEl, AV.cells, AV.solid, AV.one, kill, killM, killL, notInt, Int.reduceToNat, cond_true, cond_false, ↓reduceIte, reduceCtorEq, Nat.reduceLT, Nat.reduceLeDiff, Nat.reduceMul, Nat.reduceEqDiff, exists_eq', putF, implies_true, exists_true_left, tys0, tys1, tys2, und0, und1, md61, Tryz.ntmps61, Tryz.results61]
  · have c1 := of_decide_eq_true c1
    rw [begin_short (by omega)]
    exact PostR.pure ⟨rfl, rfl⟩ rfl
  have c1 := of_decide_eq_false c1
  have h4 : 4 < s.length := by omega
  have g4 := at1_get h4
  have w1 : IntKind.i64.wrap (s[4].toNat : Int) = ((at1 s 4 : Nat) : Int) := by rw [g4, w64 (by omega) (by omega)]
  have w2 : IntKind.i64.wrap (5 + ((at1 s 4 : Nat) : Int)) = ((pA s : Nat) : Int) := by rw [w64 (by omega) (by omega)]; omega
  have w3 : IntKind.i64.wrap (((pA s : Nat) : Int) + 2) = ((pA s + 2 : Nat) : Int) := by rw [w64 (by omega) (by omega)]; omega
  simp only [q0, q1, q2, q3, q4, q5, q6, q7, q8, q9, zq0, zq1, zq2, zq3, zq4, guardSlot, quietA, nilC, nilA, quietB, St.ev, St.put, St.after, Nat.reduceAdd, Nat.reduceSub, ofV, ofL, lenA, binA, intBin, fltBin, strBin, cpxBin, unA, convA, convB, convO, pickV, resL, oneA, indexA, indexS, isQuiet, loadA, loadC, storeA, fieldA, partA, sliceA, boundA, buildA, placeA, setAll, appendA, readSl, newEl, AV.cells, AV.solid, AV.one, kill, killM, killL, notInt, Int.reduceToNat, cond_true, cond_false, ↓reduceIte, reduceCtorEq, Nat.reduceLT, Nat.reduceLeDiff, Nat.reduceMul, Nat.reduceEqDiff, exists_eq', putF, implies_true, exists_true_left, tys0, tys1, tys2, und0, und1, md61, Tryz.ntmps61, Tryz.results61, w1, w2, w3, h4]
  refine ⟨by decide, ?_⟩
  refine br_intro (fun c2 => ?_) (fun c2 => ?_) <;> simp only [q0, q1, q2, q3, q4, q5, q6, q7, q8, q9, zq0, zq1, zq2, zq3, zq4, guardSlot, quietA, nilC, nilA, quietB, St.ev, St.put, St.after, Nat.reduceAdd, Nat.reduceSub, ofV, ofL, lenA, binA, intBin, fltBin, strBin, cpxBin, unA, convA, convB, convO, pickV, resL, oneA, indexA, indexS, isQuiet, loadA, loadC, storeA, fieldA, partA, sliceA, boundA, buildA, placeA, setAll, appendA, readSl, newEl, AV.cells, AV.solid, AV.one, kill, killM, killL, notInt, Int.reduceToNat, cond_true, cond_false, ↓reduceIte, reduceCtorEq, Nat.reduceLT, Nat.reduceLeDiff, Nat.reduceMul, Nat.reduceEqDiff, exists_eq', putF, implies_true, exists_true_left, tys0, tys1, tys2, und0, und1, md61, Tryz.ntmps61, Tryz.results61, w1, w2, w3]
  · have c2 := of_decide_eq_true c2
    rw [begin_short (by omega)]
    exact PostR.pure ⟨rfl, rfl⟩ rfl
  have c2 := of_decide_eq_false c2
  have hp0 : pA s < s.length := by omega
  have hp1 : pA s + 1 < s.length := by omega
  have g5 := at2_get hp1
  have b5 := s[pA s].toNat_lt
  have b6 := s[pA s + 1].toNat_lt
  have w4 : IntKind.i64.wrap (((pA s : Nat) : Int) + 1) = ((pA s + 1 : Nat) : Int) := by rw [w64 (by omega) (by omega)]; omega
  have w5 : IntKind.i64.wrap (s[pA s].toNat : Int) = (s[pA s].toNat : Int) := w64 (by omega) (by omega)
  have w6 : IntKind.i64.wrap (s[pA s + 1].toNat : Int) = (s[pA s + 1].toNat : Int) := w64 (by omega) (by omega)
  have w7 : IntKind.i64.wrap (256 * (s[pA s + 1].toNat : Int)) = 256 * (s[pA s + 1].toNat : Int) := w64 (by omega) (by omega)
  have w8 : IntKind.i64.wrap ((s[pA s].toNat : Int) + 256 * (s[pA s + 1].toNat : Int)) = ((at2 s (pA s) : Nat) : Int) := by rw [w64 (by omega) (by omega)]; omega
  have w9 : IntKind.i64.wrap (((pA s + 2 : Nat) : Int) + ((at2 s (pA s) : Nat) : Int)) = ((pB s : Nat) : Int) := by rw [w64 (by omega) (by omega)]; omega
  have w10 : IntKind.i64.wrap (((pB s : Nat) : Int) + 1) = ((pB s + 1 : Nat) : Int) := by rw [w64 (by omega) (by omega)]; omega
  refine ⟨by omega, by omega, ?_⟩
  simp only [q0, q1, q2, q3, q4, q5, q6, q7, q8, q9, zq0, zq1, zq2, zq3, zq4, guardSlot, quietA, nilC, nilA, quietB, St.ev, St.put, St.after, Nat.reduceAdd, Nat.reduceSub, ofV, ofL, lenA, binA, intBin, fltBin, strBin, cpxBin, unA, convA, convB, convO, pickV, resL, oneA, indexA, indexS, isQuiet, loadA, loadC, storeA, fieldA, partA, sliceA, boundA, buildA, placeA, setAll, appendA, readSl, newEl, AV.cells, AV.solid, AV.one, kill, killM, killL, notInt, Int.reduceToNat, cond_true, cond_false, ↓reduceIte, reduceCtorEq, Nat.reduceLT, Nat.reduceLeDiff, Nat.reduceMul, Nat.reduceEqDiff, exists_eq', putF, implies_true, exists_true_left, tys0, tys1, tys2, und0, und1, md61, Tryz.ntmps61, Tryz.results61, w3, w4, w5, w6, w7, w8, w9, w10, hp0, hp1]
  refine ⟨by omega, ?_⟩
  refine br_intro (fun c3 => ?_) (fun c3 => ?_) <;> simp only [q0, q1, q2, q3, q4, q5, q6, q7, q8, q9, zq0, zq1, zq2, zq3, zq4, guardSlot, quietA, nilC, nilA, quietB, St.ev, St.put, St.after, Nat.reduceAdd, Nat.reduceSub, ofV, ofL, lenA, binA, intBin, fltBin, strBin, cpxBin, unA, convA, convB, convO, pickV, resL, oneA, indexA, indexS, isQuiet, loadA, loadC, storeA, fieldA, partA, sliceA, boundA, buildA, placeA, setAll, appendA, readSl, newEl, AV.cells, AV.solid, AV.one, kill, killM, killL, notInt, Int.reduceToNat, cond_true, cond_false, ↓reduceIte, reduceCtorEq, Nat.reduceLT, Nat.reduceLeDiff, Nat.reduceMul, Nat.reduceEqDiff, exists_eq', putF, implies_true, exists_true_left, tys0, tys1, tys2, und0, und1, md61, Tryz.ntmps61, Tryz.results61, w3, w4, w5, w6, w7, w8, w9, w10, hp0, hp1]
  · have c3 := of_decide_eq_true c3
    rw [begin_short (by omega)]
    exact PostR.pure ⟨rfl, rfl⟩ rfl
  have c3 := of_decide_eq_false c3
  refine ⟨by omega, by omega, ?_⟩
  have tl : (textOf s).length ≤ 1048576 := by unfold textOf; rw [List.length_drop, List.length_take]; omega
  have te : List.drop (pA s + 2) (List.take (pB s) s) = textOf s := rfl
  have ne : List.drop 5 (List.take (pA s) s) = nameOf s := rfl
  rw [te, ne]
  have rr := specReadRulesF (textOf s) tl
  cases hr : rulesOf (textOf s) with
  | none =>
    rw [hr] at rr
    refine call_ret (r := .tup [.ro [], .bool false]) rr rfl rfl ?_
    simp only [q0, q1, q2, q3, q4, q5, q6, q7, q8, q9, zq0, zq1, zq2, zq3, zq4, guardSlot, quietA, nilC, nilA, quietB, St.ev, St.put, St.after, Nat.reduceAdd, Nat.reduceSub, ofV, ofL, lenA, binA, intBin, fltBin, strBin, cpxBin, unA, convA, convB, convO, pickV, resL, oneA, indexA, indexS, isQuiet, loadA, loadC, storeA, fieldA, partA, sliceA, boundA, buildA, placeA, setAll, appendA, readSl, newEl, AV.cells, AV.solid, AV.one, kill, killM, killL, notInt, Int.reduceToNat, cond_true, cond_false, ↓reduceIte, reduceCtorEq, Nat.reduceLT, Nat.reduceLeDiff, Nat.reduceMul, Nat.reduceEqDiff, exists_eq', putF, implies_true, exists_true_left, tys0, tys1, tys2, und0, und1, md61, Tryz.ntmps61, Tryz.results61]
    rw [begin_none hr]
    exact PostR.pure ⟨rfl, rfl⟩ rfl
  | some R =>
  rw [hr] at rr
  refine call_ret (r := .tup [.ro (R.map rulA), .bool true]) rr rfl rfl ?_
  have hq0 : pB s < s.length := by omega
  have g7 := at1_get hq0
  have b7 := s[pB s].toNat_lt
  have w11 : IntKind.i64.wrap (s[pB s].toNat : Int) = ((cN s : Nat) : Int) := by rw [w64 (by omega) (by omega)]; omega
  have w12 : IntKind.i64.wrap (4 * ((cN s : Nat) : Int)) = ((4 * cN s : Nat) : Int) := by rw [w64 (by omega) (by omega)]; omega
  have w13 : IntKind.i64.wrap (((pB s + 1 : Nat) : Int) + ((4 * cN s : Nat) : Int)) = ((pB s + 1 + 4 * cN s : Nat) : Int) := by rw [w64 (by omega) (by omega)]; omega
  have w14 : IntKind.i64.wrap (((pB s + 1 + 4 * cN s : Nat) : Int) + 2) = ((size s : Nat) : Int) := by rw [w64 (by omega) (by omega)]; omega
  simp only [q0, q1, q2, q3, q4, q5, q6, q7, q8, q9, zq0, zq1, zq2, zq3, zq4, guardSlot, quietA, nilC, nilA, quietB, St.ev, St.put, St.after, Nat.reduceAdd, Nat.reduceSub, ofV, ofL, lenA, binA, intBin, fltBin, strBin, cpxBin, unA, convA, convB, convO, pickV, resL, oneA, indexA, indexS, isQuiet, loadA, loadC, storeA, fieldA, partA, sliceA, boundA, buildA, placeA, setAll, appendA, readSl, newEl, AV.cells, AV.solid, AV.one, kill, killM, killL, notInt, Int.reduceToNat, cond_true, cond_false, ↓reduceIte, reduceCtorEq, Nat.reduceLT, Nat.reduceLeDiff, Nat.reduceMul, Nat.reduceEqDiff, exists_eq', putF, implies_true, exists_true_left, tys0, tys1, tys2, und0, und1, md61, Tryz.ntmps61, Tryz.results61, w9, w10, w11, w12, w13, w14, hq0]

  refine br_intro (fun c4 => ?_) (fun c4 => ?_) <;> simp only [q0, q1, q2, q3, q4, q5, q6, q7, q8, q9, zq0, zq1, zq2, zq3, zq4, guardSlot, quietA, nilC, nilA, quietB, St.ev, St.put, St.after, Nat.reduceAdd, Nat.reduceSub, ofV, ofL, lenA, binA, intBin, fltBin, strBin, cpxBin, unA, convA, convB, convO, pickV, resL, oneA, indexA, indexS, isQuiet, loadA, loadC, storeA, fieldA, partA, sliceA, boundA, buildA, placeA, setAll, appendA, readSl, newEl, AV.cells, AV.solid, AV.one, kill, killM, killL, notInt, Int.reduceToNat, cond_true, cond_false, ↓reduceIte, reduceCtorEq, Nat.reduceLT, Nat.reduceLeDiff, Nat.reduceMul, Nat.reduceEqDiff, exists_eq', putF, implies_true, exists_true_left, tys0, tys1, tys2, und0, und1, md61, Tryz.ntmps61, Tryz.results61, w9, w10, w11, w12, w13, w14, hq0]
  · have c4 := of_decide_eq_true c4
    rw [begin_short (by omega)]
    exact PostR.pure ⟨rfl, rfl⟩ rfl
  have c4 := of_decide_eq_false c4
  have bs := begin_some (s := s) (by omega) hr
  have sz := sizS_small hs (pA_le s) hr
  have e0 : ifsH (incsOf s 0) = [] := rfl
  refine go_round (md := md61) mixed (by kernel_rfl) (fun i : {i : Nat // i ≤ cN s} => ⟨[.str s, .any, .ptr 0 0 0, .any, .int .i64 ((pB s + 1 + 4 * i.1 : Nat) : Int), .ptr 1 0 0, .any, .any, .any, .int .i64 ((cN s - i.1 : Nat) : Int), .any, .any, .any, .any, .any, .any, .any, .any, .any, .any, .any, .any, .any, .any, .any, .any, .any, .any, .any, .any, .any, .any, .any, .any, .any, .any, .any, .any, .any, .any, .any, .any, .any, .any, .any, .any, .any, .any, .any, .any, .any, .any, .any, .any, .any, .any, .any, .any, .any, .any, .any, .any, .any, .any, .any, .any, .any, .any, .any, .any, .any, .any, .any, .any, .any, .any, .any, .any, .any, .any, .any, .any, .any, .any, .any, .any, .any, .any, .any, .any, .any, .any, .any, .any, .any, .any, .any, .any, .any, .any, .any, .any, .any, .any, .any, .any, .any, .any, .any, .any, .any, .any, .any, .any, .any, .any, .any, .any, .any, .any, .any, .any, .any, .any, .any, .any, .any, .any, .any, .any, .any, .any], [savB [sav0], savB [.agg [.str (nameOf s), .ro (R.map rulA), slV 2 i.1]]] ++ ifsH (incsOf s i.1)⟩) (fun i => cN s - i.1) ⟨0, by omega⟩ ?_ ?_
  · refine weak_same rfl ?_
    simp [SameTm]
  rintro ⟨i, hi⟩
  have il := incsOf_len s i
  have isc := incsOf_succ s i
  have isl := incsOf_len s (i + 1)
  generalize hk : pB s + 1 + 4 * i = k at isc
  have x1 : IntKind.i64.wrap ((k : Int) + 1) = ((k + 1 : Nat) : Int) := by rw [w64 (by omega) (by omega)]; omega
  have x2 : IntKind.i64.wrap ((k : Int) + 2) = ((k + 2 : Nat) : Int) := by rw [w64 (by omega) (by omega)]; omega
  have x3 : IntKind.i64.wrap ((k : Int) + 3) = ((k + 3 : Nat) : Int) := by rw [w64 (by omega) (by omega)]; omega
  have x4 : IntKind.i64.wrap ((k : Int) + 4) = ((k + 4 : Nat) : Int) := by rw [w64 (by omega) (by omega)]; omega
  have x5 : i < cN s → IntKind.i64.wrap (((cN s - i : Nat) : Int) - 1) = ((cN s - (i + 1) : Nat) : Int) := fun h => by rw [w64 (by omega) (by omega)]; omega
  have body : i < cN s → ∃ (h0 : k < s.length) (h1 : k + 1 < s.length) (h2 : k + 2 < s.length) (h3 : k + 3 < s.length), IntKind.i64.wrap (s[k].toNat : Int) = (s[k].toNat : Int) ∧ IntKind.i64.wrap (s[k + 1].toNat : Int) = (s[k + 1].toNat : Int) ∧ IntKind.i64.wrap (s[k + 2].toNat : Int) = (s[k + 2].toNat : Int) ∧ IntKind.i64.wrap (s[k + 3].toNat : Int) = (s[k + 3].toNat : Int) ∧
      IntKind.i64.wrap (256 * (s[k + 1].toNat : Int)) = 256 * (s[k + 1].toNat : Int) ∧ IntKind.i64.wrap (65536 * (s[k + 2].toNat : Int)) = 65536 * (s[k + 2].toNat : Int) ∧ IntKind.i64.wrap (16777216 * (s[k + 3].toNat : Int)) = 16777216 * (s[k + 3].toNat : Int) ∧
      IntKind.i64.wrap ((s[k].toNat : Int) + 256 * (s[k + 1].toNat : Int)) = (s[k].toNat : Int) + 256 * (s[k + 1].toNat : Int) ∧ IntKind.i64.wrap ((s[k].toNat : Int) + 256 * (s[k + 1].toNat : Int) + 65536 * (s[k + 2].toNat : Int)) = (s[k].toNat : Int) + 256 * (s[k + 1].toNat : Int) + 65536 * (s[k + 2].toNat : Int) ∧
      IntKind.i64.wrap ((s[k].toNat : Int) + 256 * (s[k + 1].toNat : Int) + 65536 * (s[k + 2].toNat : Int) + 16777216 * (s[k + 3].toNat : Int)) = ((at4 s k : Nat) : Int) := fun h => by
    have h3 : k + 3 < s.length := by omega
    have g := at4_get h3
    have b0 := s[k].toNat_lt
    have b1 := s[k + 1].toNat_lt
    have b2 := s[k + 2].toNat_lt
    have b3 := s[k + 3].toNat_lt
    refine ⟨by omega, by omega, by omega, h3, w64 (by omega) (by omega), w64 (by omega) (by omega), w64 (by omega) (by omega), w64 (by omega) (by omega), w64 (by omega) (by omega), w64 (by omega) (by omega), w64 (by omega) (by omega), w64 (by omega) (by omega), w64 (by omega) (by omega), ?_⟩
    rw [w64 (by omega) (by omega), g]
    omega
  cases i with
  | zero =>
    have e1 : slV 2 0 = .nils := rfl
    rw [e0, e1]
    simp only [q0, q1, q2, q3, q4, q5, q6, q7, q8, q9, zq0, zq1, zq2, zq3, zq4, guardSlot, quietA, nilC, nilA, quietB, St.ev, St.put, St.after, Nat.reduceAdd, Nat.reduceSub, ofV, ofL, lenA, binA, intBin, fltBin, strBin, cpxBin, unA, convA, convB, convO, pickV, resL, oneA, indexA, indexS, isQuiet, loadA, loadC, storeA, fieldA, partA, sliceA, boundA, buildA, placeA, setAll, appendA, readSl, newEl, AV.cells, AV.solid, AV.one, kill, killM, killL, notInt, Int.reduceToNat, cond_true, cond_false, ↓reduceIte, reduceCtorEq, Nat.reduceLT, Nat.reduceLeDiff, Nat.reduceMul, Nat.reduceEqDiff, exists_eq', putF, implies_true, exists_true_left, tys0, tys1, tys2, und0, und1, md61, Tryz.ntmps61, Tryz.results61, savB, sav0, hk]
    refine br_intro (fun g => ?_) (fun g => ?_) <;> simp only [q0, q1, q2, q3, q4, q5, q6, q7, q8, q9, zq0, zq1, zq2, zq3, zq4, guardSlot, quietA, nilC, nilA, quietB, St.ev, St.put, St.after, Nat.reduceAdd, Nat.reduceSub, ofV, ofL, lenA, binA, intBin, fltBin, strBin, cpxBin, unA, convA, convB, convO, pickV, resL, oneA, indexA, indexS, isQuiet, loadA, loadC, storeA, fieldA, partA, sliceA, boundA, buildA, placeA, setAll, appendA, readSl, newEl, AV.cells, AV.solid, AV.one, kill, killM, killL, notInt, Int.reduceToNat, cond_true, cond_false, ↓reduceIte, reduceCtorEq, Nat.reduceLT, Nat.reduceLeDiff, Nat.reduceMul, Nat.reduceEqDiff, exists_eq', putF, implies_true, exists_true_left, tys0, tys1, tys2, und0, und1, md61, Tryz.ntmps61, Tryz.results61, savB, sav0, hk]
    · have g : 0 < cN s := by have := of_decide_eq_true g; omega
      have x5 := x5 g
      obtain ⟨h0, h1, h2, h3, y0, y1, y2, y3, z1, z2, z3, u1, u2, u3⟩ := body g
      refine go_order mixed [0, 1, 2, 3, 4, 5, 6, 7, 8, 9, 10, 11, 12, 13, 14, 15, 16, 17, 18, 19, 20, 21, 22, 23, 24, 25, 26, 27, 28, 29, 30] [false, false, false, false, false, false, false, false, false, false, false, false, false, false, false, false, false, false, false, false, false, false, false, false, false, false, false, false, true, false, true] (by kernel_rfl) ?_
      iterate 27 (refine od_quiet (by rfl) (by rfl) (by rfl) ?_; simp only [q0, q1, q2, q3, q4, q5, q6, q7, q8, q9, zq0, zq1, zq2, zq3, zq4, guardSlot, quietA, nilC, nilA, quietB, St.ev, St.put, St.after, Nat.reduceAdd, Nat.reduceSub, ofV, ofL, lenA, binA, intBin, fltBin, strBin, cpxBin, unA, convA, convB, convO, pickV, resL, oneA, indexA, indexS, isQuiet, loadA, loadC, storeA, fieldA, partA, sliceA, boundA, buildA, placeA, setAll, appendA, readSl, newEl, AV.cells, AV.solid, AV.one, kill, killM, killL, notInt, Int.reduceToNat, cond_true, cond_false, ↓reduceIte, reduceCtorEq, Nat.reduceLT, Nat.reduceLeDiff, Nat.reduceMul, Nat.reduceEqDiff, exists_eq', putF, implies_true, exists_true_left, tys0, tys1, tys2, und0, und1, md61, Tryz.ntmps61, Tryz.results61, hk, x1, x2, x3, x4, y0, y1, y2, y3, z1, z2, z3, u1, u2, u3, h0, h1, h2, h3, savB, sav0])
      refine od_fresh (by rfl) (by rfl) (by rfl) { ty := 2, w := 1, els := [.int .i64 ((at4 s k : Nat) : Int)] } 1 (.sl 0 0 1) rfl rfl ?_ rfl ?_ ?_
      · intro b hb
        have hb' : b ∈ [savB [sav0], savB [.agg [.str (nameOf s), .ro (R.map rulA), .nils]]] := hb
        simp only [List.mem_cons, List.not_mem_nil, or_false] at hb'
        rcases hb' with rfl | rfl <;> simp [savB, sav0, intB, allBelow_cons, allBelow_nil, below, belowM, belowL, ints_below]
      · simp only [q0, q1, q2, q3, q4, q5, q6, q7, q8, q9, zq0, zq1, zq2, zq3, zq4, guardSlot, quietA, nilC, nilA, quietB, St.ev, St.put, St.after, Nat.reduceAdd, Nat.reduceSub, ofV, ofL, lenA, binA, intBin, fltBin, strBin, cpxBin, unA, convA, convB, convO, pickV, resL, oneA, indexA, indexS, isQuiet, loadA, loadC, storeA, fieldA, partA, sliceA, boundA, buildA, placeA, setAll, appendA, readSl, newEl, AV.cells, AV.solid, AV.one, kill, killM, killL, notInt, Int.reduceToNat, cond_true, cond_false, ↓reduceIte, reduceCtorEq, Nat.reduceLT, Nat.reduceLeDiff, Nat.reduceMul, Nat.reduceEqDiff, exists_eq', putF, implies_true, exists_true_left, tys0, tys1, tys2, und0, und1, md61, Tryz.ntmps61, Tryz.results61]
        rfl
      rw [show view 1 [({ ty := 2, w := 1, els := [.int .i64 ((at4 s k : Nat) : Int)] } : Blk)] (.sl 0 0 1) = .ro [.int .i64 ((at4 s k : Nat) : Int)] from by simp [view_sl, view_int]]
      simp only [q0, q1, q2, q3, q4, q5, q6, q7, q8, q9, zq0, zq1, zq2, zq3, zq4, guardSlot, quietA, nilC, nilA, quietB, St.ev, St.put, St.after, Nat.reduceAdd, Nat.reduceSub, ofV, ofL, lenA, binA, intBin, fltBin, strBin, cpxBin, unA, convA, convB, convO, pickV, resL, oneA, indexA, indexS, isQuiet, loadA, loadC, storeA, fieldA, partA, sliceA, boundA, buildA, placeA, setAll, appendA, readSl, newEl, AV.cells, AV.solid, AV.one, kill, killM, killL, notInt, Int.reduceToNat, cond_true, cond_false, ↓reduceIte, reduceCtorEq, Nat.reduceLT, Nat.reduceLeDiff, Nat.reduceMul, Nat.reduceEqDiff, exists_eq', putF, implies_true, exists_true_left, tys0, tys1, tys2, und0, und1, md61, Tryz.ntmps61, Tryz.results61]
      refine od_one (by rfl) (by rfl) (by rfl) ?_
      simp only [q0, q1, q2, q3, q4, q5, q6, q7, q8, q9, zq0, zq1, zq2, zq3, zq4, guardSlot, quietA, nilC, nilA, quietB, St.ev, St.put, St.after, Nat.reduceAdd, Nat.reduceSub, ofV, ofL, lenA, binA, intBin, fltBin, strBin, cpxBin, unA, convA, convB, convO, pickV, resL, oneA, indexA, indexS, isQuiet, loadA, loadC, storeA, fieldA, partA, sliceA, boundA, buildA, placeA, setAll, appendA, readSl, newEl, AV.cells, AV.solid, AV.one, kill, killM, killL, notInt, Int.reduceToNat, cond_true, cond_false, ↓reduceIte, reduceCtorEq, Nat.reduceLT, Nat.reduceLeDiff, Nat.reduceMul, Nat.reduceEqDiff, exists_eq', putF, implies_true, exists_true_left, tys0, tys1, tys2, und0, und1, md61, Tryz.ntmps61, Tryz.results61, allW_int, fits, List.isEmpty_cons, brk_false, Nat.reduceMul, hk, x1, x2, x3, x4, y0, y1, y2, y3, z1, z2, z3, u1, u2, u3, h0, h1, h2, h3, savB, sav0]
      skip
      refine od_quiet (by rfl) (by rfl) (by rfl) ?_
      simp only [q0, q1, q2, q3, q4, q5, q6, q7, q8, q9, zq0, zq1, zq2, zq3, zq4, guardSlot, quietA, nilC, nilA, quietB, St.ev, St.put, St.after, Nat.reduceAdd, Nat.reduceSub, ofV, ofL, lenA, binA, intBin, fltBin, strBin, cpxBin, unA, convA, convB, convO, pickV, resL, oneA, indexA, indexS, isQuiet, loadA, loadC, storeA, fieldA, partA, sliceA, boundA, buildA, placeA, setAll, appendA, readSl, newEl, AV.cells, AV.solid, AV.one, kill, killM, killL, notInt, Int.reduceToNat, cond_true, cond_false, ↓reduceIte, reduceCtorEq, Nat.reduceLT, Nat.reduceLeDiff, Nat.reduceMul, Nat.reduceEqDiff, exists_eq', putF, implies_true, exists_true_left, tys0, tys1, tys2, und0, und1, md61, Tryz.ntmps61, Tryz.results61]
      refine od_one (by rfl) (by rfl) (by rfl) ?_
      simp only [q0, q1, q2, q3, q4, q5, q6, q7, q8, q9, zq0, zq1, zq2, zq3, zq4, guardSlot, quietA, nilC, nilA, quietB, St.ev, St.put, St.after, Nat.reduceAdd, Nat.reduceSub, ofV, ofL, lenA, binA, intBin, fltBin, strBin, cpxBin, unA, convA, convB, convO, pickV, resL, oneA, indexA, indexS, isQuiet, loadA, loadC, storeA, fieldA, partA, sliceA, boundA, buildA, placeA, setAll, appendA, readSl, newEl, AV.cells, AV.solid, AV.one, kill, killM, killL, notInt, Int.reduceToNat, cond_true, cond_false, ↓reduceIte, reduceCtorEq, Nat.reduceLT, Nat.reduceLeDiff, Nat.reduceMul, Nat.reduceEqDiff, exists_eq', putF, implies_true, exists_true_left, tys0, tys1, tys2, und0, und1, md61, Tryz.ntmps61, Tryz.results61]
      refine od_nil ?_
      simp only [q0, q1, q2, q3, q4, q5, q6, q7, q8, q9, zq0, zq1, zq2, zq3, zq4, guardSlot, quietA, nilC, nilA, quietB, St.ev, St.put, St.after, Nat.reduceAdd, Nat.reduceSub, ofV, ofL, lenA, binA, intBin, fltBin, strBin, cpxBin, unA, convA, convB, convO, pickV, resL, oneA, indexA, indexS, isQuiet, loadA, loadC, storeA, fieldA, partA, sliceA, boundA, buildA, placeA, setAll, appendA, readSl, newEl, AV.cells, AV.solid, AV.one, kill, killM, killL, notInt, Int.reduceToNat, cond_true, cond_false, ↓reduceIte, reduceCtorEq, Nat.reduceLT, Nat.reduceLeDiff, Nat.reduceMul, Nat.reduceEqDiff, exists_eq', putF, implies_true, exists_true_left, tys0, tys1, tys2, und0, und1, md61, Tryz.ntmps61, Tryz.results61, x4, x5]
      try simp only [q0, q1, q2, q3, q4, q5, q6, q7, q8, q9, zq0, zq1, zq2, zq3, zq4, guardSlot, quietA, nilC, nilA, quietB, St.ev, St.put, St.after, Nat.reduceAdd, Nat.reduceSub, ofV, ofL, lenA, binA, intBin, fltBin, strBin, cpxBin, unA, convA, convB, convO, pickV, resL, oneA, indexA, indexS, isQuiet, loadA, loadC, storeA, fieldA, partA, sliceA, boundA, buildA, placeA, setAll, appendA, readSl, newEl, AV.cells, AV.solid, AV.one, kill, killM, killL, notInt, Int.reduceToNat, cond_true, cond_false, ↓reduceIte, reduceCtorEq, Nat.reduceLT, Nat.reduceLeDiff, Nat.reduceMul, Nat.reduceEqDiff, exists_eq', putF, implies_true, exists_true_left, tys0, tys1, tys2, und0, und1, md61, Tryz.ntmps61, Tryz.results61, x4, x5]
      refine ⟨⟨1, by omega⟩, by show cN s - (1) < cN s - (0); omega, ?_⟩
      have e3 : incsOf s 1 = [((at4 s k : Nat) : Int)] := isc
      have e2 : ifsH (incsOf s 1) = [intB [((at4 s k : Nat) : Int)]] := by rw [e3]; rfl
      have e4 : k + 4 = pB s + 1 + 4 * 1 := by omega
      show Weak 0 _ ⟨_, _⟩
      rw [e2, ← e4]
      exact weak_drop (by simp) (by simp [DropHp, ints_below, flts_below, savB, sav0, intB, ints, slV, allBelow_cons, allBelow_nil, below, belowM, belowL, rul_below]) (by simp [DropTm, DropV, below, belowM, belowL, savB, sav0, intB, ints, slV, allBelow_cons, allBelow_nil, below, belowM, belowL, rul_below])
    · have g : 0 = cN s := by have := of_decide_eq_false g; omega
      have hx : savedOf s R = (nameOf s, R, incsOf s (0)) := by unfold savedOf; rw [← g]
      have vp : ∀ b : Blk, (([AV.ptr 1 0 0].map (view 3 [b, savB [.agg [.str (nameOf s), .ro (R.map rulA), .nils]]])).map (nilD 2)) = [.rop [.str (savedOf s R).1, .ro ((savedOf s R).2.1.map rulA), .ro (ints (savedOf s R).2.2)]] := fun b => by
        rw [hx]
        simp [view_ptr, view_sl, savB, intB, ints_len, map_view_ints, take_ints, view_str, view_ro, view_nils, nilD, nilD_zero, nilD_ints, AV.cells, il, incsOf, ints]
      refine callr_lentN 3 2 (vp _) (l07Saved_call (savedOf s R) sz) rfl rfl ?_
      simp only [q0, q1, q2, q3, q4, q5, q6, q7, q8, q9, zq0, zq1, zq2, zq3, zq4, guardSlot, quietA, nilC, nilA, quietB, St.ev, St.put, St.after, Nat.reduceAdd, Nat.reduceSub, ofV, ofL, lenA, binA, intBin, fltBin, strBin, cpxBin, unA, convA, convB, convO, pickV, resL, oneA, indexA, indexS, isQuiet, loadA, loadC, storeA, fieldA, partA, sliceA, boundA, buildA, placeA, setAll, appendA, readSl, newEl, AV.cells, AV.solid, AV.one, kill, killM, killL, notInt, Int.reduceToNat, cond_true, cond_false, ↓reduceIte, reduceCtorEq, Nat.reduceLT, Nat.reduceLeDiff, Nat.reduceMul, Nat.reduceEqDiff, exists_eq', putF, implies_true, exists_true_left, tys0, tys1, tys2, und0, und1, md61, Tryz.ntmps61, Tryz.results61]
      have x6 : IntKind.i64.wrap ((k : Int) + 2) = ((size s : Nat) : Int) := by rw [w64 (by omega) (by omega)]; omega
      refine br_intro (fun v => ?_) (fun v => ?_) <;> simp only [q0, q1, q2, q3, q4, q5, q6, q7, q8, q9, zq0, zq1, zq2, zq3, zq4, guardSlot, quietA, nilC, nilA, quietB, St.ev, St.put, St.after, Nat.reduceAdd, Nat.reduceSub, ofV, ofL, lenA, binA, intBin, fltBin, strBin, cpxBin, unA, convA, convB, convO, pickV, resL, oneA, indexA, indexS, isQuiet, loadA, loadC, storeA, fieldA, partA, sliceA, boundA, buildA, placeA, setAll, appendA, readSl, newEl, AV.cells, AV.solid, AV.one, kill, killM, killL, notInt, Int.reduceToNat, cond_true, cond_false, ↓reduceIte, reduceCtorEq, Nat.reduceLT, Nat.reduceLeDiff, Nat.reduceMul, Nat.reduceEqDiff, exists_eq', putF, implies_true, exists_true_left, tys0, tys1, tys2, und0, und1, md61, Tryz.ntmps61, Tryz.results61, x6]
      · have := validB_pos v
        rw [hx] at this
        exact absurd this (by simp [incsOf])
      · rw [bs, if_neg (fun h => by rw [h.1] at v; cases v)]
        exact PostR.pure ⟨rfl, rfl⟩ rfl
  | succ i =>
    have e0 : ifsH (incsOf s (i + 1)) = [intB (incsOf s (i + 1))] := if_neg (by omega)
    have e1 : slV 2 (i + 1) = .sl 2 0 (i + 1) := rfl
    have l0 : (ints (incsOf s (i + 1))).length = i + 1 := by rw [ints_len, il]
    rw [e0, e1]
    simp only [q0, q1, q2, q3, q4, q5, q6, q7, q8, q9, zq0, zq1, zq2, zq3, zq4, guardSlot, quietA, nilC, nilA, quietB, St.ev, St.put, St.after, Nat.reduceAdd, Nat.reduceSub, ofV, ofL, lenA, binA, intBin, fltBin, strBin, cpxBin, unA, convA, convB, convO, pickV, resL, oneA, indexA, indexS, isQuiet, loadA, loadC, storeA, fieldA, partA, sliceA, boundA, buildA, placeA, setAll, appendA, readSl, newEl, AV.cells, AV.solid, AV.one, kill, killM, killL, notInt, Int.reduceToNat, cond_true, cond_false, ↓reduceIte, reduceCtorEq, Nat.reduceLT, Nat.reduceLeDiff, Nat.reduceMul, Nat.reduceEqDiff, exists_eq', putF, implies_true, exists_true_left, tys0, tys1, tys2, und0, und1, md61, Tryz.ntmps61, Tryz.results61, savB, sav0, hk]
    refine br_intro (fun g => ?_) (fun g => ?_) <;> simp only [q0, q1, q2, q3, q4, q5, q6, q7, q8, q9, zq0, zq1, zq2, zq3, zq4, guardSlot, quietA, nilC, nilA, quietB, St.ev, St.put, St.after, Nat.reduceAdd, Nat.reduceSub, ofV, ofL, lenA, binA, intBin, fltBin, strBin, cpxBin, unA, convA, convB, convO, pickV, resL, oneA, indexA, indexS, isQuiet, loadA, loadC, storeA, fieldA, partA, sliceA, boundA, buildA, placeA, setAll, appendA, readSl, newEl, AV.cells, AV.solid, AV.one, kill, killM, killL, notInt, Int.reduceToNat, cond_true, cond_false, ↓reduceIte, reduceCtorEq, Nat.reduceLT, Nat.reduceLeDiff, Nat.reduceMul, Nat.reduceEqDiff, exists_eq', putF, implies_true, exists_true_left, tys0, tys1, tys2, und0, und1, md61, Tryz.ntmps61, Tryz.results61, savB, sav0, hk]
    · have g : i + 1 < cN s := by have := of_decide_eq_true g; omega
      have x5 := x5 g
      obtain ⟨h0, h1, h2, h3, y0, y1, y2, y3, z1, z2, z3, u1, u2, u3⟩ := body g
      refine go_order mixed [0, 1, 2, 3, 4, 5, 6, 7, 8, 9, 10, 11, 12, 13, 14, 15, 16, 17, 18, 19, 20, 21, 22, 23, 24, 25, 26, 27, 28, 29, 30] [false, false, false, false, false, false, false, false, false, false, false, false, false, false, false, false, false, false, false, false, false, false, false, false, false, false, false, false, true, false, true] (by kernel_rfl) ?_
      iterate 27 (refine od_quiet (by rfl) (by rfl) (by rfl) ?_; simp only [q0, q1, q2, q3, q4, q5, q6, q7, q8, q9, zq0, zq1, zq2, zq3, zq4, guardSlot, quietA, nilC, nilA, quietB, St.ev, St.put, St.after, Nat.reduceAdd, Nat.reduceSub, ofV, ofL, lenA, binA, intBin, fltBin, strBin, cpxBin, unA, convA, convB, convO, pickV, resL, oneA, indexA, indexS, isQuiet, loadA, loadC, storeA, fieldA, partA, sliceA, boundA, buildA, placeA, setAll, appendA, readSl, newEl, AV.cells, AV.solid, AV.one, kill, killM, killL, notInt, Int.reduceToNat, cond_true, cond_false, ↓reduceIte, reduceCtorEq, Nat.reduceLT, Nat.reduceLeDiff, Nat.reduceMul, Nat.reduceEqDiff, exists_eq', putF, implies_true, exists_true_left, tys0, tys1, tys2, und0, und1, md61, Tryz.ntmps61, Tryz.results61, hk, x1, x2, x3, x4, y0, y1, y2, y3, z1, z2, z3, u1, u2, u3, h0, h1, h2, h3, savB, sav0])
      refine od_fresh (by rfl) (by rfl) (by rfl) { ty := 2, w := 1, els := [.int .i64 ((at4 s k : Nat) : Int)] } 1 (.sl 0 0 1) rfl rfl ?_ rfl ?_ ?_
      · intro b hb
        have hb' : b ∈ [savB [sav0], savB [.agg [.str (nameOf s), .ro (R.map rulA), .sl 2 0 (i + 1)]], intB (incsOf s (i + 1))] := hb
        simp only [List.mem_cons, List.not_mem_nil, or_false] at hb'
        rcases hb' with rfl | rfl | rfl <;> simp [savB, sav0, intB, allBelow_cons, allBelow_nil, below, belowM, belowL, ints_below]
      · simp only [q0, q1, q2, q3, q4, q5, q6, q7, q8, q9, zq0, zq1, zq2, zq3, zq4, guardSlot, quietA, nilC, nilA, quietB, St.ev, St.put, St.after, Nat.reduceAdd, Nat.reduceSub, ofV, ofL, lenA, binA, intBin, fltBin, strBin, cpxBin, unA, convA, convB, convO, pickV, resL, oneA, indexA, indexS, isQuiet, loadA, loadC, storeA, fieldA, partA, sliceA, boundA, buildA, placeA, setAll, appendA, readSl, newEl, AV.cells, AV.solid, AV.one, kill, killM, killL, notInt, Int.reduceToNat, cond_true, cond_false, ↓reduceIte, reduceCtorEq, Nat.reduceLT, Nat.reduceLeDiff, Nat.reduceMul, Nat.reduceEqDiff, exists_eq', putF, implies_true, exists_true_left, tys0, tys1, tys2, und0, und1, md61, Tryz.ntmps61, Tryz.results61]
        rfl
      rw [show view 1 [({ ty := 2, w := 1, els := [.int .i64 ((at4 s k : Nat) : Int)] } : Blk)] (.sl 0 0 1) = .ro [.int .i64 ((at4 s k : Nat) : Int)] from by simp [view_sl, view_int]]
      simp only [q0, q1, q2, q3, q4, q5, q6, q7, q8, q9, zq0, zq1, zq2, zq3, zq4, guardSlot, quietA, nilC, nilA, quietB, St.ev, St.put, St.after, Nat.reduceAdd, Nat.reduceSub, ofV, ofL, lenA, binA, intBin, fltBin, strBin, cpxBin, unA, convA, convB, convO, pickV, resL, oneA, indexA, indexS, isQuiet, loadA, loadC, storeA, fieldA, partA, sliceA, boundA, buildA, placeA, setAll, appendA, readSl, newEl, AV.cells, AV.solid, AV.one, kill, killM, killL, notInt, Int.reduceToNat, cond_true, cond_false, ↓reduceIte, reduceCtorEq, Nat.reduceLT, Nat.reduceLeDiff, Nat.reduceMul, Nat.reduceEqDiff, exists_eq', putF, implies_true, exists_true_left, tys0, tys1, tys2, und0, und1, md61, Tryz.ntmps61, Tryz.results61]
      refine od_one (by rfl) (by rfl) (by rfl) ?_
      simp only [q0, q1, q2, q3, q4, q5, q6, q7, q8, q9, zq0, zq1, zq2, zq3, zq4, guardSlot, quietA, nilC, nilA, quietB, St.ev, St.put, St.after, Nat.reduceAdd, Nat.reduceSub, ofV, ofL, lenA, binA, intBin, fltBin, strBin, cpxBin, unA, convA, convB, convO, pickV, resL, oneA, indexA, indexS, isQuiet, loadA, loadC, storeA, fieldA, partA, sliceA, boundA, buildA, placeA, setAll, appendA, readSl, newEl, AV.cells, AV.solid, AV.one, kill, killM, killL, notInt, Int.reduceToNat, cond_true, cond_false, ↓reduceIte, reduceCtorEq, Nat.reduceLT, Nat.reduceLeDiff, Nat.reduceMul, Nat.reduceEqDiff, exists_eq', putF, implies_true, exists_true_left, tys0, tys1, tys2, und0, und1, md61, Tryz.ntmps61, Tryz.results61, allW_int, fits, List.isEmpty_cons, brk_false, Nat.reduceMul, hk, x1, x2, x3, x4, y0, y1, y2, y3, z1, z2, z3, u1, u2, u3, h0, h1, h2, h3, savB, sav0]
      refine ⟨rfl, rfl, l0.symm, rfl, by omega, ?_⟩
      refine od_quiet (by rfl) (by rfl) (by rfl) ?_
      simp only [q0, q1, q2, q3, q4, q5, q6, q7, q8, q9, zq0, zq1, zq2, zq3, zq4, guardSlot, quietA, nilC, nilA, quietB, St.ev, St.put, St.after, Nat.reduceAdd, Nat.reduceSub, ofV, ofL, lenA, binA, intBin, fltBin, strBin, cpxBin, unA, convA, convB, convO, pickV, resL, oneA, indexA, indexS, isQuiet, loadA, loadC, storeA, fieldA, partA, sliceA, boundA, buildA, placeA, setAll, appendA, readSl, newEl, AV.cells, AV.solid, AV.one, kill, killM, killL, notInt, Int.reduceToNat, cond_true, cond_false, ↓reduceIte, reduceCtorEq, Nat.reduceLT, Nat.reduceLeDiff, Nat.reduceMul, Nat.reduceEqDiff, exists_eq', putF, implies_true, exists_true_left, tys0, tys1, tys2, und0, und1, md61, Tryz.ntmps61, Tryz.results61]
      refine od_one (by rfl) (by rfl) (by rfl) ?_
      simp only [q0, q1, q2, q3, q4, q5, q6, q7, q8, q9, zq0, zq1, zq2, zq3, zq4, guardSlot, quietA, nilC, nilA, quietB, St.ev, St.put, St.after, Nat.reduceAdd, Nat.reduceSub, ofV, ofL, lenA, binA, intBin, fltBin, strBin, cpxBin, unA, convA, convB, convO, pickV, resL, oneA, indexA, indexS, isQuiet, loadA, loadC, storeA, fieldA, partA, sliceA, boundA, buildA, placeA, setAll, appendA, readSl, newEl, AV.cells, AV.solid, AV.one, kill, killM, killL, notInt, Int.reduceToNat, cond_true, cond_false, ↓reduceIte, reduceCtorEq, Nat.reduceLT, Nat.reduceLeDiff, Nat.reduceMul, Nat.reduceEqDiff, exists_eq', putF, implies_true, exists_true_left, tys0, tys1, tys2, und0, und1, md61, Tryz.ntmps61, Tryz.results61]
      refine od_nil ?_
      simp only [q0, q1, q2, q3, q4, q5, q6, q7, q8, q9, zq0, zq1, zq2, zq3, zq4, guardSlot, quietA, nilC, nilA, quietB, St.ev, St.put, St.after, Nat.reduceAdd, Nat.reduceSub, ofV, ofL, lenA, binA, intBin, fltBin, strBin, cpxBin, unA, convA, convB, convO, pickV, resL, oneA, indexA, indexS, isQuiet, loadA, loadC, storeA, fieldA, partA, sliceA, boundA, buildA, placeA, setAll, appendA, readSl, newEl, AV.cells, AV.solid, AV.one, kill, killM, killL, notInt, Int.reduceToNat, cond_true, cond_false, ↓reduceIte, reduceCtorEq, Nat.reduceLT, Nat.reduceLeDiff, Nat.reduceMul, Nat.reduceEqDiff, exists_eq', putF, implies_true, exists_true_left, tys0, tys1, tys2, und0, und1, md61, Tryz.ntmps61, Tryz.results61, x4, x5]
      try simp only [q0, q1, q2, q3, q4, q5, q6, q7, q8, q9, zq0, zq1, zq2, zq3, zq4, guardSlot, quietA, nilC, nilA, quietB, St.ev, St.put, St.after, Nat.reduceAdd, Nat.reduceSub, ofV, ofL, lenA, binA, intBin, fltBin, strBin, cpxBin, unA, convA, convB, convO, pickV, resL, oneA, indexA, indexS, isQuiet, loadA, loadC, storeA, fieldA, partA, sliceA, boundA, buildA, placeA, setAll, appendA, readSl, newEl, AV.cells, AV.solid, AV.one, kill, killM, killL, notInt, Int.reduceToNat, cond_true, cond_false, ↓reduceIte, reduceCtorEq, Nat.reduceLT, Nat.reduceLeDiff, Nat.reduceMul, Nat.reduceEqDiff, exists_eq', putF, implies_true, exists_true_left, tys0, tys1, tys2, und0, und1, md61, Tryz.ntmps61, Tryz.results61, x4, x5]
      refine ⟨⟨i + 1 + 1, by omega⟩, by show cN s - (i + 1 + 1) < cN s - (i + 1); omega, ?_⟩
      have e2 : ifsH (incsOf s (i + 1 + 1)) = [intB (incsOf s (i + 1 + 1))] := if_neg (by omega)
      have e4 : k + 4 = pB s + 1 + 4 * (i + 1 + 1) := by omega
      have e5 : slV 2 (i + 1 + 1) = .sl 2 0 (i + 1 + 1) := rfl
      show Weak 0 _ ⟨_, _⟩
      rw [e2, e5, ← e4, isc, intB_more]
      exact weak_drop (by simp) (by simp [DropHp, ints_below, flts_below, savB, sav0, intB, allBelow_cons, allBelow_nil, below, belowM, belowL]) (by simp [DropTm, DropV, below, belowM, belowL, savB, sav0, intB, allBelow_cons, allBelow_nil, below, belowM, belowL])
    · have g : i + 1 = cN s := by have := of_decide_eq_false g; omega
      have hx : savedOf s R = (nameOf s, R, incsOf s (i + 1)) := by unfold savedOf; rw [← g]
      have vp : ∀ b : Blk, (([AV.ptr 1 0 0].map (view 3 [b, savB [.agg [.str (nameOf s), .ro (R.map rulA), .sl 2 0 (i + 1)]], intB (incsOf s (i + 1))])).map (nilD 2)) = [.rop [.str (savedOf s R).1, .ro ((savedOf s R).2.1.map rulA), .ro (ints (savedOf s R).2.2)]] := fun b => by
        rw [hx]
        simp [view_ptr, view_sl, savB, intB, ints_len, map_view_ints, take_ints, view_str, view_ro, view_nils, nilD, nilD_zero, nilD_ints, AV.cells, il, take_incs]
      refine callr_lentN 3 2 (vp _) (l07Saved_call (savedOf s R) sz) rfl rfl ?_
      simp only [q0, q1, q2, q3, q4, q5, q6, q7, q8, q9, zq0, zq1, zq2, zq3, zq4, guardSlot, quietA, nilC, nilA, quietB, St.ev, St.put, St.after, Nat.reduceAdd, Nat.reduceSub, ofV, ofL, lenA, binA, intBin, fltBin, strBin, cpxBin, unA, convA, convB, convO, pickV, resL, oneA, indexA, indexS, isQuiet, loadA, loadC, storeA, fieldA, partA, sliceA, boundA, buildA, placeA, setAll, appendA, readSl, newEl, AV.cells, AV.solid, AV.one, kill, killM, killL, notInt, Int.reduceToNat, cond_true, cond_false, ↓reduceIte, reduceCtorEq, Nat.reduceLT, Nat.reduceLeDiff, Nat.reduceMul, Nat.reduceEqDiff, exists_eq', putF, implies_true, exists_true_left, tys0, tys1, tys2, und0, und1, md61, Tryz.ntmps61, Tryz.results61]
      have x6 : IntKind.i64.wrap ((k : Int) + 2) = ((size s : Nat) : Int) := by rw [w64 (by omega) (by omega)]; omega
      refine br_intro (fun v => ?_) (fun v => ?_) <;> simp only [q0, q1, q2, q3, q4, q5, q6, q7, q8, q9, zq0, zq1, zq2, zq3, zq4, guardSlot, quietA, nilC, nilA, quietB, St.ev, St.put, St.after, Nat.reduceAdd, Nat.reduceSub, ofV, ofL, lenA, binA, intBin, fltBin, strBin, cpxBin, unA, convA, convB, convO, pickV, resL, oneA, indexA, indexS, isQuiet, loadA, loadC, storeA, fieldA, partA, sliceA, boundA, buildA, placeA, setAll, appendA, readSl, newEl, AV.cells, AV.solid, AV.one, kill, killM, killL, notInt, Int.reduceToNat, cond_true, cond_false, ↓reduceIte, reduceCtorEq, Nat.reduceLT, Nat.reduceLeDiff, Nat.reduceMul, Nat.reduceEqDiff, exists_eq', putF, implies_true, exists_true_left, tys0, tys1, tys2, und0, und1, md61, Tryz.ntmps61, Tryz.results61, x6]
      · refine callr_lentN 3 2 (vp _) (l07Store_call (savedOf s R) (okS_of v)) rfl rfl ?_
        simp only [q0, q1, q2, q3, q4, q5, q6, q7, q8, q9, zq0, zq1, zq2, zq3, zq4, guardSlot, quietA, nilC, nilA, quietB, St.ev, St.put, St.after, Nat.reduceAdd, Nat.reduceSub, ofV, ofL, lenA, binA, intBin, fltBin, strBin, cpxBin, unA, convA, convB, convO, pickV, resL, oneA, indexA, indexS, isQuiet, loadA, loadC, storeA, fieldA, partA, sliceA, boundA, buildA, placeA, setAll, appendA, readSl, newEl, AV.cells, AV.solid, AV.one, kill, killM, killL, notInt, Int.reduceToNat, cond_true, cond_false, ↓reduceIte, reduceCtorEq, Nat.reduceLT, Nat.reduceLeDiff, Nat.reduceMul, Nat.reduceEqDiff, exists_eq', putF, implies_true, exists_true_left, tys0, tys1, tys2, und0, und1, md61, Tryz.ntmps61, Tryz.results61, x6]
        refine ⟨by omega, by omega, ?_⟩
        refine br_intro (fun t => ?_) (fun t => ?_) <;> simp only [q0, q1, q2, q3, q4, q5, q6, q7, q8, q9, zq0, zq1, zq2, zq3, zq4, guardSlot, quietA, nilC, nilA, quietB, St.ev, St.put, St.after, Nat.reduceAdd, Nat.reduceSub, ofV, ofL, lenA, binA, intBin, fltBin, strBin, cpxBin, unA, convA, convB, convO, pickV, resL, oneA, indexA, indexS, isQuiet, loadA, loadC, storeA, fieldA, partA, sliceA, boundA, buildA, placeA, setAll, appendA, readSl, newEl, AV.cells, AV.solid, AV.one, kill, killM, killL, notInt, Int.reduceToNat, cond_true, cond_false, ↓reduceIte, reduceCtorEq, Nat.reduceLT, Nat.reduceLeDiff, Nat.reduceMul, Nat.reduceEqDiff, exists_eq', putF, implies_true, exists_true_left, tys0, tys1, tys2, und0, und1, md61, Tryz.ntmps61, Tryz.results61, x6]
        · have t : storeT (savedOf s R) = s.take (size s) := by simpa using t
          rw [bs, if_pos ⟨v, t⟩, hx]
          have er : beginA (some ((nameOf s, R, incsOf s (i + 1)), size s)) = .tup [.agg [.str (nameOf s), .ro (R.map rulA), .sl 0 0 (i + 1)], .int .i64 ((size s : Nat) : Int)] := by
            unfold beginA slV
            simp only [il]
            rfl
          have eh : beginH (some ((nameOf s, R, incsOf s (i + 1)), size s)) = [intB (incsOf s (i + 1))] := by
            unfold beginH incBk
            simp only [il]
            rfl
          rw [er, eh]
          exact PostR.pick (hp2 := [intB (incsOf s (i + 1))]) (r2 := .tup [.agg [.str (nameOf s), .ro (R.map rulA), .sl 0 0 (i + 1)], .int .i64 ((size s : Nat) : Int)]) [2] (by decide) (Nat.zero_le _) (fun b hb => absurd hb (Nat.not_lt_zero _)) ⟨⟨rfl, ints_below _ _⟩, trivial⟩ rfl rfl ⟨rfl, rfl⟩
        · have t : ¬ storeT (savedOf s R) = s.take (size s) := by simpa using t
          rw [bs, if_neg (fun h => t h.2)]
          exact PostR.pure ⟨rfl, rfl⟩ rfl
      · rw [bs, if_neg (fun h => by rw [h.1] at v; cases v)]
        exact PostR.pure ⟨rfl, rfl⟩ rfl
end Go.Proofs.YtigipcckflcilaaGreatDoor
