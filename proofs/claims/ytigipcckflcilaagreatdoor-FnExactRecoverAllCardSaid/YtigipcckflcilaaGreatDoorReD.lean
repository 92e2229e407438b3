/- The law on RecoverAll. -/
import Derived.Test.YtigipcckflcilaaGreatDoorReB
import Derived.Test.YtigipcckflcilaaGreatDoorReC
set_option maxRecDepth 10000
set_option maxHeartbeats 8000000
set_option linter.unusedSimpArgs false
set_option linter.unusedVariables false
namespace Go.Proofs.YtigipcckflcilaaGreatDoor
open Go Go.Abs

def HasE (hp : List Blk) : Nat → List Sav → Prop
  | _, [] => True
  | b, x :: L => HasR hp b x.2.1 ∧ hp[b + 1 + x.2.1.length]? = some (intB x.2.2) ∧ HasE hp (b + widS x) L
theorem hasE_at (T : List Blk) : ∀ (L : List Sav) (A : List Blk), HasE (A ++ (blkS A.length L ++ T)) A.length L
  | [], A => trivial
  | x :: L, A => by
    have e : A ++ (blkS A.length (x :: L) ++ T) = memS A (blkS (A.length + widS x) L ++ T) x := by
      rw [memS_is]
      simp [blkS]
    have e2 : A ++ (blkS A.length (x :: L) ++ T) = (A ++ (encR A.length x.2.1 ++ [intB x.2.2])) ++ (blkS (A ++ (encR A.length x.2.1 ++ [intB x.2.2])).length L ++ T) := by
      rw [List.length_append, one_len]
      simp [blkS]
    refine ⟨by rw [e]; exact memS_has A _ x, by rw [e]; exact memS_int A _ x, ?_⟩
    have := hasE_at T L (A ++ (encR A.length x.2.1 ++ [intB x.2.2]))
    rw [← e2] at this
    rw [List.length_append, one_len] at this
    exact this
theorem get_more {α : Type} {M V : List α} {i : Nat} {q : α} (h : M[i]? = some q) : (M ++ V)[i]? = some q := by
  rw [List.getElem?_append_left (List.getElem?_eq_some_iff.1 h).1, h]
theorem HasE.more {hp V : List Blk} : ∀ {L : List Sav} {b : Nat}, HasE hp b L → HasE (hp ++ V) b L
  | [], _, _ => trivial
  | _ :: _, _, h => ⟨⟨get_more h.1.blk, fun i r hr => get_more (h.1.ifs i r hr)⟩, get_more h.2.1, HasE.more h.2.2⟩
theorem HasE.view {hp : List Blk} : ∀ {L : List Sav} {b : Nat}, HasE hp b L → ((elsS b L).map (Abs.view 4 hp)).map (nilD 4) = L.map savA
  | [], _, _ => rfl
  | x :: L, b, h => by
    simp only [elsS, List.map_cons]
    rw [HasE.view h.2.2]
    congr 1
    exact sav_held h.1 h.2.1
theorem sav_lentS {hp : List Blk} {b : Nat} {L : List Sav} (g : hp[b]? = some (savB (elsS (b + 1) L))) (h : HasE hp (b + 1) L) : nilD 5 (view 5 hp (.sl b 0 L.length)) = .ro (L.map savA) := by
  have hv := h.view
  have ht : (elsS (b + 1) L).take L.length = elsS (b + 1) L := List.take_of_length_le (by rw [elsS_len]; exact Nat.le_refl _)
  rw [view_sl, g]
  simp only [savB, elsS_len, List.drop_zero, ht, Nat.zero_add, Nat.le_refl, decide_true, Bool.and_self, if_true]
  show AV.ro (((elsS (b + 1) L).map (Abs.view 4 hp)).map (nilD 4)) = _
  rw [hv]
theorem savs_nil (hp : List Blk) (L : List Sav) : nilD 5 (view 5 hp (.ro (L.map savA))) = .ro (L.map savA) := by
  show AV.ro ((L.map savA).map (nilD 4)) = _
  rw [List.map_map]
  congr 1
  exact List.map_congr_left fun x _ => savA_nil x
theorem encS_get (A T : List Blk) (L : List Sav) : (A ++ (encS A.length L ++ T))[A.length]? = some (savB (elsS (A.length + 1) L)) ∧ HasE (A ++ (encS A.length L ++ T)) (A.length + 1) L := by
  constructor
  · rw [List.getElem?_append_right (Nat.le_refl _), Nat.sub_self]; rfl
  · have := hasE_at T L (A ++ [savB (elsS (A.length + 1) L)])
    rw [List.length_append] at this
    have e : A ++ (encS A.length L ++ T) = (A ++ [savB (elsS (A.length + 1) L)]) ++ (blkS (A.length + 1) L ++ T) := by simp [encS]
    rw [e]
    exact this
theorem markSavedS_0 (L : List Sav) (hL : L.length ≤ 8) (hv : ∀ x ∈ L, sizS x ≤ 1048576) : CallA Tryz.prog 31 [.sl 0 0 L.length, .int .i64 1] (encS 0 L) (Ret (.int .i64 (nxL 1 L)) (encS 0 (mkL 1 L))) := by
  have := markSavedS_call [] [] L 1 (by omega) (by omega) hL hv
  simp only [List.append_nil, List.nil_append, List.length_nil] at this
  exact this
theorem rec_all {s : List UInt8} (hs : s.length ≤ 1048576) : ∃ L a, recOf 8 s = (L, a) ∧ AtS s L a := by
  have step : ∀ (k : Nat) (L : List Sav) (a : Nat), 8 - L.length = k → AtS s L a → ∃ L a, recOf 8 s = (L, a) ∧ AtS s L a := by
    intro k
    induction k with
    | zero => intro L a hk h; exact ⟨L, a, h.full (by omega), h⟩
    | succ k ih =>
      intro L a hk h
      cases hb : beginOf (s.drop a) with
      | none => exact ⟨L, a, h.stop hb, h⟩
      | some q =>
        obtain ⟨x, n⟩ := q
        have nx := (h.next hs (by omega) hb).1
        exact ih _ _ (by rw [List.length_append]; simp; omega) nx
  exact step _ _ _ rfl (atS_0 s)
theorem exactRecoverAll_list (t : List UInt8) : CallA Tryz.prog 6 [.str t] [] (Ret (.bool true) []) := by
  refine CallP.out (t := .mk) (go_in (md := md6) mixed Tryz.func6 rfl go6 (by kernel_rfl) ?_)
  simp only [q0, q1, q2, q3, q4, q5, q6, q7, q8, q9, zq0, zq1, zq2, zq3, zq4, guardSlot, quietA, nilC, nilA, quietB, St.ev, St.put, St.after, Nat.reduceAdd, Nat.reduceSub, ofV, ofL, lenA, binA, intBin, fltBin, strBin, cpxBin, unA, convA, convB, convO, pickV, resL, oneA, indexA, indexS, isQuiet, loadA, loadC, storeA, fieldA, partA, sliceA, boundA, buildA, placeA, setAll, appendA, readSl, newEl, AV.cells, AV.solid, AV.one, kill, killM, killL, notInt, Int.reduceToNat, cond_true, cond_false, ↓reduceIte, reduceCtorEq, Nat.reduceLT, Nat.reduceLeDiff, Nat.reduceMul, Nat.reduceEqDiff, exists_eq', putF, implies_true, exists_true_left, tys0, tys1, tys2, und0, und1, md6, Tryz.ntmps6, Tryz.results6]
  refine br_intro (fun c => ?_) (fun c => ?_) <;> simp only [q0, q1, q2, q3, q4, q5, q6, q7, q8, q9, zq0, zq1, zq2, zq3, zq4, guardSlot, quietA, nilC, nilA, quietB, St.ev, St.put, St.after, Nat.reduceAdd, Nat.reduceSub, ofV, ofL, lenA, binA, intBin, fltBin, strBin, cpxBin, unA, convA, convB, convO, pickV, resL, oneA, indexA, indexS, isQuiet, loadA, loadC, storeA, fieldA, partA, sliceA, boundA, buildA, placeA, setAll, appendA, readSl, newEl, AV.cells, AV.solid, AV.one, kill, killM, killL, notInt, Int.reduceToNat, cond_true, cond_false, ↓reduceIte, reduceCtorEq, Nat.reduceLT, Nat.reduceLeDiff, Nat.reduceMul, Nat.reduceEqDiff, exists_eq', putF, implies_true, exists_true_left, tys0, tys1, tys2, und0, und1, md6, Tryz.ntmps6, Tryz.results6]
  · exact PostR.pure ⟨rfl, rfl⟩ rfl
  have ht : t.length ≤ 1048576 := by have := of_decide_eq_false c; omega
  have y1 := specRecoverAll_call t ht
  have y2 := implRecoverAll_call t ht
  obtain ⟨L, a, hr, hA⟩ := rec_all ht
  rw [hr] at y1 y2
  have hL := hA.le8
  have hv : ∀ x ∈ L, sizS x ≤ 1048576 := fun x hx => (hA.val x hx).2
  have es := eqSavedS_self L hL hv
  have hh := heldSavedS_call L 1 (by omega) (by omega) hL hv
  have mm := markSavedS_0 L hL hv
  have nl := nxL_le L 1 hv
  have n1 : decide (nxL 1 L < 0) = false := decide_eq_false (by omega)
  have ml := mkL_len L 1
  have lentE : ∀ (M T : List Blk), ([AV.sl M.length 0 L.length, .ro (L.map savA)].map (view 5 (M ++ (encS M.length L ++ T)))).map (nilD 5) = [.ro (L.map savA), .ro (L.map savA)] := fun M T => by
    obtain ⟨g, h⟩ := encS_get M T L
    rw [List.map_cons, List.map_cons, sav_lentS g h, List.map_cons, List.map_nil, List.map_cons, List.map_nil, savs_nil]
  have lentH : ∀ (T : List Blk), ([AV.sl 0 0 L.length, .int .i64 1].map (view 5 (encS 0 (mkL 1 L) ++ T))).map (nilD 5) = [.ro ((mkL 1 L).map savA), .int .i64 1] := fun T => by
    obtain ⟨g, h⟩ := encS_get [] T (mkL 1 L)
    have := sav_lentS g h
    rw [ml] at this
    rw [List.map_cons, List.map_cons]
    rw [show nilD 5 (view 5 (encS 0 (mkL 1 L) ++ T) (.sl 0 0 L.length)) = _ from this]
    rfl
  refine call_ret y1 rfl rfl ?_
  simp only [q0, q1, q2, q3, q4, q5, q6, q7, q8, q9, zq0, zq1, zq2, zq3, zq4, guardSlot, quietA, nilC, nilA, quietB, St.ev, St.put, St.after, Nat.reduceAdd, Nat.reduceSub, ofV, ofL, lenA, binA, intBin, fltBin, strBin, cpxBin, unA, convA, convB, convO, pickV, resL, oneA, indexA, indexS, isQuiet, loadA, loadC, storeA, fieldA, partA, sliceA, boundA, buildA, placeA, setAll, appendA, readSl, newEl, AV.cells, AV.solid, AV.one, kill, killM, killL, notInt, Int.reduceToNat, cond_true, cond_false, ↓reduceIte, reduceCtorEq, Nat.reduceLT, Nat.reduceLeDiff, Nat.reduceMul, Nat.reduceEqDiff, exists_eq', putF, implies_true, exists_true_left, tys0, tys1, tys2, und0, und1, md6, Tryz.ntmps6, Tryz.results6]
  refine call_joined (r := recA (L, a)) (new := encS 0 L) y2 rfl ?_
  unfold joinHp
  rw [encS_ren]
  simp only [q0, q1, q2, q3, q4, q5, q6, q7, q8, q9, zq0, zq1, zq2, zq3, zq4, guardSlot, quietA, nilC, nilA, quietB, St.ev, St.put, St.after, Nat.reduceAdd, Nat.reduceSub, ofV, ofL, lenA, binA, intBin, fltBin, strBin, cpxBin, unA, convA, convB, convO, pickV, resL, oneA, indexA, indexS, isQuiet, loadA, loadC, storeA, fieldA, partA, sliceA, boundA, buildA, placeA, setAll, appendA, readSl, newEl, AV.cells, AV.solid, AV.one, kill, killM, killL, notInt, Int.reduceToNat, cond_true, cond_false, ↓reduceIte, reduceCtorEq, Nat.reduceLT, Nat.reduceLeDiff, Nat.reduceMul, Nat.reduceEqDiff, exists_eq', putF, implies_true, exists_true_left, tys0, tys1, tys2, und0, und1, md6, Tryz.ntmps6, Tryz.results6, recA, ren, renM, renL, get_last, set_last]
  have E1 := lentE [] []
  simp only [List.append_nil, List.nil_append, List.length_nil] at E1
  refine call_lentN 5 5 E1 es rfl rfl ?_
  simp only [q0, q1, q2, q3, q4, q5, q6, q7, q8, q9, zq0, zq1, zq2, zq3, zq4, guardSlot, quietA, nilC, nilA, quietB, St.ev, St.put, St.after, Nat.reduceAdd, Nat.reduceSub, ofV, ofL, lenA, binA, intBin, fltBin, strBin, cpxBin, unA, convA, convB, convO, pickV, resL, oneA, indexA, indexS, isQuiet, loadA, loadC, storeA, fieldA, partA, sliceA, boundA, buildA, placeA, setAll, appendA, readSl, newEl, AV.cells, AV.solid, AV.one, kill, killM, killL, notInt, Int.reduceToNat, cond_true, cond_false, ↓reduceIte, reduceCtorEq, Nat.reduceLT, Nat.reduceLeDiff, Nat.reduceMul, Nat.reduceEqDiff, exists_eq', putF, implies_true, exists_true_left, tys0, tys1, tys2, und0, und1, md6, Tryz.ntmps6, Tryz.results6, Int.reduceLT, Int.reduceLE, Int.reduceNeg, Int.reduceEq, Int.reduceGT, Int.reduceGE, decide_true, decide_false, beq_self_eq_true, bne_self_eq_false, Int.reduceBEq, Int.reduceBNe, Int.reduceAdd, Int.reduceSub]
  refine call_at (mm.mono ?_)
  rintro r hp ⟨rfl, rfl⟩
  have H1 := lentH []
  rw [List.append_nil] at H1
  simp only [q0, q1, q2, q3, q4, q5, q6, q7, q8, q9, zq0, zq1, zq2, zq3, zq4, guardSlot, quietA, nilC, nilA, quietB, St.ev, St.put, St.after, Nat.reduceAdd, Nat.reduceSub, ofV, ofL, lenA, binA, intBin, fltBin, strBin, cpxBin, unA, convA, convB, convO, pickV, resL, oneA, indexA, indexS, isQuiet, loadA, loadC, storeA, fieldA, partA, sliceA, boundA, buildA, placeA, setAll, appendA, readSl, newEl, AV.cells, AV.solid, AV.one, kill, killM, killL, notInt, Int.reduceToNat, cond_true, cond_false, ↓reduceIte, reduceCtorEq, Nat.reduceLT, Nat.reduceLeDiff, Nat.reduceMul, Nat.reduceEqDiff, exists_eq', putF, implies_true, exists_true_left, tys0, tys1, tys2, und0, und1, md6, Tryz.ntmps6, Tryz.results6, Int.reduceLT, Int.reduceLE, Int.reduceNeg, Int.reduceEq, Int.reduceGT, Int.reduceGE, decide_true, decide_false, beq_self_eq_true, bne_self_eq_false, Int.reduceBEq, Int.reduceBNe, Int.reduceAdd, Int.reduceSub]
  refine call_lentN 5 5 H1 hh rfl rfl ?_
  simp only [q0, q1, q2, q3, q4, q5, q6, q7, q8, q9, zq0, zq1, zq2, zq3, zq4, guardSlot, quietA, nilC, nilA, quietB, St.ev, St.put, St.after, Nat.reduceAdd, Nat.reduceSub, ofV, ofL, lenA, binA, intBin, fltBin, strBin, cpxBin, unA, convA, convB, convO, pickV, resL, oneA, indexA, indexS, isQuiet, loadA, loadC, storeA, fieldA, partA, sliceA, boundA, buildA, placeA, setAll, appendA, readSl, newEl, AV.cells, AV.solid, AV.one, kill, killM, killL, notInt, Int.reduceToNat, cond_true, cond_false, ↓reduceIte, reduceCtorEq, Nat.reduceLT, Nat.reduceLeDiff, Nat.reduceMul, Nat.reduceEqDiff, exists_eq', putF, implies_true, exists_true_left, tys0, tys1, tys2, und0, und1, md6, Tryz.ntmps6, Tryz.results6, Int.reduceLT, Int.reduceLE, Int.reduceNeg, Int.reduceEq, Int.reduceGT, Int.reduceGE, decide_true, decide_false, beq_self_eq_true, bne_self_eq_false, Int.reduceBEq, Int.reduceBNe, Int.reduceAdd, Int.reduceSub, n1]
  refine call_joined (r := recA (L, a)) (new := encS 0 L) y2 rfl ?_
  unfold joinHp
  rw [encS_ren, Nat.zero_add]
  simp only [q0, q1, q2, q3, q4, q5, q6, q7, q8, q9, zq0, zq1, zq2, zq3, zq4, guardSlot, quietA, nilC, nilA, quietB, St.ev, St.put, St.after, Nat.reduceAdd, Nat.reduceSub, ofV, ofL, lenA, binA, intBin, fltBin, strBin, cpxBin, unA, convA, convB, convO, pickV, resL, oneA, indexA, indexS, isQuiet, loadA, loadC, storeA, fieldA, partA, sliceA, boundA, buildA, placeA, setAll, appendA, readSl, newEl, AV.cells, AV.solid, AV.one, kill, killM, killL, notInt, Int.reduceToNat, cond_true, cond_false, ↓reduceIte, reduceCtorEq, Nat.reduceLT, Nat.reduceLeDiff, Nat.reduceMul, Nat.reduceEqDiff, exists_eq', putF, implies_true, exists_true_left, tys0, tys1, tys2, und0, und1, md6, Tryz.ntmps6, Tryz.results6, recA, ren, renM, renL, get_last, set_last]
  have E2 := lentE (encS 0 (mkL 1 L)) []
  rw [List.append_nil] at E2
  refine call_lentN 5 5 E2 es rfl rfl ?_
  simp only [q0, q1, q2, q3, q4, q5, q6, q7, q8, q9, zq0, zq1, zq2, zq3, zq4, guardSlot, quietA, nilC, nilA, quietB, St.ev, St.put, St.after, Nat.reduceAdd, Nat.reduceSub, ofV, ofL, lenA, binA, intBin, fltBin, strBin, cpxBin, unA, convA, convB, convO, pickV, resL, oneA, indexA, indexS, isQuiet, loadA, loadC, storeA, fieldA, partA, sliceA, boundA, buildA, placeA, setAll, appendA, readSl, newEl, AV.cells, AV.solid, AV.one, kill, killM, killL, notInt, Int.reduceToNat, cond_true, cond_false, ↓reduceIte, reduceCtorEq, Nat.reduceLT, Nat.reduceLeDiff, Nat.reduceMul, Nat.reduceEqDiff, exists_eq', putF, implies_true, exists_true_left, tys0, tys1, tys2, und0, und1, md6, Tryz.ntmps6, Tryz.results6, Int.reduceLT, Int.reduceLE, Int.reduceNeg, Int.reduceEq, Int.reduceGT, Int.reduceGE, decide_true, decide_false, beq_self_eq_true, bne_self_eq_false, Int.reduceBEq, Int.reduceBNe, Int.reduceAdd, Int.reduceSub]
  refine call_lentN 5 5 (lentH _) hh rfl rfl ?_
  simp only [q0, q1, q2, q3, q4, q5, q6, q7, q8, q9, zq0, zq1, zq2, zq3, zq4, guardSlot, quietA, nilC, nilA, quietB, St.ev, St.put, St.after, Nat.reduceAdd, Nat.reduceSub, ofV, ofL, lenA, binA, intBin, fltBin, strBin, cpxBin, unA, convA, convB, convO, pickV, resL, oneA, indexA, indexS, isQuiet, loadA, loadC, storeA, fieldA, partA, sliceA, boundA, buildA, placeA, setAll, appendA, readSl, newEl, AV.cells, AV.solid, AV.one, kill, killM, killL, notInt, Int.reduceToNat, cond_true, cond_false, ↓reduceIte, reduceCtorEq, Nat.reduceLT, Nat.reduceLeDiff, Nat.reduceMul, Nat.reduceEqDiff, exists_eq', putF, implies_true, exists_true_left, tys0, tys1, tys2, und0, und1, md6, Tryz.ntmps6, Tryz.results6, Int.reduceLT, Int.reduceLE, Int.reduceNeg, Int.reduceEq, Int.reduceGT, Int.reduceGE, decide_true, decide_false, beq_self_eq_true, bne_self_eq_false, Int.reduceBEq, Int.reduceBNe, Int.reduceAdd, Int.reduceSub, n1]
  exact PostR.pure ⟨rfl, rfl⟩ rfl
theorem exactRecoverAll (l0 : AV) (of0 : OfT Tryz.prog 8 9 [l0]) : CallA Tryz.prog 6 [l0] [] (Ret (.bool true) []) := by
  obtain ⟨s, e, h⟩ := ofT_str Tryz.underlying9 of0
  obtain rfl : l0 = .str s := by simpa using e
  exact exactRecoverAll_list s
end Go.Proofs.YtigipcckflcilaaGreatDoor
