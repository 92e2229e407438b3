/- Marks that are held; the law on what is loaded. -/
import Derived.Test.YtigipcckflcilaaGreatDoorLdF
set_option maxRecDepth 10000
set_option maxHeartbeats 8000000
set_option linter.unusedSimpArgs false
set_option linter.unusedVariables false
namespace Go.Proofs.YtigipcckflcilaaGreatDoor
open Go Go.Abs

theorem mkRs_get (k : Int) : ∀ (R : List Rul) (k : Int) (i : Nat) (h : i < R.length) (h2 : i < (mkRs k R).length), (mkRs k R)[i] = mkR (nxRs k (R.take i)) R[i]
  | [], _, _, h, _ => absurd h (by simp)
  | r :: R, k, 0, _, _ => rfl
  | r :: R, k, i + 1, h, h2 => by
    simp only [List.take_succ_cons, nxRs, mkRs, List.getElem_cons_succ]
    exact mkRs_get k R _ i (by simpa using h) _
theorem heldRuleS_call (R : List Rul) (k : Int) (h0 : 0 ≤ k) (h1 : k + 4 * R.length + sumL R ≤ 9000000000000000000) (hR : R.length ≤ 1048576) : CallA Tryz.prog 66 [.ro ((mkRs k R).map rulA), .int .i64 k] [] (Ret (.int .i64 (nxRs k R)) []) := by
  have ll : (mkRs k R).length = R.length := mkRs_len R k
  refine CallP.out (t := .mk) (go_in (md := md66) mixed Tryz.func66 rfl go66 (by kernel_rfl) ?_)
  simp only [q0, q1, q2, q3, q4, q5, q6, q7, q8, q9, zq0, zq1, zq2, zq3, zq4, guardSlot, quietA, nilC, nilA, quietB, St.ev, St.put, St.after, Nat.reduceAdd, Nat.reduceSub, ofV, ofL, lenA, binA, intBin, fltBin, strBin, cpxBin, unA, convA, convB, convO, pickV, resL, oneA, indexA, indexS, isQuiet, loadA, loadC, storeA, fieldA, partA, sliceA, boundA, buildA, placeA, setAll, appendA, readSl, newEl, AV.cells, AV.solid, AV.one, kill, killM, killL, notInt, Int.reduceToNat, cond_true, cond_false, ↓reduceIte, reduceCtorEq, Nat.reduceLT, Nat.reduceLeDiff, Nat.reduceMul, Nat.reduceEqDiff, exists_eq', putF, implies_true, exists_true_left, tys0, tys1, tys2, und0, und1, md66, Tryz.ntmps66, Tryz.results66, List.length_map, ll]
  refine go_round (md := md66) mixed (by kernel_rfl) (fun i : {i : Nat // i ≤ R.length} => ⟨[.ro ((mkRs k R).map rulA), .int .i64 (nxRs k (R.take i.1)), .any, .any, .any, .int .i64 i.1, .any, .any, .any, .any, .any, .any, .any, .any, .any, .any, .any, .any, .any, .any, .any, .any, .any, .any, .any, .any, .any, .any, .any, .any, .any, .any, .any, .any, .any, .any, .any, .any, .any, .any, .any, .any, .any, .any, .any, .any, .any, .any, .any, .any, .any, .any, .any, .any, .any, .any, .any, .any], []⟩) (fun i => R.length - i.1) ⟨0, Nat.zero_le _⟩ ?_ ?_
  · refine weak_same rfl ?_
    simp [SameTm, nxRs]
  · intro ⟨i, hi⟩
    dsimp only
    simp only [q0, q1, q2, q3, q4, q5, q6, q7, q8, q9, zq0, zq1, zq2, zq3, zq4, guardSlot, quietA, nilC, nilA, quietB, St.ev, St.put, St.after, Nat.reduceAdd, Nat.reduceSub, ofV, ofL, lenA, binA, intBin, fltBin, strBin, cpxBin, unA, convA, convB, convO, pickV, resL, oneA, indexA, indexS, isQuiet, loadA, loadC, storeA, fieldA, partA, sliceA, boundA, buildA, placeA, setAll, appendA, readSl, newEl, AV.cells, AV.solid, AV.one, kill, killM, killL, notInt, Int.reduceToNat, cond_true, cond_false, ↓reduceIte, reduceCtorEq, Nat.reduceLT, Nat.reduceLeDiff, Nat.reduceMul, Nat.reduceEqDiff, exists_eq', putF, implies_true, exists_true_left, tys0, tys1, tys2, und0, und1, md66, Tryz.ntmps66, Tryz.results66, List.length_map, ll, List.getElem_map]
    refine br_intro (fun g => ?_) (fun g => ?_) <;> simp only [q0, q1, q2, q3, q4, q5, q6, q7, q8, q9, zq0, zq1, zq2, zq3, zq4, guardSlot, quietA, nilC, nilA, quietB, St.ev, St.put, St.after, Nat.reduceAdd, Nat.reduceSub, ofV, ofL, lenA, binA, intBin, fltBin, strBin, cpxBin, unA, convA, convB, convO, pickV, resL, oneA, indexA, indexS, isQuiet, loadA, loadC, storeA, fieldA, partA, sliceA, boundA, buildA, placeA, setAll, appendA, readSl, newEl, AV.cells, AV.solid, AV.one, kill, killM, killL, notInt, Int.reduceToNat, cond_true, cond_false, ↓reduceIte, reduceCtorEq, Nat.reduceLT, Nat.reduceLeDiff, Nat.reduceMul, Nat.reduceEqDiff, exists_eq', putF, implies_true, exists_true_left, tys0, tys1, tys2, und0, und1, md66, Tryz.ntmps66, Tryz.results66, List.length_map, ll, List.getElem_map]
    · have g : i < R.length := by have := of_decide_eq_true g; omega
      have gi : (i : Int) < R.length := by omega
      have nx := nxRs_is (R.take i) k
      have sm := sumL_mono R (i + 1)
      have st := sumL_take R i g
      have tl : (R.take i).length = i := by rw [List.length_take]; omega
      rw [tl] at nx
      have ns : nxRs k (R.take (i + 1)) = nxRs k (R.take i) + 4 + R[i].2.1.length := by rw [List.take_succ_eq_append_getElem g, nxRs_snoc]
      have E0 : ∀ h, (mkRs k R)[i]'h = mkR (nxRs k (R.take i)) R[i] := fun h => mkRs_get k R k i g h
      generalize hk : nxRs k (R.take i) = m at *
      have w1 : IntKind.i64.wrap (m + 1) = m + 1 := w64 (by omega) (by omega)
      have w2 : IntKind.i64.wrap (m + 1 + (R[i].2.1.length : Int) + 1) = m + 2 + (R[i].2.1.length : Int) := by rw [w64 (by omega) (by omega)]; omega
      have w3 : IntKind.i64.wrap (m + 2 + (R[i].2.1.length : Int) + 1) = m + 3 + (R[i].2.1.length : Int) := by rw [w64 (by omega) (by omega)]; omega
      have w4 : IntKind.i64.wrap (m + 3 + (R[i].2.1.length : Int) + 1) = m + 4 + (R[i].2.1.length : Int) := by rw [w64 (by omega) (by omega)]; omega
      have n1 : decide (m + 1 + (R[i].2.1.length : Int) < 0) = false := decide_eq_false (by omega)
      have ew : IntKind.i64.wrap ((i : Int) + 1) = i + 1 := w64 (by omega) (by omega)
      simp only [q0, q1, q2, q3, q4, q5, q6, q7, q8, q9, zq0, zq1, zq2, zq3, zq4, guardSlot, quietA, nilC, nilA, quietB, St.ev, St.put, St.after, Nat.reduceAdd, Nat.reduceSub, ofV, ofL, lenA, binA, intBin, fltBin, strBin, cpxBin, unA, convA, convB, convO, pickV, resL, oneA, indexA, indexS, isQuiet, loadA, loadC, storeA, fieldA, partA, sliceA, boundA, buildA, placeA, setAll, appendA, readSl, newEl, AV.cells, AV.solid, AV.one, kill, killM, killL, notInt, Int.reduceToNat, cond_true, cond_false, ↓reduceIte, reduceCtorEq, Nat.reduceLT, Nat.reduceLeDiff, Nat.reduceMul, Nat.reduceEqDiff, exists_eq', putF, implies_true, exists_true_left, tys0, tys1, tys2, und0, und1, md66, Tryz.ntmps66, Tryz.results66, List.length_map, ll, List.getElem_map, E0, mkR, rulA, g, gi, w1, bne_self_eq_false]
      refine call_ret (heldInt64S_call R[i].2.1.length (m + 1) (by omega) (by omega)) rfl rfl ?_
      simp only [q0, q1, q2, q3, q4, q5, q6, q7, q8, q9, zq0, zq1, zq2, zq3, zq4, guardSlot, quietA, nilC, nilA, quietB, St.ev, St.put, St.after, Nat.reduceAdd, Nat.reduceSub, ofV, ofL, lenA, binA, intBin, fltBin, strBin, cpxBin, unA, convA, convB, convO, pickV, resL, oneA, indexA, indexS, isQuiet, loadA, loadC, storeA, fieldA, partA, sliceA, boundA, buildA, placeA, setAll, appendA, readSl, newEl, AV.cells, AV.solid, AV.one, kill, killM, killL, notInt, Int.reduceToNat, cond_true, cond_false, ↓reduceIte, reduceCtorEq, Nat.reduceLT, Nat.reduceLeDiff, Nat.reduceMul, Nat.reduceEqDiff, exists_eq', putF, implies_true, exists_true_left, tys0, tys1, tys2, und0, und1, md66, Tryz.ntmps66, Tryz.results66, List.length_map, ll, List.getElem_map, E0, mkR, rulA, g, gi, w1, w2, w3, w4, n1, bne_self_eq_false]
      refine ⟨⟨i + 1, by omega⟩, by show R.length - (i + 1) < R.length - i; omega, ?_⟩
      refine weak_same rfl ?_
      simp [SameTm, ew, ns]
      try omega
    · have g : i = R.length := by have := of_decide_eq_false g; omega
      subst g
      rw [List.take_length]
      exact PostR.ret
def mkS (x : Sav) : Sav := (x.1, mkRs 1 x.2.1, marks (nxRs 1 x.2.1) x.2.2.length)
def nxS (x : Sav) : Int := nxRs 1 x.2.1 + x.2.2.length
def memS (A T : List Blk) (x : Sav) : List Blk := A ++ (rulB (elsR (A.length + 1) x.2.1) :: (x.2.1.map ifsB ++ (intB x.2.2 :: T)))
def savN (b : Nat) (x : Sav) : AV := .agg [.str x.1, .sl b 0 x.2.1.length, .sl (b + 1 + x.2.1.length) 0 x.2.2.length]
theorem memS_len (A T : List Blk) (x : Sav) : (memS A T x).length = A.length + 1 + (x.2.1.length + 1 + T.length) := by simp [memS]; omega
theorem markSaved_call (A T : List Blk) (x : Sav) (hx : sizS x ≤ 1048576) : CallA Tryz.prog 27 [savN A.length x, .int .i64 1] (memS A T x) (fun r hp => r = .int .i64 (nxS x) ∧ ∃ q, hp = memS A (T ++ [q]) (mkS x)) := by
  have hs : x.1.length + (x.2.1.length + sumL x.2.1) + x.2.2.length ≤ 1048576 := hx
  have nx := nxRs_is x.2.1 1
  have ll := memS_len A T x
  have e0 : memS A T x ++ [savB [savN A.length x]] = A ++ (rulB (elsR (A.length + 1) x.2.1) :: (x.2.1.map ifsB ++ (intB x.2.2 :: (T ++ [savB [savN A.length x]])))) := by simp [memS]
  have gb : ∀ y : Sav, y.2.1.length = x.2.1.length → (memS A (T ++ [savB [savN A.length x]]) y)[A.length + 1 + (x.2.1.length + 1 + T.length)]? = some { ty := 32, w := 3, els := [.agg [.str x.1, .sl A.length 0 x.2.1.length, .sl (A.length + 1 + x.2.1.length) 0 x.2.2.length]] } := fun y hy => by
    have e : memS A (T ++ [savB [savN A.length x]]) y = memS A T y ++ [savB [savN A.length x]] := by simp [memS]
    have g := get_last (memS A T y) (savB [savN A.length x])
    rw [memS_len, hy] at g
    rw [e]
    exact g
  have gc : ∀ (R : List Rul) (V : List Blk) (q : Blk), R.length = x.2.1.length → (A ++ (rulB (elsR (A.length + 1) R) :: (R.map ifsB ++ (q :: V))))[A.length + 1 + x.2.1.length]? = some q := fun R V q hy => by
    rw [List.getElem?_append_right (by omega), show A.length + 1 + x.2.1.length - A.length = x.2.1.length + 1 by omega, List.getElem?_cons_succ, List.getElem?_append_right (by rw [List.length_map]; omega), List.length_map, hy, Nat.sub_self]
    rfl
  have sc : ∀ (R : List Rul) (V : List Blk) (q y : Blk), R.length = x.2.1.length → (A ++ (rulB (elsR (A.length + 1) R) :: (R.map ifsB ++ (q :: V)))).set (A.length + 1 + x.2.1.length) y = A ++ (rulB (elsR (A.length + 1) R) :: (R.map ifsB ++ (y :: V))) := fun R V q y hy => by
    rw [List.set_append_right _ _ (by omega), show A.length + 1 + x.2.1.length - A.length = x.2.1.length + 1 by omega, List.set_cons_succ, List.set_append_right _ _ (by rw [List.length_map]; omega), List.length_map, hy, Nat.sub_self]
    rfl
  have mr := markRuleS_call A (intB x.2.2 :: (T ++ [savB [savN A.length x]])) x.2.1 1 (by omega) (by omega) (by omega)
  have g1 := gb (x.1, mkRs 1 x.2.1, x.2.2) (mkRs_len _ _)
  have l1 : (mkRs 1 x.2.1).length = x.2.1.length := mkRs_len _ _
  have eM : A ++ (rulB (elsR (A.length + 1) (mkRs 1 x.2.1)) :: ((mkRs 1 x.2.1).map ifsB ++ (intB x.2.2 :: (T ++ [savB [savN A.length x]])))) = memS A (T ++ [savB [savN A.length x]]) (x.1, mkRs 1 x.2.1, x.2.2) := rfl
  have e4 : savN A.length x = .agg [.str x.1, .sl A.length 0 x.2.1.length, .sl (A.length + 1 + x.2.1.length) 0 x.2.2.length] := rfl
  rw [e4]
  refine CallP.out (t := .mk) (go_in (md := md27) mixed Tryz.func27 rfl go27 (by kernel_rfl) ?_)
  simp only [q0, q1, q2, q3, q4, q5, q6, q7, q8, q9, zq0, zq1, zq2, zq3, zq4, guardSlot, quietA, nilC, nilA, quietB, St.ev, St.put, St.after, Nat.reduceAdd, Nat.reduceSub, ofV, ofL, lenA, binA, intBin, fltBin, strBin, cpxBin, unA, convA, convB, convO, pickV, resL, oneA, indexA, indexS, isQuiet, loadA, loadC, storeA, fieldA, partA, sliceA, boundA, buildA, placeA, setAll, appendA, readSl, newEl, AV.cells, AV.solid, AV.one, kill, killM, killL, notInt, Int.reduceToNat, cond_true, cond_false, ↓reduceIte, reduceCtorEq, Nat.reduceLT, Nat.reduceLeDiff, Nat.reduceMul, Nat.reduceEqDiff, exists_eq', putF, implies_true, exists_true_left, tys0, tys1, tys2, und0, und1, md27, Tryz.ntmps27, Tryz.results27, get_last, set_last]
  rw [show ∀ L : List Blk, L ++ [{ ty := 32, w := 3, els := [.agg [.str x.1, .sl A.length 0 x.2.1.length, .sl (A.length + 1 + x.2.1.length) 0 x.2.2.length]] }] = L ++ [savB [savN A.length x]] from fun _ => rfl, e0, ll]
  refine call_at (mr.mono ?_)
  rintro r hp ⟨rfl, rfl⟩
  rw [eM]
  generalize hk : nxRs 1 x.2.1 = m at *
  simp only [q0, q1, q2, q3, q4, q5, q6, q7, q8, q9, zq0, zq1, zq2, zq3, zq4, guardSlot, quietA, nilC, nilA, quietB, St.ev, St.put, St.after, Nat.reduceAdd, Nat.reduceSub, ofV, ofL, lenA, binA, intBin, fltBin, strBin, cpxBin, unA, convA, convB, convO, pickV, resL, oneA, indexA, indexS, isQuiet, loadA, loadC, storeA, fieldA, partA, sliceA, boundA, buildA, placeA, setAll, appendA, readSl, newEl, AV.cells, AV.solid, AV.one, kill, killM, killL, notInt, Int.reduceToNat, cond_true, cond_false, ↓reduceIte, reduceCtorEq, Nat.reduceLT, Nat.reduceLeDiff, Nat.reduceMul, Nat.reduceEqDiff, exists_eq', putF, implies_true, exists_true_left, tys0, tys1, tys2, und0, und1, md27, Tryz.ntmps27, Tryz.results27, g1]
  refine call_handed [A.length + 1 + x.2.1.length] (markInt64S_call x.2.2 m (by omega) (by omega)) (by simp) ⟨⟨gc _ _ _ l1, ints_below _ _⟩, trivial⟩ rfl rfl rfl rfl (by simp [ints_below]) ?_
  simp only [q0, q1, q2, q3, q4, q5, q6, q7, q8, q9, zq0, zq1, zq2, zq3, zq4, guardSlot, quietA, nilC, nilA, quietB, St.ev, St.put, St.after, Nat.reduceAdd, Nat.reduceSub, ofV, ofL, lenA, binA, intBin, fltBin, strBin, cpxBin, unA, convA, convB, convO, pickV, resL, oneA, indexA, indexS, isQuiet, loadA, loadC, storeA, fieldA, partA, sliceA, boundA, buildA, placeA, setAll, appendA, readSl, newEl, AV.cells, AV.solid, AV.one, kill, killM, killL, notInt, Int.reduceToNat, cond_true, cond_false, ↓reduceIte, reduceCtorEq, Nat.reduceLT, Nat.reduceLeDiff, Nat.reduceMul, Nat.reduceEqDiff, exists_eq', putF, implies_true, exists_true_left, tys0, tys1, tys2, und0, und1, md27, Tryz.ntmps27, Tryz.results27]
  refine PostR.same ⟨by unfold nxS; rw [hk], savB [savN A.length x], ?_⟩
  show List.set (A ++ (rulB (elsR (A.length + 1) (mkRs 1 x.2.1)) :: ((mkRs 1 x.2.1).map ifsB ++ (intB x.2.2 :: (T ++ [savB [savN A.length x]]))))) _ _ = _
  rw [sc _ _ _ _ l1]
  unfold mkS memS
  rw [hk]
  rfl
theorem heldSaved_call (x : Sav) (hx : sizS x ≤ 1048576) : CallA Tryz.prog 28 [savA (mkS x), .int .i64 1] [] (Ret (.int .i64 (nxS x)) []) := by
  have hs : x.1.length + (x.2.1.length + sumL x.2.1) + x.2.2.length ≤ 1048576 := hx
  have nx := nxRs_is x.2.1 1
  have hr := heldRuleS_call x.2.1 1 (by omega) (by omega) (by omega)
  have n1 : decide (nxRs 1 x.2.1 < 0) = false := decide_eq_false (by omega)
  have n2 : decide (nxRs 1 x.2.1 + (x.2.2.length : Int) < 0) = false := decide_eq_false (by omega)
  have hi := heldInt64S_call x.2.2.length (nxRs 1 x.2.1) (by omega) (by omega)
  unfold savA mkS nxS
  dsimp only
  refine CallP.out (t := .mk) (go_in (md := md28) mixed Tryz.func28 rfl go28 (by kernel_rfl) ?_)
  simp only [q0, q1, q2, q3, q4, q5, q6, q7, q8, q9, zq0, zq1, zq2, zq3, zq4, guardSlot, quietA, nilC, nilA, quietB, St.ev, St.put, St.after, Nat.reduceAdd, Nat.reduceSub, ofV, ofL, lenA, binA, intBin, fltBin, strBin, cpxBin, unA, convA, convB, convO, pickV, resL, oneA, indexA, indexS, isQuiet, loadA, loadC, storeA, fieldA, partA, sliceA, boundA, buildA, placeA, setAll, appendA, readSl, newEl, AV.cells, AV.solid, AV.one, kill, killM, killL, notInt, Int.reduceToNat, cond_true, cond_false, ↓reduceIte, reduceCtorEq, Nat.reduceLT, Nat.reduceLeDiff, Nat.reduceMul, Nat.reduceEqDiff, exists_eq', putF, implies_true, exists_true_left, tys0, tys1, tys2, und0, und1, md28, Tryz.ntmps28, Tryz.results28]
  refine call_ret hr rfl rfl ?_
  simp only [q0, q1, q2, q3, q4, q5, q6, q7, q8, q9, zq0, zq1, zq2, zq3, zq4, guardSlot, quietA, nilC, nilA, quietB, St.ev, St.put, St.after, Nat.reduceAdd, Nat.reduceSub, ofV, ofL, lenA, binA, intBin, fltBin, strBin, cpxBin, unA, convA, convB, convO, pickV, resL, oneA, indexA, indexS, isQuiet, loadA, loadC, storeA, fieldA, partA, sliceA, boundA, buildA, placeA, setAll, appendA, readSl, newEl, AV.cells, AV.solid, AV.one, kill, killM, killL, notInt, Int.reduceToNat, cond_true, cond_false, ↓reduceIte, reduceCtorEq, Nat.reduceLT, Nat.reduceLeDiff, Nat.reduceMul, Nat.reduceEqDiff, exists_eq', putF, implies_true, exists_true_left, tys0, tys1, tys2, und0, und1, md28, Tryz.ntmps28, Tryz.results28, n1]
  refine call_ret hi rfl rfl ?_
  simp only [q0, q1, q2, q3, q4, q5, q6, q7, q8, q9, zq0, zq1, zq2, zq3, zq4, guardSlot, quietA, nilC, nilA, quietB, St.ev, St.put, St.after, Nat.reduceAdd, Nat.reduceSub, ofV, ofL, lenA, binA, intBin, fltBin, strBin, cpxBin, unA, convA, convB, convO, pickV, resL, oneA, indexA, indexS, isQuiet, loadA, loadC, storeA, fieldA, partA, sliceA, boundA, buildA, placeA, setAll, appendA, readSl, newEl, AV.cells, AV.solid, AV.one, kill, killM, killL, notInt, Int.reduceToNat, cond_true, cond_false, ↓reduceIte, reduceCtorEq, Nat.reduceLT, Nat.reduceLeDiff, Nat.reduceMul, Nat.reduceEqDiff, exists_eq', putF, implies_true, exists_true_left, tys0, tys1, tys2, und0, und1, md28, Tryz.ntmps28, Tryz.results28, n2]
  exact PostR.pure ⟨rfl, rfl⟩ rfl
def x0 : Sav := ([], [], [])
theorem markRuleS_none (k : Int) : CallA Tryz.prog 64 [.ro [], .int .i64 k] [] (Ret (.int .i64 k) []) := by
  refine CallP.out (t := .mk) (go_in (md := md64) mixed Tryz.func64 rfl go64 (by kernel_rfl) ?_)
  simp only [q0, q1, q2, q3, q4, q5, q6, q7, q8, q9, zq0, zq1, zq2, zq3, zq4, guardSlot, quietA, nilC, nilA, quietB, St.ev, St.put, St.after, Nat.reduceAdd, Nat.reduceSub, ofV, ofL, lenA, binA, intBin, fltBin, strBin, cpxBin, unA, convA, convB, convO, pickV, resL, oneA, indexA, indexS, isQuiet, loadA, loadC, storeA, fieldA, partA, sliceA, boundA, buildA, placeA, setAll, appendA, readSl, newEl, AV.cells, AV.solid, AV.one, kill, killM, killL, notInt, Int.reduceToNat, cond_true, cond_false, ↓reduceIte, reduceCtorEq, Nat.reduceLT, Nat.reduceLeDiff, Nat.reduceMul, Nat.reduceEqDiff, exists_eq', putF, implies_true, exists_true_left, tys0, tys1, tys2, und0, und1, md64, Tryz.ntmps64, Tryz.results64, nat0I, Int.reduceLT, Int.reduceLE, Int.reduceNeg, Int.reduceEq, Int.reduceGT, Int.reduceGE, decide_true, decide_false, beq_self_eq_true, bne_self_eq_false, Int.reduceBEq, Int.reduceBNe, Int.reduceAdd, Int.reduceSub]
  refine go_round (md := md64) mixed (by kernel_rfl) (fun _ : Unit => ⟨[.ro [], .int .i64 k, .any, .any, .any, .int .i64 0, .any, .any, .any, .any, .any, .any, .any, .any, .any, .any, .any, .any, .any, .any, .any, .any, .any, .any, .any, .any, .any, .any, .any, .any, .any, .any, .any, .any, .any, .any, .any, .any, .any, .any, .any, .any, .any, .any, .any, .any, .any, .any], []⟩) (fun _ => 0) () ?_ ?_
  · exact weak_drop (by simp) (by simp [DropHp, ints_below, flts_below]) (by simp [DropTm, DropV, below, belowM, belowL])
  · intro _
    simp only [q0, q1, q2, q3, q4, q5, q6, q7, q8, q9, zq0, zq1, zq2, zq3, zq4, guardSlot, quietA, nilC, nilA, quietB, St.ev, St.put, St.after, Nat.reduceAdd, Nat.reduceSub, ofV, ofL, lenA, binA, intBin, fltBin, strBin, cpxBin, unA, convA, convB, convO, pickV, resL, oneA, indexA, indexS, isQuiet, loadA, loadC, storeA, fieldA, partA, sliceA, boundA, buildA, placeA, setAll, appendA, readSl, newEl, AV.cells, AV.solid, AV.one, kill, killM, killL, notInt, Int.reduceToNat, cond_true, cond_false, ↓reduceIte, reduceCtorEq, Nat.reduceLT, Nat.reduceLeDiff, Nat.reduceMul, Nat.reduceEqDiff, exists_eq', putF, implies_true, exists_true_left, tys0, tys1, tys2, und0, und1, md64, Tryz.ntmps64, Tryz.results64, nat0I, Int.reduceLT, Int.reduceLE, Int.reduceNeg, Int.reduceEq, Int.reduceGT, Int.reduceGE, decide_true, decide_false, beq_self_eq_true, bne_self_eq_false, Int.reduceBEq, Int.reduceBNe, Int.reduceAdd, Int.reduceSub]
    exact PostR.ret
theorem markInt64S_none (k : Int) : CallA Tryz.prog 65 [.ro [], .int .i64 k] [] (Ret (.int .i64 k) []) := by
  refine CallP.out (t := .mk) (go_in (md := md65) mixed Tryz.func65 rfl go65 (by kernel_rfl) ?_)
  simp only [q0, q1, q2, q3, q4, q5, q6, q7, q8, q9, zq0, zq1, zq2, zq3, zq4, guardSlot, quietA, nilC, nilA, quietB, St.ev, St.put, St.after, Nat.reduceAdd, Nat.reduceSub, ofV, ofL, lenA, binA, intBin, fltBin, strBin, cpxBin, unA, convA, convB, convO, pickV, resL, oneA, indexA, indexS, isQuiet, loadA, loadC, storeA, fieldA, partA, sliceA, boundA, buildA, placeA, setAll, appendA, readSl, newEl, AV.cells, AV.solid, AV.one, kill, killM, killL, notInt, Int.reduceToNat, cond_true, cond_false, ↓reduceIte, reduceCtorEq, Nat.reduceLT, Nat.reduceLeDiff, Nat.reduceMul, Nat.reduceEqDiff, exists_eq', putF, implies_true, exists_true_left, tys0, tys1, tys2, und0, und1, md65, Tryz.ntmps65, Tryz.results65, nat0I, Int.reduceLT, Int.reduceLE, Int.reduceNeg, Int.reduceEq, Int.reduceGT, Int.reduceGE, decide_true, decide_false, beq_self_eq_true, bne_self_eq_false, Int.reduceBEq, Int.reduceBNe, Int.reduceAdd, Int.reduceSub]
  refine go_round (md := md65) mixed (by kernel_rfl) (fun _ : Unit => ⟨[.ro [], .int .i64 k, .any, .any, .any, .int .i64 0, .any, .any, .any, .any, .any, .any, .any, .any, .any, .any, .any, .any, .any], []⟩) (fun _ => 0) () ?_ ?_
  · exact weak_drop (by simp) (by simp [DropHp, ints_below, flts_below]) (by simp [DropTm, DropV, below, belowM, belowL])
  · intro _
    simp only [q0, q1, q2, q3, q4, q5, q6, q7, q8, q9, zq0, zq1, zq2, zq3, zq4, guardSlot, quietA, nilC, nilA, quietB, St.ev, St.put, St.after, Nat.reduceAdd, Nat.reduceSub, ofV, ofL, lenA, binA, intBin, fltBin, strBin, cpxBin, unA, convA, convB, convO, pickV, resL, oneA, indexA, indexS, isQuiet, loadA, loadC, storeA, fieldA, partA, sliceA, boundA, buildA, placeA, setAll, appendA, readSl, newEl, AV.cells, AV.solid, AV.one, kill, killM, killL, notInt, Int.reduceToNat, cond_true, cond_false, ↓reduceIte, reduceCtorEq, Nat.reduceLT, Nat.reduceLeDiff, Nat.reduceMul, Nat.reduceEqDiff, exists_eq', putF, implies_true, exists_true_left, tys0, tys1, tys2, und0, und1, md65, Tryz.ntmps65, Tryz.results65, nat0I, Int.reduceLT, Int.reduceLE, Int.reduceNeg, Int.reduceEq, Int.reduceGT, Int.reduceGE, decide_true, decide_false, beq_self_eq_true, bne_self_eq_false, Int.reduceBEq, Int.reduceBNe, Int.reduceAdd, Int.reduceSub]
    exact PostR.ret
theorem markSaved_none : CallA Tryz.prog 27 [savA x0, .int .i64 1] [] (Ret (.int .i64 1) []) := by
  show CallA _ _ [.agg [.str [], .ro [], .ro []], .int .i64 1] [] _
  refine CallP.out (t := .mk) (go_in (md := md27) mixed Tryz.func27 rfl go27 (by kernel_rfl) ?_)
  simp only [q0, q1, q2, q3, q4, q5, q6, q7, q8, q9, zq0, zq1, zq2, zq3, zq4, guardSlot, quietA, nilC, nilA, quietB, St.ev, St.put, St.after, Nat.reduceAdd, Nat.reduceSub, ofV, ofL, lenA, binA, intBin, fltBin, strBin, cpxBin, unA, convA, convB, convO, pickV, resL, oneA, indexA, indexS, isQuiet, loadA, loadC, storeA, fieldA, partA, sliceA, boundA, buildA, placeA, setAll, appendA, readSl, newEl, AV.cells, AV.solid, AV.one, kill, killM, killL, notInt, Int.reduceToNat, cond_true, cond_false, ↓reduceIte, reduceCtorEq, Nat.reduceLT, Nat.reduceLeDiff, Nat.reduceMul, Nat.reduceEqDiff, exists_eq', putF, implies_true, exists_true_left, tys0, tys1, tys2, und0, und1, md27, Tryz.ntmps27, Tryz.results27]
  refine call_ret (markRuleS_none 1) rfl rfl ?_
  simp only [q0, q1, q2, q3, q4, q5, q6, q7, q8, q9, zq0, zq1, zq2, zq3, zq4, guardSlot, quietA, nilC, nilA, quietB, St.ev, St.put, St.after, Nat.reduceAdd, Nat.reduceSub, ofV, ofL, lenA, binA, intBin, fltBin, strBin, cpxBin, unA, convA, convB, convO, pickV, resL, oneA, indexA, indexS, isQuiet, loadA, loadC, storeA, fieldA, partA, sliceA, boundA, buildA, placeA, setAll, appendA, readSl, newEl, AV.cells, AV.solid, AV.one, kill, killM, killL, notInt, Int.reduceToNat, cond_true, cond_false, ↓reduceIte, reduceCtorEq, Nat.reduceLT, Nat.reduceLeDiff, Nat.reduceMul, Nat.reduceEqDiff, exists_eq', putF, implies_true, exists_true_left, tys0, tys1, tys2, und0, und1, md27, Tryz.ntmps27, Tryz.results27]
  refine call_ret (markInt64S_none 1) rfl rfl ?_
  simp only [q0, q1, q2, q3, q4, q5, q6, q7, q8, q9, zq0, zq1, zq2, zq3, zq4, guardSlot, quietA, nilC, nilA, quietB, St.ev, St.put, St.after, Nat.reduceAdd, Nat.reduceSub, ofV, ofL, lenA, binA, intBin, fltBin, strBin, cpxBin, unA, convA, convB, convO, pickV, resL, oneA, indexA, indexS, isQuiet, loadA, loadC, storeA, fieldA, partA, sliceA, boundA, buildA, placeA, setAll, appendA, readSl, newEl, AV.cells, AV.solid, AV.one, kill, killM, killL, notInt, Int.reduceToNat, cond_true, cond_false, ↓reduceIte, reduceCtorEq, Nat.reduceLT, Nat.reduceLeDiff, Nat.reduceMul, Nat.reduceEqDiff, exists_eq', putF, implies_true, exists_true_left, tys0, tys1, tys2, und0, und1, md27, Tryz.ntmps27, Tryz.results27]
  exact PostR.pure ⟨rfl, rfl⟩ rfl
theorem rulA_nil (d : Nat) (r : Rul) : nilD (d + 2) (rulA r) = rulA r := by
  have e : nilD (d + 2) (rulA r) = .agg [.int .i64 r.1, .ro ((ints r.2.1).map (nilD d)), .int .i64 r.2.2.1, .int .i64 r.2.2.2.1, .int .i64 r.2.2.2.2] := rfl
  rw [e, nilD_ints]; rfl
theorem savA_nil (x : Sav) : nilD 4 (savA x) = savA x := by
  have e : nilD 4 (savA x) = .agg [.str x.1, .ro ((x.2.1.map rulA).map (nilD 2)), .ro ((ints x.2.2).map (nilD 2))] := rfl
  have e2 : (x.2.1.map rulA).map (nilD 2) = x.2.1.map rulA := by
    rw [List.map_map]
    exact List.map_congr_left fun r _ => rulA_nil 0 r
  rw [e, nilD_ints, e2]; rfl
theorem sav_held {hp : List Blk} {b c : Nat} {x : Sav} (h : HasR hp b x.2.1) (g : hp[c]? = some (intB x.2.2)) : nilD 4 (view 4 hp (.agg [.str x.1, .sl b 0 x.2.1.length, .sl c 0 x.2.2.length])) = savA x := by
  have e : nilD 4 (view 4 hp (.agg [.str x.1, .sl b 0 x.2.1.length, .sl c 0 x.2.2.length])) = .agg [.str x.1, nilD 3 (view 3 hp (.sl b 0 x.2.1.length)), nilD 3 (view 3 hp (.sl c 0 x.2.2.length))] := rfl
  rw [e, h.lent 0, view_sl, g]
  simp only [intB, ints_len, map_view_ints, take_ints, List.drop_zero, Nat.zero_add, Nat.le_refl, decide_true, Bool.and_self, if_true]
  show AV.agg [_, _, .ro ((ints x.2.2).map (nilD 2))] = _
  rw [nilD_ints]
  rfl
theorem memS_is (A T : List Blk) (x : Sav) : memS A T x = A ++ encR A.length x.2.1 ++ (intB x.2.2 :: T) := by simp [memS, encR]
theorem memS_has (A T : List Blk) (x : Sav) : HasR (memS A T x) A.length x.2.1 := by
  rw [memS_is]; exact hasR_at A _ x.2.1
theorem memS_int (A T : List Blk) (x : Sav) : (memS A T x)[A.length + 1 + x.2.1.length]? = some (intB x.2.2) := by
  rw [memS_is, List.getElem?_append_right (by rw [List.length_append, encR_len]; omega), List.length_append, encR_len, show A.length + 1 + x.2.1.length - (A.length + (x.2.1.length + 1)) = 0 by omega]
  rfl
theorem memS_tail (A T : List Blk) (x : Sav) {n i : Nat} (hn : n = A.length + (x.2.1.length + 2) + i) : (memS A T x)[n]? = T[i]? := by
  subst hn
  rw [memS_is, List.getElem?_append_right (by rw [List.length_append, encR_len]; omega), List.length_append, encR_len, show A.length + (x.2.1.length + 2) + i - (A.length + (x.2.1.length + 1)) = i + 1 by omega, List.getElem?_cons_succ]
theorem memS_head (A T : List Blk) (x : Sav) {i : Nat} {q : Blk} (h : A[i]? = some q) : (memS A T x)[i]? = some q := by
  rw [memS, List.getElem?_append_left (List.getElem?_eq_some_iff.1 h).1, h]
theorem mkS_len (x : Sav) : (mkS x).2.1.length = x.2.1.length ∧ (mkS x).2.2.length = x.2.2.length := ⟨mkRs_len _ _, by simp [mkS, marks_len]⟩
end Go.Proofs.YtigipcckflcilaaGreatDoor
