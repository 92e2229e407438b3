/- Marks that are held; the law on what is loaded. -/
import Derived.Test.YtigipcckflcilaaGreatDoorLdF
set_option maxRecDepth 10000
set_option maxHeartbeats 8000000
set_option linter.unusedSimpArgs false
set_option linter.unusedVariables false
namespace Go.Proofs.YtigipcckflcilaaGreatDoor
open Go Go.Abs

theorem mkRs_get (k : Int) : ∀ (R : List Rul) (k : Int) (i : Nat) (h : i < R.length) (h2 : i < (mkRs k R).length), (mkRs k R)[i] = mkR (nxRs k (R.take i)) R[i]
  | [], _, _, h, _ => absurd h (by simp)
  | r :: R, k, 0, _, _ => rfl
  | r :: R, k, i + 1, h, h2 => by
    simp only [List.take_succ_cons, nxRs, mkRs, List.getElem_cons_succ]
    exact mkRs_get k R _ i (by simpa using h) _
theorem heldRuleS_call (R : List Rul) (k : Int) (h0 : 0 ≤ k) (h1 : k + 4 * R.length + sumL R ≤ 9000000000000000000) (hR : R.length ≤ 1048576) : CallA Tryz.prog 66 [.ro ((mkRs k R).map rulA), .int .i64 k] [] (Ret (.int .i64 (nxRs k R)) []) := by
  have ll : (mkRs k R).length = R.length := mkRs_len R k
  refine CallP.out (t := .mk) (go_in (md := md66) mixed Tryz.func66 rfl go66 (by kernel_rfl) ?_)
  simp only [q0, q1, q2, q3, q4, q5, q6, q7, q8, q9, zq0, zq1, zq2, zq3, zq4, guardSlot, quietA, nilC, nilA, quietB, St.ev, St.put, St.after, Nat.reduceAdd, Nat.reduceSub, ofV, ofL, lenA, binA, intBin, fltBin, strBin, cpxBin, unA, convA, convB, convO, pickV, resL, oneA, indexA, indexS, isQuiet, loadA, loadC, storeA, fieldA, partA, sliceA, boundA, buildA, placeA, setAll, appendA, readSl, newEl, AV.cells, AV.solid, AV.one, kill, killM, killL, notInt, Int.reduceToNat, cond_true, cond_false, ↓reduceIte, reduceCtorEq, Nat.reduceLT, Nat.reduceLeDiff, Nat.reduceMul, Nat.reduceEqDiff, exists_eq', putF, implies_true, exists_true_left, tys0, tys1, tys2, und0, und1, md66, Tryz.ntmps66, Tryz.results66, List.length_map, ll]
  refine go_round (md := md66) mixed (by kernel_rfl) (fun i : {i : Nat // i ≤ R.length} => ⟨[.ro ((mkRs k R).map rulA), .int .i64 (nxRs k (R.take i.1)), .any, .any, .any, .int .i64 i.1, .any, .any, .any, .any, .any, .any, .any, .any, .any, .any, .any, .any, .any, .any, .any, .any, .any, .any, .any, .any, .any, .any, .any, .any, .any, .any, .any, .any, .any, .any, .any, .any, .any, .any, .any, .any, .any, .any, .any, .any, .any, .any, .any, .any, .any, .any, .any, .any, .any, .any, .any, .any], []⟩) (fun i => R.length - i.1) ⟨0, Nat.zero_le _⟩ ?_ ?_
  · refine weak_same rfl ?_
    simp [SameTm, nxRs]
  · intro ⟨i, hi⟩
    dsimp only
    simp only [q0, q1, q2, q3, q4, q5, q6, q7, q8, q9, zq0, zq1, zq2, zq3, zq4, guardSlot, quietA, nilC, nilA, quietB, St.ev, St.put, St.after, Nat.reduceAdd, Nat.reduceSub, ofV, ofL, lenA, binA, intBin, fltBin, strBin, cpxBin, unA, convA, convB, convO, pickV, resL, oneA, indexA, indexS, isQuiet, loadA, loadC, storeA, fieldA, partA, sliceA, boundA, buildA, placeA, setAll, appendA, readSl, newEl, AV.cells, AV.solid, AV.one, kill, killM, killL, notInt, Int.reduceToNat, cond_true, cond_false, ↓reduceIte, reduceCtorEq, Nat.reduceLT, Nat.reduceLeDiff, Nat.reduceMul, Nat.reduceEqDiff, exists_eq', putF, implies_true, exists_true_left, tys0, tys1, tys2, und0, und1, md66, Tryz.ntmps66, Tryz.results66, List.length_map, ll, List.getElem_map]
    refine br_intro (fun g => ?_) (fun g => ?_) <;> simp only [q0, q1, q2, q3, q4, q5, q6, q7, q8, q9, zq0, zq1, zq2, zq3, zq4, guardSlot, quietA, nilC, nilA, quietB, St.ev, St.put, St.after, Nat.reduceAdd, Nat.reduceSub, ofV, ofL, lenA, binA, intBin, fltBin, strBin, cpxBin, unA, convA, convB, convO, pickV, resL, oneA, indexA, indexS, isQuiet, loadA, loadC, storeA, fieldA, partA, sliceA, boundA, buildA, placeA, setAll, appendA, readSl, newEl, AV.cells, AV.solid, AV.one, kill, killM, killL, notInt, Int.reduceToNat, cond_true, cond_false, ↓reduceIte, reduceCtorEq, Nat.reduceLT, Nat.reduceLeDiff, Nat.reduceMul, Nat.reduceEqDiff, exists_eq', putF, implies_true, exists_true_left, tys0, tys1, tys2, und0, und1, md66, Tryz.ntmps66, Tryz.results66, List.length_map, ll, List.getElem_map]
    · have g : i < R.length := by have := of_decide_eq_true g; omega
      have gi : (i : Int) < R.length := by omega
      have nx := nxRs_is (R.take i) k
      have sm := sumL_mono R (i + 1)
      have st := sumL_take R i g
      have tl : (R.take i).length = i := by rw [List.length_take]; omega
      rw [tl] at nx
      have ns : nxRs k (R.take (i + 1)) = nxRs k (R.take i) + 4 + R[i].2.1.length := by rw [List.take_succ_eq_append_getElem g, nxRs_snoc]
      have E0 : ∀ h, (mkRs k R)[i]'h = mkR (nxRs k (R.take i)) R[i] := fun h => mkRs_get k R k i g h
      generalize hk : nxRs k (R.take i) = m at *
      have w1 : IntKind.i64.wrap (m + 1) = m + 1 := w64 (by omega) (by omega)
      have w2 : IntKind.i64.wrap (m + 1 + (R[i].2.1.length : Int) + 1) = m + 2 + (R[i].2.1.length : Int) := by rw [w64 (by omega) (by omega)]; omega
      have w3 : IntKind.i64.wrap (m + 2 + (R[i].2.1.length : Int) + 1) = m + 3 + (R[i].2.1.length : Int) := by rw [w64 (by omega) (by omega)]; omega
      have w4 : IntKind.i64.wrap (m + 3 + (R[i].2.1.length : Int) + 1) = m + 4 + (R[i].2.1.length : Int) := by rw [w64 (by omega) (by omega)]; omega
      have n1 : decide (m + 1 + (R[i].2.1.length : Int) < 0) = false := decide_eq_false (by omega)
      have ew : IntKind.i64.wrap ((i : Int) + 1) = i + 1 := w64 (by omega) (by omega)
      simp only [q0, q1, q2, q3, q4, q5, q6, q7, q8, q9, zq0, zq1, zq2, zq3, zq4, guardSlot, quietA, nilC, nilA, quietB, St.ev, St.put, St.after, Nat.reduceAdd, Nat.reduceSub, ofV, ofL, lenA, binA, intBin, fltBin, strBin, cpxBin, unA, convA, convB, convO, pickV, resL, oneA, indexA, indexS, isQuiet, loadA, loadC, storeA, fieldA, partA, sliceA, boundA, buildA, placeA, setAll, appendA, readSl, newEl, AV.cells, AV.solid, AV.one, kill, killM, killL, notInt, Int.reduceToNat, cond_true, cond_false, ↓reduceIte, reduceCtorEq, Nat.reduceLT, Nat.reduceLeDiff, Nat.reduceMul, Nat.reduceEqDiff, exists_eq', putF, implies_true, exists_true_left, tys0, tys1, tys2, und0, und1, md66, Tryz.ntmps66, Tryz.results66, List.length_map, ll, List.getElem_map, E0, mkR, rulA, g, gi, w1, bne_self_eq_false]
      refine call_ret (heldInt64S_call R[i].2.1.length (m + 1) (by omega) (by omega)) rfl rfl ?_
      simp only [q0, q1, q2, q3, q4, q5, q6, q7, q8, q9, zq0, zq1, zq2, zq3, zq4, guardSlot, quietA, nilC, nilA, quietB, St.ev, St.put, St.after, Nat.reduceAdd, Nat.reduceSub, ofV, ofL, lenA, binA, intBin, fltBin, strBin, cpxBin, unA, convA, convB, convO, pickV, resL, oneA, indexA, indexS, isQuiet, loadA, loadC, storeA, fieldA, partA, sliceA, boundA, buildA, placeA, setAll, appendA, readSl, newEl, AV.cells, AV.solid, AV.one, kill, killM, killL, notInt, Int.reduceToNat, cond_true, cond_false, ↓reduceIte, reduceCtorEq, Nat.reduceLT, Nat.reduceLeDiff, Nat.reduceMul, Nat.reduceEqDiff, exists_eq', putF, implies_true, exists_true_left, tys0, tys1, tys2, und0, und1, md66, Tryz.ntmps66, Tryz.results66, List.length_map, ll, List.getElem_map, E0, mkR, rulA, g, gi, w1, w2, w3, w4, n1, bne_self_eq_false]
      refine ⟨⟨i + 1, by omega⟩, by show R.length - (i + 1) < R.length - i; omega, ?_⟩
      refine weak_same rfl ?_
      simp [SameTm, ew, ns]
      try omega
    · have g : i = R.length := by have := of_decide_eq_false g; omega
      subst g
      rw [List.take_length]
      exact PostR.ret
def memS (A T : List Blk) (x : Sav) : List Blk := A ++ (rulB (elsR (A.length + 1) x.2.1) :: (x.2.1.map ifsB ++ (intB x.2.2 :: T)))
def savN (b : Nat) (x : Sav) : AV := .agg [.str x.1, .sl b 0 x.2.1.length, .sl (b + 1 + x.2.1.length) 0 x.2.2.length]
def x0 : Sav := ([], [], [])
theorem rulA_nil (d : Nat) (r : Rul) : nilD (d + 2) (rulA r) = rulA r := by
  have e : nilD (d + 2) (rulA r) = .agg [.int .i64 r.1, .ro ((ints r.2.1).map (nilD d)), .int .i64 r.2.2.1, .int .i64 r.2.2.2.1, .int .i64 r.2.2.2.2] := rfl
  rw [e, nilD_ints]; rfl
theorem savA_nil (x : Sav) : nilD 4 (savA x) = savA x := by
  have e : nilD 4 (savA x) = .agg [.str x.1, .ro ((x.2.1.map rulA).map (nilD 2)), .ro ((ints x.2.2).map (nilD 2))] := rfl
  have e2 : (x.2.1.map rulA).map (nilD 2) = x.2.1.map rulA := by
    rw [List.map_map]
    exact List.map_congr_left fun r _ => rulA_nil 0 r
  rw [e, nilD_ints, e2]; rfl
theorem sav_held {hp : List Blk} {b c : Nat} {x : Sav} (h : HasR hp b x.2.1) (g : hp[c]? = some (intB x.2.2)) : nilD 4 (view 4 hp (.agg [.str x.1, .sl b 0 x.2.1.length, .sl c 0 x.2.2.length])) = savA x := by
  have e : nilD 4 (view 4 hp (.agg [.str x.1, .sl b 0 x.2.1.length, .sl c 0 x.2.2.length])) = .agg [.str x.1, nilD 3 (view 3 hp (.sl b 0 x.2.1.length)), nilD 3 (view 3 hp (.sl c 0 x.2.2.length))] := rfl
  rw [e, h.lent 0, view_sl, g]
  simp only [intB, ints_len, map_view_ints, take_ints, List.drop_zero, Nat.zero_add, Nat.le_refl, decide_true, Bool.and_self, if_true]
  show AV.agg [_, _, .ro ((ints x.2.2).map (nilD 2))] = _
  rw [nilD_ints]
  rfl
theorem memS_is (A T : List Blk) (x : Sav) : memS A T x = A ++ encR A.length x.2.1 ++ (intB x.2.2 :: T) := by simp [memS, encR]
theorem memS_has (A T : List Blk) (x : Sav) : HasR (memS A T x) A.length x.2.1 := by
  rw [memS_is]; exact hasR_at A _ x.2.1
theorem memS_int (A T : List Blk) (x : Sav) : (memS A T x)[A.length + 1 + x.2.1.length]? = some (intB x.2.2) := by
  rw [memS_is, List.getElem?_append_right (by rw [List.length_append, encR_len]; omega), List.length_append, encR_len, show A.length + 1 + x.2.1.length - (A.length + (x.2.1.length + 1)) = 0 by omega]
  rfl
theorem memS_head (A T : List Blk) (x : Sav) {i : Nat} {q : Blk} (h : A[i]? = some q) : (memS A T x)[i]? = some q := by
  rw [memS, List.getElem?_append_left (List.getElem?_eq_some_iff.1 h).1, h]
end Go.Proofs.YtigipcckflcilaaGreatDoor
