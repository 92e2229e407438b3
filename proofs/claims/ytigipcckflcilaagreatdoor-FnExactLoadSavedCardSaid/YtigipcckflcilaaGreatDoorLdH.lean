/- The law on LoadSaved. -/
import Derived.Test.YtigipcckflcilaaGreatDoorLdG
set_option maxRecDepth 10000
set_option maxHeartbeats 8000000
set_option linter.unusedSimpArgs false
set_option linter.unusedVariables false
namespace Go.Proofs.YtigipcckflcilaaGreatDoor
open Go Go.Abs

theorem load_valid {s : List UInt8} {x : Sav} (hs : s.length ≤ 1048576) (h : loadOf s = some x) : sizS x ≤ 1048576 := by
  unfold loadOf at h
  cases hb : beginOf s with
  | none => rw [hb] at h; cases h
  | some q =>
    obtain ⟨y, n⟩ := q
    rw [hb] at h
    dsimp only at h
    split at h
    · cases h
      have hb2 := hb
      unfold beginOf at hb
      split at hb
      · split at hb
        · cases hb
        · rename_i R hr
          split at hb
          · cases hb
            exact sizS_small hs (pA_le s) hr
          · cases hb
      · cases hb
    · cases h
theorem HasR.more {M : List Blk} {b : Nat} {R : List Rul} {x : Sav} {T : List Blk} (h : HasR M b R) : HasR (memS M T x) b R := ⟨memS_head M T x h.blk, fun i r hr => memS_head M T x (h.ifs i r hr)⟩
def savT (x : Sav) : AV := .tup [.agg [.str x.1, .sl 0 0 x.2.1.length, .sl (x.2.1.length + 1) 0 x.2.2.length], .bool true]
theorem eq_lent {hp : List Blk} {b c : Nat} (x : Sav) (h : HasR hp b x.2.1) (g : hp[c]? = some (intB x.2.2)) : (([.agg [.str x.1, .sl b 0 x.2.1.length, .sl c 0 x.2.2.length], .agg [.str x.1, .ro (x.2.1.map rulA), .ro (ints x.2.2)]].map (view 4 hp)).map (nilD 4)) = [savA x, savA x] := by
  rw [List.map_cons, List.map_cons, sav_held h g, List.map_cons, List.map_nil, List.map_cons, List.map_nil, show (AV.agg [.str x.1, .ro (x.2.1.map rulA), .ro (ints x.2.2)]) = savA x from rfl, sav_view, savA_nil]
theorem held_lent {hp : List Blk} {b c : Nat} (x : Sav) (h : HasR hp b x.2.1) (g : hp[c]? = some (intB x.2.2)) : (([.agg [.str x.1, .sl b 0 x.2.1.length, .sl c 0 x.2.2.length], .int .i64 1].map (view 4 hp)).map (nilD 4)) = [savA x, .int .i64 1] := by
  rw [List.map_cons, List.map_cons, sav_held h g]
  rfl
theorem exactLoadSaved_list (t : List UInt8) : CallA Tryz.prog 5 [.str t] [] (Ret (.bool true) []) := by
  refine CallP.out (t := .mk) (go_in (md := md5) mixed Tryz.func5 rfl go5 (by kernel_rfl) ?_)
  simp only [q0, q1, q2, q3, q4, q5, q6, q7, q8, q9, zq0, zq1, zq2, zq3, zq4, guardSlot, quietA, nilC, nilA, quietB, St.ev, St.put, St.after, Nat.reduceAdd, Nat.reduceSub, ofV, ofL, lenA, binA, intBin, fltBin, strBin, cpxBin, unA, convA, convB, convO, pickV, resL, oneA, indexA, indexS, isQuiet, loadA, loadC, storeA, fieldA, partA, sliceA, boundA, buildA, placeA, setAll, appendA, readSl, newEl, AV.cells, AV.solid, AV.one, kill, killM, killL, notInt, Int.reduceToNat, cond_true, cond_false, ↓reduceIte, reduceCtorEq, Nat.reduceLT, Nat.reduceLeDiff, Nat.reduceMul, Nat.reduceEqDiff, exists_eq', putF, implies_true, exists_true_left, tys0, tys1, tys2, und0, und1, md5, Tryz.ntmps5, Tryz.results5]
  refine br_intro (fun c => ?_) (fun c => ?_) <;> simp only [q0, q1, q2, q3, q4, q5, q6, q7, q8, q9, zq0, zq1, zq2, zq3, zq4, guardSlot, quietA, nilC, nilA, quietB, St.ev, St.put, St.after, Nat.reduceAdd, Nat.reduceSub, ofV, ofL, lenA, binA, intBin, fltBin, strBin, cpxBin, unA, convA, convB, convO, pickV, resL, oneA, indexA, indexS, isQuiet, loadA, loadC, storeA, fieldA, partA, sliceA, boundA, buildA, placeA, setAll, appendA, readSl, newEl, AV.cells, AV.solid, AV.one, kill, killM, killL, notInt, Int.reduceToNat, cond_true, cond_false, ↓reduceIte, reduceCtorEq, Nat.reduceLT, Nat.reduceLeDiff, Nat.reduceMul, Nat.reduceEqDiff, exists_eq', putF, implies_true, exists_true_left, tys0, tys1, tys2, und0, und1, md5, Tryz.ntmps5, Tryz.results5]
  · exact PostR.pure ⟨rfl, rfl⟩ rfl
  have ht : t.length ≤ 1048576 := by have := of_decide_eq_false c; omega
  have y1 := specLoadSaved_call t ht
  have y2 := implLoadSaved_call t ht
  cases hs : loadOf t with
  | none =>
    rw [hs] at y1 y2
    have es := eqSaved_self x0 (by decide)
    have hh : CallA Tryz.prog 28 [savA x0, .int .i64 1] [] (Ret (.int .i64 1) []) := heldSaved_call x0 (by decide)
    have y1 : CallA Tryz.prog 25 [.str t] [] (Ret (.tup [.agg [.str [], .nils, .nils], .bool false]) []) := y1
    have y2 : CallA Tryz.prog 10 [.str t] [] (Ret (.tup [.agg [.str [], .nils, .nils], .bool false]) []) := y2
    refine call_ret y1 rfl rfl ?_
    simp only [q0, q1, q2, q3, q4, q5, q6, q7, q8, q9, zq0, zq1, zq2, zq3, zq4, guardSlot, quietA, nilC, nilA, quietB, St.ev, St.put, St.after, Nat.reduceAdd, Nat.reduceSub, ofV, ofL, lenA, binA, intBin, fltBin, strBin, cpxBin, unA, convA, convB, convO, pickV, resL, oneA, indexA, indexS, isQuiet, loadA, loadC, storeA, fieldA, partA, sliceA, boundA, buildA, placeA, setAll, appendA, readSl, newEl, AV.cells, AV.solid, AV.one, kill, killM, killL, notInt, Int.reduceToNat, cond_true, cond_false, ↓reduceIte, reduceCtorEq, Nat.reduceLT, Nat.reduceLeDiff, Nat.reduceMul, Nat.reduceEqDiff, exists_eq', putF, implies_true, exists_true_left, tys0, tys1, tys2, und0, und1, md5, Tryz.ntmps5, Tryz.results5]
    refine call_ret y2 rfl rfl ?_
    simp only [q0, q1, q2, q3, q4, q5, q6, q7, q8, q9, zq0, zq1, zq2, zq3, zq4, guardSlot, quietA, nilC, nilA, quietB, St.ev, St.put, St.after, Nat.reduceAdd, Nat.reduceSub, ofV, ofL, lenA, binA, intBin, fltBin, strBin, cpxBin, unA, convA, convB, convO, pickV, resL, oneA, indexA, indexS, isQuiet, loadA, loadC, storeA, fieldA, partA, sliceA, boundA, buildA, placeA, setAll, appendA, readSl, newEl, AV.cells, AV.solid, AV.one, kill, killM, killL, notInt, Int.reduceToNat, cond_true, cond_false, ↓reduceIte, reduceCtorEq, Nat.reduceLT, Nat.reduceLeDiff, Nat.reduceMul, Nat.reduceEqDiff, exists_eq', putF, implies_true, exists_true_left, tys0, tys1, tys2, und0, und1, md5, Tryz.ntmps5, Tryz.results5]
    refine call_lentN 4 4 rfl es rfl rfl ?_
    simp only [q0, q1, q2, q3, q4, q5, q6, q7, q8, q9, zq0, zq1, zq2, zq3, zq4, guardSlot, quietA, nilC, nilA, quietB, St.ev, St.put, St.after, Nat.reduceAdd, Nat.reduceSub, ofV, ofL, lenA, binA, intBin, fltBin, strBin, cpxBin, unA, convA, convB, convO, pickV, resL, oneA, indexA, indexS, isQuiet, loadA, loadC, storeA, fieldA, partA, sliceA, boundA, buildA, placeA, setAll, appendA, readSl, newEl, AV.cells, AV.solid, AV.one, kill, killM, killL, notInt, Int.reduceToNat, cond_true, cond_false, ↓reduceIte, reduceCtorEq, Nat.reduceLT, Nat.reduceLeDiff, Nat.reduceMul, Nat.reduceEqDiff, exists_eq', putF, implies_true, exists_true_left, tys0, tys1, tys2, und0, und1, md5, Tryz.ntmps5, Tryz.results5, Int.reduceLT, Int.reduceLE, Int.reduceNeg, Int.reduceEq, Int.reduceGT, Int.reduceGE, decide_true, decide_false, beq_self_eq_true, bne_self_eq_false, Int.reduceBEq, Int.reduceBNe, Int.reduceAdd, Int.reduceSub]
    refine call_lentN 4 4 rfl markSaved_none rfl rfl ?_
    simp only [q0, q1, q2, q3, q4, q5, q6, q7, q8, q9, zq0, zq1, zq2, zq3, zq4, guardSlot, quietA, nilC, nilA, quietB, St.ev, St.put, St.after, Nat.reduceAdd, Nat.reduceSub, ofV, ofL, lenA, binA, intBin, fltBin, strBin, cpxBin, unA, convA, convB, convO, pickV, resL, oneA, indexA, indexS, isQuiet, loadA, loadC, storeA, fieldA, partA, sliceA, boundA, buildA, placeA, setAll, appendA, readSl, newEl, AV.cells, AV.solid, AV.one, kill, killM, killL, notInt, Int.reduceToNat, cond_true, cond_false, ↓reduceIte, reduceCtorEq, Nat.reduceLT, Nat.reduceLeDiff, Nat.reduceMul, Nat.reduceEqDiff, exists_eq', putF, implies_true, exists_true_left, tys0, tys1, tys2, und0, und1, md5, Tryz.ntmps5, Tryz.results5, Int.reduceLT, Int.reduceLE, Int.reduceNeg, Int.reduceEq, Int.reduceGT, Int.reduceGE, decide_true, decide_false, beq_self_eq_true, bne_self_eq_false, Int.reduceBEq, Int.reduceBNe, Int.reduceAdd, Int.reduceSub]
    refine call_lentN 4 4 rfl hh rfl rfl ?_
    simp only [q0, q1, q2, q3, q4, q5, q6, q7, q8, q9, zq0, zq1, zq2, zq3, zq4, guardSlot, quietA, nilC, nilA, quietB, St.ev, St.put, St.after, Nat.reduceAdd, Nat.reduceSub, ofV, ofL, lenA, binA, intBin, fltBin, strBin, cpxBin, unA, convA, convB, convO, pickV, resL, oneA, indexA, indexS, isQuiet, loadA, loadC, storeA, fieldA, partA, sliceA, boundA, buildA, placeA, setAll, appendA, readSl, newEl, AV.cells, AV.solid, AV.one, kill, killM, killL, notInt, Int.reduceToNat, cond_true, cond_false, ↓reduceIte, reduceCtorEq, Nat.reduceLT, Nat.reduceLeDiff, Nat.reduceMul, Nat.reduceEqDiff, exists_eq', putF, implies_true, exists_true_left, tys0, tys1, tys2, und0, und1, md5, Tryz.ntmps5, Tryz.results5, Int.reduceLT, Int.reduceLE, Int.reduceNeg, Int.reduceEq, Int.reduceGT, Int.reduceGE, decide_true, decide_false, beq_self_eq_true, bne_self_eq_false, Int.reduceBEq, Int.reduceBNe, Int.reduceAdd, Int.reduceSub]
    refine call_ret y2 rfl rfl ?_
    simp only [q0, q1, q2, q3, q4, q5, q6, q7, q8, q9, zq0, zq1, zq2, zq3, zq4, guardSlot, quietA, nilC, nilA, quietB, St.ev, St.put, St.after, Nat.reduceAdd, Nat.reduceSub, ofV, ofL, lenA, binA, intBin, fltBin, strBin, cpxBin, unA, convA, convB, convO, pickV, resL, oneA, indexA, indexS, isQuiet, loadA, loadC, storeA, fieldA, partA, sliceA, boundA, buildA, placeA, setAll, appendA, readSl, newEl, AV.cells, AV.solid, AV.one, kill, killM, killL, notInt, Int.reduceToNat, cond_true, cond_false, ↓reduceIte, reduceCtorEq, Nat.reduceLT, Nat.reduceLeDiff, Nat.reduceMul, Nat.reduceEqDiff, exists_eq', putF, implies_true, exists_true_left, tys0, tys1, tys2, und0, und1, md5, Tryz.ntmps5, Tryz.results5]
    refine call_lentN 4 4 rfl es rfl rfl ?_
    simp only [q0, q1, q2, q3, q4, q5, q6, q7, q8, q9, zq0, zq1, zq2, zq3, zq4, guardSlot, quietA, nilC, nilA, quietB, St.ev, St.put, St.after, Nat.reduceAdd, Nat.reduceSub, ofV, ofL, lenA, binA, intBin, fltBin, strBin, cpxBin, unA, convA, convB, convO, pickV, resL, oneA, indexA, indexS, isQuiet, loadA, loadC, storeA, fieldA, partA, sliceA, boundA, buildA, placeA, setAll, appendA, readSl, newEl, AV.cells, AV.solid, AV.one, kill, killM, killL, notInt, Int.reduceToNat, cond_true, cond_false, ↓reduceIte, reduceCtorEq, Nat.reduceLT, Nat.reduceLeDiff, Nat.reduceMul, Nat.reduceEqDiff, exists_eq', putF, implies_true, exists_true_left, tys0, tys1, tys2, und0, und1, md5, Tryz.ntmps5, Tryz.results5, Int.reduceLT, Int.reduceLE, Int.reduceNeg, Int.reduceEq, Int.reduceGT, Int.reduceGE, decide_true, decide_false, beq_self_eq_true, bne_self_eq_false, Int.reduceBEq, Int.reduceBNe, Int.reduceAdd, Int.reduceSub]
    refine call_lentN 4 4 rfl hh rfl rfl ?_
    simp only [q0, q1, q2, q3, q4, q5, q6, q7, q8, q9, zq0, zq1, zq2, zq3, zq4, guardSlot, quietA, nilC, nilA, quietB, St.ev, St.put, St.after, Nat.reduceAdd, Nat.reduceSub, ofV, ofL, lenA, binA, intBin, fltBin, strBin, cpxBin, unA, convA, convB, convO, pickV, resL, oneA, indexA, indexS, isQuiet, loadA, loadC, storeA, fieldA, partA, sliceA, boundA, buildA, placeA, setAll, appendA, readSl, newEl, AV.cells, AV.solid, AV.one, kill, killM, killL, notInt, Int.reduceToNat, cond_true, cond_false, ↓reduceIte, reduceCtorEq, Nat.reduceLT, Nat.reduceLeDiff, Nat.reduceMul, Nat.reduceEqDiff, exists_eq', putF, implies_true, exists_true_left, tys0, tys1, tys2, und0, und1, md5, Tryz.ntmps5, Tryz.results5, Int.reduceLT, Int.reduceLE, Int.reduceNeg, Int.reduceEq, Int.reduceGT, Int.reduceGE, decide_true, decide_false, beq_self_eq_true, bne_self_eq_false, Int.reduceBEq, Int.reduceBNe, Int.reduceAdd, Int.reduceSub]
    exact PostR.pure ⟨rfl, rfl⟩ rfl
  | some x =>
    rw [hs] at y1 y2
    have sz := load_valid ht hs
    have es := eqSaved_self x sz
    have hh := heldSaved_call x sz
    have y1 : CallA Tryz.prog 25 [.str t] [] (Ret (.tup [savA x, .bool true]) []) := y1
    have y1 : CallA Tryz.prog 25 [.str t] [] (Ret (.tup [.agg [.str x.1, .ro (x.2.1.map rulA), .ro (ints x.2.2)], .bool true]) []) := y1
    have n1 : decide (nxS x < 0) = false := decide_eq_false (by unfold nxS; rw [nxRs_is]; omega)
    refine call_ret y1 rfl rfl ?_
    simp only [q0, q1, q2, q3, q4, q5, q6, q7, q8, q9, zq0, zq1, zq2, zq3, zq4, guardSlot, quietA, nilC, nilA, quietB, St.ev, St.put, St.after, Nat.reduceAdd, Nat.reduceSub, ofV, ofL, lenA, binA, intBin, fltBin, strBin, cpxBin, unA, convA, convB, convO, pickV, resL, oneA, indexA, indexS, isQuiet, loadA, loadC, storeA, fieldA, partA, sliceA, boundA, buildA, placeA, setAll, appendA, readSl, newEl, AV.cells, AV.solid, AV.one, kill, killM, killL, notInt, Int.reduceToNat, cond_true, cond_false, ↓reduceIte, reduceCtorEq, Nat.reduceLT, Nat.reduceLeDiff, Nat.reduceMul, Nat.reduceEqDiff, exists_eq', putF, implies_true, exists_true_left, tys0, tys1, tys2, und0, und1, md5, Tryz.ntmps5, Tryz.results5]
    refine call_joined (r := savT x) (new := encR 0 x.2.1 ++ [intB x.2.2]) y2 rfl ?_
    unfold joinHp
    rw [List.map_append, encR_ren, List.map_cons, List.map_nil, renB_flat (ints_below _ _)]
    simp only [q0, q1, q2, q3, q4, q5, q6, q7, q8, q9, zq0, zq1, zq2, zq3, zq4, guardSlot, quietA, nilC, nilA, quietB, St.ev, St.put, St.after, Nat.reduceAdd, Nat.reduceSub, ofV, ofL, lenA, binA, intBin, fltBin, strBin, cpxBin, unA, convA, convB, convO, pickV, resL, oneA, indexA, indexS, isQuiet, loadA, loadC, storeA, fieldA, partA, sliceA, boundA, buildA, placeA, setAll, appendA, readSl, newEl, AV.cells, AV.solid, AV.one, kill, killM, killL, notInt, Int.reduceToNat, cond_true, cond_false, ↓reduceIte, reduceCtorEq, Nat.reduceLT, Nat.reduceLeDiff, Nat.reduceMul, Nat.reduceEqDiff, exists_eq', putF, implies_true, exists_true_left, tys0, tys1, tys2, und0, und1, md5, Tryz.ntmps5, Tryz.results5, savT, ren, renM, renL, get_last, set_last]
    have LL : (encR 1 x.2.1 ++ [intB x.2.2]).length = x.2.1.length + 2 := by rw [List.length_append, encR_len]; rfl
    have em : ∀ W G : Blk, W :: (encR 1 x.2.1 ++ [intB x.2.2] ++ [G]) = memS [W] [G] x := fun _ _ => by simp [memS, encR]
    have ix : AV.sl (x.2.1.length + 1 + 1) 0 x.2.2.length = AV.sl (1 + 1 + x.2.1.length) 0 x.2.2.length := by rw [show x.2.1.length + 1 + 1 = 1 + 1 + x.2.1.length by omega]
    simp only [em, ix]
    generalize hW : ({ ty := 32, w := 3, els := [.agg [.str x.1, .ro (x.2.1.map rulA), .ro (ints x.2.2)]] } : Blk) = W
    generalize hG : ({ ty := 32, w := 3, els := [.agg [.str x.1, .sl 1 0 x.2.1.length, .sl (1 + 1 + x.2.1.length) 0 x.2.2.length]] } : Blk) = G
    have gW : ∀ (T : List Blk) (y : Sav), (memS [W] T y)[0]? = some { ty := 32, w := 3, els := [.agg [.str x.1, .ro (x.2.1.map rulA), .ro (ints x.2.2)]] } := fun T y => memS_head _ _ _ (by rw [hW]; rfl)
    have gG : ∀ (T : List Blk) (y : Sav), y.2.1.length = x.2.1.length → (memS [W] (G :: T) y)[(encR 1 x.2.1 ++ [intB x.2.2]).length + 1]? = some { ty := 32, w := 3, els := [.agg [.str x.1, .sl 1 0 x.2.1.length, .sl (1 + 1 + x.2.1.length) 0 x.2.2.length]] } := fun T y hy => by
      rw [LL, memS_tail _ _ _ (i := 0) (by rw [hy]; show _ = 1 + _ + 0; omega), hG]; rfl
    refine call_lentN 4 4 (eq_lent x (memS_has [W] [G] x) (memS_int [W] [G] x)) es rfl rfl ?_
    simp only [q0, q1, q2, q3, q4, q5, q6, q7, q8, q9, zq0, zq1, zq2, zq3, zq4, guardSlot, quietA, nilC, nilA, quietB, St.ev, St.put, St.after, Nat.reduceAdd, Nat.reduceSub, ofV, ofL, lenA, binA, intBin, fltBin, strBin, cpxBin, unA, convA, convB, convO, pickV, resL, oneA, indexA, indexS, isQuiet, loadA, loadC, storeA, fieldA, partA, sliceA, boundA, buildA, placeA, setAll, appendA, readSl, newEl, AV.cells, AV.solid, AV.one, kill, killM, killL, notInt, Int.reduceToNat, cond_true, cond_false, ↓reduceIte, reduceCtorEq, Nat.reduceLT, Nat.reduceLeDiff, Nat.reduceMul, Nat.reduceEqDiff, exists_eq', putF, implies_true, exists_true_left, tys0, tys1, tys2, und0, und1, md5, Tryz.ntmps5, Tryz.results5, Int.reduceLT, Int.reduceLE, Int.reduceNeg, Int.reduceEq, Int.reduceGT, Int.reduceGE, decide_true, decide_false, beq_self_eq_true, bne_self_eq_false, Int.reduceBEq, Int.reduceBNe, Int.reduceAdd, Int.reduceSub, gW, gG [] x rfl]
    refine call_at ((markSaved_call [W] [G] x sz).mono ?_)
    rintro r hp ⟨rfl, Q1, rfl⟩
    have g2 := gG [Q1] (mkS x) (mkS_len x).1
    have vS : view 4 (memS [W] ([G] ++ [Q1]) (mkS x)) = view 4 (memS [W] ([G] ++ [Q1]) (mkS x)) := rfl
    have vh := held_lent (mkS x) (memS_has [W] ([G] ++ [Q1]) (mkS x)) (memS_int [W] ([G] ++ [Q1]) (mkS x))
    rw [(mkS_len x).1, (mkS_len x).2] at vh
    simp only [q0, q1, q2, q3, q4, q5, q6, q7, q8, q9, zq0, zq1, zq2, zq3, zq4, guardSlot, quietA, nilC, nilA, quietB, St.ev, St.put, St.after, Nat.reduceAdd, Nat.reduceSub, ofV, ofL, lenA, binA, intBin, fltBin, strBin, cpxBin, unA, convA, convB, convO, pickV, resL, oneA, indexA, indexS, isQuiet, loadA, loadC, storeA, fieldA, partA, sliceA, boundA, buildA, placeA, setAll, appendA, readSl, newEl, AV.cells, AV.solid, AV.one, kill, killM, killL, notInt, Int.reduceToNat, cond_true, cond_false, ↓reduceIte, reduceCtorEq, Nat.reduceLT, Nat.reduceLeDiff, Nat.reduceMul, Nat.reduceEqDiff, exists_eq', putF, implies_true, exists_true_left, tys0, tys1, tys2, und0, und1, md5, Tryz.ntmps5, Tryz.results5, Int.reduceLT, Int.reduceLE, Int.reduceNeg, Int.reduceEq, Int.reduceGT, Int.reduceGE, decide_true, decide_false, beq_self_eq_true, bne_self_eq_false, Int.reduceBEq, Int.reduceBNe, Int.reduceAdd, Int.reduceSub, g2]
    refine call_lentN 4 4 vh hh rfl rfl ?_
    simp only [q0, q1, q2, q3, q4, q5, q6, q7, q8, q9, zq0, zq1, zq2, zq3, zq4, guardSlot, quietA, nilC, nilA, quietB, St.ev, St.put, St.after, Nat.reduceAdd, Nat.reduceSub, ofV, ofL, lenA, binA, intBin, fltBin, strBin, cpxBin, unA, convA, convB, convO, pickV, resL, oneA, indexA, indexS, isQuiet, loadA, loadC, storeA, fieldA, partA, sliceA, boundA, buildA, placeA, setAll, appendA, readSl, newEl, AV.cells, AV.solid, AV.one, kill, killM, killL, notInt, Int.reduceToNat, cond_true, cond_false, ↓reduceIte, reduceCtorEq, Nat.reduceLT, Nat.reduceLeDiff, Nat.reduceMul, Nat.reduceEqDiff, exists_eq', putF, implies_true, exists_true_left, tys0, tys1, tys2, und0, und1, md5, Tryz.ntmps5, Tryz.results5, Int.reduceLT, Int.reduceLE, Int.reduceNeg, Int.reduceEq, Int.reduceGT, Int.reduceGE, decide_true, decide_false, beq_self_eq_true, bne_self_eq_false, Int.reduceBEq, Int.reduceBNe, Int.reduceAdd, Int.reduceSub, n1]
    have m0 := gW ([G] ++ [Q1]) (mkS x)
    have m2 := memS_has [W] ([G] ++ [Q1]) (mkS x)
    have m3 := memS_int [W] ([G] ++ [Q1]) (mkS x)
    rw [show memS [W] ([G] ++ [Q1]) (mkS x) = memS [W] [G, Q1] (mkS x) from rfl] at m0 m2 m3
    have m1 : (memS [W] [G, Q1] (mkS x))[(encR 1 x.2.1 ++ [intB x.2.2]).length + 1]? = _ := g2
    generalize memS [W] [G, Q1] (mkS x) = M at m0 m1 m2 m3
    refine call_joined (r := savT x) (new := encR 0 x.2.1 ++ [intB x.2.2]) y2 rfl ?_
    unfold joinHp
    rw [List.map_append, encR_ren, List.map_cons, List.map_nil, renB_flat (ints_below _ _), Nat.zero_add]
    have eM : ∀ V : Blk, M ++ (encR M.length x.2.1 ++ [intB x.2.2]) ++ [V] = memS M [V] x := fun V => by rw [memS_is]; simp
    simp only [q0, q1, q2, q3, q4, q5, q6, q7, q8, q9, zq0, zq1, zq2, zq3, zq4, guardSlot, quietA, nilC, nilA, quietB, St.ev, St.put, St.after, Nat.reduceAdd, Nat.reduceSub, ofV, ofL, lenA, binA, intBin, fltBin, strBin, cpxBin, unA, convA, convB, convO, pickV, resL, oneA, indexA, indexS, isQuiet, loadA, loadC, storeA, fieldA, partA, sliceA, boundA, buildA, placeA, setAll, appendA, readSl, newEl, AV.cells, AV.solid, AV.one, kill, killM, killL, notInt, Int.reduceToNat, cond_true, cond_false, ↓reduceIte, reduceCtorEq, Nat.reduceLT, Nat.reduceLeDiff, Nat.reduceMul, Nat.reduceEqDiff, exists_eq', putF, implies_true, exists_true_left, tys0, tys1, tys2, und0, und1, md5, Tryz.ntmps5, Tryz.results5, savT, ren, renM, renL, get_last, set_last]
    have iy : AV.sl (x.2.1.length + 1 + M.length) 0 x.2.2.length = AV.sl (M.length + 1 + x.2.1.length) 0 x.2.2.length := by rw [show x.2.1.length + 1 + M.length = M.length + 1 + x.2.1.length by omega]
    simp only [eM, iy]
    generalize ({ ty := 32, w := 3, els := [.agg [.str x.1, .sl M.length 0 x.2.1.length, .sl (M.length + 1 + x.2.1.length) 0 x.2.2.length]] } : Blk) = H
    have k0 := memS_head M [H] x m0
    have k1 := memS_head M [H] x m1
    have e2 := eq_lent x (memS_has M [H] x) (memS_int M [H] x)
    have v2 := held_lent (mkS x) (HasR.more m2 (x := x) (T := [H])) (memS_head M [H] x m3)
    rw [(mkS_len x).1, (mkS_len x).2] at v2
    simp only [q0, q1, q2, q3, q4, q5, q6, q7, q8, q9, zq0, zq1, zq2, zq3, zq4, guardSlot, quietA, nilC, nilA, quietB, St.ev, St.put, St.after, Nat.reduceAdd, Nat.reduceSub, ofV, ofL, lenA, binA, intBin, fltBin, strBin, cpxBin, unA, convA, convB, convO, pickV, resL, oneA, indexA, indexS, isQuiet, loadA, loadC, storeA, fieldA, partA, sliceA, boundA, buildA, placeA, setAll, appendA, readSl, newEl, AV.cells, AV.solid, AV.one, kill, killM, killL, notInt, Int.reduceToNat, cond_true, cond_false, ↓reduceIte, reduceCtorEq, Nat.reduceLT, Nat.reduceLeDiff, Nat.reduceMul, Nat.reduceEqDiff, exists_eq', putF, implies_true, exists_true_left, tys0, tys1, tys2, und0, und1, md5, Tryz.ntmps5, Tryz.results5, k0]
    refine call_lentN 4 4 e2 es rfl rfl ?_
    simp only [q0, q1, q2, q3, q4, q5, q6, q7, q8, q9, zq0, zq1, zq2, zq3, zq4, guardSlot, quietA, nilC, nilA, quietB, St.ev, St.put, St.after, Nat.reduceAdd, Nat.reduceSub, ofV, ofL, lenA, binA, intBin, fltBin, strBin, cpxBin, unA, convA, convB, convO, pickV, resL, oneA, indexA, indexS, isQuiet, loadA, loadC, storeA, fieldA, partA, sliceA, boundA, buildA, placeA, setAll, appendA, readSl, newEl, AV.cells, AV.solid, AV.one, kill, killM, killL, notInt, Int.reduceToNat, cond_true, cond_false, ↓reduceIte, reduceCtorEq, Nat.reduceLT, Nat.reduceLeDiff, Nat.reduceMul, Nat.reduceEqDiff, exists_eq', putF, implies_true, exists_true_left, tys0, tys1, tys2, und0, und1, md5, Tryz.ntmps5, Tryz.results5, Int.reduceLT, Int.reduceLE, Int.reduceNeg, Int.reduceEq, Int.reduceGT, Int.reduceGE, decide_true, decide_false, beq_self_eq_true, bne_self_eq_false, Int.reduceBEq, Int.reduceBNe, Int.reduceAdd, Int.reduceSub, k1]
    refine call_lentN 4 4 v2 hh rfl rfl ?_
    simp only [q0, q1, q2, q3, q4, q5, q6, q7, q8, q9, zq0, zq1, zq2, zq3, zq4, guardSlot, quietA, nilC, nilA, quietB, St.ev, St.put, St.after, Nat.reduceAdd, Nat.reduceSub, ofV, ofL, lenA, binA, intBin, fltBin, strBin, cpxBin, unA, convA, convB, convO, pickV, resL, oneA, indexA, indexS, isQuiet, loadA, loadC, storeA, fieldA, partA, sliceA, boundA, buildA, placeA, setAll, appendA, readSl, newEl, AV.cells, AV.solid, AV.one, kill, killM, killL, notInt, Int.reduceToNat, cond_true, cond_false, ↓reduceIte, reduceCtorEq, Nat.reduceLT, Nat.reduceLeDiff, Nat.reduceMul, Nat.reduceEqDiff, exists_eq', putF, implies_true, exists_true_left, tys0, tys1, tys2, und0, und1, md5, Tryz.ntmps5, Tryz.results5, Int.reduceLT, Int.reduceLE, Int.reduceNeg, Int.reduceEq, Int.reduceGT, Int.reduceGE, decide_true, decide_false, beq_self_eq_true, bne_self_eq_false, Int.reduceBEq, Int.reduceBNe, Int.reduceAdd, Int.reduceSub, n1]
    exact PostR.pure ⟨rfl, rfl⟩ rfl
theorem ofT_str {m : Nat} {t : TypeId} {l : List AV} (ht : Tryz.prog.underlying t = some .string) (h : OfT Tryz.prog (m + 1) t l) : ∃ s, l = [.str s] ∧ s.length ≤ maxLen := by
  unfold OfT at h
  rw [ht] at h
  exact h
theorem exactLoadSaved (l0 : AV) (of0 : OfT Tryz.prog 8 9 [l0]) : CallA Tryz.prog 5 [l0] [] (Ret (.bool true) []) := by
  obtain ⟨s, e, h⟩ := ofT_str Tryz.underlying9 of0
  obtain rfl : l0 = .str s := by simpa using e
  exact exactLoadSaved_list s
end Go.Proofs.YtigipcckflcilaaGreatDoor
