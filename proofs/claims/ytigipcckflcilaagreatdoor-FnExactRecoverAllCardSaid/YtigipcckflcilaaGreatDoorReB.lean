/- Saved ones that are recovered: both sides. -/
import Derived.Test.YtigipcckflcilaaGreatDoorReA
set_option maxRecDepth 10000
set_option maxHeartbeats 8000000
set_option linter.unusedSimpArgs false
set_option linter.unusedVariables false
namespace Go.Proofs.YtigipcckflcilaaGreatDoor
open Go Go.Abs

theorem blkS_drop (N : Nat) (L : List Sav) (x : Sav) (p q : Blk) (h : 1 + offS (L ++ [x]) ≤ N) : DropHp N ((blkS 1 L ++ (encR (offS L + 1) x.2.1 ++ [intB x.2.2]) ++ [p] ++ [q]).map fun q => { q with els := q.els.map (kill 0) }) (blkS 1 (L ++ [x])) := by
  rw [show blkS 1 L ++ (encR (offS L + 1) x.2.1 ++ [intB x.2.2]) = blkS 1 (L ++ [x]) by rw [blkS_snoc, Nat.add_comm 1], List.map_append, List.map_append, blkS_kill 0 _ 1 (by omega), List.append_assoc]
  exact dropHp_app (blkS_flat N _ 1 h)
def recA (q : List Sav × Nat) : AV := .tup [.sl 0 0 q.1.length, .int .i64 ((q.2 : Nat) : Int), .bool true]
theorem implRecoverAll_call (s : List UInt8) (hs : s.length ≤ 1048576) : CallA Tryz.prog 14 [.str s] [] (Ret (recA (recOf 8 s)) (encS 0 (recOf 8 s).1)) := by
  refine CallP.out (t := .mk) (go_in (md := md14) mixed Tryz.func14 rfl go14 (by kernel_rfl) ?_)
  simp only [q0, q1, q2, q3, q4, q5, q6, q7, q8, q9, zq0, zq1, zq2, zq3, zq4, guardSlot, quietA, nilC, nilA, quietB, St.ev, St.put, St.after, Nat.reduceAdd, Nat.reduceSub, ofV, ofL, lenA, binA, intBin, fltBin, strBin, cpxBin, unA, convA, convB, convO, pickV, resL, oneA, indexA, indexS, isQuiet, loadA, loadC, storeA, fieldA, partA, sliceA, boundA, buildA, placeA, setAll, appendA, readSl, newEl, AV.cells, AV.solid, AV.one, kill, killM, killL, notInt, Int.reduceToNat, cond_true, cond_false, ↓reduceIte, reduceCtorEq, Nat.reduceLT, Nat.reduceLeDiff, Nat.reduceMul, Nat.reduceEqDiff, exists_eq', putF, implies_true, exists_true_left, tys0, tys1, tys2, und0, und1, md14, Tryz.ntmps14, Tryz.results14]
  refine go_round (md := md14) mixed (by kernel_rfl) (fun p : {p : List Sav × Nat // AtS s p.1 p.2} => ⟨[.str s, .any, .any, .any, .any, .sl 0 0 p.1.1.length, .int .i64 ((p.1.2 : Nat) : Int), .any, .any, .any, .any, .any, .any, .any, .any, .any, .any, .any, .any, .any, .any, .any, .any, .any, .any, .any, .any, .any, .any, .any, .any, .any, .any], encS 0 p.1.1⟩) (fun p => 8 - p.1.1.length) ⟨([], 0), atS_0 s⟩ ?_ ?_
  · refine weak_same (by simp [encS, elsS, blkS, savB]) ?_
    simp [SameTm]
  rintro ⟨⟨L, a⟩, hA⟩
  dsimp only at hA ⊢
  have ha := hA.le
  have h8 := hA.le8
  have ll := elsS_len L 1
  simp only [q0, q1, q2, q3, q4, q5, q6, q7, q8, q9, zq0, zq1, zq2, zq3, zq4, guardSlot, quietA, nilC, nilA, quietB, St.ev, St.put, St.after, Nat.reduceAdd, Nat.reduceSub, ofV, ofL, lenA, binA, intBin, fltBin, strBin, cpxBin, unA, convA, convB, convO, pickV, resL, oneA, indexA, indexS, isQuiet, loadA, loadC, storeA, fieldA, partA, sliceA, boundA, buildA, placeA, setAll, appendA, readSl, newEl, AV.cells, AV.solid, AV.one, kill, killM, killL, notInt, Int.reduceToNat, cond_true, cond_false, ↓reduceIte, reduceCtorEq, Nat.reduceLT, Nat.reduceLeDiff, Nat.reduceMul, Nat.reduceEqDiff, exists_eq', putF, implies_true, exists_true_left, tys0, tys1, tys2, und0, und1, md14, Tryz.ntmps14, Tryz.results14, encS, savB, ll]
  refine br_intro (fun g => ?_) (fun g => ?_) <;> simp only [q0, q1, q2, q3, q4, q5, q6, q7, q8, q9, zq0, zq1, zq2, zq3, zq4, guardSlot, quietA, nilC, nilA, quietB, St.ev, St.put, St.after, Nat.reduceAdd, Nat.reduceSub, ofV, ofL, lenA, binA, intBin, fltBin, strBin, cpxBin, unA, convA, convB, convO, pickV, resL, oneA, indexA, indexS, isQuiet, loadA, loadC, storeA, fieldA, partA, sliceA, boundA, buildA, placeA, setAll, appendA, readSl, newEl, AV.cells, AV.solid, AV.one, kill, killM, killL, notInt, Int.reduceToNat, cond_true, cond_false, ↓reduceIte, reduceCtorEq, Nat.reduceLT, Nat.reduceLeDiff, Nat.reduceMul, Nat.reduceEqDiff, exists_eq', putF, implies_true, exists_true_left, tys0, tys1, tys2, und0, und1, md14, Tryz.ntmps14, Tryz.results14, encS, savB, ll]
  · have g : L.length < 8 := by have := of_decide_eq_true g; omega
    rw [List.take_length]
    refine ⟨by omega, by omega, ?_⟩
    have ld := loaded_call (s.drop a) (by rw [List.length_drop]; omega)
    cases hb : beginOf (s.drop a) with
    | none =>
      rw [hb] at ld
      refine call_ret (r := .tup [sav0, .int .i64 0, .bool false]) ld rfl rfl ?_
      simp only [q0, q1, q2, q3, q4, q5, q6, q7, q8, q9, zq0, zq1, zq2, zq3, zq4, guardSlot, quietA, nilC, nilA, quietB, St.ev, St.put, St.after, Nat.reduceAdd, Nat.reduceSub, ofV, ofL, lenA, binA, intBin, fltBin, strBin, cpxBin, unA, convA, convB, convO, pickV, resL, oneA, indexA, indexS, isQuiet, loadA, loadC, storeA, fieldA, partA, sliceA, boundA, buildA, placeA, setAll, appendA, readSl, newEl, AV.cells, AV.solid, AV.one, kill, killM, killL, notInt, Int.reduceToNat, cond_true, cond_false, ↓reduceIte, reduceCtorEq, Nat.reduceLT, Nat.reduceLeDiff, Nat.reduceMul, Nat.reduceEqDiff, exists_eq', putF, implies_true, exists_true_left, tys0, tys1, tys2, und0, und1, md14, Tryz.ntmps14, Tryz.results14, sav0, get_last, set_last]
      rw [hA.stop hb]
      exact PostR.drop (recA (L, a)) (encS 0 L) (Nat.zero_le _) ⟨⟨rfl, fun _ => ⟨rfl, rfl, rfl, elsS_below _ _ _ (by rw [encS_len]; omega)⟩⟩, dropHp_app (blkS_flat _ _ _ (by rw [encS_len]; omega))⟩ (by simp [DropV, recA, below, belowM, belowL, encS_len, show ∀ k, 0 < 1 + k from fun k => by omega]) ⟨rfl, rfl⟩
    | some q =>
      obtain ⟨x, n⟩ := q
      rw [hb] at ld
      obtain ⟨nx, n1⟩ := hA.next hs g hb
      have nl := nx.le
      refine call_joined (r := .tup [.agg [.str x.1, .sl 0 0 x.2.1.length, .sl (x.2.1.length + 1) 0 x.2.2.length], .int .i64 ((n : Nat) : Int), .bool true]) (new := encR 0 x.2.1 ++ [intB x.2.2]) ld rfl ?_
      unfold joinHp
      rw [List.map_append, encR_ren, List.map_cons, List.map_nil, renB_flat (ints_below _ _), List.length_cons, blkS_len, Nat.zero_add]
      simp only [q0, q1, q2, q3, q4, q5, q6, q7, q8, q9, zq0, zq1, zq2, zq3, zq4, guardSlot, quietA, nilC, nilA, quietB, St.ev, St.put, St.after, Nat.reduceAdd, Nat.reduceSub, ofV, ofL, lenA, binA, intBin, fltBin, strBin, cpxBin, unA, convA, convB, convO, pickV, resL, oneA, indexA, indexS, isQuiet, loadA, loadC, storeA, fieldA, partA, sliceA, boundA, buildA, placeA, setAll, appendA, readSl, newEl, AV.cells, AV.solid, AV.one, kill, killM, killL, notInt, Int.reduceToNat, cond_true, cond_false, ↓reduceIte, reduceCtorEq, Nat.reduceLT, Nat.reduceLeDiff, Nat.reduceMul, Nat.reduceEqDiff, exists_eq', putF, implies_true, exists_true_left, tys0, tys1, tys2, und0, und1, md14, Tryz.ntmps14, Tryz.results14, ren, renM, renL, get_last, set_last, allW_int, fits, List.isEmpty_cons, brk_false, Nat.reduceMul]
      have w2 : IntKind.i64.wrap ((a : Int) + (n : Int)) = ((a + n : Nat) : Int) := by rw [w64 (by omega) (by omega)]; omega
      refine ⟨by rw [ll], fun v hv => (by rw [List.mem_singleton.1 hv]; exact ⟨rfl, rfl⟩), by omega, ⟨(L ++ [x], a + n), nx⟩, by show 8 - (L ++ [x]).length < _; rw [List.length_append]; simp; omega, ?_⟩
      have ev : AV.agg [.str x.1, .sl (offS L + 1) 0 x.2.1.length, .sl (x.2.1.length + 1 + (offS L + 1)) 0 x.2.2.length] = savN (1 + offS L) x := by
        unfold savN
        rw [Nat.add_comm 1, show x.2.1.length + 1 + (offS L + 1) = offS L + 1 + 1 + x.2.1.length by omega]
      have ek : List.map (kill 0) (elsS 1 L ++ [AV.agg [.str x.1, .sl (offS L + 1) 0 x.2.1.length, .sl (x.2.1.length + 1 + (offS L + 1)) 0 x.2.2.length]]) = elsS 1 (L ++ [x]) := by
        rw [ev, ← elsS_snoc, elsS_kill 0 _ 1 (by omega)]
      rw [ek, w2]
      show Weak 0 _ ⟨_, encS 0 (L ++ [x])⟩
      refine weak_drop (Nat.zero_le _) ⟨⟨rfl, fun _ => ⟨rfl, rfl, rfl, elsS_below _ _ _ (by rw [encS_len]; omega)⟩⟩, blkS_drop _ L x _ _ (by rw [encS_len]; omega)⟩ ?_
      simp [DropTm, DropV, below, belowM, belowL, encS_len, show ∀ k, 0 < 1 + k from fun k => by omega]
  · have g : ¬ L.length < 8 := by have := of_decide_eq_false g; omega
    rw [hA.full g]
    exact PostR.ret
theorem savs_below (N : Nat) (L : List Sav) : allBelow N (L.map savA) = true := by
  simp only [allBelow, List.all_eq_true]
  intro v hv
  obtain ⟨x, _, rfl⟩ := List.mem_map.1 hv
  simp [savA, below, belowM, belowL]
theorem savs_kill (c : Nat) (L : List Sav) (x : Sav) : (L.map savA ++ [savA x]).map (kill c) = (L ++ [x]).map savA := by
  rw [show L.map savA ++ [savA x] = (L ++ [x]).map savA by simp, List.map_map]
  exact List.map_congr_left fun y _ => rfl
theorem specRecoverAll_call (s : List UInt8) (hs : s.length ≤ 1048576) : CallA Tryz.prog 29 [.str s] [] (Ret (.tup [.ro ((recOf 8 s).1.map savA), .int .i64 (((recOf 8 s).2 : Nat) : Int), .bool true]) []) := by
  have main : CallA Tryz.prog 29 [.str s] [] (Ret (recA (recOf 8 s)) [savB ((recOf 8 s).1.map savA)]) := by
    refine CallP.out (t := .mk) (go_in (md := md29) mixed Tryz.func29 rfl go29 (by kernel_rfl) ?_)
    simp only [q0, q1, q2, q3, q4, q5, q6, q7, q8, q9, zq0, zq1, zq2, zq3, zq4, guardSlot, quietA, nilC, nilA, quietB, St.ev, St.put, St.after, Nat.reduceAdd, Nat.reduceSub, ofV, ofL, lenA, binA, intBin, fltBin, strBin, cpxBin, unA, convA, convB, convO, pickV, resL, oneA, indexA, indexS, isQuiet, loadA, loadC, storeA, fieldA, partA, sliceA, boundA, buildA, placeA, setAll, appendA, readSl, newEl, AV.cells, AV.solid, AV.one, kill, killM, killL, notInt, Int.reduceToNat, cond_true, cond_false, ↓reduceIte, reduceCtorEq, Nat.reduceLT, Nat.reduceLeDiff, Nat.reduceMul, Nat.reduceEqDiff, exists_eq', putF, implies_true, exists_true_left, tys0, tys1, tys2, und0, und1, md29, Tryz.ntmps29, Tryz.results29]
    refine go_round (md := md29) mixed (by kernel_rfl) (fun p : {p : List Sav × Nat // AtS s p.1 p.2} => ⟨[.str s, .any, .any, .any, .any, .sl 0 0 p.1.1.length, .int .i64 ((p.1.2 : Nat) : Int), .any, .any, .any, .any, .any, .any, .any, .any, .any, .any, .any, .any, .any, .any, .any, .any, .any, .any, .any, .any, .any, .any, .any, .any], [savB (p.1.1.map savA)]⟩) (fun p => 8 - p.1.1.length) ⟨([], 0), atS_0 s⟩ ?_ ?_
    · refine weak_same (by simp [savB]) ?_
      simp [SameTm]
    rintro ⟨⟨L, a⟩, hA⟩
    dsimp only at hA ⊢
    have ha := hA.le
    have h8 := hA.le8
    have ll : (L.map savA).length = L.length := List.length_map _
    simp only [q0, q1, q2, q3, q4, q5, q6, q7, q8, q9, zq0, zq1, zq2, zq3, zq4, guardSlot, quietA, nilC, nilA, quietB, St.ev, St.put, St.after, Nat.reduceAdd, Nat.reduceSub, ofV, ofL, lenA, binA, intBin, fltBin, strBin, cpxBin, unA, convA, convB, convO, pickV, resL, oneA, indexA, indexS, isQuiet, loadA, loadC, storeA, fieldA, partA, sliceA, boundA, buildA, placeA, setAll, appendA, readSl, newEl, AV.cells, AV.solid, AV.one, kill, killM, killL, notInt, Int.reduceToNat, cond_true, cond_false, ↓reduceIte, reduceCtorEq, Nat.reduceLT, Nat.reduceLeDiff, Nat.reduceMul, Nat.reduceEqDiff, exists_eq', putF, implies_true, exists_true_left, tys0, tys1, tys2, und0, und1, md29, Tryz.ntmps29, Tryz.results29, savB, ll]
    refine br_intro (fun g => ?_) (fun g => ?_) <;> simp only [q0, q1, q2, q3, q4, q5, q6, q7, q8, q9, zq0, zq1, zq2, zq3, zq4, guardSlot, quietA, nilC, nilA, quietB, St.ev, St.put, St.after, Nat.reduceAdd, Nat.reduceSub, ofV, ofL, lenA, binA, intBin, fltBin, strBin, cpxBin, unA, convA, convB, convO, pickV, resL, oneA, indexA, indexS, isQuiet, loadA, loadC, storeA, fieldA, partA, sliceA, boundA, buildA, placeA, setAll, appendA, readSl, newEl, AV.cells, AV.solid, AV.one, kill, killM, killL, notInt, Int.reduceToNat, cond_true, cond_false, ↓reduceIte, reduceCtorEq, Nat.reduceLT, Nat.reduceLeDiff, Nat.reduceMul, Nat.reduceEqDiff, exists_eq', putF, implies_true, exists_true_left, tys0, tys1, tys2, und0, und1, md29, Tryz.ntmps29, Tryz.results29, savB, ll]
    · have g : L.length < 8 := by have := of_decide_eq_true g; omega
      rw [List.take_length]
      refine ⟨by omega, by omega, ?_⟩
      have ld := l07Begin_call (s.drop a) (by rw [List.length_drop]; omega)
      cases hb : beginOf (s.drop a) with
      | none =>
        rw [hb] at ld
        refine call_ret (r := .tup [sav0, .int .i64 0]) ld rfl rfl ?_
        simp only [q0, q1, q2, q3, q4, q5, q6, q7, q8, q9, zq0, zq1, zq2, zq3, zq4, guardSlot, quietA, nilC, nilA, quietB, St.ev, St.put, St.after, Nat.reduceAdd, Nat.reduceSub, ofV, ofL, lenA, binA, intBin, fltBin, strBin, cpxBin, unA, convA, convB, convO, pickV, resL, oneA, indexA, indexS, isQuiet, loadA, loadC, storeA, fieldA, partA, sliceA, boundA, buildA, placeA, setAll, appendA, readSl, newEl, AV.cells, AV.solid, AV.one, kill, killM, killL, notInt, Int.reduceToNat, cond_true, cond_false, ↓reduceIte, reduceCtorEq, Nat.reduceLT, Nat.reduceLeDiff, Nat.reduceMul, Nat.reduceEqDiff, exists_eq', putF, implies_true, exists_true_left, tys0, tys1, tys2, und0, und1, md29, Tryz.ntmps29, Tryz.results29, sav0, get_last, set_last, Int.reduceLT, Int.reduceLE, Int.reduceNeg, Int.reduceEq, Int.reduceGT, Int.reduceGE, decide_true, decide_false, beq_self_eq_true, bne_self_eq_false, Int.reduceBEq, Int.reduceBNe, Int.reduceAdd, Int.reduceSub]
        rw [hA.stop hb]
        exact PostR.drop (recA (L, a)) [savB (L.map savA)] (Nat.zero_le _) ⟨⟨rfl, fun _ => ⟨rfl, rfl, rfl, savs_below _ _⟩⟩, trivial⟩ (by simp [DropV, recA, below, belowM, belowL]) ⟨rfl, rfl⟩
      | some q =>
        obtain ⟨x, n⟩ := q
        obtain ⟨nx, n1⟩ := hA.next hs g hb
        have nl := nx.le
        have hv := (nx.val x (by simp)).1
        have xp := validB_pos hv
        rw [hb] at ld
        have ld : CallA Tryz.prog 61 [.str (s.drop a)] [] (Ret (.tup [savA x, .int .i64 ((n : Nat) : Int)]) []) := ld.frozen 3 (by
          have e : slV 0 x.2.2.length = .sl 0 0 x.2.2.length := slV_pos (by omega)
          have e2 : incBk x.2.2 = intB x.2.2 := if_neg (by omega)
          simp [beginA, beginH, e, e2, view_tup, view_agg, view_str, view_ro, view_int, view_sl, intB, map_view_ints, take_ints, ints_len, savA])
        have hz : (((n : Nat) : Int) == 0) = false := by simp; omega
        refine call_ret ld rfl rfl ?_
        simp only [q0, q1, q2, q3, q4, q5, q6, q7, q8, q9, zq0, zq1, zq2, zq3, zq4, guardSlot, quietA, nilC, nilA, quietB, St.ev, St.put, St.after, Nat.reduceAdd, Nat.reduceSub, ofV, ofL, lenA, binA, intBin, fltBin, strBin, cpxBin, unA, convA, convB, convO, pickV, resL, oneA, indexA, indexS, isQuiet, loadA, loadC, storeA, fieldA, partA, sliceA, boundA, buildA, placeA, setAll, appendA, readSl, newEl, AV.cells, AV.solid, AV.one, kill, killM, killL, notInt, Int.reduceToNat, cond_true, cond_false, ↓reduceIte, reduceCtorEq, Nat.reduceLT, Nat.reduceLeDiff, Nat.reduceMul, Nat.reduceEqDiff, exists_eq', putF, implies_true, exists_true_left, tys0, tys1, tys2, und0, und1, md29, Tryz.ntmps29, Tryz.results29, hz, savA, allW_int, fits, List.isEmpty_cons, brk_false, Nat.reduceMul]
        have w2 : IntKind.i64.wrap ((a : Int) + (n : Int)) = ((a + n : Nat) : Int) := by rw [w64 (by omega) (by omega)]; omega
        refine ⟨by rw [ll], fun v hv => (by rw [List.mem_singleton.1 hv]; exact ⟨rfl, rfl⟩), by omega, ⟨(L ++ [x], a + n), nx⟩, by show 8 - (L ++ [x]).length < _; rw [List.length_append]; simp; omega, ?_⟩
        have ek : List.map (kill 0) (List.map savA L ++ [AV.agg [.str x.1, .ro (x.2.1.map rulA), .ro (ints x.2.2)]]) = (L ++ [x]).map savA := savs_kill 0 L x
        rw [ek, w2]
        show Weak 0 _ ⟨_, [savB ((L ++ [x]).map savA)]⟩
        refine weak_drop (Nat.zero_le _) ⟨⟨rfl, fun _ => ⟨rfl, rfl, rfl, savs_below _ _⟩⟩, trivial⟩ ?_
        simp [DropTm, DropV, below, belowM, belowL]
    · have g : ¬ L.length < 8 := by have := of_decide_eq_false g; omega
      rw [hA.full g]
      exact PostR.ret
  refine main.frozen 4 ?_
  have lm : ((recOf 8 s).1.map savA).length = (recOf 8 s).1.length := List.length_map _
  have hv : ((recOf 8 s).1.map savA).map (view 2 [savB ((recOf 8 s).1.map savA)]) = (recOf 8 s).1.map savA := by
    rw [List.map_map]
    exact List.map_congr_left fun r _ => sav_view 1 _ r
  have ht : List.take (recOf 8 s).1.length ((recOf 8 s).1.map savA) = (recOf 8 s).1.map savA := by rw [← lm]; exact List.take_length
  unfold recA
  simp only [savB] at hv ⊢
  simp only [view_tup, List.map_cons, List.map_nil, view_int, view_bool, view_sl, List.getElem?_cons_zero, List.drop_zero, ht, hv, lm, Nat.zero_add, Nat.le_refl, decide_true, Bool.and_self, if_true]
end Go.Proofs.YtigipcckflcilaaGreatDoor
