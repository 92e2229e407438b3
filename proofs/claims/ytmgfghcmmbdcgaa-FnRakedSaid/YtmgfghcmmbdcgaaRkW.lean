/- The law FnRaked: goals that are met already. -/
import Derived.Test.YtmgfghcmmbdcgaaRkV
import Derived.Test.YtmgfghcmmbdcgaaAbsM4
set_option maxRecDepth 10000
set_option maxHeartbeats 16000000
set_option linter.unusedSimpArgs false
set_option linter.unusedVariables false
namespace Go.Proofs.Ytmgfghcmmbdcgaa
open Go Go.Abs

theorem view_fl {hp : List Blk} {i n : Nat} {W : List Nat} (h : hp[i]? = some (fltB W)) (hl : W.length = n) : view 2 hp (.sl i 0 n) = .ro (flts W) := by
  subst hl
  rw [view_sl, h]
  simp [fltB, map_view_flts, take_flts, flts_len]
theorem view_in {hp : List Blk} {i n : Nat} {W : List Int} (h : hp[i]? = some (intB W)) (hl : W.length = n) : view 2 hp (.sl i 0 n) = .ro (ints W) := by
  subst hl
  rw [view_sl, h]
  simp [intB, map_view_ints, take_ints, ints_len]
def T13 (m : List Int) (k n2 n : Nat) (ws : List Nat) (a b : List Int) : Prop := Lp Try.prog 0 (sndC (sndC (sndC (sndC (sndC (sndC (sndC (sndC (sndC (sndC (sndC (sndC (sndC (Try.f3.body.getD .skip)))))))))))))) (retQ Try.prog Try.f3 0 (Ret (.bool true) [])) .mk
  ⟨[.any, .ro (kint .u8 m), .any, .any, .any, .any, .int .i64 (n2 : Int), .sl 0 0 n, .sl 1 0 n, .sl 2 0 n, .sl 3 0 k, .any, .any, .any, .any, .any, .any, .any, .any, .any, .any, .any, .any, .any, .any, .any, .any, .any, .any, .any, .any, .any, .any, .any, .any, .any, .any, .any, .any, .any, .any, .any, .any, .any, .any, .any, .any, .any, .any, .any, .any, .any, .any, .any, .any, .any, .any, .any, .any, .any, .any, .any, .any, .any, .any, .any, .any, .any, .any, .any, .any, .any, .any, .any, .any, .any, .any, .any, .any, .any, .any, .any, .any, .any, .any, .any, .any, .any, .any, .any, .any, .any, .any, .any, .any, .any, .any, .any, .any, .any, .any, .any, .any, .any, .any, .any, .any, .any, .any, .any, .any, .any, .any, .any, .any, .any, .any, .any, .any, .any, .any, .any, .any, .any, .any, .any, .any, .any, .any, .any, .any, .any, .any, .any, .any, .any, .any, .any, .any, .any, .any, .any, .any, .any, .any, .any, .any, .any, .any, .any, .any, .any, .any, .any, .any, .any, .any, .any, .any, .any, .any, .any, .any, .any, .any, .any, .any, .any, .any, .any, .any, .any, .any, .any, .any, .any, .any, .any, .any, .any, .any, .any, .any, .any, .any, .any, .any, .any, .any, .any, .any, .any, .any, .any, .any, .any, .any, .any, .any, .any, .any, .any, .any, .any, .any, .any, .any, .any, .any, .any, .any, .any, .any, .any, .any, .any, .any, .any, .any, .any, .any, .any, .any, .any, .any, .any, .any, .any, .any, .any, .any, .any, .any, .any, .any, .any, .any, .any, .any, .any, .any], [fltB ws, intB a, intB b, fltB (amL ws a k n), fltB (amL ws b n2 n)]⟩
theorem sub_self64 {x : Nat} (h : finB .f64 x = true) : fsub .f64 x x = 0 := by
  obtain ⟨s, m, e, hd⟩ := fin_num h
  unfold fsub Ieee.Format.sub
  rw [format_read, hd]
  show canon .f64 (Ieee.double.nearest (if Ieee.signed s m (e - min e e).toNat + Ieee.signed (!s) m (e - min e e).toNat = 0 then s && !s else decide (Ieee.signed s m (e - min e e).toNat + Ieee.signed (!s) m (e - min e e).toNat < 0)) (Ieee.signed s m (e - min e e).toNat + Ieee.signed (!s) m (e - min e e).toNat).natAbs (min e e)) = 0
  have h0 : Ieee.signed s m (e - min e e).toNat + Ieee.signed (!s) m (e - min e e).toNat = 0 := by
    rw [signed_flip]; omega
  rw [h0, if_pos rfl]
  cases s <;> rfl
theorem gap_self {x : Nat} (h : finB .f64 x = true) : gapD x x = 0 := by
  unfold gapD
  rw [sub_self64 h]
  split <;> rfl
theorem c001 : canon .f32 981668463 = 981668463 := by decide +kernel
theorem d001 : canon .f64 4562254508917369340 = 4562254508917369340 := by decide +kernel
theorem n001 : fgt .f32 0 981668463 = false := by decide +kernel
theorem m001 : fgt .f64 0 4562254508917369340 = false := by decide +kernel
theorem t10 {cd m : List Int} {K M n : Nat} {ws : List Nat} {a b : List Int} (F : Fit n ws) (n1 : 1 ≤ n) (hn : n ≤ 9) (k8 : K ≤ 8) (m8 : M ≤ 8) (ga : grpB a K n = true) (gb : grpB b M n = true) (tl : T13 m K M n ws a b) : T10 cd m K M n ws a b := by
  have la := (grp_of ga).len
  have lb := (grp_of gb).len
  have lw := F.w.len
  have la1 := amL_len ws a K n
  have la2 := amL_len ws b M n
  obtain ⟨r1, r2⟩ := first_rake F n1 hn ga gb
  have rk := implRake_call ws a b (amL ws a K n) (amL ws b M n) 3 (by omega) (by omega) (by omega) (by omega) (by omega)
  rw [r1, r2] at rk
  have ro := CallA.frozen 3 rk (view_rake ws 0 lw)
  refine lp_seq (md := md3) mixed (by kernel_rfl) (fun Z hZ => ?_); simp only [q0, q1, q2, q3, q4, q5, q6, q7, q8, q9, zq0, zq1, zq2, zq3, zq4, guardSlot, quietA, nilC, nilA, quietB, St.ev, St.put, St.after, Nat.reduceAdd, Nat.reduceSub, ofV, ofL, lenA, binA, intBin, fltBin, strBin, cpxBin, unA, convA, convB, convO, pickV, resL, oneA, indexA, indexS, isQuiet, loadA, loadC, storeA, fieldA, partA, sliceA, boundA, buildA, placeA, setAll, appendA, readSl, newEl, AV.cells, AV.solid, AV.one, kill, killM, killL, notInt, Int.reduceToNat, cond_true, cond_false, ↓reduceIte, reduceCtorEq, Nat.reduceLT, Nat.reduceLeDiff, Nat.reduceMul, Nat.reduceEqDiff, exists_eq', putF, implies_true, exists_true_left, tys0, tys1, tys2, und0, und1, und2, md3, Try.ntmps3, Try.results3]
  refine call_lent_frozen 2 3 (by rw [List.map_cons, List.map_cons, List.map_cons, List.map_cons, List.map_cons, List.map_cons, List.map_nil, view_fl rfl lw, view_in rfl la, view_in rfl lb, view_fl rfl la1, view_fl rfl la2, view_int]) rk (by simp [clean, cleanM, cleanL]) (by simp [cleanB, fltB, flts_clean]) (fun q hq => by rw [List.mem_singleton.1 hq]; exact flts_below _ _) (fun q hq => by
    simp only [List.mem_cons, List.not_mem_nil, or_false] at hq
    rcases hq with rfl | rfl | rfl | rfl | rfl <;> first | exact flts_below _ _ | exact ints_below _ _) (by simp [below, belowM, belowL]) (view_rake ws 0 lw) ?_
  simp only [q0, q1, q2, q3, q4, q5, q6, q7, q8, q9, zq0, zq1, zq2, zq3, zq4, guardSlot, quietA, nilC, nilA, quietB, St.ev, St.put, St.after, Nat.reduceAdd, Nat.reduceSub, ofV, ofL, lenA, binA, intBin, fltBin, strBin, cpxBin, unA, convA, convB, convO, pickV, resL, oneA, indexA, indexS, isQuiet, loadA, loadC, storeA, fieldA, partA, sliceA, boundA, buildA, placeA, setAll, appendA, readSl, newEl, AV.cells, AV.solid, AV.one, kill, killM, killL, notInt, Int.reduceToNat, cond_true, cond_false, ↓reduceIte, reduceCtorEq, Nat.reduceLT, Nat.reduceLeDiff, Nat.reduceMul, Nat.reduceEqDiff, exists_eq', putF, implies_true, exists_true_left, tys0, tys1, tys2, und0, und1, und2, md3, Try.ntmps3, Try.results3]
  refine hZ _ ?_; clear hZ; clear Z; refine lp_seq (md := md3) mixed (by kernel_rfl) (fun Z hZ => ?_); simp only [q0, q1, q2, q3, q4, q5, q6, q7, q8, q9, zq0, zq1, zq2, zq3, zq4, guardSlot, quietA, nilC, nilA, quietB, St.ev, St.put, St.after, Nat.reduceAdd, Nat.reduceSub, ofV, ofL, lenA, binA, intBin, fltBin, strBin, cpxBin, unA, convA, convB, convO, pickV, resL, oneA, indexA, indexS, isQuiet, loadA, loadC, storeA, fieldA, partA, sliceA, boundA, buildA, placeA, setAll, appendA, readSl, newEl, AV.cells, AV.solid, AV.one, kill, killM, killL, notInt, Int.reduceToNat, cond_true, cond_false, ↓reduceIte, reduceCtorEq, Nat.reduceLT, Nat.reduceLeDiff, Nat.reduceMul, Nat.reduceEqDiff, exists_eq', putF, implies_true, exists_true_left, tys0, tys1, tys2, und0, und1, und2, md3, Try.ntmps3, Try.results3, flts_len, lw, c001, n001]
  refine br_no (by simp) ?_
  simp only [q0, q1, q2, q3, q4, q5, q6, q7, q8, q9, zq0, zq1, zq2, zq3, zq4, guardSlot, quietA, nilC, nilA, quietB, St.ev, St.put, St.after, Nat.reduceAdd, Nat.reduceSub, ofV, ofL, lenA, binA, intBin, fltBin, strBin, cpxBin, unA, convA, convB, convO, pickV, resL, oneA, indexA, indexS, isQuiet, loadA, loadC, storeA, fieldA, partA, sliceA, boundA, buildA, placeA, setAll, appendA, readSl, newEl, AV.cells, AV.solid, AV.one, kill, killM, killL, notInt, Int.reduceToNat, cond_true, cond_false, ↓reduceIte, reduceCtorEq, Nat.reduceLT, Nat.reduceLeDiff, Nat.reduceMul, Nat.reduceEqDiff, exists_eq', putF, implies_true, exists_true_left, tys0, tys1, tys2, und0, und1, und2, md3, Try.ntmps3, Try.results3, flts_len, lw, c001, n001]
  refine hZ _ ?_; clear hZ; clear Z; refine lp_seq (md := md3) mixed (by kernel_rfl) (fun Z hZ => ?_); simp only [q0, q1, q2, q3, q4, q5, q6, q7, q8, q9, zq0, zq1, zq2, zq3, zq4, guardSlot, quietA, nilC, nilA, quietB, St.ev, St.put, St.after, Nat.reduceAdd, Nat.reduceSub, ofV, ofL, lenA, binA, intBin, fltBin, strBin, cpxBin, unA, convA, convB, convO, pickV, resL, oneA, indexA, indexS, isQuiet, loadA, loadC, storeA, fieldA, partA, sliceA, boundA, buildA, placeA, setAll, appendA, readSl, newEl, AV.cells, AV.solid, AV.one, kill, killM, killL, notInt, Int.reduceToNat, cond_true, cond_false, ↓reduceIte, reduceCtorEq, Nat.reduceLT, Nat.reduceLeDiff, Nat.reduceMul, Nat.reduceEqDiff, exists_eq', putF, implies_true, exists_true_left, tys0, tys1, tys2, und0, und1, und2, md3, Try.ntmps3, Try.results3, flts_len, lw]
  refine go_round (md := md3) mixed (by kernel_rfl) (fun i : {i : Nat // i ≤ n} => ⟨[.any, .ro (kint .u8 m), .any, .any, .any, .any, .int .i64 (M : Int), .sl 0 0 n, .sl 1 0 n, .sl 2 0 n, .sl 3 0 K, .any, .any, .any, .ro (flts ws), .any, .any, .any, .any, .any, .any, .any, .any, .any, .any, .any, .any, .any, .any, .any, .any, .any, .any, .any, .any, .any, .any, .any, .any, .any, .any, .any, .any, .any, .any, .any, .any, .any, .any, .any, .any, .any, .any, .any, .any, .any, .any, .any, .any, .any, .any, .any, .any, .any, .any, .any, .any, .any, .any, .any, .any, .any, .any, .any, .any, .any, .any, .any, .any, .any, .any, .any, .any, .any, .any, .any, .any, .any, .any, .any, .any, .any, .any, .any, .any, .any, .any, .any, .any, .any, .any, .any, .any, .any, .any, .any, .any, .any, .any, .any, .any, .any, .any, .any, .any, .any, .int .i64 (n : Int), .int .i64 (i.1 : Int), .any, .any, .any, .any, .any, .any, .any, .any, .any, .any, .any, .any, .any, .any, .any, .any, .any, .any, .any, .any, .any, .any, .any, .any, .any, .any, .any, .any, .any, .any, .any, .any, .any, .any, .any, .any, .any, .any, .any, .any, .any, .any, .any, .any, .any, .any, .any, .any, .any, .any, .any, .any, .any, .any, .any, .any, .any, .any, .any, .any, .any, .any, .any, .any, .any, .any, .any, .any, .any, .any, .any, .any, .any, .any, .any, .any, .any, .any, .any, .any, .any, .any, .any, .any, .any, .any, .any, .any, .any, .any, .any, .any, .any, .any, .any, .any, .any, .any, .any, .any, .any, .any, .any, .any, .any, .any, .any, .any, .any, .any, .any, .any, .any, .any, .any, .any, .any, .any, .any, .any, .any, .any, .any], [fltB ws, intB a, intB b, fltB (amL ws a K n), fltB (amL ws b M n)]⟩) (fun i => n - i.1) ⟨0, Nat.zero_le _⟩ ?_ ?_
  · exact weak_drop (by simp) (by simp [DropHp, ints_below, flts_below, fltB, intB, allBelow_cons, allBelow_nil, below, belowM, belowL]) (by simp [DropTm, DropV, below, belowM, belowL, fltB, intB, allBelow_cons, allBelow_nil, below, belowM, belowL])
  rintro ⟨i, hi⟩
  simp only [q0, q1, q2, q3, q4, q5, q6, q7, q8, q9, zq0, zq1, zq2, zq3, zq4, guardSlot, quietA, nilC, nilA, quietB, St.ev, St.put, St.after, Nat.reduceAdd, Nat.reduceSub, ofV, ofL, lenA, binA, intBin, fltBin, strBin, cpxBin, unA, convA, convB, convO, pickV, resL, oneA, indexA, indexS, isQuiet, loadA, loadC, storeA, fieldA, partA, sliceA, boundA, buildA, placeA, setAll, appendA, readSl, newEl, AV.cells, AV.solid, AV.one, kill, killM, killL, notInt, Int.reduceToNat, cond_true, cond_false, ↓reduceIte, reduceCtorEq, Nat.reduceLT, Nat.reduceLeDiff, Nat.reduceMul, Nat.reduceEqDiff, exists_eq', putF, implies_true, exists_true_left, tys0, tys1, tys2, und0, und1, und2, md3, Try.ntmps3, Try.results3, fltB, flts_len, lw]
  refine br_intro (fun h => ?_) (fun h => ?_) <;> simp only [q0, q1, q2, q3, q4, q5, q6, q7, q8, q9, zq0, zq1, zq2, zq3, zq4, guardSlot, quietA, nilC, nilA, quietB, St.ev, St.put, St.after, Nat.reduceAdd, Nat.reduceSub, ofV, ofL, lenA, binA, intBin, fltBin, strBin, cpxBin, unA, convA, convB, convO, pickV, resL, oneA, indexA, indexS, isQuiet, loadA, loadC, storeA, fieldA, partA, sliceA, boundA, buildA, placeA, setAll, appendA, readSl, newEl, AV.cells, AV.solid, AV.one, kill, killM, killL, notInt, Int.reduceToNat, cond_true, cond_false, ↓reduceIte, reduceCtorEq, Nat.reduceLT, Nat.reduceLeDiff, Nat.reduceMul, Nat.reduceEqDiff, exists_eq', putF, implies_true, exists_true_left, tys0, tys1, tys2, und0, und1, und2, md3, Try.ntmps3, Try.results3, fltB, flts_len, lw]
  · have hi' : i < n := by have := of_decide_eq_true h; omega
    have hw : i < ws.length := by omega
    have wf := F.w.fin i hi'
    rw [getD_at ws 0 i hw] at wf
    obtain ⟨wr, _⟩ := wide_rn wf
    have gs := gap_self wr.fin
    refine ⟨hi', by omega, hi', ?_⟩
    refine callr_ret (b10Gap_call _ _) rfl rfl ?_
    rw [gs]
    simp only [q0, q1, q2, q3, q4, q5, q6, q7, q8, q9, zq0, zq1, zq2, zq3, zq4, guardSlot, quietA, nilC, nilA, quietB, St.ev, St.put, St.after, Nat.reduceAdd, Nat.reduceSub, ofV, ofL, lenA, binA, intBin, fltBin, strBin, cpxBin, unA, convA, convB, convO, pickV, resL, oneA, indexA, indexS, isQuiet, loadA, loadC, storeA, fieldA, partA, sliceA, boundA, buildA, placeA, setAll, appendA, readSl, newEl, AV.cells, AV.solid, AV.one, kill, killM, killL, notInt, Int.reduceToNat, cond_true, cond_false, ↓reduceIte, reduceCtorEq, Nat.reduceLT, Nat.reduceLeDiff, Nat.reduceMul, Nat.reduceEqDiff, exists_eq', putF, implies_true, exists_true_left, tys0, tys1, tys2, und0, und1, und2, md3, Try.ntmps3, Try.results3, fltB, flts_len, lw, d001, m001]
    refine ⟨⟨i + 1, by omega⟩, by show n - (i + 1) < n - i; omega, ?_⟩
    exact weak_drop (by simp) (by simp [DropHp, ints_below, flts_below, w64_succ i (by omega), fltB, intB, allBelow_cons, allBelow_nil, below, belowM, belowL]) (by simp [DropTm, DropV, below, belowM, belowL, w64_succ i (by omega), fltB, intB, allBelow_cons, allBelow_nil, below, belowM, belowL])
  · have hi' : i = n := by have := of_decide_eq_false h; omega
    subst hi'
    refine hZ _ ?_
    clear hZ; clear Z
    refine lp_weak ?_ tl
    exact weak_drop (by simp) (by simp [DropHp, ints_below, flts_below, fltB, intB, allBelow_cons, allBelow_nil, below, belowM, belowL]) (by simp [DropTm, DropV, below, belowM, belowL, fltB, intB, allBelow_cons, allBelow_nil, below, belowM, belowL])
end Go.Proofs.Ytmgfghcmmbdcgaa
