/- The law FnReturns: flows and their inner rate. -/
import Derived.Test.YthildgdbgjgidaaFrX
set_option maxRecDepth 10000
set_option maxHeartbeats 16000000
set_option linter.unusedSimpArgs false
set_option linter.unusedVariables false
namespace Go.Proofs.Ythildgdbgjgidaa
open Go Go.Abs

def fwL (cd m : List Int) (k : Nat) : List Int := (-1 - at8 m 43 200) :: (List.range k).map fun i : Nat => 50 + at8 cd (i : Int) 50
theorem fwL_len (cd m : List Int) (k : Nat) : (fwL cd m k).length = k + 1 := by simp [fwL]
theorem fwL_succ (cd m : List Int) (k : Nat) : fwL cd m k ++ [50 + at8 cd (k : Int) 50] = fwL cd m (k + 1) := by simp [fwL, List.range_succ]
theorem fwL_flw (cd m : List Int) (k : Nat) (h1 : 1 ≤ k) (h6 : k ≤ 6) : Flw (fwL cd m k) := by
  have a := at8_low (l := m) (k := 43) (n := 200) (by decide)
  refine ⟨by rw [fwL_len]; omega, by rw [fwL_len]; omega, fun j hj => ?_, ?_⟩
  · rw [fwL_len] at hj
    have b := at8_low (l := cd) (k := ((k - 1 - j : Nat) : Int)) (n := 50) (by decide)
    have e : flow (fwL cd m k) j = 50 + at8 cd ((k - 1 - j : Nat) : Int) 50 := by
      unfold flow
      rw [fwL_len, show k + 1 - 1 - j = (k - 1 - j) + 1 by omega]
      unfold fwL
      rw [List.getD_cons_succ]
      simp [show k - 1 - j < k by omega]
    rw [e]
    omega
  · have e : flow (fwL cd m k) ((fwL cd m k).length - 1) = -1 - at8 m 43 200 := by
      unfold flow
      rw [fwL_len, show k + 1 - 1 - (k + 1 - 1) = 0 by omega]
      rfl
    rw [e]
    omega
theorem gap_lt {w : Nat} (hf : finB .f32 w = true) (hs : ab (fval .f32 w) ≤ p2 (-5)) : flt .f64 (gap8 w 0) 4587366580439587226 = true := by
  have z0 : fconv .f64 .f32 0 = 0 := by decide +kernel
  obtain ⟨r, v⟩ := wide_rn hf
  have wf := r.fin
  have fz : finB .f64 0 = true := by decide +kernel
  have rep : Rep .f64 (fval .f32 w) := by
    obtain ⟨s, m, e, hd⟩ := fin_num hf
    obtain ⟨b1, b2, b3⟩ := read_single w s m e hd
    exact ⟨s, m, e, by show m < 2 ^ 53; omega, by show (-1074 : Int) ≤ e; omega, fval_of hd⟩
  have l := le_ab (fval .f32 w)
  have p5 := p2_pos (-5)
  have s1 := rn_sub (k := .f64) wf fz (by rw [v, fval_zero]; exact lt_top64 (t := -5) (by have := ab_le (v := fval .f32 w - 0) (B := p2 (-5)) (by grind) (by grind); exact this) (by decide))
  have s2 := rn_sub (k := .f64) fz wf (by rw [v, fval_zero]; exact lt_top64 (t := -5) (by have := ab_le (v := 0 - fval .f32 w) (B := p2 (-5)) (by grind) (by grind); exact this) (by decide))
  rw [v, fval_zero] at s1 s2
  have u1 := s1.up _ (rep_p2 _ (by decide)) (show fval .f32 w - 0 ≤ p2 (-5) by grind)
  have u2 := s2.up _ (rep_p2 _ (by decide)) (show 0 - fval .f32 w ≤ p2 (-5) by grind)
  have hc : FloatKind.f64.decode 4587366580439587226 = .number false 7205759403792794 (-57) := by decide +kernel
  have cv : p2 (-5) < fval .f64 4587366580439587226 := by
    rw [fval_of hc]
    have h1 := cast_le (show 2 ^ 52 + 1 ≤ 7205759403792794 by decide)
    rw [Rat.natCast_add, ← p2_nat] at h1
    have h2 := mul_le_r (Rat.le_of_lt (p2_pos (-57))) h1
    have e1 : p2 ((52 : Nat) : Int) * p2 (-57) = p2 (-5) := by rw [← p2_add]; rfl
    have e2 : ((1 : Nat) : Rat) = 1 := rfl
    have e3 := p2_pos (-57)
    simp only [sg, Bool.false_eq_true, if_false]
    rw [e2] at h2
    grind
  have key : finB .f64 (gap8 w 0) = true ∧ fval .f64 (gap8 w 0) ≤ p2 (-5) := by
    unfold gap8 fmax
    rw [z0]
    have f1 := s1.fin
    have f2 := s2.fin
    split
    · exact ⟨f2, u2⟩
    · exact ⟨f1, u1⟩
    · split
      · exact ⟨f2, u2⟩
      · exact ⟨f1, u1⟩
    · exact ⟨f1, u1⟩
  rw [flt_val key.1 (num_fin hc)]
  refine decide_eq_true ?_
  have := key.2
  clear s1 s2 r
  grind
theorem t15 {cd m : List Int} (hc : byteL cd) (hm : byteL m) (l1 : cd.length ≤ 1048576) (l2 : m.length ≤ 1048576) : T15 cd m := by
  have a := at8_low (l := m) (k := 43) (n := 200) (by decide)
  have c43 := r8At_call m hm l2 43 200 (by omega) (by omega)
  have c44 := r8At_call m hm l2 44 6 (by omega) (by omega)
  have R6 := at8_low (l := m) (k := 44) (n := 6) (by decide)
  have e1 : IntKind.i64.wrap (-1 - at8 m 43 200) = -1 - at8 m 43 200 := w64 (by omega) (by omega)
  refine lp_seq (md := md3) mixed (by kernel_rfl) (fun Z hZ => ?_); simp only [q0, q1, q2, q3, q4, q5, q6, q7, q8, q9, zq0, zq1, zq2, zq3, zq4, guardSlot, quietA, nilC, nilA, quietB, St.ev, St.put, St.after, Nat.reduceAdd, Nat.reduceSub, ofV, ofL, lenA, binA, intBin, fltBin, strBin, cpxBin, unA, convA, convB, convO, pickV, resL, oneA, indexA, indexS, isQuiet, loadA, loadC, storeA, fieldA, partA, sliceA, boundA, buildA, placeA, setAll, appendA, readSl, newEl, AV.cells, AV.solid, AV.one, kill, killM, killL, notInt, Int.reduceToNat, cond_true, cond_false, ↓reduceIte, reduceCtorEq, Nat.reduceLT, Nat.reduceLeDiff, Nat.reduceMul, Nat.reduceEqDiff, exists_eq', putF, implies_true, exists_true_left, tys0, tys1, tys2, und0, und1, und2, md3, Try.ntmps3, Try.results3]
  refine call_ret c43 rfl rfl ?_
  simp only [q0, q1, q2, q3, q4, q5, q6, q7, q8, q9, zq0, zq1, zq2, zq3, zq4, guardSlot, quietA, nilC, nilA, quietB, St.ev, St.put, St.after, Nat.reduceAdd, Nat.reduceSub, ofV, ofL, lenA, binA, intBin, fltBin, strBin, cpxBin, unA, convA, convB, convO, pickV, resL, oneA, indexA, indexS, isQuiet, loadA, loadC, storeA, fieldA, partA, sliceA, boundA, buildA, placeA, setAll, appendA, readSl, newEl, AV.cells, AV.solid, AV.one, kill, killM, killL, notInt, Int.reduceToNat, cond_true, cond_false, ↓reduceIte, reduceCtorEq, Nat.reduceLT, Nat.reduceLeDiff, Nat.reduceMul, Nat.reduceEqDiff, exists_eq', putF, implies_true, exists_true_left, tys0, tys1, tys2, und0, und1, und2, md3, Try.ntmps3, Try.results3, e1]
  refine hZ _ ?_; clear hZ; clear Z; refine lp_seq (md := md3) mixed (by kernel_rfl) (fun Z hZ => ?_); simp only [q0, q1, q2, q3, q4, q5, q6, q7, q8, q9, zq0, zq1, zq2, zq3, zq4, guardSlot, quietA, nilC, nilA, quietB, St.ev, St.put, St.after, Nat.reduceAdd, Nat.reduceSub, ofV, ofL, lenA, binA, intBin, fltBin, strBin, cpxBin, unA, convA, convB, convO, pickV, resL, oneA, indexA, indexS, isQuiet, loadA, loadC, storeA, fieldA, partA, sliceA, boundA, buildA, placeA, setAll, appendA, readSl, newEl, AV.cells, AV.solid, AV.one, kill, killM, killL, notInt, Int.reduceToNat, cond_true, cond_false, ↓reduceIte, reduceCtorEq, Nat.reduceLT, Nat.reduceLeDiff, Nat.reduceMul, Nat.reduceEqDiff, exists_eq', putF, implies_true, exists_true_left, tys0, tys1, tys2, und0, und1, und2, md3, Try.ntmps3, Try.results3]
  obtain ⟨b, hb⟩ := Int.eq_ofNat_of_zero_le R6.1
  rw [hb] at R6 c44
  have e2 : IntKind.i64.wrap (1 + (b : Int)) = ((b + 1 : Nat) : Int) := by rw [w64 (by omega) (by omega)]; omega
  refine go_round (md := md3) mixed (by kernel_rfl) (fun i : {i : Nat // i ≤ b + 1} => ⟨[.ro (kint .u8 cd), .ro (kint .u8 m), .any, .any, .any, .any, .any, .any, .any, .any, .any, .any, .any, .any, .any, .any, .any, .any, .any, .any, .any, .sl 0 0 (i.1 + 1), .int .i64 (i.1 : Int), .any, .any, .any, .any, .any, .any, .any, .any, .any, .any, .any, .any, .any, .any, .any, .any, .any, .any, .any, .any, .any, .any, .any, .any, .any, .any, .any, .any, .any, .any, .any, .any, .any, .any, .any, .any, .any, .any, .any, .any, .any, .any, .any, .any, .any, .any, .any, .any, .any, .any, .any, .any, .any, .any, .any, .any, .any, .any, .any, .any, .any, .any, .any, .any, .any, .any, .any, .any, .any, .any, .any, .any, .any, .any, .any, .any, .any, .any, .any, .any, .any, .any, .any, .any, .any, .any, .any, .any, .any, .any, .any, .any, .any, .any, .any, .any, .any, .any, .any, .any, .any, .any, .any, .any, .any, .any, .any, .any, .any, .any, .any, .any, .any, .any, .any, .any, .any, .any, .any, .any, .any, .any, .any, .any, .any, .any, .any, .any, .any, .any, .any, .any, .any, .any, .any, .any, .any, .any, .any, .any, .any, .any, .any, .any, .any, .any, .any, .any, .any, .any, .any, .any, .any, .any, .any, .any, .any, .any, .any, .any, .any, .any, .any, .any, .any, .any, .any, .any, .any, .any, .any, .any, .any, .any, .any, .any, .any, .any, .any, .any, .any, .any, .any, .any, .any, .any, .any, .any, .any, .any, .any, .any, .any, .any, .any, .any, .any, .any, .any, .any, .any, .any, .any, .any, .any, .any, .any, .any, .any, .any, .any, .any, .any, .any, .any, .any, .any, .any, .any, .any, .any, .any], [intB (fwL cd m i.1)]⟩) (fun i => b + 1 - i.1) ⟨0, by omega⟩ ?_ ?_
  · have z : ints (fwL cd m 0) = [.int .i64 (-1 - at8 m 43 200)] := rfl
    have zb : allBelow 1 (ints (fwL cd m 0)) = true := ints_below _ _
    rw [z] at zb
    have zi : intB (fwL cd m 0) = { ty := 2, w := 1, els := [.int .i64 (-1 - at8 m 43 200)] } := rfl
    rw [zi]
    exact weak_drop (by simp) (by simp [DropHp, ints_below, flts_below, allBelow_cons, allBelow_nil, below, belowM, belowL]) (by simp [DropTm, DropV, below, belowM, belowL, allBelow_cons, allBelow_nil, below, belowM, belowL])
  rintro ⟨i, hi⟩
  have fl := fwL_len cd m i
  simp only [q0, q1, q2, q3, q4, q5, q6, q7, q8, q9, zq0, zq1, zq2, zq3, zq4, guardSlot, quietA, nilC, nilA, quietB, St.ev, St.put, St.after, Nat.reduceAdd, Nat.reduceSub, ofV, ofL, lenA, binA, intBin, fltBin, strBin, cpxBin, unA, convA, convB, convO, pickV, resL, oneA, indexA, indexS, isQuiet, loadA, loadC, storeA, fieldA, partA, sliceA, boundA, buildA, placeA, setAll, appendA, readSl, newEl, AV.cells, AV.solid, AV.one, kill, killM, killL, notInt, Int.reduceToNat, cond_true, cond_false, ↓reduceIte, reduceCtorEq, Nat.reduceLT, Nat.reduceLeDiff, Nat.reduceMul, Nat.reduceEqDiff, exists_eq', putF, implies_true, exists_true_left, tys0, tys1, tys2, und0, und1, und2, md3, Try.ntmps3, Try.results3, intB, ints_len, fl]
  refine call_ret c44 rfl rfl ?_
  simp only [q0, q1, q2, q3, q4, q5, q6, q7, q8, q9, zq0, zq1, zq2, zq3, zq4, guardSlot, quietA, nilC, nilA, quietB, St.ev, St.put, St.after, Nat.reduceAdd, Nat.reduceSub, ofV, ofL, lenA, binA, intBin, fltBin, strBin, cpxBin, unA, convA, convB, convO, pickV, resL, oneA, indexA, indexS, isQuiet, loadA, loadC, storeA, fieldA, partA, sliceA, boundA, buildA, placeA, setAll, appendA, readSl, newEl, AV.cells, AV.solid, AV.one, kill, killM, killL, notInt, Int.reduceToNat, cond_true, cond_false, ↓reduceIte, reduceCtorEq, Nat.reduceLT, Nat.reduceLeDiff, Nat.reduceMul, Nat.reduceEqDiff, exists_eq', putF, implies_true, exists_true_left, tys0, tys1, tys2, und0, und1, und2, md3, Try.ntmps3, Try.results3, intB, ints_len, fl, e2]
  refine br_intro (fun h => ?_) (fun h => ?_) <;> simp only [q0, q1, q2, q3, q4, q5, q6, q7, q8, q9, zq0, zq1, zq2, zq3, zq4, guardSlot, quietA, nilC, nilA, quietB, St.ev, St.put, St.after, Nat.reduceAdd, Nat.reduceSub, ofV, ofL, lenA, binA, intBin, fltBin, strBin, cpxBin, unA, convA, convB, convO, pickV, resL, oneA, indexA, indexS, isQuiet, loadA, loadC, storeA, fieldA, partA, sliceA, boundA, buildA, placeA, setAll, appendA, readSl, newEl, AV.cells, AV.solid, AV.one, kill, killM, killL, notInt, Int.reduceToNat, cond_true, cond_false, ↓reduceIte, reduceCtorEq, Nat.reduceLT, Nat.reduceLeDiff, Nat.reduceMul, Nat.reduceEqDiff, exists_eq', putF, implies_true, exists_true_left, tys0, tys1, tys2, und0, und1, und2, md3, Try.ntmps3, Try.results3, intB, ints_len, fl, e2]
  · have hi' : i < b + 1 := by have := of_decide_eq_true h; omega
    have R50 := at8_low (l := cd) (k := (i : Int)) (n := 50) (by decide)
    have e3 : IntKind.i64.wrap (50 + at8 cd (i : Int) 50) = 50 + at8 cd (i : Int) 50 := w64 (by omega) (by omega)
    refine call_ret (r8At_call cd hc l1 i 50 (by omega) (by omega)) rfl rfl ?_
    simp only [q0, q1, q2, q3, q4, q5, q6, q7, q8, q9, zq0, zq1, zq2, zq3, zq4, guardSlot, quietA, nilC, nilA, quietB, St.ev, St.put, St.after, Nat.reduceAdd, Nat.reduceSub, ofV, ofL, lenA, binA, intBin, fltBin, strBin, cpxBin, unA, convA, convB, convO, pickV, resL, oneA, indexA, indexS, isQuiet, loadA, loadC, storeA, fieldA, partA, sliceA, boundA, buildA, placeA, setAll, appendA, readSl, newEl, AV.cells, AV.solid, AV.one, kill, killM, killL, notInt, Int.reduceToNat, cond_true, cond_false, ↓reduceIte, reduceCtorEq, Nat.reduceLT, Nat.reduceLeDiff, Nat.reduceMul, Nat.reduceEqDiff, exists_eq', putF, implies_true, exists_true_left, tys0, tys1, tys2, und0, und1, und2, md3, Try.ntmps3, Try.results3, intB, ints_len, fl, e3, allW_int, fits, List.isEmpty_cons, brk_false, Nat.reduceMul]
    refine ⟨by omega, ⟨i + 1, by omega⟩, by show b + 1 - (i + 1) < b + 1 - i; omega, ?_⟩
    have es := fwL_succ cd m i
    exact weak_drop (by simp) (by simp [DropHp, ints_below, flts_below, es, w64_succ i (by omega), intB, ints_below, allBelow_cons, allBelow_nil, below, belowM, belowL]) (by simp [DropTm, DropV, below, belowM, belowL, es, w64_succ i (by omega), intB, ints_below, allBelow_cons, allBelow_nil, below, belowM, belowL])
  · have hi' : i = b + 1 := by have := of_decide_eq_false h; omega
    subst hi'
    have F := fwL_flw cd m (b + 1) (by omega) (by omega)
    obtain ⟨c, ci, cs⟩ := inner_call F
    have v1 : view 2 [{ ty := 2, w := 1, els := ints (fwL cd m (b + 1)) }] (.sl 0 0 (b + 1 + 1)) = .ro (ints (fwL cd m (b + 1))) := view_in rfl fl
    have vf : ∀ y, view 2 [{ ty := 2, w := 1, els := ints (fwL cd m (b + 1)) }] (.flt .f32 y) = .flt .f32 y := fun y => view_flt _ _ _ _
    have ch : canon .f32 3204448256 = 3204448256 := by decide +kernel
    have c05 : canon .f64 4587366580439587226 = 4587366580439587226 := by decide +kernel
    generalize fwL cd m (b + 1) = fw at *
    have vm : CallA Try.prog 10 [.ro (ints fw), .flt .f32 3204448256] [] (Ret (.tup [.flt .f32 (worF fw mh32), .bool true]) []) := value_call F yld_mh
    have vo : CallA Try.prog 10 [.ro (ints fw), .flt .f32 1065353216] [] (Ret (.tup [.flt .f32 (worF fw one32), .bool true]) []) := value_call F yld_one
    refine hZ _ ?_; clear hZ; clear Z; refine lp_seq (md := md3) mixed (by kernel_rfl) (fun Z hZ => ?_); simp only [q0, q1, q2, q3, q4, q5, q6, q7, q8, q9, zq0, zq1, zq2, zq3, zq4, guardSlot, quietA, nilC, nilA, quietB, St.ev, St.put, St.after, Nat.reduceAdd, Nat.reduceSub, ofV, ofL, lenA, binA, intBin, fltBin, strBin, cpxBin, unA, convA, convB, convO, pickV, resL, oneA, indexA, indexS, isQuiet, loadA, loadC, storeA, fieldA, partA, sliceA, boundA, buildA, placeA, setAll, appendA, readSl, newEl, AV.cells, AV.solid, AV.one, kill, killM, killL, notInt, Int.reduceToNat, cond_true, cond_false, ↓reduceIte, reduceCtorEq, Nat.reduceLT, Nat.reduceLeDiff, Nat.reduceMul, Nat.reduceEqDiff, exists_eq', putF, implies_true, exists_true_left, tys0, tys1, tys2, und0, und1, und2, md3, Try.ntmps3, Try.results3, ch, f1]
    refine call_lent 2 (by rw [List.map_cons, List.map_cons, List.map_nil, v1, vf]) vm rfl rfl ?_
    simp only [q0, q1, q2, q3, q4, q5, q6, q7, q8, q9, zq0, zq1, zq2, zq3, zq4, guardSlot, quietA, nilC, nilA, quietB, St.ev, St.put, St.after, Nat.reduceAdd, Nat.reduceSub, ofV, ofL, lenA, binA, intBin, fltBin, strBin, cpxBin, unA, convA, convB, convO, pickV, resL, oneA, indexA, indexS, isQuiet, loadA, loadC, storeA, fieldA, partA, sliceA, boundA, buildA, placeA, setAll, appendA, readSl, newEl, AV.cells, AV.solid, AV.one, kill, killM, killL, notInt, Int.reduceToNat, cond_true, cond_false, ↓reduceIte, reduceCtorEq, Nat.reduceLT, Nat.reduceLeDiff, Nat.reduceMul, Nat.reduceEqDiff, exists_eq', putF, implies_true, exists_true_left, tys0, tys1, tys2, und0, und1, und2, md3, Try.ntmps3, Try.results3]
    refine hZ _ ?_; clear hZ; clear Z; refine lp_seq (md := md3) mixed (by kernel_rfl) (fun Z hZ => ?_); simp only [q0, q1, q2, q3, q4, q5, q6, q7, q8, q9, zq0, zq1, zq2, zq3, zq4, guardSlot, quietA, nilC, nilA, quietB, St.ev, St.put, St.after, Nat.reduceAdd, Nat.reduceSub, ofV, ofL, lenA, binA, intBin, fltBin, strBin, cpxBin, unA, convA, convB, convO, pickV, resL, oneA, indexA, indexS, isQuiet, loadA, loadC, storeA, fieldA, partA, sliceA, boundA, buildA, placeA, setAll, appendA, readSl, newEl, AV.cells, AV.solid, AV.one, kill, killM, killL, notInt, Int.reduceToNat, cond_true, cond_false, ↓reduceIte, reduceCtorEq, Nat.reduceLT, Nat.reduceLeDiff, Nat.reduceMul, Nat.reduceEqDiff, exists_eq', putF, implies_true, exists_true_left, tys0, tys1, tys2, und0, und1, und2, md3, Try.ntmps3, Try.results3, ch, f1]
    refine call_lent 2 (by rw [List.map_cons, List.map_cons, List.map_nil, v1, vf]) vo rfl rfl ?_
    simp only [q0, q1, q2, q3, q4, q5, q6, q7, q8, q9, zq0, zq1, zq2, zq3, zq4, guardSlot, quietA, nilC, nilA, quietB, St.ev, St.put, St.after, Nat.reduceAdd, Nat.reduceSub, ofV, ofL, lenA, binA, intBin, fltBin, strBin, cpxBin, unA, convA, convB, convO, pickV, resL, oneA, indexA, indexS, isQuiet, loadA, loadC, storeA, fieldA, partA, sliceA, boundA, buildA, placeA, setAll, appendA, readSl, newEl, AV.cells, AV.solid, AV.one, kill, killM, killL, notInt, Int.reduceToNat, cond_true, cond_false, ↓reduceIte, reduceCtorEq, Nat.reduceLT, Nat.reduceLeDiff, Nat.reduceMul, Nat.reduceEqDiff, exists_eq', putF, implies_true, exists_true_left, tys0, tys1, tys2, und0, und1, und2, md3, Try.ntmps3, Try.results3]
    refine hZ _ ?_; clear hZ; clear Z; refine lp_seq (md := md3) mixed (by kernel_rfl) (fun Z hZ => ?_); simp only [q0, q1, q2, q3, q4, q5, q6, q7, q8, q9, zq0, zq1, zq2, zq3, zq4, guardSlot, quietA, nilC, nilA, quietB, St.ev, St.put, St.after, Nat.reduceAdd, Nat.reduceSub, ofV, ofL, lenA, binA, intBin, fltBin, strBin, cpxBin, unA, convA, convB, convO, pickV, resL, oneA, indexA, indexS, isQuiet, loadA, loadC, storeA, fieldA, partA, sliceA, boundA, buildA, placeA, setAll, appendA, readSl, newEl, AV.cells, AV.solid, AV.one, kill, killM, killL, notInt, Int.reduceToNat, cond_true, cond_false, ↓reduceIte, reduceCtorEq, Nat.reduceLT, Nat.reduceLeDiff, Nat.reduceMul, Nat.reduceEqDiff, exists_eq', putF, implies_true, exists_true_left, tys0, tys1, tys2, und0, und1, und2, md3, Try.ntmps3, Try.results3]
    refine call_lent 2 (by rw [List.map_cons, List.map_cons, List.map_nil, v1, view_i2]) ci rfl rfl ?_
    simp only [q0, q1, q2, q3, q4, q5, q6, q7, q8, q9, zq0, zq1, zq2, zq3, zq4, guardSlot, quietA, nilC, nilA, quietB, St.ev, St.put, St.after, Nat.reduceAdd, Nat.reduceSub, ofV, ofL, lenA, binA, intBin, fltBin, strBin, cpxBin, unA, convA, convB, convO, pickV, resL, oneA, indexA, indexS, isQuiet, loadA, loadC, storeA, fieldA, partA, sliceA, boundA, buildA, placeA, setAll, appendA, readSl, newEl, AV.cells, AV.solid, AV.one, kill, killM, killL, notInt, Int.reduceToNat, cond_true, cond_false, ↓reduceIte, reduceCtorEq, Nat.reduceLT, Nat.reduceLeDiff, Nat.reduceMul, Nat.reduceEqDiff, exists_eq', putF, implies_true, exists_true_left, tys0, tys1, tys2, und0, und1, und2, md3, Try.ntmps3, Try.results3]
    have sk : (seekB fw == !(flt .f32 (worF fw mh32) 0 == flt .f32 (worF fw one32) 0)) = true := by
      unfold seekB
      cases flt .f32 (worF fw mh32) 0 <;> cases flt .f32 (worF fw one32) 0 <;> rfl
    refine hZ _ ?_; clear hZ; clear Z; refine lp_seq (md := md3) mixed (by kernel_rfl) (fun Z hZ => ?_); simp only [q0, q1, q2, q3, q4, q5, q6, q7, q8, q9, zq0, zq1, zq2, zq3, zq4, guardSlot, quietA, nilC, nilA, quietB, St.ev, St.put, St.after, Nat.reduceAdd, Nat.reduceSub, ofV, ofL, lenA, binA, intBin, fltBin, strBin, cpxBin, unA, convA, convB, convO, pickV, resL, oneA, indexA, indexS, isQuiet, loadA, loadC, storeA, fieldA, partA, sliceA, boundA, buildA, placeA, setAll, appendA, readSl, newEl, AV.cells, AV.solid, AV.one, kill, killM, killL, notInt, Int.reduceToNat, cond_true, cond_false, ↓reduceIte, reduceCtorEq, Nat.reduceLT, Nat.reduceLeDiff, Nat.reduceMul, Nat.reduceEqDiff, exists_eq', putF, implies_true, exists_true_left, tys0, tys1, tys2, und0, und1, und2, md3, Try.ntmps3, Try.results3, f0]
    refine br_yes sk ?_
    simp only [q0, q1, q2, q3, q4, q5, q6, q7, q8, q9, zq0, zq1, zq2, zq3, zq4, guardSlot, quietA, nilC, nilA, quietB, St.ev, St.put, St.after, Nat.reduceAdd, Nat.reduceSub, ofV, ofL, lenA, binA, intBin, fltBin, strBin, cpxBin, unA, convA, convB, convO, pickV, resL, oneA, indexA, indexS, isQuiet, loadA, loadC, storeA, fieldA, partA, sliceA, boundA, buildA, placeA, setAll, appendA, readSl, newEl, AV.cells, AV.solid, AV.one, kill, killM, killL, notInt, Int.reduceToNat, cond_true, cond_false, ↓reduceIte, reduceCtorEq, Nat.reduceLT, Nat.reduceLeDiff, Nat.reduceMul, Nat.reduceEqDiff, exists_eq', putF, implies_true, exists_true_left, tys0, tys1, tys2, und0, und1, und2, md3, Try.ntmps3, Try.results3, f0]
    refine hZ _ ?_; clear hZ; clear Z; refine lp_seq (md := md3) mixed (by kernel_rfl) (fun Z hZ => ?_); simp only [q0, q1, q2, q3, q4, q5, q6, q7, q8, q9, zq0, zq1, zq2, zq3, zq4, guardSlot, quietA, nilC, nilA, quietB, St.ev, St.put, St.after, Nat.reduceAdd, Nat.reduceSub, ofV, ofL, lenA, binA, intBin, fltBin, strBin, cpxBin, unA, convA, convB, convO, pickV, resL, oneA, indexA, indexS, isQuiet, loadA, loadC, storeA, fieldA, partA, sliceA, boundA, buildA, placeA, setAll, appendA, readSl, newEl, AV.cells, AV.solid, AV.one, kill, killM, killL, notInt, Int.reduceToNat, cond_true, cond_false, ↓reduceIte, reduceCtorEq, Nat.reduceLT, Nat.reduceLeDiff, Nat.reduceMul, Nat.reduceEqDiff, exists_eq', putF, implies_true, exists_true_left, tys0, tys1, tys2, und0, und1, und2, md3, Try.ntmps3, Try.results3, f0]
    by_cases hs : seekB fw = true
    · obtain ⟨Yc, small⟩ := cs hs
      have wn := (wor_near F Yc).1
      have g1 : fge .f32 c 3204448256 = true := by
        have h := fge_val Yc.fin mh_ok.1
        rw [mh_ok.2] at h
        exact h.trans (decide_eq_true Yc.lo)
      have g2 : fle .f32 c 1065353216 = true := by
        have h := fle_val Yc.fin fin_one32
        rw [one32_val] at h
        exact h.trans (decide_eq_true Yc.up)
      refine br_yes hs ?_
      simp only [q0, q1, q2, q3, q4, q5, q6, q7, q8, q9, zq0, zq1, zq2, zq3, zq4, guardSlot, quietA, nilC, nilA, quietB, St.ev, St.put, St.after, Nat.reduceAdd, Nat.reduceSub, ofV, ofL, lenA, binA, intBin, fltBin, strBin, cpxBin, unA, convA, convB, convO, pickV, resL, oneA, indexA, indexS, isQuiet, loadA, loadC, storeA, fieldA, partA, sliceA, boundA, buildA, placeA, setAll, appendA, readSl, newEl, AV.cells, AV.solid, AV.one, kill, killM, killL, notInt, Int.reduceToNat, cond_true, cond_false, ↓reduceIte, reduceCtorEq, Nat.reduceLT, Nat.reduceLeDiff, Nat.reduceMul, Nat.reduceEqDiff, exists_eq', putF, implies_true, exists_true_left, tys0, tys1, tys2, und0, und1, und2, md3, Try.ntmps3, Try.results3, f0]
      refine call_lent 2 (by rw [List.map_cons, List.map_cons, List.map_nil, v1, vf]) (value_call F Yc) rfl rfl ?_
      simp only [q0, q1, q2, q3, q4, q5, q6, q7, q8, q9, zq0, zq1, zq2, zq3, zq4, guardSlot, quietA, nilC, nilA, quietB, St.ev, St.put, St.after, Nat.reduceAdd, Nat.reduceSub, ofV, ofL, lenA, binA, intBin, fltBin, strBin, cpxBin, unA, convA, convB, convO, pickV, resL, oneA, indexA, indexS, isQuiet, loadA, loadC, storeA, fieldA, partA, sliceA, boundA, buildA, placeA, setAll, appendA, readSl, newEl, AV.cells, AV.solid, AV.one, kill, killM, killL, notInt, Int.reduceToNat, cond_true, cond_false, ↓reduceIte, reduceCtorEq, Nat.reduceLT, Nat.reduceLeDiff, Nat.reduceMul, Nat.reduceEqDiff, exists_eq', putF, implies_true, exists_true_left, tys0, tys1, tys2, und0, und1, und2, md3, Try.ntmps3, Try.results3, f0, f1, ch, g1, g2]
      refine call_ret (gap8_call _ _ wn fin0) rfl rfl ?_
      simp only [q0, q1, q2, q3, q4, q5, q6, q7, q8, q9, zq0, zq1, zq2, zq3, zq4, guardSlot, quietA, nilC, nilA, quietB, St.ev, St.put, St.after, Nat.reduceAdd, Nat.reduceSub, ofV, ofL, lenA, binA, intBin, fltBin, strBin, cpxBin, unA, convA, convB, convO, pickV, resL, oneA, indexA, indexS, isQuiet, loadA, loadC, storeA, fieldA, partA, sliceA, boundA, buildA, placeA, setAll, appendA, readSl, newEl, AV.cells, AV.solid, AV.one, kill, killM, killL, notInt, Int.reduceToNat, cond_true, cond_false, ↓reduceIte, reduceCtorEq, Nat.reduceLT, Nat.reduceLeDiff, Nat.reduceMul, Nat.reduceEqDiff, exists_eq', putF, implies_true, exists_true_left, tys0, tys1, tys2, und0, und1, und2, md3, Try.ntmps3, Try.results3, f0, f1, ch, g1, g2, c05, gap_lt wn small]
      exact PostR.pure ⟨rfl, rfl⟩ rfl
    · refine br_no (by simpa using hs) ?_
      simp only [q0, q1, q2, q3, q4, q5, q6, q7, q8, q9, zq0, zq1, zq2, zq3, zq4, guardSlot, quietA, nilC, nilA, quietB, St.ev, St.put, St.after, Nat.reduceAdd, Nat.reduceSub, ofV, ofL, lenA, binA, intBin, fltBin, strBin, cpxBin, unA, convA, convB, convO, pickV, resL, oneA, indexA, indexS, isQuiet, loadA, loadC, storeA, fieldA, partA, sliceA, boundA, buildA, placeA, setAll, appendA, readSl, newEl, AV.cells, AV.solid, AV.one, kill, killM, killL, notInt, Int.reduceToNat, cond_true, cond_false, ↓reduceIte, reduceCtorEq, Nat.reduceLT, Nat.reduceLeDiff, Nat.reduceMul, Nat.reduceEqDiff, exists_eq', putF, implies_true, exists_true_left, tys0, tys1, tys2, und0, und1, und2, md3, Try.ntmps3, Try.results3, f0]
      refine hZ _ ?_; clear hZ; clear Z; refine lp_whole (md := md3) mixed (by kernel_rfl) ?_; simp only [q0, q1, q2, q3, q4, q5, q6, q7, q8, q9, zq0, zq1, zq2, zq3, zq4, guardSlot, quietA, nilC, nilA, quietB, St.ev, St.put, St.after, Nat.reduceAdd, Nat.reduceSub, ofV, ofL, lenA, binA, intBin, fltBin, strBin, cpxBin, unA, convA, convB, convO, pickV, resL, oneA, indexA, indexS, isQuiet, loadA, loadC, storeA, fieldA, partA, sliceA, boundA, buildA, placeA, setAll, appendA, readSl, newEl, AV.cells, AV.solid, AV.one, kill, killM, killL, notInt, Int.reduceToNat, cond_true, cond_false, ↓reduceIte, reduceCtorEq, Nat.reduceLT, Nat.reduceLeDiff, Nat.reduceMul, Nat.reduceEqDiff, exists_eq', putF, implies_true, exists_true_left, tys0, tys1, tys2, und0, und1, und2, md3, Try.ntmps3, Try.results3]
      exact PostR.pure ⟨rfl, rfl⟩ rfl
theorem returns_all (cd m : List Int) (hc : byteL cd) (hm : byteL m) (l1 : cd.length ≤ 1048576) (l2 : m.length ≤ 1048576) : CallA Try.prog 3 [.ro (kint .u8 cd), .ro (kint .u8 m)] [] (Ret (.bool true) []) :=
  returns_law cd m hc hm l1 l2 fun ps s0 x hp one tw h0 h1 hx => t13 hp one tw h0 h1 hx (t15 hc hm l1 l2)
end Go.Proofs.Ythildgdbgjgidaa
