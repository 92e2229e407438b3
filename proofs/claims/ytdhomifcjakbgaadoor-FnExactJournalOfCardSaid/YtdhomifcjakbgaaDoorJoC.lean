/- A strings.Builder's writing. -/
import Derived.Test.YtdhomifcjakbgaaDoorJoB
import Derived.Test.YtdhomifcjakbgaaDoorAbsZF
set_option linter.unusedVariables false
set_option linter.unusedSimpArgs false
set_option maxHeartbeats 2000000
set_option maxRecDepth 10000
namespace Go.Proofs.YtdhomifcjakbgaaDoor
open Go Go.Abs

theorem builderLen_nil : CallA Tryd.prog 29 [.ptr 0 0 0] [bldB .nilp .nils] (Ret (.int .i64 0) [bldB .nilp .nils]) := by
  refine CallP.out (t := .mk) (go_in (md := md29) mixed Tryd.func29 rfl go29 (by kernel_rfl) ?_)
  simp only [q0, q1, q2, q3, q4, q5, q6, q7, q8, q9, guardSlot, quietA, nilC, nilA, quietB, St.ev, St.put, St.after, List.getD_cons_succ, List.getD_cons_zero, List.length_cons, List.length_nil, Nat.reduceAdd, Nat.reduceSub, List.replicate_succ, List.replicate_zero, List.cons_append, List.nil_append, List.append_nil, List.set_cons_succ, List.set_cons_zero, ofV, ofL, lenA, binA, intBin, fltBin, strBin, cpxBin, true_and, and_true, unA, convA, convB, pickV, List.map_cons, List.map_nil, resL, oneA, indexA, indexS, isQuiet, loadA, loadC, storeA, fieldA, partA, sliceA, boundA, buildA, placeA, setAll, appendA, readSl, newEl, Int.toNat_natCast, AV.cells, AV.solid, AV.one, Int.natCast_nonneg, exists_prop, List.getElem_cons_zero, List.getElem_cons_succ, List.getElem?_cons_zero, List.getElem?_cons_succ, Nat.zero_lt_one, Option.bind_some, Option.map_some, Option.map_none, kill, killM, killL, Bool.not_true, Bool.not_false, List.all_cons, List.all_nil, Bool.and_true, Bool.true_and, List.take_zero, List.drop_zero, List.drop_succ_cons, List.take_succ_cons, Nat.zero_add, Nat.add_zero, notInt, List.getElem?_toArray, ge_iff_le, gt_iff_lt, Nat.le_refl, Int.reduceToNat, cond_true, cond_false, ↓reduceIte, reduceCtorEq, Bool.false_eq_true, Bool.not_eq_true, Nat.reduceLT, Nat.reduceLeDiff, Nat.reduceMul, Nat.reduceEqDiff, Nat.succ_ne_self, Option.some.injEq, exists_eq', putF, List.forall_mem_cons, List.not_mem_nil, false_implies, implies_true, exists_true_left, tys0, tys1, und0, und1, md29, Tryd.ntmps29, Tryd.results29, bldB, Int.reduceLT, Int.reduceLE, Int.reduceNeg, Int.reduceEq, Int.reduceGT, Int.reduceGE, decide_true, decide_false, beq_self_eq_true, bne_self_eq_false, Int.reduceBEq, Int.reduceBNe, Int.reduceAdd, Int.reduceSub]
  exact PostR.ret
theorem builderLen (p : AV) (n : Nat) (rest : List Blk) : CallA Tryd.prog 29 [.ptr 0 0 0] (bldB p (.sl 1 0 n) :: rest) (Ret (.int .i64 n) (bldB p (.sl 1 0 n) :: rest)) := by
  refine CallP.out (t := .mk) (go_in (md := md29) mixed Tryd.func29 rfl go29 (by kernel_rfl) ?_)
  simp only [q0, q1, q2, q3, q4, q5, q6, q7, q8, q9, guardSlot, quietA, nilC, nilA, quietB, St.ev, St.put, St.after, List.getD_cons_succ, List.getD_cons_zero, List.length_cons, List.length_nil, Nat.reduceAdd, Nat.reduceSub, List.replicate_succ, List.replicate_zero, List.cons_append, List.nil_append, List.append_nil, List.set_cons_succ, List.set_cons_zero, ofV, ofL, lenA, binA, intBin, fltBin, strBin, cpxBin, true_and, and_true, unA, convA, convB, pickV, List.map_cons, List.map_nil, resL, oneA, indexA, indexS, isQuiet, loadA, loadC, storeA, fieldA, partA, sliceA, boundA, buildA, placeA, setAll, appendA, readSl, newEl, Int.toNat_natCast, AV.cells, AV.solid, AV.one, Int.natCast_nonneg, exists_prop, List.getElem_cons_zero, List.getElem_cons_succ, List.getElem?_cons_zero, List.getElem?_cons_succ, Nat.zero_lt_one, Option.bind_some, Option.map_some, Option.map_none, kill, killM, killL, Bool.not_true, Bool.not_false, List.all_cons, List.all_nil, Bool.and_true, Bool.true_and, List.take_zero, List.drop_zero, List.drop_succ_cons, List.take_succ_cons, Nat.zero_add, Nat.add_zero, notInt, List.getElem?_toArray, ge_iff_le, gt_iff_lt, Nat.le_refl, Int.reduceToNat, cond_true, cond_false, ↓reduceIte, reduceCtorEq, Bool.false_eq_true, Bool.not_eq_true, Nat.reduceLT, Nat.reduceLeDiff, Nat.reduceMul, Nat.reduceEqDiff, Nat.succ_ne_self, Option.some.injEq, exists_eq', putF, List.forall_mem_cons, List.not_mem_nil, false_implies, implies_true, exists_true_left, tys0, tys1, und0, und1, md29, Tryd.ntmps29, Tryd.results29, bldB, Int.reduceLT, Int.reduceLE, Int.reduceNeg, Int.reduceEq, Int.reduceGT, Int.reduceGE, decide_true, decide_false, beq_self_eq_true, bne_self_eq_false, Int.reduceBEq, Int.reduceBNe, Int.reduceAdd, Int.reduceSub]
  exact PostR.ret
theorem write_fresh (s : List UInt8) (h0 : s ≠ []) (hs : s.length ≤ 1048576) : CallA Tryd.prog 31 [.ptr 0 0 0, .str s] [bldB .nilp .nils] (Ret (.tup [.int .i64 s.length, .any]) [bldB (.ptr 0 0 0) (.sl 1 0 s.length), bytB s]) := by
  have be : (byts s).isEmpty = false := by cases s with | nil => exact absurd rfl h0 | cons _ _ => rfl
  have bl := byts_len s
  refine CallP.out (t := .mk) (go_in (md := md31) mixed Tryd.func31 rfl go31 (by kernel_rfl) ?_)
  simp only [q0, q1, q2, q3, q4, q5, q6, q7, q8, q9, guardSlot, quietA, nilC, nilA, quietB, St.ev, St.put, St.after, List.getD_cons_succ, List.getD_cons_zero, List.length_cons, List.length_nil, Nat.reduceAdd, Nat.reduceSub, List.replicate_succ, List.replicate_zero, List.cons_append, List.nil_append, List.append_nil, List.set_cons_succ, List.set_cons_zero, ofV, ofL, lenA, binA, intBin, fltBin, strBin, cpxBin, true_and, and_true, unA, convA, convB, pickV, List.map_cons, List.map_nil, resL, oneA, indexA, indexS, isQuiet, loadA, loadC, storeA, fieldA, partA, sliceA, boundA, buildA, placeA, setAll, appendA, readSl, newEl, Int.toNat_natCast, AV.cells, AV.solid, AV.one, Int.natCast_nonneg, exists_prop, List.getElem_cons_zero, List.getElem_cons_succ, List.getElem?_cons_zero, List.getElem?_cons_succ, Nat.zero_lt_one, Option.bind_some, Option.map_some, Option.map_none, kill, killM, killL, Bool.not_true, Bool.not_false, List.all_cons, List.all_nil, Bool.and_true, Bool.true_and, List.take_zero, List.drop_zero, List.drop_succ_cons, List.take_succ_cons, Nat.zero_add, Nat.add_zero, notInt, List.getElem?_toArray, ge_iff_le, gt_iff_lt, Nat.le_refl, Int.reduceToNat, cond_true, cond_false, ↓reduceIte, reduceCtorEq, Bool.false_eq_true, Bool.not_eq_true, Nat.reduceLT, Nat.reduceLeDiff, Nat.reduceMul, Nat.reduceEqDiff, Nat.succ_ne_self, Option.some.injEq, exists_eq', putF, List.forall_mem_cons, List.not_mem_nil, false_implies, implies_true, exists_true_left, tys0, tys1, und0, und1, md31, Tryd.ntmps31, Tryd.results31]
  refine call_by (copyCheck_freshA .nils []) ?_
  rintro r hp' ⟨rfl, rfl⟩
  simp only [q0, q1, q2, q3, q4, q5, q6, q7, q8, q9, guardSlot, quietA, nilC, nilA, quietB, St.ev, St.put, St.after, List.getD_cons_succ, List.getD_cons_zero, List.length_cons, List.length_nil, Nat.reduceAdd, Nat.reduceSub, List.replicate_succ, List.replicate_zero, List.cons_append, List.nil_append, List.append_nil, List.set_cons_succ, List.set_cons_zero, ofV, ofL, lenA, binA, intBin, fltBin, strBin, cpxBin, true_and, and_true, unA, convA, convB, pickV, List.map_cons, List.map_nil, resL, oneA, indexA, indexS, isQuiet, loadA, loadC, storeA, fieldA, partA, sliceA, boundA, buildA, placeA, setAll, appendA, readSl, newEl, Int.toNat_natCast, AV.cells, AV.solid, AV.one, Int.natCast_nonneg, exists_prop, List.getElem_cons_zero, List.getElem_cons_succ, List.getElem?_cons_zero, List.getElem?_cons_succ, Nat.zero_lt_one, Option.bind_some, Option.map_some, Option.map_none, kill, killM, killL, Bool.not_true, Bool.not_false, List.all_cons, List.all_nil, Bool.and_true, Bool.true_and, List.take_zero, List.drop_zero, List.drop_succ_cons, List.take_succ_cons, Nat.zero_add, Nat.add_zero, notInt, List.getElem?_toArray, ge_iff_le, gt_iff_lt, Nat.le_refl, Int.reduceToNat, cond_true, cond_false, ↓reduceIte, reduceCtorEq, Bool.false_eq_true, Bool.not_eq_true, Nat.reduceLT, Nat.reduceLeDiff, Nat.reduceMul, Nat.reduceEqDiff, Nat.succ_ne_self, Option.some.injEq, exists_eq', putF, List.forall_mem_cons, List.not_mem_nil, false_implies, implies_true, exists_true_left, tys0, tys1, und0, und1, md31, Tryd.ntmps31, Tryd.results31, bldB, be, bl, allW_int, fits, List.isEmpty_cons, brk_false, Nat.reduceMul]
  exact ⟨allW_byts _, by omega, PostR.same ⟨rfl, rfl⟩⟩
/-- A further writing: the buffer is taken over; what was the caller's is dead. -/
theorem write_used (l s : List UInt8) (hs : l.length + s.length ≤ 1048576) : CallA Tryd.prog 31 [.ptr 0 0 0, .str s] [bldB (.ptr 0 0 0) (.sl 1 0 l.length), bytB l]
    (Ret (.tup [.int .i64 s.length, .any]) [bldB (.ptr 0 0 0) (.sl 2 0 (l.length + s.length)), { bytB l with live := false }, bytB (l ++ s)]) := by
  have bl := byts_len s
  have bl2 := byts_len l
  refine call_taken (md := md31) mixed Tryd.func31 rfl go31 (by kernel_rfl) ⟨[.ptr 0 0 0, .str s] ++ List.replicate (Tryd.f31.ntmps - 2) .any, [bldB (.ptr 0 0 0) (.sl 2 0 l.length), { bytB l with live := false }, bytB l]⟩ ?_ ?_
  · refine weak_renW 3 (fun i => [0, 1, 1].getD i 0) ?_ ⟨rfl, show 2 ≤ 3 by omega, ?_, ?_, ?_⟩
    · simp [LeTm, LeV, ren, renM, renL, below, belowM, belowL, List.replicate_succ]
    · intro b hb
      match b, hb with
      | 0, _ => rfl
      | 1, _ => rfl
    · intro b b' r r' h1 h2 h3 h4 h5
      match b, b' with
      | 0, 0 => rfl
      | 0, 2 => simp at h5
      | 2, 0 => simp at h5
      | 2, 2 => rfl
      | 1, _ => simp at h1; subst h1; cases h2
      | _, 1 => simp at h3; subst h3; cases h4
      | b + 3, _ => simp at h1
      | _, b + 3 => simp at h3
    · intro b r h
      match b with
      | 0 =>
        have : r = bldB (.ptr 0 0 0) (.sl 2 0 l.length) := by simpa using h.symm
        subst this
        exact ⟨_, rfl, rfl, fun _ => ⟨rfl, rfl, rfl, by simp [bldB, below, belowM, belowL]⟩⟩
      | 1 =>
        have : r = { bytB l with live := false } := by simpa using h.symm
        subst this
        exact ⟨_, rfl, rfl, fun h => by cases h⟩
      | 2 =>
        have : r = bytB l := by simpa using h.symm
        subst this
        refine ⟨_, rfl, rfl, fun _ => ⟨rfl, rfl, (byts_ren _ l).symm, fun e he => ?_⟩⟩
        have := byts_below 3 l
        simp only [allBelow, List.all_eq_true] at this
        exact this e he
      | b + 3 => simp at h
  · simp only [q0, q1, q2, q3, q4, q5, q6, q7, q8, q9, guardSlot, quietA, nilC, nilA, quietB, St.ev, St.put, St.after, List.getD_cons_succ, List.getD_cons_zero, List.length_cons, List.length_nil, Nat.reduceAdd, Nat.reduceSub, List.replicate_succ, List.replicate_zero, List.cons_append, List.nil_append, List.append_nil, List.set_cons_succ, List.set_cons_zero, ofV, ofL, lenA, binA, intBin, fltBin, strBin, cpxBin, true_and, and_true, unA, convA, convB, pickV, List.map_cons, List.map_nil, resL, oneA, indexA, indexS, isQuiet, loadA, loadC, storeA, fieldA, partA, sliceA, boundA, buildA, placeA, setAll, appendA, readSl, newEl, Int.toNat_natCast, AV.cells, AV.solid, AV.one, Int.natCast_nonneg, exists_prop, List.getElem_cons_zero, List.getElem_cons_succ, List.getElem?_cons_zero, List.getElem?_cons_succ, Nat.zero_lt_one, Option.bind_some, Option.map_some, Option.map_none, kill, killM, killL, Bool.not_true, Bool.not_false, List.all_cons, List.all_nil, Bool.and_true, Bool.true_and, List.take_zero, List.drop_zero, List.drop_succ_cons, List.take_succ_cons, Nat.zero_add, Nat.add_zero, notInt, List.getElem?_toArray, ge_iff_le, gt_iff_lt, Nat.le_refl, Int.reduceToNat, cond_true, cond_false, ↓reduceIte, reduceCtorEq, Bool.false_eq_true, Bool.not_eq_true, Nat.reduceLT, Nat.reduceLeDiff, Nat.reduceMul, Nat.reduceEqDiff, Nat.succ_ne_self, Option.some.injEq, exists_eq', putF, List.forall_mem_cons, List.not_mem_nil, false_implies, implies_true, exists_true_left, tys0, tys1, und0, und1, md31, Tryd.ntmps31, Tryd.results31]
    refine call_by (copyCheck_usedA _ _) ?_
    rintro r hp' ⟨rfl, rfl⟩
    simp only [q0, q1, q2, q3, q4, q5, q6, q7, q8, q9, guardSlot, quietA, nilC, nilA, quietB, St.ev, St.put, St.after, List.getD_cons_succ, List.getD_cons_zero, List.length_cons, List.length_nil, Nat.reduceAdd, Nat.reduceSub, List.replicate_succ, List.replicate_zero, List.cons_append, List.nil_append, List.append_nil, List.set_cons_succ, List.set_cons_zero, ofV, ofL, lenA, binA, intBin, fltBin, strBin, cpxBin, true_and, and_true, unA, convA, convB, pickV, List.map_cons, List.map_nil, resL, oneA, indexA, indexS, isQuiet, loadA, loadC, storeA, fieldA, partA, sliceA, boundA, buildA, placeA, setAll, appendA, readSl, newEl, Int.toNat_natCast, AV.cells, AV.solid, AV.one, Int.natCast_nonneg, exists_prop, List.getElem_cons_zero, List.getElem_cons_succ, List.getElem?_cons_zero, List.getElem?_cons_succ, Nat.zero_lt_one, Option.bind_some, Option.map_some, Option.map_none, kill, killM, killL, Bool.not_true, Bool.not_false, List.all_cons, List.all_nil, Bool.and_true, Bool.true_and, List.take_zero, List.drop_zero, List.drop_succ_cons, List.take_succ_cons, Nat.zero_add, Nat.add_zero, notInt, List.getElem?_toArray, ge_iff_le, gt_iff_lt, Nat.le_refl, Int.reduceToNat, cond_true, cond_false, ↓reduceIte, reduceCtorEq, Bool.false_eq_true, Bool.not_eq_true, Nat.reduceLT, Nat.reduceLeDiff, Nat.reduceMul, Nat.reduceEqDiff, Nat.succ_ne_self, Option.some.injEq, exists_eq', putF, List.forall_mem_cons, List.not_mem_nil, false_implies, implies_true, exists_true_left, tys0, tys1, und0, und1, md31, Tryd.ntmps31, Tryd.results31, bldB, bytB, bl, bl2, allW_int, fits, List.isEmpty_cons, brk_false, Nat.reduceMul]
    refine ⟨allW_byts _, by omega, ?_⟩
    rw [← byts_app, byts_kill, byts_kill]
    exact PostR.same ⟨rfl, rfl⟩
end Go.Proofs.YtdhomifcjakbgaaDoor
