/- The library's functions on lists of integers: joined, without what comes again, equal, made of others. -/
import Derived.Test.YtdlddnnnfjnabaaLibV
import Derived.Test.YtdlddnnnfjnabaaLibI3
import Derived.Test.YtdlddnnnfjnabaaScP
import Derived.Test.YtdlddnnnfjnabaaL2S
import Derived.Test.YtdlddnnnfjnabaaAbsM3
set_option maxRecDepth 10000
set_option maxHeartbeats 4000000
set_option linter.unusedSimpArgs false
set_option linter.unusedVariables false
namespace Go.Proofs.Ytdlddnnnfjnabaa
open Go Go.Abs

theorem slicesEqual_call (xs ys : List Int) (hm : xs.length ≤ 9223372036854775807) : CallA Try.prog 73 [.ro (ints xs), .ro (ints ys)] [] (Ret (.bool (xs == ys)) []) := by
  refine CallP.out (t := .mk) (go_in (md := md73) mixed Try.func73 rfl go73 (by kernel_rfl) ?_)
  simp only [q0, q1, q2, q3, q4, q5, q6, q7, q8, q9, zq0, zq1, zq2, zq3, zq4, guardSlot, quietA, nilC, nilA, quietB, St.ev, St.put, St.after, Nat.reduceAdd, Nat.reduceSub, ofV, ofL, lenA, binA, intBin, fltBin, strBin, cpxBin, unA, convA, convB, convO, pickV, resL, oneA, indexA, indexS, isQuiet, loadA, loadC, storeA, fieldA, partA, sliceA, boundA, buildA, placeA, setAll, appendA, readSl, newEl, AV.cells, AV.solid, AV.one, kill, killM, killL, notInt, Int.reduceToNat, cond_true, cond_false, ↓reduceIte, reduceCtorEq, Nat.reduceLT, Nat.reduceLeDiff, Nat.reduceMul, Nat.reduceEqDiff, exists_eq', putF, implies_true, exists_true_left, tys0, tys1, tys2, tys3, tys4, und0, und1, und2, und3, md73, Try.ntmps73, Try.results73]
  refine br_intro (fun h => ?_) (fun h => ?_) <;> simp only [q0, q1, q2, q3, q4, q5, q6, q7, q8, q9, zq0, zq1, zq2, zq3, zq4, guardSlot, quietA, nilC, nilA, quietB, St.ev, St.put, St.after, Nat.reduceAdd, Nat.reduceSub, ofV, ofL, lenA, binA, intBin, fltBin, strBin, cpxBin, unA, convA, convB, convO, pickV, resL, oneA, indexA, indexS, isQuiet, loadA, loadC, storeA, fieldA, partA, sliceA, boundA, buildA, placeA, setAll, appendA, readSl, newEl, AV.cells, AV.solid, AV.one, kill, killM, killL, notInt, Int.reduceToNat, cond_true, cond_false, ↓reduceIte, reduceCtorEq, Nat.reduceLT, Nat.reduceLeDiff, Nat.reduceMul, Nat.reduceEqDiff, exists_eq', putF, implies_true, exists_true_left, tys0, tys1, tys2, tys3, tys4, und0, und1, und2, und3, md73, Try.ntmps73, Try.results73]
  · have : (xs == ys) = false := by
      rw [beq_eq_false_iff_ne]; intro e; subst e; simp at h
    exact PostR.pure ⟨by rw [this], rfl⟩ rfl
  · have hl : xs.length = ys.length := by simp at h; omega
    refine go_round (md := md73) mixed (by kernel_rfl) (fun k : {k : Nat // k ≤ xs.length ∧ xs.take k = ys.take k} => ⟨[.ro (ints xs), .ro (ints ys), .any, .any, .any, .any, .any, .any, .any, .any, .any, .any, .int .i64 xs.length, .int .i64 k.1, .any, .any, .any, .any, .any, .any, .any, .any, .any, .any, .any, .any], []⟩) (fun k => xs.length - k.1) ⟨0, by simp⟩ ?_ ?_
    · exact weak_drop (by simp) (by simp [DropHp, ints_below, flts_below]) (by simp [DropTm, DropV, below, belowM, belowL])
    · intro ⟨k, hk, he⟩
      simp only [q0, q1, q2, q3, q4, q5, q6, q7, q8, q9, zq0, zq1, zq2, zq3, zq4, guardSlot, quietA, nilC, nilA, quietB, St.ev, St.put, St.after, Nat.reduceAdd, Nat.reduceSub, ofV, ofL, lenA, binA, intBin, fltBin, strBin, cpxBin, unA, convA, convB, convO, pickV, resL, oneA, indexA, indexS, isQuiet, loadA, loadC, storeA, fieldA, partA, sliceA, boundA, buildA, placeA, setAll, appendA, readSl, newEl, AV.cells, AV.solid, AV.one, kill, killM, killL, notInt, Int.reduceToNat, cond_true, cond_false, ↓reduceIte, reduceCtorEq, Nat.reduceLT, Nat.reduceLeDiff, Nat.reduceMul, Nat.reduceEqDiff, exists_eq', putF, implies_true, exists_true_left, tys0, tys1, tys2, tys3, tys4, und0, und1, und2, und3, md73, Try.ntmps73, Try.results73]
      refine br_intro (fun h => ?_) (fun h => ?_) <;> simp only [q0, q1, q2, q3, q4, q5, q6, q7, q8, q9, zq0, zq1, zq2, zq3, zq4, guardSlot, quietA, nilC, nilA, quietB, St.ev, St.put, St.after, Nat.reduceAdd, Nat.reduceSub, ofV, ofL, lenA, binA, intBin, fltBin, strBin, cpxBin, unA, convA, convB, convO, pickV, resL, oneA, indexA, indexS, isQuiet, loadA, loadC, storeA, fieldA, partA, sliceA, boundA, buildA, placeA, setAll, appendA, readSl, newEl, AV.cells, AV.solid, AV.one, kill, killM, killL, notInt, Int.reduceToNat, cond_true, cond_false, ↓reduceIte, reduceCtorEq, Nat.reduceLT, Nat.reduceLeDiff, Nat.reduceMul, Nat.reduceEqDiff, exists_eq', putF, implies_true, exists_true_left, tys0, tys1, tys2, tys3, tys4, und0, und1, und2, und3, md73, Try.ntmps73, Try.results73]
      · have hk' : k < xs.length := by simpa using h
        refine ⟨hk', by omega, ?_⟩
        refine br_intro (fun hne => ?_) (fun hne => ?_) <;> simp only [q0, q1, q2, q3, q4, q5, q6, q7, q8, q9, zq0, zq1, zq2, zq3, zq4, guardSlot, quietA, nilC, nilA, quietB, St.ev, St.put, St.after, Nat.reduceAdd, Nat.reduceSub, ofV, ofL, lenA, binA, intBin, fltBin, strBin, cpxBin, unA, convA, convB, convO, pickV, resL, oneA, indexA, indexS, isQuiet, loadA, loadC, storeA, fieldA, partA, sliceA, boundA, buildA, placeA, setAll, appendA, readSl, newEl, AV.cells, AV.solid, AV.one, kill, killM, killL, notInt, Int.reduceToNat, cond_true, cond_false, ↓reduceIte, reduceCtorEq, Nat.reduceLT, Nat.reduceLeDiff, Nat.reduceMul, Nat.reduceEqDiff, exists_eq', putF, implies_true, exists_true_left, tys0, tys1, tys2, tys3, tys4, und0, und1, und2, und3, md73, Try.ntmps73, Try.results73]
        · have : (xs == ys) = false := by
            rw [beq_eq_false_iff_ne]; intro e; subst e; simp at hne
          exact PostR.pure ⟨by rw [this], rfl⟩ rfl
        · have heq' : xs[k] = ys[k] := by simpa using hne
          refine ⟨⟨k + 1, by omega, by rw [take_snoc _ _ hk', take_snoc _ _ (by omega), he, heq']⟩, by show xs.length - (k + 1) < xs.length - k; omega, ?_⟩
          exact weak_drop (by simp) (by simp [DropHp, ints_below, flts_below, w64_succ k (by omega)]) (by simp [DropTm, DropV, below, belowM, belowL, w64_succ k (by omega)])
      · have hk' : k = xs.length := by simp at h; omega
        have : (xs == ys) = true := by
          rw [beq_iff_eq]
          have h1 : xs.take xs.length = xs := List.take_length
          have h2 : ys.take xs.length = ys := by rw [hl]; exact List.take_length
          rw [hk'] at he; rw [← h1, ← h2, he]
        exact PostR.pure ⟨by rw [this], rfl⟩ rfl

theorem sortI_call (xs : List Int) (h : xs.length ≤ 1048576) (e : TypeId) : CallA Try.prog 58 [.sl 0 0 xs.length] [{ ty := e, w := 1, els := ints xs }] (Ret (.tup []) [{ ty := e, w := 1, els := ints (sortI xs) }]) :=
  sort_call go58 fun blk off cap w hH hb => slices_Sort_int blk off cap xs w hH hb (by omega)

theorem grow_call (n : Int) (h1 : 1 ≤ n) (h2 : n ≤ 1048576) : CallA Try.prog 93 [.nils, .int .i64 n] [] (Ret (.sl 0 0 0) [intB []]) := by
  have e1 : IntKind.i64.wrap (n - IntKind.i64.wrap (0 - (0 : Nat))) = n := by
    rw [show IntKind.i64.wrap (0 - ((0 : Nat) : Int)) = 0 from by decide, Int.sub_zero, w64 (by omega) (by omega)]
  refine CallP.out (t := .mk) (go_in (md := md93) mixed Try.func93 rfl go93 (by kernel_rfl) ?_)
  simp only [q0, q1, q2, q3, q4, q5, q6, q7, q8, q9, zq0, zq1, zq2, zq3, zq4, guardSlot, quietA, nilC, nilA, quietB, St.ev, St.put, St.after, Nat.reduceAdd, Nat.reduceSub, ofV, ofL, lenA, binA, intBin, fltBin, strBin, cpxBin, unA, convA, convB, convO, pickV, resL, oneA, indexA, indexS, isQuiet, loadA, loadC, storeA, fieldA, partA, sliceA, boundA, buildA, placeA, setAll, appendA, readSl, newEl, AV.cells, AV.solid, AV.one, kill, killM, killL, notInt, Int.reduceToNat, cond_true, cond_false, ↓reduceIte, reduceCtorEq, Nat.reduceLT, Nat.reduceLeDiff, Nat.reduceMul, Nat.reduceEqDiff, exists_eq', putF, implies_true, exists_true_left, tys0, tys1, tys2, tys3, tys4, und0, und1, und2, und3, md93, Try.ntmps93, Try.results93]
  refine br_no (by first | exact decide_eq_false (by omega) | exact beq_false_of_ne (by omega) | (simp only [bne_eq_false_iff_eq, beq_eq_false_iff_ne, ne_eq]; omega)) ?_; simp only [q0, q1, q2, q3, q4, q5, q6, q7, q8, q9, zq0, zq1, zq2, zq3, zq4, guardSlot, quietA, nilC, nilA, quietB, St.ev, St.put, St.after, Nat.reduceAdd, Nat.reduceSub, ofV, ofL, lenA, binA, intBin, fltBin, strBin, cpxBin, unA, convA, convB, convO, pickV, resL, oneA, indexA, indexS, isQuiet, loadA, loadC, storeA, fieldA, partA, sliceA, boundA, buildA, placeA, setAll, appendA, readSl, newEl, AV.cells, AV.solid, AV.one, kill, killM, killL, notInt, Int.reduceToNat, cond_true, cond_false, ↓reduceIte, reduceCtorEq, Nat.reduceLT, Nat.reduceLeDiff, Nat.reduceMul, Nat.reduceEqDiff, exists_eq', putF, implies_true, exists_true_left, tys0, tys1, tys2, tys3, tys4, und0, und1, und2, und3, md93, Try.ntmps93, Try.results93, e1]
  refine br_yes (by first | exact decide_eq_true (by omega) | (simp only [bne_iff_ne, beq_iff_eq, ne_eq]; omega)) ?_; simp only [q0, q1, q2, q3, q4, q5, q6, q7, q8, q9, zq0, zq1, zq2, zq3, zq4, guardSlot, quietA, nilC, nilA, quietB, St.ev, St.put, St.after, Nat.reduceAdd, Nat.reduceSub, ofV, ofL, lenA, binA, intBin, fltBin, strBin, cpxBin, unA, convA, convB, convO, pickV, resL, oneA, indexA, indexS, isQuiet, loadA, loadC, storeA, fieldA, partA, sliceA, boundA, buildA, placeA, setAll, appendA, readSl, newEl, AV.cells, AV.solid, AV.one, kill, killM, killL, notInt, Int.reduceToNat, cond_true, cond_false, ↓reduceIte, reduceCtorEq, Nat.reduceLT, Nat.reduceLeDiff, Nat.reduceMul, Nat.reduceEqDiff, exists_eq', putF, implies_true, exists_true_left, tys0, tys1, tys2, tys3, tys4, und0, und1, und2, und3, md93, Try.ntmps93, Try.results93, growA, fits, Int.reduceLT, Int.reduceLE, Int.reduceNeg, Int.reduceEq, Int.reduceGT, Int.reduceGE, decide_true, decide_false, beq_self_eq_true, bne_self_eq_false, Int.reduceBEq, Int.reduceBNe, Int.reduceAdd, Int.reduceSub]
  refine ⟨by omega, by omega, by omega, ?_⟩
  refine PostR.cut 0 0 rfl ?_
  exact PostR.ret

theorem ew0 : IntKind.i64.wrap 1 = 1 := by decide
theorem ew1 : IntKind.i64.wrap 2 = 2 := by decide
theorem concat_call (xs ys : List Int) (h1 : 1 ≤ xs.length) (hx : xs.length ≤ 1000) (hy : ys.length ≤ 1000) : CallA Try.prog 57 [.ro [.ro (ints xs), .ro (ints ys)]] [] (Ret (.sl 0 0 (xs.length + ys.length)) [intB (xs ++ ys)]) := by
  refine CallP.out (t := .mk) (go_in (md := md57) mixed Try.func57 rfl go57 (by kernel_rfl) ?_)
  simp only [q0, q1, q2, q3, q4, q5, q6, q7, q8, q9, zq0, zq1, zq2, zq3, zq4, guardSlot, quietA, nilC, nilA, quietB, St.ev, St.put, St.after, Nat.reduceAdd, Nat.reduceSub, ofV, ofL, lenA, binA, intBin, fltBin, strBin, cpxBin, unA, convA, convB, convO, pickV, resL, oneA, indexA, indexS, isQuiet, loadA, loadC, storeA, fieldA, partA, sliceA, boundA, buildA, placeA, setAll, appendA, readSl, newEl, AV.cells, AV.solid, AV.one, kill, killM, killL, notInt, Int.reduceToNat, cond_true, cond_false, ↓reduceIte, reduceCtorEq, Nat.reduceLT, Nat.reduceLeDiff, Nat.reduceMul, Nat.reduceEqDiff, exists_eq', putF, implies_true, exists_true_left, tys0, tys1, tys2, tys3, tys4, und0, und1, und2, und3, md57, Try.ntmps57, Try.results57]
  refine go_round (md := md57) mixed (by kernel_rfl) (fun i : {i : Nat // i ≤ 2} => ⟨[.ro [.ro (ints xs), .ro (ints ys)], .any, .any, .int .i64 (if i.1 = 0 then 0 else if i.1 = 1 then xs.length else xs.length + ys.length), .any, .any, .any, .any, .any, .ro [.ro (ints xs), .ro (ints ys)], .int .i64 2, .int .i64 i.1, .any, .any, .any, .any, .any, .any, .any, .any, .any, .any, .any, .any, .any, .any, .any, .any, .any, .any, .any, .any, .any, .any, .any, .any], []⟩) (fun i => 2 - i.1) ⟨0, by omega⟩ ?_ ?_
  · exact weak_drop (by simp) (by simp [DropHp, ints_below, flts_below]) (by simp [DropTm, DropV, below, belowM, belowL])
  · intro ⟨i, hi⟩
    have c : i = 0 ∨ i = 1 ∨ i = 2 := by omega
    rcases c with rfl | rfl | rfl
    · have e1 : IntKind.i64.wrap (0 + (xs.length : Int)) = xs.length := by rw [Int.zero_add, w64 (by omega) (by omega)]
      simp only [q0, q1, q2, q3, q4, q5, q6, q7, q8, q9, zq0, zq1, zq2, zq3, zq4, guardSlot, quietA, nilC, nilA, quietB, St.ev, St.put, St.after, Nat.reduceAdd, Nat.reduceSub, ofV, ofL, lenA, binA, intBin, fltBin, strBin, cpxBin, unA, convA, convB, convO, pickV, resL, oneA, indexA, indexS, isQuiet, loadA, loadC, storeA, fieldA, partA, sliceA, boundA, buildA, placeA, setAll, appendA, readSl, newEl, AV.cells, AV.solid, AV.one, kill, killM, killL, notInt, Int.reduceToNat, cond_true, cond_false, ↓reduceIte, reduceCtorEq, Nat.reduceLT, Nat.reduceLeDiff, Nat.reduceMul, Nat.reduceEqDiff, exists_eq', putF, implies_true, exists_true_left, tys0, tys1, tys2, tys3, tys4, und0, und1, und2, und3, md57, Try.ntmps57, Try.results57]
      refine br_yes (by first | exact decide_eq_true (by omega) | (simp only [bne_iff_ne, beq_iff_eq, ne_eq]; omega)) ?_; simp only [q0, q1, q2, q3, q4, q5, q6, q7, q8, q9, zq0, zq1, zq2, zq3, zq4, guardSlot, quietA, nilC, nilA, quietB, St.ev, St.put, St.after, Nat.reduceAdd, Nat.reduceSub, ofV, ofL, lenA, binA, intBin, fltBin, strBin, cpxBin, unA, convA, convB, convO, pickV, resL, oneA, indexA, indexS, isQuiet, loadA, loadC, storeA, fieldA, partA, sliceA, boundA, buildA, placeA, setAll, appendA, readSl, newEl, AV.cells, AV.solid, AV.one, kill, killM, killL, notInt, Int.reduceToNat, cond_true, cond_false, ↓reduceIte, reduceCtorEq, Nat.reduceLT, Nat.reduceLeDiff, Nat.reduceMul, Nat.reduceEqDiff, exists_eq', putF, implies_true, exists_true_left, tys0, tys1, tys2, tys3, tys4, und0, und1, und2, und3, md57, Try.ntmps57, Try.results57, e1]
      refine br_no (by first | exact decide_eq_false (by omega) | exact beq_false_of_ne (by omega) | (simp only [bne_eq_false_iff_eq, beq_eq_false_iff_ne, ne_eq]; omega)) ?_; simp only [q0, q1, q2, q3, q4, q5, q6, q7, q8, q9, zq0, zq1, zq2, zq3, zq4, guardSlot, quietA, nilC, nilA, quietB, St.ev, St.put, St.after, Nat.reduceAdd, Nat.reduceSub, ofV, ofL, lenA, binA, intBin, fltBin, strBin, cpxBin, unA, convA, convB, convO, pickV, resL, oneA, indexA, indexS, isQuiet, loadA, loadC, storeA, fieldA, partA, sliceA, boundA, buildA, placeA, setAll, appendA, readSl, newEl, AV.cells, AV.solid, AV.one, kill, killM, killL, notInt, Int.reduceToNat, cond_true, cond_false, ↓reduceIte, reduceCtorEq, Nat.reduceLT, Nat.reduceLeDiff, Nat.reduceMul, Nat.reduceEqDiff, exists_eq', putF, implies_true, exists_true_left, tys0, tys1, tys2, tys3, tys4, und0, und1, und2, und3, md57, Try.ntmps57, Try.results57]
      refine ⟨⟨1, by omega⟩, by show 2 - 1 < 2 - 0; omega, ?_⟩
      exact weak_drop (by simp) (by simp [DropHp, ints_below, flts_below, ew0]) (by simp [DropTm, DropV, below, belowM, belowL, ew0])
    · have e1 : IntKind.i64.wrap ((xs.length : Int) + (ys.length : Int)) = xs.length + ys.length := w64 (by omega) (by omega)
      simp only [q0, q1, q2, q3, q4, q5, q6, q7, q8, q9, zq0, zq1, zq2, zq3, zq4, guardSlot, quietA, nilC, nilA, quietB, St.ev, St.put, St.after, Nat.reduceAdd, Nat.reduceSub, ofV, ofL, lenA, binA, intBin, fltBin, strBin, cpxBin, unA, convA, convB, convO, pickV, resL, oneA, indexA, indexS, isQuiet, loadA, loadC, storeA, fieldA, partA, sliceA, boundA, buildA, placeA, setAll, appendA, readSl, newEl, AV.cells, AV.solid, AV.one, kill, killM, killL, notInt, Int.reduceToNat, cond_true, cond_false, ↓reduceIte, reduceCtorEq, Nat.reduceLT, Nat.reduceLeDiff, Nat.reduceMul, Nat.reduceEqDiff, exists_eq', putF, implies_true, exists_true_left, tys0, tys1, tys2, tys3, tys4, und0, und1, und2, und3, md57, Try.ntmps57, Try.results57]
      refine br_yes (by first | exact decide_eq_true (by omega) | (simp only [bne_iff_ne, beq_iff_eq, ne_eq]; omega)) ?_; simp only [q0, q1, q2, q3, q4, q5, q6, q7, q8, q9, zq0, zq1, zq2, zq3, zq4, guardSlot, quietA, nilC, nilA, quietB, St.ev, St.put, St.after, Nat.reduceAdd, Nat.reduceSub, ofV, ofL, lenA, binA, intBin, fltBin, strBin, cpxBin, unA, convA, convB, convO, pickV, resL, oneA, indexA, indexS, isQuiet, loadA, loadC, storeA, fieldA, partA, sliceA, boundA, buildA, placeA, setAll, appendA, readSl, newEl, AV.cells, AV.solid, AV.one, kill, killM, killL, notInt, Int.reduceToNat, cond_true, cond_false, ↓reduceIte, reduceCtorEq, Nat.reduceLT, Nat.reduceLeDiff, Nat.reduceMul, Nat.reduceEqDiff, exists_eq', putF, implies_true, exists_true_left, tys0, tys1, tys2, tys3, tys4, und0, und1, und2, und3, md57, Try.ntmps57, Try.results57, e1]
      refine br_no (by first | exact decide_eq_false (by omega) | exact beq_false_of_ne (by omega) | (simp only [bne_eq_false_iff_eq, beq_eq_false_iff_ne, ne_eq]; omega)) ?_; simp only [q0, q1, q2, q3, q4, q5, q6, q7, q8, q9, zq0, zq1, zq2, zq3, zq4, guardSlot, quietA, nilC, nilA, quietB, St.ev, St.put, St.after, Nat.reduceAdd, Nat.reduceSub, ofV, ofL, lenA, binA, intBin, fltBin, strBin, cpxBin, unA, convA, convB, convO, pickV, resL, oneA, indexA, indexS, isQuiet, loadA, loadC, storeA, fieldA, partA, sliceA, boundA, buildA, placeA, setAll, appendA, readSl, newEl, AV.cells, AV.solid, AV.one, kill, killM, killL, notInt, Int.reduceToNat, cond_true, cond_false, ↓reduceIte, reduceCtorEq, Nat.reduceLT, Nat.reduceLeDiff, Nat.reduceMul, Nat.reduceEqDiff, exists_eq', putF, implies_true, exists_true_left, tys0, tys1, tys2, tys3, tys4, und0, und1, und2, und3, md57, Try.ntmps57, Try.results57]
      refine ⟨⟨2, by omega⟩, by show 2 - 2 < 2 - 1; omega, ?_⟩
      exact weak_drop (by simp) (by simp [DropHp, ints_below, flts_below, ew1]) (by simp [DropTm, DropV, below, belowM, belowL, ew1])
    · simp only [q0, q1, q2, q3, q4, q5, q6, q7, q8, q9, zq0, zq1, zq2, zq3, zq4, guardSlot, quietA, nilC, nilA, quietB, St.ev, St.put, St.after, Nat.reduceAdd, Nat.reduceSub, ofV, ofL, lenA, binA, intBin, fltBin, strBin, cpxBin, unA, convA, convB, convO, pickV, resL, oneA, indexA, indexS, isQuiet, loadA, loadC, storeA, fieldA, partA, sliceA, boundA, buildA, placeA, setAll, appendA, readSl, newEl, AV.cells, AV.solid, AV.one, kill, killM, killL, notInt, Int.reduceToNat, cond_true, cond_false, ↓reduceIte, reduceCtorEq, Nat.reduceLT, Nat.reduceLeDiff, Nat.reduceMul, Nat.reduceEqDiff, exists_eq', putF, implies_true, exists_true_left, tys0, tys1, tys2, tys3, tys4, und0, und1, und2, und3, md57, Try.ntmps57, Try.results57]
      refine br_no (by first | exact decide_eq_false (by omega) | exact beq_false_of_ne (by omega) | (simp only [bne_eq_false_iff_eq, beq_eq_false_iff_ne, ne_eq]; omega)) ?_; simp only [q0, q1, q2, q3, q4, q5, q6, q7, q8, q9, zq0, zq1, zq2, zq3, zq4, guardSlot, quietA, nilC, nilA, quietB, St.ev, St.put, St.after, Nat.reduceAdd, Nat.reduceSub, ofV, ofL, lenA, binA, intBin, fltBin, strBin, cpxBin, unA, convA, convB, convO, pickV, resL, oneA, indexA, indexS, isQuiet, loadA, loadC, storeA, fieldA, partA, sliceA, boundA, buildA, placeA, setAll, appendA, readSl, newEl, AV.cells, AV.solid, AV.one, kill, killM, killL, notInt, Int.reduceToNat, cond_true, cond_false, ↓reduceIte, reduceCtorEq, Nat.reduceLT, Nat.reduceLeDiff, Nat.reduceMul, Nat.reduceEqDiff, exists_eq', putF, implies_true, exists_true_left, tys0, tys1, tys2, tys3, tys4, und0, und1, und2, und3, md57, Try.ntmps57, Try.results57]
      refine call_new (grow_call _ (by omega) (by omega)) rfl (by intro q hq; simp at hq; subst hq; rfl) ?_
      simp only [q0, q1, q2, q3, q4, q5, q6, q7, q8, q9, zq0, zq1, zq2, zq3, zq4, guardSlot, quietA, nilC, nilA, quietB, St.ev, St.put, St.after, Nat.reduceAdd, Nat.reduceSub, ofV, ofL, lenA, binA, intBin, fltBin, strBin, cpxBin, unA, convA, convB, convO, pickV, resL, oneA, indexA, indexS, isQuiet, loadA, loadC, storeA, fieldA, partA, sliceA, boundA, buildA, placeA, setAll, appendA, readSl, newEl, AV.cells, AV.solid, AV.one, kill, killM, killL, notInt, Int.reduceToNat, cond_true, cond_false, ↓reduceIte, reduceCtorEq, Nat.reduceLT, Nat.reduceLeDiff, Nat.reduceMul, Nat.reduceEqDiff, exists_eq', putF, implies_true, exists_true_left, tys0, tys1, tys2, tys3, tys4, und0, und1, und2, und3, md57, Try.ntmps57, Try.results57, ren, renM, renL]
      refine go_round (md := md57) mixed (by kernel_rfl) (fun i : {i : Nat // i ≤ 2} => ⟨[.any, .any, .any, .any, .any, .any, .sl 0 0 (if i.1 = 0 then 0 else if i.1 = 1 then xs.length else xs.length + ys.length), .any, .any, .any, .any, .any, .any, .any, .any, .any, .any, .any, .any, .any, .any, .any, .any, .any, .any, .ro [.ro (ints xs), .ro (ints ys)], .int .i64 2, .int .i64 i.1, .any, .any, .any, .any, .any, .any, .any, .any], [intB (if i.1 = 0 then [] else if i.1 = 1 then xs else xs ++ ys)]⟩) (fun i => 2 - i.1) ⟨0, by omega⟩ ?_ ?_
      · exact weak_drop (by simp) (by simp [DropHp, ints_below, flts_below, intB, allBelow_cons, allBelow_nil, below, belowM, belowL]) (by simp [DropTm, DropV, below, belowM, belowL, intB, allBelow_cons, allBelow_nil, below, belowM, belowL])
      · intro ⟨i, hi⟩
        have c : i = 0 ∨ i = 1 ∨ i = 2 := by omega
        rcases c with rfl | rfl | rfl
        · simp only [q0, q1, q2, q3, q4, q5, q6, q7, q8, q9, zq0, zq1, zq2, zq3, zq4, guardSlot, quietA, nilC, nilA, quietB, St.ev, St.put, St.after, Nat.reduceAdd, Nat.reduceSub, ofV, ofL, lenA, binA, intBin, fltBin, strBin, cpxBin, unA, convA, convB, convO, pickV, resL, oneA, indexA, indexS, isQuiet, loadA, loadC, storeA, fieldA, partA, sliceA, boundA, buildA, placeA, setAll, appendA, readSl, newEl, AV.cells, AV.solid, AV.one, kill, killM, killL, notInt, Int.reduceToNat, cond_true, cond_false, ↓reduceIte, reduceCtorEq, Nat.reduceLT, Nat.reduceLeDiff, Nat.reduceMul, Nat.reduceEqDiff, exists_eq', putF, implies_true, exists_true_left, tys0, tys1, tys2, tys3, tys4, und0, und1, und2, und3, md57, Try.ntmps57, Try.results57]
          refine br_yes (by first | exact decide_eq_true (by omega) | (simp only [bne_iff_ne, beq_iff_eq, ne_eq]; omega)) ?_; simp only [q0, q1, q2, q3, q4, q5, q6, q7, q8, q9, zq0, zq1, zq2, zq3, zq4, guardSlot, quietA, nilC, nilA, quietB, St.ev, St.put, St.after, Nat.reduceAdd, Nat.reduceSub, ofV, ofL, lenA, binA, intBin, fltBin, strBin, cpxBin, unA, convA, convB, convO, pickV, resL, oneA, indexA, indexS, isQuiet, loadA, loadC, storeA, fieldA, partA, sliceA, boundA, buildA, placeA, setAll, appendA, readSl, newEl, AV.cells, AV.solid, AV.one, kill, killM, killL, notInt, Int.reduceToNat, cond_true, cond_false, ↓reduceIte, reduceCtorEq, Nat.reduceLT, Nat.reduceLeDiff, Nat.reduceMul, Nat.reduceEqDiff, exists_eq', putF, implies_true, exists_true_left, tys0, tys1, tys2, tys3, tys4, und0, und1, und2, und3, md57, Try.ntmps57, Try.results57, intB, ints_allW, fits]
          refine ⟨by omega, ⟨1, by omega⟩, by show 2 - 1 < 2 - 0; omega, ?_⟩
          exact weak_drop (by simp) (by simp [DropHp, ints_below, flts_below, ew0, intB, allBelow_cons, allBelow_nil, below, belowM, belowL]) (by simp [DropTm, DropV, below, belowM, belowL, ew0, intB, allBelow_cons, allBelow_nil, below, belowM, belowL])
        · simp only [q0, q1, q2, q3, q4, q5, q6, q7, q8, q9, zq0, zq1, zq2, zq3, zq4, guardSlot, quietA, nilC, nilA, quietB, St.ev, St.put, St.after, Nat.reduceAdd, Nat.reduceSub, ofV, ofL, lenA, binA, intBin, fltBin, strBin, cpxBin, unA, convA, convB, convO, pickV, resL, oneA, indexA, indexS, isQuiet, loadA, loadC, storeA, fieldA, partA, sliceA, boundA, buildA, placeA, setAll, appendA, readSl, newEl, AV.cells, AV.solid, AV.one, kill, killM, killL, notInt, Int.reduceToNat, cond_true, cond_false, ↓reduceIte, reduceCtorEq, Nat.reduceLT, Nat.reduceLeDiff, Nat.reduceMul, Nat.reduceEqDiff, exists_eq', putF, implies_true, exists_true_left, tys0, tys1, tys2, tys3, tys4, und0, und1, und2, und3, md57, Try.ntmps57, Try.results57]
          refine br_yes (by first | exact decide_eq_true (by omega) | (simp only [bne_iff_ne, beq_iff_eq, ne_eq]; omega)) ?_; simp only [q0, q1, q2, q3, q4, q5, q6, q7, q8, q9, zq0, zq1, zq2, zq3, zq4, guardSlot, quietA, nilC, nilA, quietB, St.ev, St.put, St.after, Nat.reduceAdd, Nat.reduceSub, ofV, ofL, lenA, binA, intBin, fltBin, strBin, cpxBin, unA, convA, convB, convO, pickV, resL, oneA, indexA, indexS, isQuiet, loadA, loadC, storeA, fieldA, partA, sliceA, boundA, buildA, placeA, setAll, appendA, readSl, newEl, AV.cells, AV.solid, AV.one, kill, killM, killL, notInt, Int.reduceToNat, cond_true, cond_false, ↓reduceIte, reduceCtorEq, Nat.reduceLT, Nat.reduceLeDiff, Nat.reduceMul, Nat.reduceEqDiff, exists_eq', putF, implies_true, exists_true_left, tys0, tys1, tys2, tys3, tys4, und0, und1, und2, und3, md57, Try.ntmps57, Try.results57, intB, ints_allW, fits]
          refine ⟨by omega, ⟨2, by omega⟩, by show 2 - 2 < 2 - 1; omega, ?_⟩
          exact weak_drop (by simp) (by simp [DropHp, ints_below, flts_below, ew1, intB, allBelow_cons, allBelow_nil, below, belowM, belowL]) (by simp [DropTm, DropV, below, belowM, belowL, ew1, intB, allBelow_cons, allBelow_nil, below, belowM, belowL])
        · simp only [q0, q1, q2, q3, q4, q5, q6, q7, q8, q9, zq0, zq1, zq2, zq3, zq4, guardSlot, quietA, nilC, nilA, quietB, St.ev, St.put, St.after, Nat.reduceAdd, Nat.reduceSub, ofV, ofL, lenA, binA, intBin, fltBin, strBin, cpxBin, unA, convA, convB, convO, pickV, resL, oneA, indexA, indexS, isQuiet, loadA, loadC, storeA, fieldA, partA, sliceA, boundA, buildA, placeA, setAll, appendA, readSl, newEl, AV.cells, AV.solid, AV.one, kill, killM, killL, notInt, Int.reduceToNat, cond_true, cond_false, ↓reduceIte, reduceCtorEq, Nat.reduceLT, Nat.reduceLeDiff, Nat.reduceMul, Nat.reduceEqDiff, exists_eq', putF, implies_true, exists_true_left, tys0, tys1, tys2, tys3, tys4, und0, und1, und2, und3, md57, Try.ntmps57, Try.results57]
          refine br_no (by first | exact decide_eq_false (by omega) | exact beq_false_of_ne (by omega) | (simp only [bne_eq_false_iff_eq, beq_eq_false_iff_ne, ne_eq]; omega)) ?_; simp only [q0, q1, q2, q3, q4, q5, q6, q7, q8, q9, zq0, zq1, zq2, zq3, zq4, guardSlot, quietA, nilC, nilA, quietB, St.ev, St.put, St.after, Nat.reduceAdd, Nat.reduceSub, ofV, ofL, lenA, binA, intBin, fltBin, strBin, cpxBin, unA, convA, convB, convO, pickV, resL, oneA, indexA, indexS, isQuiet, loadA, loadC, storeA, fieldA, partA, sliceA, boundA, buildA, placeA, setAll, appendA, readSl, newEl, AV.cells, AV.solid, AV.one, kill, killM, killL, notInt, Int.reduceToNat, cond_true, cond_false, ↓reduceIte, reduceCtorEq, Nat.reduceLT, Nat.reduceLeDiff, Nat.reduceMul, Nat.reduceEqDiff, exists_eq', putF, implies_true, exists_true_left, tys0, tys1, tys2, tys3, tys4, und0, und1, und2, und3, md57, Try.ntmps57, Try.results57]
          exact PostR.ret

theorem cmpI_snoc : ∀ (l : List Int) (a b : Int), cmpI (l ++ [a, b]) = if a = b then cmpI (l ++ [a]) else cmpI (l ++ [a]) ++ [b]
  | [], a, b => by
    show cmpI [a, b] = if a = b then [a] else [a] ++ [b]
    unfold cmpI
    by_cases h : a = b
    · rw [if_pos h, if_pos h, h]; rfl
    · rw [if_neg h, if_neg h]; rfl
  | [x], a, b => by
    have ih := cmpI_snoc [] a b
    show cmpI (x :: a :: [b]) = if a = b then cmpI (x :: a :: []) else cmpI (x :: a :: []) ++ [b]
    have e1 : cmpI (x :: a :: [b]) = if x = a then cmpI (a :: [b]) else x :: cmpI (a :: [b]) := rfl
    have e2 : cmpI (x :: a :: []) = if x = a then cmpI [a] else x :: cmpI [a] := rfl
    have ih' : cmpI (a :: [b]) = if a = b then cmpI [a] else cmpI [a] ++ [b] := ih
    rw [e1, e2, ih']
    split <;> split <;> simp_all
  | x :: y :: l, a, b => by
    have ih := cmpI_snoc (y :: l) a b
    have e1 : ∀ t, cmpI (x :: y :: t) = if x = y then cmpI (y :: t) else x :: cmpI (y :: t) := fun _ => rfl
    simp only [List.cons_append] at ih ⊢
    rw [e1, e1, ih]
    split <;> split <;> simp_all
theorem cmpI_diff : ∀ (l : List Int), (∀ j, 0 < j → j < l.length → l.getD j 0 ≠ l.getD (j - 1) 0) → cmpI l = l
  | [], _ => rfl
  | [_], _ => rfl
  | a :: b :: l, h => by
    have h1 := h 1 (by omega) (by simp)
    have ih := cmpI_diff (b :: l) (fun j h0 hj => by
      have := h (j + 1) (by omega) (by simpa using hj)
      obtain ⟨j, rfl⟩ : ∃ i, j = i + 1 := ⟨j - 1, by omega⟩
      simpa using this)
    unfold cmpI
    rw [if_neg (by simpa using fun e : a = b => h1 (by simp [e])), ih]
theorem take_one (l : List Int) (m : Nat) (h : m < l.length) : l.take (m + 1) = l.take m ++ [l.getD m 0] := by
  rw [List.take_add_one, List.getElem?_eq_getElem h, getD_at l 0 m h]; rfl
theorem take_two (l : List Int) (m : Nat) (h : m + 1 < l.length) : l.take (m + 2) = l.take m ++ [l.getD m 0, l.getD (m + 1) 0] := by
  rw [show m + 2 = (m + 1) + 1 from rfl, take_one l (m + 1) h, take_one l m (by omega), List.append_assoc]; rfl
theorem cmpI_next (l : List Int) (m : Nat) (h : m + 1 < l.length) : cmpI (l.take (m + 2)) = if l.getD m 0 = l.getD (m + 1) 0 then cmpI (l.take (m + 1)) else cmpI (l.take (m + 1)) ++ [l.getD (m + 1) 0] := by
  rw [take_two l m h, cmpI_snoc, take_one l m (by omega)]
structure Cmp (zs es : List Int) (k m : Nat) : Prop where
  len : es.length = zs.length
  km : k ≤ m
  top : m < zs.length
  done : es.take k = cmpI (zs.take (m + 1))
  rest : ∀ j, m ≤ j → es.getD j 0 = zs.getD j 0
theorem Cmp.skip {zs es : List Int} {k m : Nat} (C : Cmp zs es k m) (h : m + 1 < zs.length) (e : zs.getD (m + 1) 0 = zs.getD m 0) : Cmp zs es k (m + 1) :=
  ⟨C.len, Nat.le_succ_of_le C.km, h, by rw [cmpI_next zs m h, if_pos e.symm]; exact C.done, fun j hj => C.rest j (by omega)⟩
theorem Cmp.put {zs es : List Int} {k m : Nat} (C : Cmp zs es k m) (h : m + 1 < zs.length) (e : zs.getD (m + 1) 0 ≠ zs.getD m 0) : Cmp zs (es.set k (zs.getD (m + 1) 0)) (k + 1) (m + 1) := by
  have hl := C.len
  have hk := C.km
  refine ⟨by simp [hl], by omega, h, ?_, fun j hj => ?_⟩
  · rw [cmpI_next zs m h, if_neg (fun x => e x.symm), ← C.done, List.take_add_one, List.getElem?_set_self (by omega), List.take_set_of_le (Nat.le_refl k)]
    rfl
  · rw [show (es.set k (zs.getD (m + 1) 0)).getD j 0 = es.getD j 0 from by simp only [List.getD_eq_getElem?_getD]; rw [List.getElem?_set_ne (by omega)]]
    exact C.rest j (by omega)

theorem compact_call (zs : List Int) (hm : zs.length ≤ 1048576) : CallA Try.prog 59 [.sl 0 0 zs.length] [intB zs] (Ret (.sl 0 0 (cmpI zs).length) [intB (cmpI zs)]) := by
  refine CallP.out (t := .mk) (go_in (md := md59) mixed Try.func59 rfl go59 (by kernel_rfl) ?_)
  simp only [q0, q1, q2, q3, q4, q5, q6, q7, q8, q9, zq0, zq1, zq2, zq3, zq4, guardSlot, quietA, nilC, nilA, quietB, St.ev, St.put, St.after, Nat.reduceAdd, Nat.reduceSub, ofV, ofL, lenA, binA, intBin, fltBin, strBin, cpxBin, unA, convA, convB, convO, pickV, resL, oneA, indexA, indexS, isQuiet, loadA, loadC, storeA, fieldA, partA, sliceA, boundA, buildA, placeA, setAll, appendA, readSl, newEl, AV.cells, AV.solid, AV.one, kill, killM, killL, notInt, Int.reduceToNat, cond_true, cond_false, ↓reduceIte, reduceCtorEq, Nat.reduceLT, Nat.reduceLeDiff, Nat.reduceMul, Nat.reduceEqDiff, exists_eq', putF, implies_true, exists_true_left, tys0, tys1, tys2, tys3, tys4, und0, und1, und2, und3, md59, Try.ntmps59, Try.results59]
  refine br_intro (fun h0 => ?_) (fun h0 => ?_) <;> simp only [q0, q1, q2, q3, q4, q5, q6, q7, q8, q9, zq0, zq1, zq2, zq3, zq4, guardSlot, quietA, nilC, nilA, quietB, St.ev, St.put, St.after, Nat.reduceAdd, Nat.reduceSub, ofV, ofL, lenA, binA, intBin, fltBin, strBin, cpxBin, unA, convA, convB, convO, pickV, resL, oneA, indexA, indexS, isQuiet, loadA, loadC, storeA, fieldA, partA, sliceA, boundA, buildA, placeA, setAll, appendA, readSl, newEl, AV.cells, AV.solid, AV.one, kill, killM, killL, notInt, Int.reduceToNat, cond_true, cond_false, ↓reduceIte, reduceCtorEq, Nat.reduceLT, Nat.reduceLeDiff, Nat.reduceMul, Nat.reduceEqDiff, exists_eq', putF, implies_true, exists_true_left, tys0, tys1, tys2, tys3, tys4, und0, und1, und2, und3, md59, Try.ntmps59, Try.results59]
  · have h1 := of_decide_eq_true h0
    have e : cmpI zs = zs := by
      match zs, h1 with
      | [], _ => rfl
      | [_], _ => rfl
      | _ :: _ :: _, h1 => simp at h1; omega
    rw [e]
    exact PostR.ret
  have h1 := of_decide_eq_false h0
  refine go_round (md := md59) mixed (by kernel_rfl) (fun k : {k : Nat // 1 ≤ k ∧ k ≤ zs.length ∧ ∀ j, 0 < j → j < k → zs.getD j 0 ≠ zs.getD (j - 1) 0} => ⟨[.sl 0 0 zs.length, .any, .any, .int .i64 k.1, .any, .any, .any, .any, .any, .any, .any, .any, .any, .any, .any, .any, .any, .any, .any, .any, .any, .any, .any, .any, .any, .any, .any, .any, .any, .any, .any, .any, .any, .any, .any, .any, .any, .any, .any, .any, .any, .any, .any, .any, .any, .any, .any, .any, .any, .any, .any, .any, .any, .any, .any, .any, .any, .any, .any, .any, .any], [intB zs]⟩) (fun k => zs.length - k.1) ⟨1, by omega, by omega, fun j a b => by omega⟩ ?_ ?_
  · exact weak_drop (by simp) (by simp [DropHp, ints_below, flts_below, intB, allBelow_cons, allBelow_nil, below, belowM, belowL]) (by simp [DropTm, DropV, below, belowM, belowL, intB, allBelow_cons, allBelow_nil, below, belowM, belowL])
  · intro ⟨k, k1, k2, k3⟩
    have ek : IntKind.i64.wrap ((k : Int) - 1) = ((k - 1 : Nat) : Int) := by rw [w64 (by omega) (by omega)]; omega
    simp only [q0, q1, q2, q3, q4, q5, q6, q7, q8, q9, zq0, zq1, zq2, zq3, zq4, guardSlot, quietA, nilC, nilA, quietB, St.ev, St.put, St.after, Nat.reduceAdd, Nat.reduceSub, ofV, ofL, lenA, binA, intBin, fltBin, strBin, cpxBin, unA, convA, convB, convO, pickV, resL, oneA, indexA, indexS, isQuiet, loadA, loadC, storeA, fieldA, partA, sliceA, boundA, buildA, placeA, setAll, appendA, readSl, newEl, AV.cells, AV.solid, AV.one, kill, killM, killL, notInt, Int.reduceToNat, cond_true, cond_false, ↓reduceIte, reduceCtorEq, Nat.reduceLT, Nat.reduceLeDiff, Nat.reduceMul, Nat.reduceEqDiff, exists_eq', putF, implies_true, exists_true_left, tys0, tys1, tys2, tys3, tys4, und0, und1, und2, und3, md59, Try.ntmps59, Try.results59, intB, ek]
    refine br_intro (fun h2 => ?_) (fun h2 => ?_) <;> simp only [q0, q1, q2, q3, q4, q5, q6, q7, q8, q9, zq0, zq1, zq2, zq3, zq4, guardSlot, quietA, nilC, nilA, quietB, St.ev, St.put, St.after, Nat.reduceAdd, Nat.reduceSub, ofV, ofL, lenA, binA, intBin, fltBin, strBin, cpxBin, unA, convA, convB, convO, pickV, resL, oneA, indexA, indexS, isQuiet, loadA, loadC, storeA, fieldA, partA, sliceA, boundA, buildA, placeA, setAll, appendA, readSl, newEl, AV.cells, AV.solid, AV.one, kill, killM, killL, notInt, Int.reduceToNat, cond_true, cond_false, ↓reduceIte, reduceCtorEq, Nat.reduceLT, Nat.reduceLeDiff, Nat.reduceMul, Nat.reduceEqDiff, exists_eq', putF, implies_true, exists_true_left, tys0, tys1, tys2, tys3, tys4, und0, und1, und2, und3, md59, Try.ntmps59, Try.results59, intB, ek]
    rotate_left
    · have hk : k = zs.length := by have := of_decide_eq_false h2; omega
      subst hk
      rw [cmpI_diff zs k3]
      exact PostR.ret
    have hk : k < zs.length := by have := of_decide_eq_true h2; omega
    refine ⟨by omega, hk, by omega, by omega, ?_⟩
    have g1 := getD_at zs 0 k hk
    have g0 := getD_at zs 0 (k - 1) (by omega)
    refine br_intro (fun h3 => ?_) (fun h3 => ?_) <;> simp only [q0, q1, q2, q3, q4, q5, q6, q7, q8, q9, zq0, zq1, zq2, zq3, zq4, guardSlot, quietA, nilC, nilA, quietB, St.ev, St.put, St.after, Nat.reduceAdd, Nat.reduceSub, ofV, ofL, lenA, binA, intBin, fltBin, strBin, cpxBin, unA, convA, convB, convO, pickV, resL, oneA, indexA, indexS, isQuiet, loadA, loadC, storeA, fieldA, partA, sliceA, boundA, buildA, placeA, setAll, appendA, readSl, newEl, AV.cells, AV.solid, AV.one, kill, killM, killL, notInt, Int.reduceToNat, cond_true, cond_false, ↓reduceIte, reduceCtorEq, Nat.reduceLT, Nat.reduceLeDiff, Nat.reduceMul, Nat.reduceEqDiff, exists_eq', putF, implies_true, exists_true_left, tys0, tys1, tys2, tys3, tys4, und0, und1, und2, und3, md59, Try.ntmps59, Try.results59, intB, ek]
    rotate_left
    · have hne := ne_of_beq_false h3
      refine ⟨⟨k + 1, by omega, by omega, fun j a b => ?_⟩, by show zs.length - (k + 1) < zs.length - k; omega, ?_⟩
      · by_cases e : j < k
        · exact k3 j a e
        · have : j = k := by omega
          subst this
          rw [g1, g0]; exact hne
      · exact weak_drop (by simp) (by simp [DropHp, ints_below, flts_below, w64_succ k (by omega), intB, allBelow_cons, allBelow_nil, below, belowM, belowL]) (by simp [DropTm, DropV, below, belowM, belowL, w64_succ k (by omega), intB, allBelow_cons, allBelow_nil, below, belowM, belowL])
    have heq := eq_of_beq h3
    have C0 : Cmp zs zs k k := by
      refine ⟨rfl, Nat.le_refl _, hk, ?_, fun j _ => rfl⟩
      have h := cmpI_next zs (k - 1) (by omega)
      rw [show k - 1 + 2 = k + 1 by omega, show k - 1 + 1 = k by omega, if_pos (by rw [g1, g0, heq])] at h
      rw [h, cmpI_diff _ (fun j a b => ?_)]
      have hj : j < k := by simp at b; omega
      have e : ∀ i, i < k → (zs.take k).getD i 0 = zs.getD i 0 := fun i hi => by simp only [List.getD_eq_getElem?_getD]; rw [List.getElem?_take_of_lt hi]
      rw [e j hj, e (j - 1) (by omega)]
      exact k3 j a hj
    refine ⟨by omega, Int.le_refl _, ?_⟩
    refine go_round (md := md59) mixed (by kernel_rfl) (fun p : {p : List Int × Nat × Nat // Cmp zs p.1 p.2.1 p.2.2 ∧ k ≤ p.2.1} => ⟨[.sl 0 0 zs.length, .any, .any, .int .i64 p.1.2.1, .sl 0 k (zs.length - k), .int .i64 ((p.1.2.2 + 1 - k : Nat) : Int), .any, .any, .any, .any, .any, .any, .any, .any, .any, .any, .any, .any, .any, .any, .any, .any, .any, .any, .any, .any, .any, .any, .any, .any, .any, .any, .any, .any, .any, .any, .any, .any, .any, .any, .any, .any, .any, .any, .any, .any, .any, .any, .any, .any, .any, .any, .any, .any, .any, .any, .any, .any, .any, .any, .any], [intB p.1.1]⟩) (fun p => zs.length - p.1.2.2) ⟨(zs, k, k), C0, Nat.le_refl _⟩ ?_ ?_
    · exact weak_drop (by simp) (by simp [DropHp, ints_below, flts_below, intB, allBelow_cons, allBelow_nil, below, belowM, belowL, show k + 1 - k = 1 by omega]) (by simp [DropTm, DropV, below, belowM, belowL, intB, allBelow_cons, allBelow_nil, below, belowM, belowL, show k + 1 - k = 1 by omega])
    · rintro ⟨⟨es, q, m⟩, C, hq⟩
      simp only [] at C hq
      have hl := C.len
      have hkm := C.km
      have htop := C.top
      have e2 : IntKind.i64.wrap (((m + 1 - k : Nat) : Int) - 1) = ((m - k : Nat) : Int) := by rw [w64 (by omega) (by omega)]; omega
      simp only [q0, q1, q2, q3, q4, q5, q6, q7, q8, q9, zq0, zq1, zq2, zq3, zq4, guardSlot, quietA, nilC, nilA, quietB, St.ev, St.put, St.after, Nat.reduceAdd, Nat.reduceSub, ofV, ofL, lenA, binA, intBin, fltBin, strBin, cpxBin, unA, convA, convB, convO, pickV, resL, oneA, indexA, indexS, isQuiet, loadA, loadC, storeA, fieldA, partA, sliceA, boundA, buildA, placeA, setAll, appendA, readSl, newEl, AV.cells, AV.solid, AV.one, kill, killM, killL, notInt, Int.reduceToNat, cond_true, cond_false, ↓reduceIte, reduceCtorEq, Nat.reduceLT, Nat.reduceLeDiff, Nat.reduceMul, Nat.reduceEqDiff, exists_eq', putF, implies_true, exists_true_left, tys0, tys1, tys2, tys3, tys4, und0, und1, und2, und3, md59, Try.ntmps59, Try.results59, intB, e2]
      refine br_intro (fun i1 => ?_) (fun i1 => ?_) <;> simp only [q0, q1, q2, q3, q4, q5, q6, q7, q8, q9, zq0, zq1, zq2, zq3, zq4, guardSlot, quietA, nilC, nilA, quietB, St.ev, St.put, St.after, Nat.reduceAdd, Nat.reduceSub, ofV, ofL, lenA, binA, intBin, fltBin, strBin, cpxBin, unA, convA, convB, convO, pickV, resL, oneA, indexA, indexS, isQuiet, loadA, loadC, storeA, fieldA, partA, sliceA, boundA, buildA, placeA, setAll, appendA, readSl, newEl, AV.cells, AV.solid, AV.one, kill, killM, killL, notInt, Int.reduceToNat, cond_true, cond_false, ↓reduceIte, reduceCtorEq, Nat.reduceLT, Nat.reduceLeDiff, Nat.reduceMul, Nat.reduceEqDiff, exists_eq', putF, implies_true, exists_true_left, tys0, tys1, tys2, tys3, tys4, und0, und1, und2, und3, md59, Try.ntmps59, Try.results59, intB, e2]
      · have i1' := of_decide_eq_true i1
        have hm1 : m + 1 < zs.length := by omega
        refine ⟨by omega, by omega, by omega, by omega, ?_⟩
        have ga : es[k + (m + 1 - k)]'(by omega) = zs.getD (m + 1) 0 := by
          rw [← C.rest (m + 1) (by omega), getD_at es 0 (m + 1) (by omega)]
          congr 1; omega
        have gb : es[k + (m - k)]'(by omega) = zs.getD m 0 := by
          rw [← C.rest m (Nat.le_refl _), getD_at es 0 m (by omega)]
          congr 1; omega
        have e3 : IntKind.i64.wrap (((m + 1 - k : Nat) : Int) + 1) = ((m + 1 + 1 - k : Nat) : Int) := by rw [w64 (by omega) (by omega)]; omega
        rw [ga, gb]
        refine br_intro (fun c => ?_) (fun c => ?_) <;> simp only [q0, q1, q2, q3, q4, q5, q6, q7, q8, q9, zq0, zq1, zq2, zq3, zq4, guardSlot, quietA, nilC, nilA, quietB, St.ev, St.put, St.after, Nat.reduceAdd, Nat.reduceSub, ofV, ofL, lenA, binA, intBin, fltBin, strBin, cpxBin, unA, convA, convB, convO, pickV, resL, oneA, indexA, indexS, isQuiet, loadA, loadC, storeA, fieldA, partA, sliceA, boundA, buildA, placeA, setAll, appendA, readSl, newEl, AV.cells, AV.solid, AV.one, kill, killM, killL, notInt, Int.reduceToNat, cond_true, cond_false, ↓reduceIte, reduceCtorEq, Nat.reduceLT, Nat.reduceLeDiff, Nat.reduceMul, Nat.reduceEqDiff, exists_eq', putF, implies_true, exists_true_left, tys0, tys1, tys2, tys3, tys4, und0, und1, und2, und3, md59, Try.ntmps59, Try.results59, intB, e2, e3]
        · have hne : zs.getD (m + 1) 0 ≠ zs.getD m 0 := by simpa using c
          refine ⟨by omega, by omega, by omega, by omega, ?_⟩
          rw [ga]
          refine ⟨⟨⟨es.set q (zs.getD (m + 1) 0), q + 1, m + 1⟩, C.put hm1 hne, by show k ≤ q + 1; omega⟩, by show zs.length - (m + 1) < zs.length - m; omega, ?_⟩
          exact weak_drop (by simp) (by simp [DropHp, ints_below, flts_below, w64_succ q (by omega), ints_set, e3, intB, allBelow_cons, allBelow_nil, below, belowM, belowL]) (by simp [DropTm, DropV, below, belowM, belowL, w64_succ q (by omega), ints_set, e3, intB, allBelow_cons, allBelow_nil, below, belowM, belowL])
        · have heq2 : zs.getD (m + 1) 0 = zs.getD m 0 := by simpa using c
          refine ⟨⟨⟨es, q, m + 1⟩, C.skip hm1 heq2, hq⟩, by show zs.length - (m + 1) < zs.length - m; omega, ?_⟩
          exact weak_drop (by simp) (by simp [DropHp, ints_below, flts_below, e3, intB, allBelow_cons, allBelow_nil, below, belowM, belowL]) (by simp [DropTm, DropV, below, belowM, belowL, e3, intB, allBelow_cons, allBelow_nil, below, belowM, belowL])
      · have i1' := of_decide_eq_false i1
        have hm1 : m + 1 = zs.length := by omega
        refine ⟨by omega, Int.le_refl _, ?_⟩
        simp only [q0, q1, q2, q3, q4, q5, q6, q7, q8, q9, zq0, zq1, zq2, zq3, zq4, guardSlot, quietA, nilC, nilA, quietB, St.ev, St.put, St.after, Nat.reduceAdd, Nat.reduceSub, ofV, ofL, lenA, binA, intBin, fltBin, strBin, cpxBin, unA, convA, convB, convO, pickV, resL, oneA, indexA, indexS, isQuiet, loadA, loadC, storeA, fieldA, partA, sliceA, boundA, buildA, placeA, setAll, appendA, readSl, newEl, AV.cells, AV.solid, AV.one, kill, killM, killL, notInt, Int.reduceToNat, cond_true, cond_false, ↓reduceIte, reduceCtorEq, Nat.reduceLT, Nat.reduceLeDiff, Nat.reduceMul, Nat.reduceEqDiff, exists_eq', putF, implies_true, exists_true_left, tys0, tys1, tys2, tys3, tys4, und0, und1, und2, und3, md59, Try.ntmps59, Try.results59, clearA]
        refine ⟨by omega, by omega, by omega, by omega, ?_⟩
        have e4 : es.take q = cmpI zs := by rw [C.done, hm1, List.take_length]
        have e5 : q = (cmpI zs).length := by rw [← e4, List.length_take]; omega
        refine PostR.cut 0 q rfl ?_
        have e6 : (List.take q (ints es) ++ List.replicate (zs.length - q) (AV.int IntKind.i64 0) ++ List.drop (q + (zs.length - q)) (ints es)).take q = ints (cmpI zs) := by
          rw [List.append_assoc, List.take_append_of_le_length (by rw [ints_take, ints_len, List.length_take]; omega), ints_take, ints_take, e4, List.take_of_length_le (by omega)]
        show PostR 1 _ [{ ty := 2, w := 1, els := (List.take q (ints es) ++ List.replicate (zs.length - q) (AV.int IntKind.i64 0) ++ List.drop (q + (zs.length - q)) (ints es)).take q }] _
        rw [e6, Nat.sub_zero, ← e5]
        rw [e5]
        exact PostR.ret
theorem iclone_call (xs : List Int) (h0 : 1 ≤ xs.length) (h : xs.length ≤ 1048576) : CallA Try.prog 68 [.ro (ints xs)] [] (Ret (.sl 0 0 xs.length) [intB xs]) := by
  cases xs with
  | nil => simp at h0
  | cons x xs =>
    refine CallP.out (t := .mk) (go_in (md := md68) mixed Try.func68 rfl go68 (by kernel_rfl) ?_)
    rw [show ints (x :: xs) = .int .i64 x :: ints xs from rfl]
    simp only [q0, q1, q2, q3, q4, q5, q6, q7, q8, q9, zq0, zq1, zq2, zq3, zq4, guardSlot, quietA, nilC, nilA, quietB, St.ev, St.put, St.after, Nat.reduceAdd, Nat.reduceSub, ofV, ofL, lenA, binA, intBin, fltBin, strBin, cpxBin, unA, convA, convB, convO, pickV, resL, oneA, indexA, indexS, isQuiet, loadA, loadC, storeA, fieldA, partA, sliceA, boundA, buildA, placeA, setAll, appendA, readSl, newEl, AV.cells, AV.solid, AV.one, kill, killM, killL, notInt, Int.reduceToNat, cond_true, cond_false, ↓reduceIte, reduceCtorEq, Nat.reduceLT, Nat.reduceLeDiff, Nat.reduceMul, Nat.reduceEqDiff, exists_eq', putF, implies_true, exists_true_left, tys0, tys1, tys2, tys3, tys4, und0, und1, und2, und3, md68, Try.ntmps68, Try.results68]
    exact ⟨ints_allW (x :: xs), by unfold fits; simp at h; omega, PostR.ret⟩
end Go.Proofs.Ytdlddnnnfjnabaa
