/- Lists in order: the reference's insertions make the sorted list; the program sorts by the library. -/
import Derived.Test.YtadbddlekinkpaaTsB
set_option maxRecDepth 10000
set_option maxHeartbeats 2000000
set_option linter.unusedSimpArgs false
set_option linter.unusedVariables false
namespace Go.Proofs.Ytadbddlekinkpaa
open Go Go.Abs

theorem intsL_cons (x : Int) (xs : List Int) : ints (x :: xs) = .int .i64 x :: ints xs := rfl
theorem iclone_cons (x : Int) (xs : List Int) (h : (x :: xs).length ≤ 1048576) : CallA Try.prog 24 [.ro (ints (x :: xs))] [] (Ret (.sl 0 0 (x :: xs).length) [{ ty := 2, w := 1, els := ints (x :: xs) }]) := by
  refine CallP.out (t := .mk) (go_in (md := md24) mixed Try.func24 rfl go24 (by kernel_rfl) ?_)
  simp only [q0, q1, q2, q3, q4, q5, q6, q7, q8, q9, zq0, zq1, zq2, zq3, guardSlot, quietA, nilC, nilA, quietB, St.ev, St.put, St.after, Nat.reduceAdd, Nat.reduceSub, List.replicate_succ, ofV, ofL, lenA, binA, intBin, fltBin, strBin, cpxBin, unA, convA, convB, convO, pickV, resL, oneA, indexA, indexS, isQuiet, loadA, loadC, storeA, fieldA, partA, sliceA, boundA, buildA, placeA, setAll, appendA, readSl, newEl, AV.cells, AV.solid, AV.one, kill, killM, killL, notInt, Int.reduceToNat, cond_true, cond_false, ↓reduceIte, reduceCtorEq, Nat.reduceLT, Nat.reduceLeDiff, Nat.reduceMul, Nat.reduceEqDiff, exists_eq', putF, implies_true, exists_true_left, tys0, tys1, tys2, tys3, und0, und1, und2, md24, Try.ntmps24, Try.results24, intsL_cons]
  exact ⟨ints_allW (x :: xs), by unfold fits; simp at h; omega, PostR.ret⟩
theorem iclone_ne (xs : List Int) (h0 : 1 ≤ xs.length) (h : xs.length ≤ 1048576) : CallA Try.prog 24 [.ro (ints xs)] [] (Ret (.sl 0 0 xs.length) [{ ty := 2, w := 1, els := ints xs }]) := by
  cases xs with
  | nil => simp at h0
  | cons x xs => exact iclone_cons x xs h
theorem sortL_call (xs : List Int) (h : xs.length ≤ 1048576) (e : TypeId) : CallA Try.prog 26 [.sl 0 0 xs.length] [{ ty := e, w := 1, els := ints xs }] (Ret (.tup []) [{ ty := e, w := 1, els := ints (sortI xs) }]) :=
  sort_call go26 fun blk off cap w hH hb => slices_Sort_int blk off cap xs w hH hb (by omega)
end Go.Proofs.Ytadbddlekinkpaa
