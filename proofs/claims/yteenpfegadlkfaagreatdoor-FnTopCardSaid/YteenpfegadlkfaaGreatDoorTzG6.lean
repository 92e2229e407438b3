/- TzG6: texts joined. -/
import Derived.Test.YteenpfegadlkfaaGreatDoorAbsM5
import Derived.Test.YteenpfegadlkfaaGreatDoorTzG1
import Derived.Test.YteenpfegadlkfaaGreatDoorBase
/- Helpers of the law on lives. -/
set_option maxRecDepth 10000
set_option maxHeartbeats 4000000
set_option linter.unusedSimpArgs false
set_option linter.unusedVariables false
namespace Go.Proofs.YteenpfegadlkfaaGreatDoor
open Go Go.Abs
theorem f0 : canon .f32 0 = 0 := rfl
theorem f1 : canon .f32 1065353216 = 1065353216 := by decide +kernel
theorem view_fl {hp : List Blk} {i n : Nat} {W : List Nat} (h : hp[i]? = some (fltB W)) (hl : W.length = n) : view 2 hp (.sl i 0 n) = .ro (flts W) := by
  subst hl
  rw [view_sl, h]
  simp [fltB, map_view_flts, take_flts, flts_len]
end Go.Proofs.YteenpfegadlkfaaGreatDoor
/- Lives and pays for life, nearly: plain laws. -/
set_option maxRecDepth 10000
set_option maxHeartbeats 2000000
set_option linter.unusedSimpArgs false
set_option linter.unusedVariables false
namespace Go.Proofs.YteenpfegadlkfaaGreatDoor
open Go Go.Abs
def shF (q : List Nat) : Nat → Nat
  | 0 => one32
  | i + 1 => fmul .f32 (shF q i) (fsub .f32 one32 (q.getD i 0))
end Go.Proofs.YteenpfegadlkfaaGreatDoor
/- Lives and pays for life, nearly: reserves, two lives, comparisons. -/
set_option maxRecDepth 10000
set_option maxHeartbeats 2000000
set_option linter.unusedSimpArgs false
set_option linter.unusedVariables false
namespace Go.Proofs.YteenpfegadlkfaaGreatDoor
open Go Go.Abs
def alvL (q : List Nat) : List Nat := (List.range q.length).map (shF q)
theorem alvL_len (q : List Nat) : (alvL q).length = q.length := by simp [alvL]
end Go.Proofs.YteenpfegadlkfaaGreatDoor
/- Lives: what the program computes. -/
set_option maxRecDepth 10000
set_option maxHeartbeats 8000000
set_option linter.unusedSimpArgs false
set_option linter.unusedVariables false
namespace Go.Proofs.YteenpfegadlkfaaGreatDoor
open Go Go.Abs
theorem allW_flt (k : FloatKind) (n : Nat) : AllW 1 [AV.flt k n] := by intro a ha; rw [List.mem_singleton.1 ha]; exact ⟨rfl, rfl⟩
theorem alive_call {q : List Nat} (hm : q.length ≤ 60) : CallA Tryz.prog 49 [.ro (flts q)] [] (Ret (.sl 0 0 q.length) [fltB (alvL q)]) := by
  refine CallP.out (t := .mk) (go_in (md := md49) mixed Tryz.func49 rfl go49 (by kernel_rfl) ?_)
  simp only [q0, q1, q2, q3, q4, q5, q6, q7, q8, q9, zr0, zr1, zr2, zr3, zq0, zq1, zq2, zq3, zq4, Nat.reduceAdd, Nat.reduceSub, lenA, convA, indexA, flatP, nilI, ifaA, indexS, Int.reduceToNat, cond_true, cond_false, ↓reduceIte, reduceCtorEq, Nat.reduceLT, Nat.reduceLeDiff, Nat.reduceMul, Nat.reduceEqDiff, exists_eq', implies_true, exists_true_left, tys0, tys1, tys2, tys3, und0, und1, und2, und3, md49, Tryz.ntmps49, Tryz.results49, f0, f1]
  refine go_round (md := md49) mixed (by kernel_rfl) (fun i : {i : Nat // i ≤ q.length} => ⟨[.any, .any, .any, .sl 0 0 i.1, .flt .f32 (shF q i.1), .any, .any, .any, .ro (flts q), .int .i64 q.length, .int .i64 (i.1 : Int), .any, .any, .any, .any, .any, .any, .any, .any, .any, .any, .any, .any, .any], [fltB ((List.range i.1).map (shF q))]⟩) (fun i => q.length - i.1) ⟨0, by omega⟩ ?_ ?_
  · have e : shF q 0 = 1065353216 := rfl
    have z : (List.range 0).map (shF q) = [] := rfl
    have zf : flts [] = [] := rfl
    rw [e, z]
    exact weak_drop (by simp) (by simp [DropHp, ints_below, flts_below, fltB, zf, allBelow_cons, allBelow_nil, below, belowM, belowL]) (by simp [DropTm, DropV, below, belowM, belowL, fltB, zf, allBelow_cons, allBelow_nil, below, belowM, belowL])
  rintro ⟨i, hi⟩
  have ll : ((List.range i).map (shF q)).length = i := by simp
  simp only [q0, q1, q2, q3, q4, q5, q6, q7, q8, q9, zr0, zr1, zr2, zr3, zq0, zq1, zq2, zq3, zq4, Nat.reduceAdd, Nat.reduceSub, lenA, convA, indexA, flatP, nilI, ifaA, indexS, Int.reduceToNat, cond_true, cond_false, ↓reduceIte, reduceCtorEq, Nat.reduceLT, Nat.reduceLeDiff, Nat.reduceMul, Nat.reduceEqDiff, exists_eq', implies_true, exists_true_left, tys0, tys1, tys2, tys3, und0, und1, und2, und3, md49, Tryz.ntmps49, Tryz.results49, f0, f1, fltB, flts_len, ll]
  refine br_intro (fun h => ?_) (fun h => ?_) <;> simp only [q0, q1, q2, q3, q4, q5, q6, q7, q8, q9, zr0, zr1, zr2, zr3, zq0, zq1, zq2, zq3, zq4, Nat.reduceAdd, Nat.reduceSub, lenA, convA, indexA, flatP, nilI, ifaA, indexS, Int.reduceToNat, cond_true, cond_false, ↓reduceIte, reduceCtorEq, Nat.reduceLT, Nat.reduceLeDiff, Nat.reduceMul, Nat.reduceEqDiff, exists_eq', implies_true, exists_true_left, tys0, tys1, tys2, tys3, und0, und1, und2, und3, md49, Tryz.ntmps49, Tryz.results49, f0, f1, fltB, flts_len, ll]
  · have hi' : i < q.length := by have := of_decide_eq_true h; omega
    refine ⟨hi', allW_flt _ _, by rw [fits]; omega, ⟨i + 1, by omega⟩, by show q.length - (i + 1) < q.length - i; omega, ?_⟩
    have es : shF q (i + 1) = fmul .f32 (shF q i) (fsub .f32 1065353216 q[i]) := by rw [shF, getD_at q 0 i hi']; rfl
    have el : (List.range i).map (shF q) ++ [shF q i] = (List.range (i + 1)).map (shF q) := by rw [List.range_succ, List.map_append]; rfl
    rw [es]
    rw [← el]
    exact weak_drop (by simp) (by simp [DropHp, ints_below, flts_below, w64_succ i (by omega), fltB, flts_snoc, flts_below, allBelow_cons, allBelow_nil, below, belowM, belowL]) (by simp [DropTm, DropV, below, belowM, belowL, w64_succ i (by omega), fltB, flts_snoc, flts_below, allBelow_cons, allBelow_nil, below, belowM, belowL])
  · have hi' : i = q.length := by have := of_decide_eq_false h; omega
    subst hi'
    exact PostR.ret
theorem view_alv {q : List Nat} : view 2 [fltB (alvL q)] (.sl 0 0 q.length) = .ro (flts (alvL q)) := view_fl rfl (alvL_len q)
theorem alive_ro {q : List Nat} (hm : q.length ≤ 60) : CallA Tryz.prog 49 [.ro (flts q)] [] (Ret (.ro (flts (alvL q))) []) := CallA.frozen 2 (alive_call hm) view_alv
end Go.Proofs.YteenpfegadlkfaaGreatDoor
