/- Rests of lines, and the order by them. -/
import Derived.Test.YtdlddnnnfjnabaaChE
set_option maxRecDepth 10000
set_option maxHeartbeats 8000000
set_option linter.unusedSimpArgs false
set_option linter.unusedVariables false
namespace Go.Proofs.Ytdlddnnnfjnabaa
open Go Go.Abs

theorem c70 : Try.prog.cellsOf 70 = 1 := by kernel_rfl
theorem u70 : Try.prog.underlying 70 = some (.func #[3] #[2] false) := by kernel_rfl
theorem z70 : zeroOf Try.prog 70 = .nilf := by kernel_rfl
def cel (ty : TypeId) (v : AV) : Blk := { ty := ty, w := 1, els := [v] }
def exF3 (xs ks rs : List Int) (i : Nat) : Int := xs.getD i 0 * rs.getD (ks.getD i 0).toNat 0
def rstF (xs ks rs : List Int) (i : Nat) : Int := exF3 xs ks rs i % 10000
theorem ex_bound {xs ks rs : List Int} {w : Int} (L : Lns xs ks rs w) (i : Nat) (hi : i < xs.length) : 0 ≤ exF3 xs ks rs i ∧ exF3 xs ks rs i ≤ 20000000 := by
  have h3 := L.kl
  have h4 := L.rl
  have bx := L.x.at_ hi
  have bk := L.k.at_ (show i < ks.length by omega)
  have br := L.r.at_ (show (ks.getD i 0).toNat < rs.length by omega)
  have m := mul_bounds bx.1 (show xs.getD i 0 ≤ 2000 by omega) br.1 (show rs.getD (ks.getD i 0).toNat 0 ≤ 10000 by omega)
  unfold exF3
  omega
def sprC (xs ks rs : List Int) : List Blk := [cel 70 (.fn 51 [.ptr 2 0 0, .ptr 3 0 0, .ptr 4 0 0]), cel 25 (.ro (ints xs)), cel 25 (.ro (ints rs)), cel 25 (.ro (ints ks))]
theorem rest_call {xs ks rs : List Int} {w : Int} (L : Lns xs ks rs w) (q : Blk) (i : Nat) (hi : i < xs.length) :
    CallA Try.prog 51 [.int .i64 i, .ptr 2 0 0, .ptr 3 0 0, .ptr 4 0 0] (q :: sprC xs ks rs) (Ret (.int .i64 (rstF xs ks rs i)) (q :: sprC xs ks rs)) := by
  have h3 := L.kl
  have h4 := L.rl
  have hk' : i < ks.length := by omega
  have bk := L.k _ (List.getElem_mem hk')
  have hr' : ks[i].toNat < rs.length := by omega
  have b := ex_bound L i hi
  have e0 : exF3 xs ks rs i = xs[i] * rs[ks[i].toNat] := by rw [exF3, getD_at xs 0 i hi, getD_at ks 0 i hk', getD_at rs 0 _ hr']
  have e1 : IntKind.i64.wrap (xs[i] * rs[ks[i].toNat]) = exF3 xs ks rs i := by rw [← e0]; exact w64 (by omega) (by omega)
  refine CallP.out (t := .mk) (go_in (md := md51) mixed Try.func51 rfl go51 (by kernel_rfl) ?_)
  simp only [q0, q1, q2, q3, q4, q5, q6, q7, q8, q9, zq0, zq1, zq2, zq3, zq4, guardSlot, quietA, nilC, nilA, quietB, St.ev, St.put, St.after, Nat.reduceAdd, Nat.reduceSub, ofV, ofL, lenA, binA, intBin, fltBin, strBin, cpxBin, unA, convA, convB, convO, pickV, resL, oneA, indexA, indexS, isQuiet, loadA, loadC, storeA, fieldA, partA, sliceA, boundA, buildA, placeA, setAll, appendA, readSl, newEl, AV.cells, AV.solid, AV.one, kill, killM, killL, notInt, Int.reduceToNat, cond_true, cond_false, ↓reduceIte, reduceCtorEq, Nat.reduceLT, Nat.reduceLeDiff, Nat.reduceMul, Nat.reduceEqDiff, exists_eq', putF, implies_true, exists_true_left, tys0, tys1, tys2, tys3, tys4, und0, und1, und2, und3, md51, Try.ntmps51, Try.results51, sprC, cel, e1]
  refine ⟨hi, hk', bk.1, hr', by decide, ?_⟩
  rw [show (exF3 xs ks rs i).tmod 10000 = rstF xs ks rs i from Int.tmod_eq_emod_of_nonneg b.1]
  exact PostR.ret
def cmpF (xs ks rs : List Int) (a b : Int) : Int := rstF xs ks rs b.toNat - rstF xs ks rs a.toNat
def inN (n : Nat) (x : Int) : Prop := 0 ≤ x ∧ x < n
theorem rst_bound (xs ks rs : List Int) (i : Nat) : 0 ≤ rstF xs ks rs i ∧ rstF xs ks rs i < 10000 := by unfold rstF; omega
theorem cmp_call {xs ks rs : List Int} {w : Int} (L : Lns xs ks rs w) (q : Blk) (x y : Int) (hx : inN xs.length x) (hy : inN xs.length y) :
    CallA Try.prog 53 [.int .i64 x, .int .i64 y, .ptr 1 0 0] (q :: sprC xs ks rs) (Ret (.int .i64 (cmpF xs ks rs x y)) (q :: sprC xs ks rs)) := by
  obtain ⟨x0, x1⟩ := hx
  obtain ⟨y0, y1⟩ := hy
  obtain ⟨a, rfl⟩ := Int.eq_ofNat_of_zero_le x0
  obtain ⟨b, rfl⟩ := Int.eq_ofNat_of_zero_le y0
  have ba := rst_bound xs ks rs a
  have bb := rst_bound xs ks rs b
  have e1 : IntKind.i64.wrap (rstF xs ks rs b - rstF xs ks rs a) = rstF xs ks rs b - rstF xs ks rs a := w64 (by omega) (by omega)
  have ra := rest_call L q a (by omega)
  have rb := rest_call L q b (by omega)
  refine CallP.out (t := .mk) (go_in (md := md53) mixed Try.func53 rfl go53 (by kernel_rfl) ?_)
  simp only [q0, q1, q2, q3, q4, q5, q6, q7, q8, q9, zq0, zq1, zq2, zq3, zq4, guardSlot, quietA, nilC, nilA, quietB, St.ev, St.put, St.after, Nat.reduceAdd, Nat.reduceSub, ofV, ofL, lenA, binA, intBin, fltBin, strBin, cpxBin, unA, convA, convB, convO, pickV, resL, oneA, indexA, indexS, isQuiet, loadA, loadC, storeA, fieldA, partA, sliceA, boundA, buildA, placeA, setAll, appendA, readSl, newEl, AV.cells, AV.solid, AV.one, kill, killM, killL, notInt, Int.reduceToNat, cond_true, cond_false, ↓reduceIte, reduceCtorEq, Nat.reduceLT, Nat.reduceLeDiff, Nat.reduceMul, Nat.reduceEqDiff, exists_eq', putF, implies_true, exists_true_left, tys0, tys1, tys2, tys3, tys4, und0, und1, und2, und3, md53, Try.ntmps53, Try.results53, sprC, cel, c70, u70, e1]
  refine callr_by _ rb ?_
  simp only [q0, q1, q2, q3, q4, q5, q6, q7, q8, q9, zq0, zq1, zq2, zq3, zq4, guardSlot, quietA, nilC, nilA, quietB, St.ev, St.put, St.after, Nat.reduceAdd, Nat.reduceSub, ofV, ofL, lenA, binA, intBin, fltBin, strBin, cpxBin, unA, convA, convB, convO, pickV, resL, oneA, indexA, indexS, isQuiet, loadA, loadC, storeA, fieldA, partA, sliceA, boundA, buildA, placeA, setAll, appendA, readSl, newEl, AV.cells, AV.solid, AV.one, kill, killM, killL, notInt, Int.reduceToNat, cond_true, cond_false, ↓reduceIte, reduceCtorEq, Nat.reduceLT, Nat.reduceLeDiff, Nat.reduceMul, Nat.reduceEqDiff, exists_eq', putF, implies_true, exists_true_left, tys0, tys1, tys2, tys3, tys4, und0, und1, und2, und3, md53, Try.ntmps53, Try.results53, sprC, cel, c70, u70, e1]
  refine callr_by _ ra ?_
  simp only [q0, q1, q2, q3, q4, q5, q6, q7, q8, q9, zq0, zq1, zq2, zq3, zq4, guardSlot, quietA, nilC, nilA, quietB, St.ev, St.put, St.after, Nat.reduceAdd, Nat.reduceSub, ofV, ofL, lenA, binA, intBin, fltBin, strBin, cpxBin, unA, convA, convB, convO, pickV, resL, oneA, indexA, indexS, isQuiet, loadA, loadC, storeA, fieldA, partA, sliceA, boundA, buildA, placeA, setAll, appendA, readSl, newEl, AV.cells, AV.solid, AV.one, kill, killM, killL, notInt, Int.reduceToNat, cond_true, cond_false, ↓reduceIte, reduceCtorEq, Nat.reduceLT, Nat.reduceLeDiff, Nat.reduceMul, Nat.reduceEqDiff, exists_eq', putF, implies_true, exists_true_left, tys0, tys1, tys2, tys3, tys4, und0, und1, und2, und3, md53, Try.ntmps53, Try.results53, sprC, cel, c70, u70, e1]
  have e2 : cmpF xs ks rs (a : Int) (b : Int) = rstF xs ks rs b - rstF xs ks rs a := rfl
  rw [e2]
  exact PostR.ret
theorem cmp_ok {xs ks rs : List Int} {w : Int} (L : Lns xs ks rs w) (e : TypeId) : Cmpr 53 [.ptr 1 0 0] (sprC xs ks rs) e (inN xs.length) (cmpF xs ks rs) where
  call := fun l x y hx hy => cmp_call L _ x y hx hy
  low := rfl
  flat := by
    intro q hq
    simp [sprC, cel] at hq
    rcases hq with rfl | rfl | rfl | rfl <;> rfl
def ordF (xs ks rs : List Int) : List Int := isG (ltC (cmpF xs ks rs)) (rngL (fun i => (i : Int)) xs.length) xs.length
end Go.Proofs.Ytdlddnnnfjnabaa
