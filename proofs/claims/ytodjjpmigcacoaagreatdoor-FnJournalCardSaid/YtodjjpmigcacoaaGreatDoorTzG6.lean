/- TzG6: texts joined. -/
import Derived.Test.YtodjjpmigcacoaaGreatDoorAbsM5
import Derived.Test.YtodjjpmigcacoaaGreatDoorTzG1
import Derived.Test.YtodjjpmigcacoaaGreatDoorBase
import Derived.Test.YtodjjpmigcacoaaGreatDoorTzG5
set_option maxRecDepth 10000
set_option maxHeartbeats 4000000
set_option linter.unusedSimpArgs false
set_option linter.unusedVariables false
namespace Go.Proofs.YtodjjpmigcacoaaGreatDoor
open Go Go.Abs
open Nat renaming reduceAdd → Za, reduceSub → Zb, reduceMul → Zc, reduceLT → Zd, reduceLeDiff → Ze, reduceEqDiff → Zf
open Int renaming reduceToNat → Zn
open Go.Abs renaming lenA → Zg, convA → Zh, indexA → Zi, flatP → Zj, nilI → Zk, ifaA → Zl, indexS → Zm
theorem finite_call (x : Nat) : CallA Tryz.prog 126 [.flt .f32 x] [] (Ret (.tup [.flt .f32 (if finB .f32 x then x else 0), .bool (finB .f32 x)]) []) := by
  refine CallP.out (t := .mk) (go_in (md := md126) mixed Tryz.func126 rfl go126 (by kernel_rfl) ?_)
  simp only [Zu, Za, Zb, Zg, Zh, Zi, Zk, Zl, Zm, Zn, ↓reduceIte, reduceCtorEq, Zd, Ze, Zc, Zf, Z126]
  refine call_ret (isFinite_call x) rfl rfl ?_
  simp only [Zu, Za, Zb, Zg, Zh, Zi, Zk, Zl, Zm, Zn, ↓reduceIte, reduceCtorEq, Zd, Ze, Zc, Zf, Z126]
  refine br_intro (fun h => ?_) (fun h => ?_) <;> simp only [Zu, Za, Zb, Zg, Zh, Zi, Zk, Zl, Zm, Zn, ↓reduceIte, reduceCtorEq, Zd, Ze, Zc, Zf, Z126, canon_zero]
  · exact PostR.pure ⟨by simp [h], rfl⟩ rfl
  · exact PostR.pure ⟨by simp [h], rfl⟩ rfl
theorem f0 : canon .f32 0 = 0 := rfl
theorem f1 : canon .f32 1065353216 = 1065353216 := by decide +kernel
theorem view_fl {hp : List Blk} {i n : Nat} {W : List Nat} (h : hp[i]? = some (fltB W)) (hl : W.length = n) : view 2 hp (.sl i 0 n) = .ro (flts W) := by
  subst hl
  rw [view_sl, h]
  simp [fltB, map_view_flts, take_flts, flts_len]
set_option maxHeartbeats 2000000
def shF (q : List Nat) : Nat → Nat
  | 0 => one32
  | i + 1 => fmul .f32 (shF q i) (fsub .f32 one32 (q.getD i 0))
def pF (f : Nat) : Nat → Nat
  | 0 => one32
  | i + 1 => fmul .f32 (pF f i) f
def prF (S : List Nat) (f w : Nat) : Nat → Nat
  | 0 => 0
  | i + 1 => if w ≤ i then fadd .f32 (prF S f w i) (fmul .f32 (S.getD i 0) (pF f i)) else prF S f w i
def alvL (q : List Nat) : List Nat := (List.range q.length).map (shF q)
theorem alvL_len (q : List Nat) : (alvL q).length = q.length := by simp [alvL]
set_option maxHeartbeats 8000000
theorem allW_flt (k : FloatKind) (n : Nat) : AllW 1 [AV.flt k n] := by intro a ha; rw [List.mem_singleton.1 ha]; exact ⟨rfl, rfl⟩
theorem alive_call {q : List Nat} (hm : q.length ≤ 60) : CallA Tryz.prog 125 [.ro (flts q)] [] (Ret (.sl 0 0 q.length) [fltB (alvL q)]) := by
  refine CallP.out (t := .mk) (go_in (md := md125) mixed Tryz.func125 rfl go125 (by kernel_rfl) ?_)
  simp only [Zu, Za, Zb, Zg, Zh, Zi, Zk, Zl, Zm, Zn, ↓reduceIte, reduceCtorEq, Zd, Ze, Zc, Zf, Z125, f0, f1]
  refine go_round (md := md125) mixed (by kernel_rfl) (fun i : {i : Nat // i ≤ q.length} => ⟨[.any, .any, .any, .sl 0 0 i.1, .flt .f32 (shF q i.1), .any, .any, .any, .ro (flts q), .int .i64 q.length, .int .i64 (i.1 : Int), .any, .any, .any, .any, .any, .any, .any, .any, .any, .any, .any, .any, .any], [fltB ((List.range i.1).map (shF q))]⟩) (fun i => q.length - i.1) ⟨0, by omega⟩ ?_ ?_
  · have e : shF q 0 = 1065353216 := rfl
    have z : (List.range 0).map (shF q) = [] := rfl
    have zf : flts [] = [] := rfl
    rw [e, z]
    exact weak_drop (by simp) (by simp [DropHp, ints_below, flts_below, fltB, zf, allBelow_cons, allBelow_nil, below, belowM, belowL]) (by simp [DropTm, DropV, below, belowM, belowL, fltB, zf, allBelow_cons, allBelow_nil, below, belowM, belowL])
  rintro ⟨i, hi⟩
  have ll : ((List.range i).map (shF q)).length = i := by simp
  simp only [Zu, Za, Zb, Zg, Zh, Zi, Zk, Zl, Zm, Zn, ↓reduceIte, reduceCtorEq, Zd, Ze, Zc, Zf, Z125, f0, f1, fltB, flts_len, ll]
  refine br_intro (fun h => ?_) (fun h => ?_) <;> simp only [Zu, Za, Zb, Zg, Zh, Zi, Zk, Zl, Zm, Zn, ↓reduceIte, reduceCtorEq, Zd, Ze, Zc, Zf, Z125, f0, f1, fltB, flts_len, ll]
  · have hi' : i < q.length := by have := of_decide_eq_true h; omega
    refine ⟨hi', allW_flt _ _, by rw [fits]; omega, ⟨i + 1, by omega⟩, by show q.length - (i + 1) < q.length - i; omega, ?_⟩
    have es : shF q (i + 1) = fmul .f32 (shF q i) (fsub .f32 1065353216 q[i]) := by rw [shF, getD_at q 0 i hi']; rfl
    have el : (List.range i).map (shF q) ++ [shF q i] = (List.range (i + 1)).map (shF q) := by rw [List.range_succ, List.map_append]; rfl
    rw [es]
    rw [← el]
    exact weak_drop (by simp) (by simp [DropHp, ints_below, flts_below, w64_succ i (by omega), fltB, flts_snoc, flts_below, allBelow_cons, allBelow_nil, below, belowM, belowL]) (by simp [DropTm, DropV, below, belowM, belowL, w64_succ i (by omega), fltB, flts_snoc, flts_below, allBelow_cons, allBelow_nil, below, belowM, belowL])
  · have hi' : i = q.length := by have := of_decide_eq_false h; omega
    subst hi'
    exact PostR.ret
theorem view_alv {q : List Nat} : view 2 [fltB (alvL q)] (.sl 0 0 q.length) = .ro (flts (alvL q)) := view_fl rfl (alvL_len q)
theorem alive_ro {q : List Nat} (hm : q.length ≤ 60) : CallA Tryz.prog 125 [.ro (flts q)] [] (Ret (.ro (flts (alvL q))) []) := CallA.frozen 2 (alive_call hm) view_alv
def facF (r : Nat) : Nat := fdiv .f32 one32 (fadd .f32 one32 r)
theorem present_call (S : List Nat) (r w : Nat) (hm : S.length ≤ 60) (hw : w ≤ 60) : CallA Tryz.prog 184 [.ro (flts S), .flt .f32 r, .int .i64 (w : Int)] [] (Ret (.flt .f32 (prF S (facF r) w S.length)) []) := by
  have ef : fdiv .f32 1065353216 (fadd .f32 1065353216 r) = facF r := rfl
  refine CallP.out (t := .mk) (go_in (md := md184) mixed Tryz.func184 rfl go184 (by kernel_rfl) ?_)
  simp only [Zu, Za, Zb, Zg, Zh, Zi, Zk, Zl, Zm, Zn, ↓reduceIte, reduceCtorEq, Zd, Ze, Zc, Zf, Z184, f0, f1, ef]
  refine go_round (md := md184) mixed (by kernel_rfl) (fun i : {i : Nat // i ≤ S.length} => ⟨[.any, .any, .int .i64 (w : Int), .any, .any, .any, .any, .flt .f32 (facF r), .flt .f32 (pF (facF r) i.1), .flt .f32 (prF S (facF r) w i.1), .any, .any, .any, .any, .any, .ro (flts S), .int .i64 S.length, .int .i64 (i.1 : Int), .any, .any, .any, .any, .any, .any, .any, .any, .any, .any, .any, .any, .any, .any, .any, .any, .any], []⟩) (fun i => S.length - i.1) ⟨0, by omega⟩ ?_ ?_
  · have e : pF (facF r) 0 = 1065353216 := rfl
    have e2 : prF S (facF r) w 0 = 0 := rfl
    rw [e, e2]
    exact weak_drop (by simp) (by simp [DropHp, ints_below, flts_below, flts_len]) (by simp [DropTm, DropV, below, belowM, belowL, flts_len])
  rintro ⟨i, hi⟩
  simp only [Zu, Za, Zb, Zg, Zh, Zi, Zk, Zl, Zm, Zn, ↓reduceIte, reduceCtorEq, Zd, Ze, Zc, Zf, Z184, flts_len]
  refine br_intro (fun h => ?_) (fun h => ?_) <;> simp only [Zu, Za, Zb, Zg, Zh, Zi, Zk, Zl, Zm, Zn, ↓reduceIte, reduceCtorEq, Zd, Ze, Zc, Zf, Z184, flts_len]
  · have hi' : i < S.length := by have := of_decide_eq_true h; omega
    have ep : pF (facF r) (i + 1) = fmul .f32 (pF (facF r) i) (facF r) := rfl
    have ew := w64_succ i (by omega)
    refine ⟨hi', ?_⟩
    refine br_intro (fun g => ?_) (fun g => ?_) <;> simp only [Zu, Za, Zb, Zg, Zh, Zi, Zk, Zl, Zm, Zn, ↓reduceIte, reduceCtorEq, Zd, Ze, Zc, Zf, Z184, flts_len]
    · have hg : w ≤ i := by have := of_decide_eq_true g; omega
      have es : prF S (facF r) w (i + 1) = fadd .f32 (prF S (facF r) w i) (fmul .f32 S[i] (pF (facF r) i)) := by rw [prF, if_pos hg, getD_at S 0 i hi']
      refine ⟨⟨i + 1, by omega⟩, by show S.length - (i + 1) < S.length - i; omega, ?_⟩
      exact weak_drop (by simp) (by simp [DropHp, ints_below, flts_below, ep, es, ew]) (by simp [DropTm, DropV, below, belowM, belowL, ep, es, ew])
    · have hg : ¬ w ≤ i := by have := of_decide_eq_false g; omega
      have es : prF S (facF r) w (i + 1) = prF S (facF r) w i := by rw [prF, if_neg hg]
      refine ⟨⟨i + 1, by omega⟩, by show S.length - (i + 1) < S.length - i; omega, ?_⟩
      exact weak_drop (by simp) (by simp [DropHp, ints_below, flts_below, ep, es, ew]) (by simp [DropTm, DropV, below, belowM, belowL, ep, es, ew])
  · have hi' : i = S.length := by have := of_decide_eq_false h; omega
    subst hi'
    exact PostR.pure ⟨rfl, rfl⟩ rfl
def smF (S : List Nat) : Nat → Nat
  | 0 => 0
  | i + 1 => fadd .f32 (smF S i) (S.getD i 0)
def yrF (q : List Nat) : Nat := fsub .f32 (smF (alvL q) q.length) 1056964608
def valF (q : List Nat) (r w : Nat) : Nat := prF (alvL q) (facF r) w q.length
end Go.Proofs.YtodjjpmigcacoaaGreatDoor
