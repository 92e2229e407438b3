/- What is loaded, from both sides. -/
import Derived.Test.YtigipcckflcilaaGreatDoorLdD
set_option maxRecDepth 10000
set_option maxHeartbeats 4000000
set_option linter.unusedSimpArgs false
set_option linter.unusedVariables false
namespace Go.Proofs.YtigipcckflcilaaGreatDoor
open Go Go.Abs

def loadOf (s : List UInt8) : Option Sav := match beginOf s with
  | some (x, n) => if n = s.length then some x else none
  | none => none
def savM (x : Sav) : AV := .agg [.str x.1, .sl 0 0 x.2.1.length, .sl (x.2.1.length + 1) 0 x.2.2.length]
def ldaA (o : Option Sav) : AV := match o with
  | some x => .tup [savM x, .bool true]
  | none => .tup [sav0, .bool false]
def ldaH (o : Option Sav) : List Blk := match o with
  | some x => encR 0 x.2.1 ++ [intB x.2.2]
  | none => []
theorem begin_is {s : List UInt8} {x : Sav} {n : Nat} (h : beginOf s = some (x, n)) : n = size s ∧ size s ≤ s.length ∧ validB x = true := by
  unfold beginOf at h
  split at h
  · rename_i hs
    split at h
    · cases h
    · split at h
      · rename_i hv
        cases h
        exact ⟨rfl, hs, hv.1⟩
      · cases h
  · cases h
theorem ldaH_flat (x : Sav) : ∀ q ∈ encR 0 x.2.1 ++ [intB x.2.2], allBelow (encR 0 x.2.1 ++ [intB x.2.2]).length q.els = true := fun q hq => by
  have hl : (encR 0 x.2.1 ++ [intB x.2.2]).length = x.2.1.length + 2 := by rw [List.length_append, encR_len]; rfl
  rw [hl]
  rcases List.mem_append.1 hq with m | m
  · exact encR_flat (by omega) q m
  · rw [List.mem_singleton.1 m]; exact ints_below _ _
theorem PostR_mid {r2 : AV} {Q : AV → List Blk → Prop} (A H T : List Blk) (hf : ∀ q ∈ H, allBelow H.length q.els = true) (hb : below H.length r2 = true) (h : Q r2 H) : PostR 0 (ren (fun b => b + A.length) r2) (A ++ (H.map (renB fun b => b + A.length) ++ T)) Q :=
  PostR.names (fun b => b + A.length) r2 H (.inr ⟨rfl, hb⟩)
    { len := rfl, hn0 := Nat.zero_le _, low := fun b hb => absurd hb (Nat.not_lt_zero _), inj := fun b b' _ _ h => by omega
      blk := fun b r hr => ⟨renB (fun b => b + A.length) r, by
        rw [List.getElem?_append_right (by omega), show b + A.length - A.length = b by omega, List.getElem?_append_left (by rw [List.length_map]; exact (List.getElem?_eq_some_iff.1 hr).1), List.getElem?_map, hr]
        rfl, rfl, fun hl => ⟨hl, rfl, rfl, fun e he => by
          have := hf r (List.mem_of_getElem? hr)
          simp only [allBelow, List.all_eq_true] at this
          exact this e he⟩⟩ } h
theorem load_end (x : Sav) (a b : Blk) : PostR 0 (.tup [.agg [.str x.1, .sl 1 0 x.2.1.length, .sl (x.2.1.length + 1 + 1) 0 x.2.2.length], .bool true]) (a :: (encR 1 x.2.1 ++ [intB x.2.2] ++ [b])) (Ret (ldaA (some x)) (ldaH (some x))) := by
  have hl : (encR 0 x.2.1 ++ [intB x.2.2]).length = x.2.1.length + 2 := by rw [List.length_append, encR_len]; rfl
  have := PostR_mid (r2 := ldaA (some x)) (Q := Ret (ldaA (some x)) (ldaH (some x))) [a] (encR 0 x.2.1 ++ [intB x.2.2]) [b] (ldaH_flat x) (by simp [ldaA, savM, below, belowM, belowL, hl]) ⟨rfl, rfl⟩
  rw [List.map_append, encR_ren] at this
  have e1 : ren (fun x => x + [a].length) (ldaA (some x)) = .tup [.agg [.str x.1, .sl 1 0 x.2.1.length, .sl (x.2.1.length + 2) 0 x.2.2.length], .bool true] := by
    simp [ldaA, savM, ren, renM, renL]
  have e2 : [intB x.2.2].map (renB fun x => x + [a].length) = [intB x.2.2] := by
    rw [List.map_cons, List.map_nil, renB_flat (ints_below _ _)]
  rw [e1, e2] at this
  exact this
theorem implLoadSaved_call (s : List UInt8) (hs : s.length ≤ 1048576) : CallA Tryz.prog 10 [.str s] [] (Ret (ldaA (loadOf s)) (ldaH (loadOf s))) := by
  refine CallP.out (t := .mk) (go_in (md := md10) mixed Tryz.func10 rfl go10 (by kernel_rfl) ?_)
  simp only [q0, q1, q2, q3, q4, q5, q6, q7, q8, q9, zr0, zr1, zr2, zr3, zq0, zq1, zq2, zq3, zq4, Nat.reduceAdd, Nat.reduceSub, lenA, convA, indexA, indexS, Int.reduceToNat, cond_true, cond_false, ↓reduceIte, reduceCtorEq, Nat.reduceLT, Nat.reduceLeDiff, Nat.reduceMul, Nat.reduceEqDiff, exists_eq', implies_true, exists_true_left, tys0, tys1, tys2, und0, und1, md10, Tryz.ntmps10, Tryz.results10]
  have ld := loaded_call s hs
  unfold loadOf
  cases hb : beginOf s with
  | none =>
    rw [hb] at ld
    refine call_ret (r := .tup [sav0, .int .i64 0, .bool false]) ld rfl rfl ?_
    simp only [q0, q1, q2, q3, q4, q5, q6, q7, q8, q9, zr0, zr1, zr2, zr3, zq0, zq1, zq2, zq3, zq4, Nat.reduceAdd, Nat.reduceSub, lenA, convA, indexA, indexS, Int.reduceToNat, cond_true, cond_false, ↓reduceIte, reduceCtorEq, Nat.reduceLT, Nat.reduceLeDiff, Nat.reduceMul, Nat.reduceEqDiff, exists_eq', implies_true, exists_true_left, tys0, tys1, tys2, und0, und1, md10, Tryz.ntmps10, Tryz.results10, sav0]
    exact PostR.pure ⟨rfl, rfl⟩ rfl
  | some q =>
    obtain ⟨x, n⟩ := q
    obtain ⟨rfl, hn, hv⟩ := begin_is hb
    rw [hb] at ld
    refine call_joined (r := .tup [.agg [.str x.1, .sl 0 0 x.2.1.length, .sl (x.2.1.length + 1) 0 x.2.2.length], .int .i64 ((size s : Nat) : Int), .bool true]) (new := encR 0 x.2.1 ++ [intB x.2.2]) ld rfl ?_
    unfold joinHp
    rw [List.map_append, encR_ren, List.map_cons, List.map_nil, renB_flat (ints_below _ _)]
    simp only [q0, q1, q2, q3, q4, q5, q6, q7, q8, q9, zr0, zr1, zr2, zr3, zq0, zq1, zq2, zq3, zq4, Nat.reduceAdd, Nat.reduceSub, lenA, convA, indexA, indexS, Int.reduceToNat, cond_true, cond_false, ↓reduceIte, reduceCtorEq, Nat.reduceLT, Nat.reduceLeDiff, Nat.reduceMul, Nat.reduceEqDiff, exists_eq', implies_true, exists_true_left, tys0, tys1, tys2, und0, und1, md10, Tryz.ntmps10, Tryz.results10, ren, renM, renL, get_last, set_last]
    refine br_intro (fun c => ?_) (fun c => ?_) <;> simp only [q0, q1, q2, q3, q4, q5, q6, q7, q8, q9, zr0, zr1, zr2, zr3, zq0, zq1, zq2, zq3, zq4, Nat.reduceAdd, Nat.reduceSub, lenA, convA, indexA, indexS, Int.reduceToNat, cond_true, cond_false, ↓reduceIte, reduceCtorEq, Nat.reduceLT, Nat.reduceLeDiff, Nat.reduceMul, Nat.reduceEqDiff, exists_eq', implies_true, exists_true_left, tys0, tys1, tys2, und0, und1, md10, Tryz.ntmps10, Tryz.results10, get_last, set_last]
    · rw [if_neg (by intro e; rw [e] at c; simp at c)]
      exact PostR.pure ⟨rfl, rfl⟩ rfl
    · rw [if_pos (by have := bne_eq_false_iff_eq.1 c; omega)]
      exact load_end x _ _
end Go.Proofs.YtigipcckflcilaaGreatDoor
