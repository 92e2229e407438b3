/- Saved ones that are recovered: both sides. -/
import Derived.Test.YtigipcckflcilaaGreatDoorReA
set_option maxRecDepth 10000
set_option maxHeartbeats 8000000
set_option linter.unusedSimpArgs false
set_option linter.unusedVariables false
namespace Go.Proofs.YtigipcckflcilaaGreatDoor
open Go Go.Abs

theorem blkS_drop (N : Nat) (L : List Sav) (x : Sav) (p q : Blk) (h : 1 + offS (L ++ [x]) ≤ N) : DropHp N ((blkS 1 L ++ (encR (offS L + 1) x.2.1 ++ [intB x.2.2]) ++ [p] ++ [q]).map fun q => { q with els := q.els.map (kill 0) }) (blkS 1 (L ++ [x])) := by
  rw [show blkS 1 L ++ (encR (offS L + 1) x.2.1 ++ [intB x.2.2]) = blkS 1 (L ++ [x]) by rw [blkS_snoc, Nat.add_comm 1], List.map_append, List.map_append, blkS_kill 0 _ 1 (by omega), List.append_assoc]
  exact dropHp_app (blkS_flat N _ 1 h)
def recA (q : List Sav × Nat) : AV := .tup [.sl 0 0 q.1.length, .int .i64 ((q.2 : Nat) : Int), .bool true]
theorem implRecoverAll_call (s : List UInt8) (hs : s.length ≤ 1048576) : CallA Tryz.prog 14 [.str s] [] (Ret (recA (recOf 8 s)) (encS 0 (recOf 8 s).1)) := by
  refine CallP.out (t := .mk) (go_in (md := md14) mixed Tryz.func14 rfl go14 (by kernel_rfl) ?_)
  simp only [q0, q1, q2, q3, q4, q5, q6, q7, q8, q9, zr0, zr1, zr2, zr3, zq0, zq1, zq2, zq3, zq4, Nat.reduceAdd, Nat.reduceSub, lenA, convA, indexA, indexS, Int.reduceToNat, cond_true, cond_false, ↓reduceIte, reduceCtorEq, Nat.reduceLT, Nat.reduceLeDiff, Nat.reduceMul, Nat.reduceEqDiff, exists_eq', implies_true, exists_true_left, tys0, tys1, tys2, und0, und1, md14, Tryz.ntmps14, Tryz.results14]
  refine go_round (md := md14) mixed (by kernel_rfl) (fun p : {p : List Sav × Nat // AtS s p.1 p.2} => ⟨[.str s, .any, .any, .any, .any, .sl 0 0 p.1.1.length, .int .i64 ((p.1.2 : Nat) : Int), .any, .any, .any, .any, .any, .any, .any, .any, .any, .any, .any, .any, .any, .any, .any, .any, .any, .any, .any, .any, .any, .any, .any, .any, .any, .any], encS 0 p.1.1⟩) (fun p => 8 - p.1.1.length) ⟨([], 0), atS_0 s⟩ ?_ ?_
  · refine weak_same (by simp [encS, elsS, blkS, savB]) ?_
    simp [SameTm]
  rintro ⟨⟨L, a⟩, hA⟩
  dsimp only at hA ⊢
  have ha := hA.le
  have h8 := hA.le8
  have ll := elsS_len L 1
  simp only [q0, q1, q2, q3, q4, q5, q6, q7, q8, q9, zr0, zr1, zr2, zr3, zq0, zq1, zq2, zq3, zq4, Nat.reduceAdd, Nat.reduceSub, lenA, convA, indexA, indexS, Int.reduceToNat, cond_true, cond_false, ↓reduceIte, reduceCtorEq, Nat.reduceLT, Nat.reduceLeDiff, Nat.reduceMul, Nat.reduceEqDiff, exists_eq', implies_true, exists_true_left, tys0, tys1, tys2, und0, und1, md14, Tryz.ntmps14, Tryz.results14, encS, savB, ll]
  refine br_intro (fun g => ?_) (fun g => ?_) <;> simp only [q0, q1, q2, q3, q4, q5, q6, q7, q8, q9, zr0, zr1, zr2, zr3, zq0, zq1, zq2, zq3, zq4, Nat.reduceAdd, Nat.reduceSub, lenA, convA, indexA, indexS, Int.reduceToNat, cond_true, cond_false, ↓reduceIte, reduceCtorEq, Nat.reduceLT, Nat.reduceLeDiff, Nat.reduceMul, Nat.reduceEqDiff, exists_eq', implies_true, exists_true_left, tys0, tys1, tys2, und0, und1, md14, Tryz.ntmps14, Tryz.results14, encS, savB, ll]
  · have g : L.length < 8 := by have := of_decide_eq_true g; omega
    rw [List.take_length]
    refine ⟨by omega, by omega, ?_⟩
    have ld := loaded_call (s.drop a) (by rw [List.length_drop]; omega)
    cases hb : beginOf (s.drop a) with
    | none =>
      rw [hb] at ld
      refine call_ret (r := .tup [sav0, .int .i64 0, .bool false]) ld rfl rfl ?_
      simp only [q0, q1, q2, q3, q4, q5, q6, q7, q8, q9, zr0, zr1, zr2, zr3, zq0, zq1, zq2, zq3, zq4, Nat.reduceAdd, Nat.reduceSub, lenA, convA, indexA, indexS, Int.reduceToNat, cond_true, cond_false, ↓reduceIte, reduceCtorEq, Nat.reduceLT, Nat.reduceLeDiff, Nat.reduceMul, Nat.reduceEqDiff, exists_eq', implies_true, exists_true_left, tys0, tys1, tys2, und0, und1, md14, Tryz.ntmps14, Tryz.results14, sav0, get_last, set_last]
      rw [hA.stop hb]
      exact PostR.drop (recA (L, a)) (encS 0 L) (Nat.zero_le _) ⟨⟨rfl, fun _ => ⟨rfl, rfl, rfl, elsS_below _ _ _ (by rw [encS_len]; omega)⟩⟩, dropHp_app (blkS_flat _ _ _ (by rw [encS_len]; omega))⟩ (by simp [DropV, recA, below, belowM, belowL, encS_len, show ∀ k, 0 < 1 + k from fun k => by omega]) ⟨rfl, rfl⟩
    | some q =>
      obtain ⟨x, n⟩ := q
      rw [hb] at ld
      obtain ⟨nx, n1⟩ := hA.next hs g hb
      have nl := nx.le
      refine call_joined (r := .tup [.agg [.str x.1, .sl 0 0 x.2.1.length, .sl (x.2.1.length + 1) 0 x.2.2.length], .int .i64 ((n : Nat) : Int), .bool true]) (new := encR 0 x.2.1 ++ [intB x.2.2]) ld rfl ?_
      unfold joinHp
      rw [List.map_append, encR_ren, List.map_cons, List.map_nil, renB_flat (ints_below _ _), List.length_cons, blkS_len, Nat.zero_add]
      simp only [q0, q1, q2, q3, q4, q5, q6, q7, q8, q9, zr0, zr1, zr2, zr3, zq0, zq1, zq2, zq3, zq4, Nat.reduceAdd, Nat.reduceSub, lenA, convA, indexA, indexS, Int.reduceToNat, cond_true, cond_false, ↓reduceIte, reduceCtorEq, Nat.reduceLT, Nat.reduceLeDiff, Nat.reduceMul, Nat.reduceEqDiff, exists_eq', implies_true, exists_true_left, tys0, tys1, tys2, und0, und1, md14, Tryz.ntmps14, Tryz.results14, ren, renM, renL, get_last, set_last, allW_int, fits, List.isEmpty_cons, brk_false, Nat.reduceMul]
      have w2 : IntKind.i64.wrap ((a : Int) + (n : Int)) = ((a + n : Nat) : Int) := by rw [w64 (by omega) (by omega)]; omega
      refine ⟨by rw [ll], fun v hv => (by rw [List.mem_singleton.1 hv]; exact ⟨rfl, rfl⟩), by omega, ⟨(L ++ [x], a + n), nx⟩, by show 8 - (L ++ [x]).length < _; rw [List.length_append]; simp; omega, ?_⟩
      have ev : AV.agg [.str x.1, .sl (offS L + 1) 0 x.2.1.length, .sl (x.2.1.length + 1 + (offS L + 1)) 0 x.2.2.length] = savN (1 + offS L) x := by
        unfold savN
        rw [Nat.add_comm 1, show x.2.1.length + 1 + (offS L + 1) = offS L + 1 + 1 + x.2.1.length by omega]
      have ek : List.map (kill 0) (elsS 1 L ++ [AV.agg [.str x.1, .sl (offS L + 1) 0 x.2.1.length, .sl (x.2.1.length + 1 + (offS L + 1)) 0 x.2.2.length]]) = elsS 1 (L ++ [x]) := by
        rw [ev, ← elsS_snoc, elsS_kill 0 _ 1 (by omega)]
      rw [ek, w2]
      show Weak 0 _ ⟨_, encS 0 (L ++ [x])⟩
      refine weak_drop (Nat.zero_le _) ⟨⟨rfl, fun _ => ⟨rfl, rfl, rfl, elsS_below _ _ _ (by rw [encS_len]; omega)⟩⟩, blkS_drop _ L x _ _ (by rw [encS_len]; omega)⟩ ?_
      simp [DropTm, DropV, below, belowM, belowL, encS_len, show ∀ k, 0 < 1 + k from fun k => by omega]
  · have g : ¬ L.length < 8 := by have := of_decide_eq_false g; omega
    rw [hA.full g]
    exact PostR.ret
theorem savs_below (N : Nat) (L : List Sav) : allBelow N (L.map savA) = true := by
  simp only [allBelow, List.all_eq_true]
  intro v hv
  obtain ⟨x, _, rfl⟩ := List.mem_map.1 hv
  simp [savA, below, belowM, belowL]
end Go.Proofs.YtigipcckflcilaaGreatDoor
