/- The law on what is stored, cut and bent. -/
import Derived.Test.YtigipcckflcilaaGreatDoorSdB
import Derived.Test.YtigipcckflcilaaGreatDoorSdC
set_option maxRecDepth 10000
set_option maxHeartbeats 16000000
set_option linter.unusedSimpArgs false
set_option linter.unusedVariables false
namespace Go.Proofs.YtigipcckflcilaaGreatDoor
open Go Go.Abs

def endL (L : List Sav) (i : Nat) : List Int := (List.range (i + 1)).map fun j => (((allT (L.take j)).length : Nat) : Int)
def endB (L : List Sav) (i : Nat) : Blk := { ty := 3, w := 1, els := ints (endL L i) }
theorem endL_len (L : List Sav) (i : Nat) : (endL L i).length = i + 1 := by simp [endL]
theorem endL_succ (L : List Sav) (i : Nat) : endL L (i + 1) = endL L i ++ [(((allT (L.take (i + 1))).length : Nat) : Int)] := by
  unfold endL
  rw [List.range_succ (n := i + 1), List.map_append]
  rfl
theorem endL_get (L : List Sav) (i j : Nat) (h : j < (endL L i).length) : (endL L i)[j] = (((allT (L.take j)).length : Nat) : Int) := by simp [endL]
theorem u8w (z : Int) : 0 ≤ IntKind.u8.wrap z ∧ IntKind.u8.wrap z ≤ 255 := by
  unfold IntKind.wrap
  simp [IntKind.bits, IntKind.signed]
  omega
theorem savedDues_list (cd m : List Int) (hc : byteL cd) (hm : byteL m) (l1 : cd.length ≤ 1048576) (l2 : m.length ≤ 1048576) (big : (decide (1048576 < (cd.length : Int)) || decide (1048576 < (m.length : Int))) = false) : CallA Tryz.prog 3 [.ro (kint .u8 cd), .ro (kint .u8 m)] [] (Ret (.bool true) []) := by
  have bl := b10Long_call cd m
  rw [big] at bl
  refine CallP.out (t := .mk) (go_in (md := md3) mixed Tryz.func3 rfl go3 (by kernel_rfl) ?_)
  simp only [q0, q1, q2, q3, q4, q5, q6, q7, q8, q9, zr0, zr1, zr2, zr3, zq0, zq1, zq2, zq3, zq4, Nat.reduceAdd, Nat.reduceSub, lenA, convA, convB, convO, indexA, indexS, sliceA, Int.reduceToNat, cond_true, cond_false, ↓reduceIte, reduceCtorEq, Nat.reduceLT, Nat.reduceLeDiff, Nat.reduceMul, Nat.reduceEqDiff, exists_eq', implies_true, exists_true_left, tys0, tys1, tys2, und0, und1, md3, Tryz.ntmps3, Tryz.results3]
  refine call_ret bl rfl rfl ?_
  simp only [q0, q1, q2, q3, q4, q5, q6, q7, q8, q9, zr0, zr1, zr2, zr3, zq0, zq1, zq2, zq3, zq4, Nat.reduceAdd, Nat.reduceSub, lenA, convA, convB, convO, indexA, indexS, sliceA, Int.reduceToNat, cond_true, cond_false, ↓reduceIte, reduceCtorEq, Nat.reduceLT, Nat.reduceLeDiff, Nat.reduceMul, Nat.reduceEqDiff, exists_eq', implies_true, exists_true_left, tys0, tys1, tys2, und0, und1, md3, Tryz.ntmps3, Tryz.results3]
  refine call_by (b10Saved_call cd hc l1) ?_
  rintro r hp ⟨L, hL, h4, rfl, rfl⟩
  have tl : ∀ i, (allT (L.take i)).length ≤ 24800 := fun i => by
    have := allT_len (L.take i) (fun x hx => hL x (List.mem_of_mem_take hx))
    have : (L.take i).length ≤ 4 := by rw [List.length_take]; omega
    omega
  have tL := tl L.length
  rw [List.take_length] at tL
  simp only [q0, q1, q2, q3, q4, q5, q6, q7, q8, q9, zr0, zr1, zr2, zr3, zq0, zq1, zq2, zq3, zq4, Nat.reduceAdd, Nat.reduceSub, lenA, convA, convB, convO, indexA, indexS, sliceA, Int.reduceToNat, cond_true, cond_false, ↓reduceIte, reduceCtorEq, Nat.reduceLT, Nat.reduceLeDiff, Nat.reduceMul, Nat.reduceEqDiff, exists_eq', implies_true, exists_true_left, tys0, tys1, tys2, und0, und1, md3, Tryz.ntmps3, Tryz.results3, List.length_map]
  refine go_round (md := md3) mixed (by kernel_rfl) (fun i : {i : Nat // i ≤ L.length} => ⟨[.any, .ro (kint .u8 m), .any, .any, .any, .ro (L.map savA), .sl 0 0 (i.1 + 1), .any, .any, .any, .any, .any, .any, .any, .any, .any, .any, .any, .any, .any, .any, .any, .any, .any, .any, .any, .any, .any, .any, .any, .any, .any, .any, .any, .any, .int .i64 L.length, .int .i64 i.1, .any, .any, .any, .any, .any, .any, .any, .any, .any, .any, .any, .any, .any, .any, .any, .any, .any, .any, .any, .any, .any, .any, .any, .any, .any, .any, .any, .any, .any, .any, .any, .any, .any, .any, .any, .any, .any, .any, .any, .any, .any, .any, .any, .any, .any, .any, .any, .any, .any, .any, .any, .any, .any, .any, .any, .any, .any, .any, .any, .any, .any, .any, .any, .any, .any, .any, .any, .any, .any, .any, .any, .any, .any, .any, .any, .any, .any, .any, .any, .any, .any, .any, .any, .any, .any, .any, .any, .any, .any, .any, .any, .any, .any, .any, .any, .any, .any, .any, .any, .any, .any, .any, .any, .any, .any, .any, .any, .any, .any, .any, .any, .any, .any, .any, .any, .any, .any, .any, .any, .any, .any, .any, .any, .any, .any, .any, .any, .any, .any, .any, .any, .any, .any, .any, .any, .any, .any, .any, .any, .any, .any, .any, .any, .any, .any, .any, .any, .any, .any, .any, .any, .any, .any, .any, .any, .any, .any, .any, .any, .any, .any, .any, .any, .any, .any, .any, .any, .any, .any, .any, .any, .any, .any, .any, .any, .any, .any, .any, .any, .any, .any, .any, .any, .any, .any, .any, .any, .any, .any, .any, .any, .any, .any, .any, .any], [endB L i.1]⟩) (fun i => L.length - i.1) ⟨0, Nat.zero_le _⟩ ?_ ?_
  · exact weak_drop (by simp) (by simp [DropHp, ints_below, flts_below, endB, endL, ints, allT, allBelow_cons, allBelow_nil, below, belowM, belowL]) (by simp [DropTm, DropV, below, belowM, belowL, endB, endL, ints, allT, allBelow_cons, allBelow_nil, below, belowM, belowL])
  rintro ⟨i, hi⟩
  dsimp only
  simp only [q0, q1, q2, q3, q4, q5, q6, q7, q8, q9, zr0, zr1, zr2, zr3, zq0, zq1, zq2, zq3, zq4, Nat.reduceAdd, Nat.reduceSub, lenA, convA, convB, convO, indexA, indexS, sliceA, Int.reduceToNat, cond_true, cond_false, ↓reduceIte, reduceCtorEq, Nat.reduceLT, Nat.reduceLeDiff, Nat.reduceMul, Nat.reduceEqDiff, exists_eq', implies_true, exists_true_left, tys0, tys1, tys2, und0, und1, md3, Tryz.ntmps3, Tryz.results3, List.length_map, List.getElem_map, endB, ints_len, endL_len]
  refine br_intro (fun g => ?_) (fun g => ?_) <;> simp only [q0, q1, q2, q3, q4, q5, q6, q7, q8, q9, zr0, zr1, zr2, zr3, zq0, zq1, zq2, zq3, zq4, Nat.reduceAdd, Nat.reduceSub, lenA, convA, convB, convO, indexA, indexS, sliceA, Int.reduceToNat, cond_true, cond_false, ↓reduceIte, reduceCtorEq, Nat.reduceLT, Nat.reduceLeDiff, Nat.reduceMul, Nat.reduceEqDiff, exists_eq', implies_true, exists_true_left, tys0, tys1, tys2, und0, und1, md3, Tryz.ntmps3, Tryz.results3, List.length_map, List.getElem_map, endB, ints_len, endL_len]
  · have g : i < L.length := by have := of_decide_eq_true g; omega
    have gi : (i : Int) < (L.length : Int) := by omega
    have hv := hL _ (List.getElem_mem g)
    have sl := storeT_len (okS_of hv)
    have t1 := implStoreN hv
    have t2 := implLoadN hv (by omega)
    have t3 := validSaved_call L[i] (by have := sizS_valid hv; omega)
    rw [hv] at t3
    have t4 := implSameN (L := [L[i]]) (fun x hx => by rw [List.mem_singleton.1 hx]; exact hv) (by simp)
    have c3 : ∀ B C : Blk, CallA Tryz.prog 11 [savA L[i]] [B, C] (Ret (.bool true) [B, C]) := fun B C => call_view 3 (by rw [List.map_cons, List.map_nil, sav_view]; exact t3) rfl rfl
    have c4 : ∀ B C : Blk, CallA Tryz.prog 12 [.ro [savA L[i]], .ro [savA L[i]]] [B, C] (Ret (.bool true) [B, C]) := fun B C => call_view 3 t4 rfl rfl
    have sn : (allT (L.take (i + 1))).length = (allT (L.take i)).length + (storeT L[i]).length := by rw [allT_take L i g, List.length_append]
    have ti := tl i
    unfold savA at t1 t2 c3 c4
    simp only [q0, q1, q2, q3, q4, q5, q6, q7, q8, q9, zr0, zr1, zr2, zr3, zq0, zq1, zq2, zq3, zq4, Nat.reduceAdd, Nat.reduceSub, lenA, convA, convB, convO, indexA, indexS, sliceA, Int.reduceToNat, cond_true, cond_false, ↓reduceIte, reduceCtorEq, Nat.reduceLT, Nat.reduceLeDiff, Nat.reduceMul, Nat.reduceEqDiff, exists_eq', implies_true, exists_true_left, tys0, tys1, tys2, und0, und1, md3, Tryz.ntmps3, Tryz.results3, List.length_map, List.getElem_map, savA, g, gi, endB, ints_len, endL_len]
    refine call_ret t1 rfl rfl ?_
    simp only [q0, q1, q2, q3, q4, q5, q6, q7, q8, q9, zr0, zr1, zr2, zr3, zq0, zq1, zq2, zq3, zq4, Nat.reduceAdd, Nat.reduceSub, lenA, convA, convB, convO, indexA, indexS, sliceA, Int.reduceToNat, cond_true, cond_false, ↓reduceIte, reduceCtorEq, Nat.reduceLT, Nat.reduceLeDiff, Nat.reduceMul, Nat.reduceEqDiff, exists_eq', implies_true, exists_true_left, tys0, tys1, tys2, und0, und1, md3, Tryz.ntmps3, Tryz.results3, List.length_map, List.getElem_map, savA, g, gi, endB, ints_len, endL_len]
    refine call_ret t2 rfl rfl ?_
    simp only [q0, q1, q2, q3, q4, q5, q6, q7, q8, q9, zr0, zr1, zr2, zr3, zq0, zq1, zq2, zq3, zq4, Nat.reduceAdd, Nat.reduceSub, lenA, convA, convB, convO, indexA, indexS, sliceA, Int.reduceToNat, cond_true, cond_false, ↓reduceIte, reduceCtorEq, Nat.reduceLT, Nat.reduceLeDiff, Nat.reduceMul, Nat.reduceEqDiff, exists_eq', implies_true, exists_true_left, tys0, tys1, tys2, und0, und1, md3, Tryz.ntmps3, Tryz.results3, List.length_map, List.getElem_map, savA, g, gi, endB, ints_len, endL_len]
    refine go_late mixed 10 1 (by rfl) (List.range 25) (List.replicate 25 false) (List.replicate 25 false) (by kernel_rfl) ?_
    iterate 11 (refine ol_quiet (by rfl) (by rfl) (by rfl) (by rfl) ?_; simp only [q0, q1, q2, q3, q4, q5, q6, q7, q8, q9, zr0, zr1, zr2, zr3, zq0, zq1, zq2, zq3, zq4, Nat.reduceAdd, Nat.reduceSub, lenA, convA, convB, convO, indexA, indexS, sliceA, Int.reduceToNat, cond_true, cond_false, ↓reduceIte, reduceCtorEq, Nat.reduceLT, Nat.reduceLeDiff, Nat.reduceMul, Nat.reduceEqDiff, exists_eq', implies_true, exists_true_left, tys0, tys1, tys2, und0, und1, md3, Tryz.ntmps3, Tryz.results3, List.length_map, List.getElem_map, savA, g, gi, endB, ints_len, endL_len])
    refine ol_call (by rfl) (by rfl) (by rfl) (by rfl) (by rfl) (by rfl) (c3 _ _) ?_
    simp only [q0, q1, q2, q3, q4, q5, q6, q7, q8, q9, zr0, zr1, zr2, zr3, zq0, zq1, zq2, zq3, zq4, Nat.reduceAdd, Nat.reduceSub, lenA, convA, convB, convO, indexA, indexS, sliceA, Int.reduceToNat, cond_true, cond_false, ↓reduceIte, reduceCtorEq, Nat.reduceLT, Nat.reduceLeDiff, Nat.reduceMul, Nat.reduceEqDiff, exists_eq', implies_true, exists_true_left, tys0, tys1, tys2, und0, und1, md3, Tryz.ntmps3, Tryz.results3, List.length_map, List.getElem_map, savA, g, gi, endB, ints_len, endL_len]
    iterate 4 (refine ol_quiet (by rfl) (by rfl) (by rfl) (by rfl) ?_; simp only [q0, q1, q2, q3, q4, q5, q6, q7, q8, q9, zr0, zr1, zr2, zr3, zq0, zq1, zq2, zq3, zq4, Nat.reduceAdd, Nat.reduceSub, lenA, convA, convB, convO, indexA, indexS, sliceA, Int.reduceToNat, cond_true, cond_false, ↓reduceIte, reduceCtorEq, Nat.reduceLT, Nat.reduceLeDiff, Nat.reduceMul, Nat.reduceEqDiff, exists_eq', implies_true, exists_true_left, tys0, tys1, tys2, und0, und1, md3, Tryz.ntmps3, Tryz.results3, List.length_map, List.getElem_map, savA, g, gi, endB, ints_len, endL_len])
    refine ol_fresh (by rfl) (by rfl) (by rfl) (by rfl) { ty := 32, w := 3, els := [.agg [.str L[i].1, .ro (L[i].2.1.map rulA), .ro (ints L[i].2.2)]] } 3 (.sl 0 0 1) rfl rfl ?_ rfl ?_ ?_
    · intro b hb'
      have hb2 : b ∈ [{ ty := 3, w := 1, els := ints (endL L i) }, { ty := 32, w := 3, els := [.agg [.str L[i].1, .ro (L[i].2.1.map rulA), .ro (ints L[i].2.2)]] }] := hb'
      simp only [List.mem_cons, List.not_mem_nil, or_false] at hb2
      rcases hb2 with rfl | rfl
      · exact ints_below _ _
      · rfl
    · simp only [q0, q1, q2, q3, q4, q5, q6, q7, q8, q9, zr0, zr1, zr2, zr3, zq0, zq1, zq2, zq3, zq4, Nat.reduceAdd, Nat.reduceSub, lenA, convA, convB, convO, indexA, indexS, sliceA, Int.reduceToNat, cond_true, cond_false, ↓reduceIte, reduceCtorEq, Nat.reduceLT, Nat.reduceLeDiff, Nat.reduceMul, Nat.reduceEqDiff, exists_eq', implies_true, exists_true_left, tys0, tys1, tys2, und0, und1, md3, Tryz.ntmps3, Tryz.results3]
      rfl
    rw [show view 3 [({ ty := 32, w := 3, els := [.agg [.str L[i].1, .ro (L[i].2.1.map rulA), .ro (ints L[i].2.2)]] } : Blk)] (.sl 0 0 1) = .ro [.agg [.str L[i].1, .ro (L[i].2.1.map rulA), .ro (ints L[i].2.2)]] from rfl]
    simp only [q0, q1, q2, q3, q4, q5, q6, q7, q8, q9, zr0, zr1, zr2, zr3, zq0, zq1, zq2, zq3, zq4, Nat.reduceAdd, Nat.reduceSub, lenA, convA, convB, convO, indexA, indexS, sliceA, Int.reduceToNat, cond_true, cond_false, ↓reduceIte, reduceCtorEq, Nat.reduceLT, Nat.reduceLeDiff, Nat.reduceMul, Nat.reduceEqDiff, exists_eq', implies_true, exists_true_left, tys0, tys1, tys2, und0, und1, md3, Tryz.ntmps3, Tryz.results3, List.length_map, List.getElem_map, savA, g, gi, endB, ints_len, endL_len]
    iterate 4 (refine ol_quiet (by rfl) (by rfl) (by rfl) (by rfl) ?_; simp only [q0, q1, q2, q3, q4, q5, q6, q7, q8, q9, zr0, zr1, zr2, zr3, zq0, zq1, zq2, zq3, zq4, Nat.reduceAdd, Nat.reduceSub, lenA, convA, convB, convO, indexA, indexS, sliceA, Int.reduceToNat, cond_true, cond_false, ↓reduceIte, reduceCtorEq, Nat.reduceLT, Nat.reduceLeDiff, Nat.reduceMul, Nat.reduceEqDiff, exists_eq', implies_true, exists_true_left, tys0, tys1, tys2, und0, und1, md3, Tryz.ntmps3, Tryz.results3, List.length_map, List.getElem_map, savA, g, gi, endB, ints_len, endL_len])
    refine ol_fresh (by rfl) (by rfl) (by rfl) (by rfl) { ty := 32, w := 3, els := [.agg [.str L[i].1, .ro (L[i].2.1.map rulA), .ro (ints L[i].2.2)]] } 3 (.sl 0 0 1) rfl rfl ?_ rfl ?_ ?_
    · intro b hb'
      have hb2 : b ∈ [{ ty := 3, w := 1, els := ints (endL L i) }, { ty := 32, w := 3, els := [.agg [.str L[i].1, .ro (L[i].2.1.map rulA), .ro (ints L[i].2.2)]] }] := hb'
      simp only [List.mem_cons, List.not_mem_nil, or_false] at hb2
      rcases hb2 with rfl | rfl
      · exact ints_below _ _
      · rfl
    · simp only [q0, q1, q2, q3, q4, q5, q6, q7, q8, q9, zr0, zr1, zr2, zr3, zq0, zq1, zq2, zq3, zq4, Nat.reduceAdd, Nat.reduceSub, lenA, convA, convB, convO, indexA, indexS, sliceA, Int.reduceToNat, cond_true, cond_false, ↓reduceIte, reduceCtorEq, Nat.reduceLT, Nat.reduceLeDiff, Nat.reduceMul, Nat.reduceEqDiff, exists_eq', implies_true, exists_true_left, tys0, tys1, tys2, und0, und1, md3, Tryz.ntmps3, Tryz.results3]
      rfl
    rw [show view 3 [({ ty := 32, w := 3, els := [.agg [.str L[i].1, .ro (L[i].2.1.map rulA), .ro (ints L[i].2.2)]] } : Blk)] (.sl 0 0 1) = .ro [.agg [.str L[i].1, .ro (L[i].2.1.map rulA), .ro (ints L[i].2.2)]] from rfl]
    simp only [q0, q1, q2, q3, q4, q5, q6, q7, q8, q9, zr0, zr1, zr2, zr3, zq0, zq1, zq2, zq3, zq4, Nat.reduceAdd, Nat.reduceSub, lenA, convA, convB, convO, indexA, indexS, sliceA, Int.reduceToNat, cond_true, cond_false, ↓reduceIte, reduceCtorEq, Nat.reduceLT, Nat.reduceLeDiff, Nat.reduceMul, Nat.reduceEqDiff, exists_eq', implies_true, exists_true_left, tys0, tys1, tys2, und0, und1, md3, Tryz.ntmps3, Tryz.results3, List.length_map, List.getElem_map, savA, g, gi, endB, ints_len, endL_len]
    refine ol_call (by rfl) (by rfl) (by rfl) (by rfl) (by rfl) (by rfl) (c4 _ _) ?_
    simp only [q0, q1, q2, q3, q4, q5, q6, q7, q8, q9, zr0, zr1, zr2, zr3, zq0, zq1, zq2, zq3, zq4, Nat.reduceAdd, Nat.reduceSub, lenA, convA, convB, convO, indexA, indexS, sliceA, Int.reduceToNat, cond_true, cond_false, ↓reduceIte, reduceCtorEq, Nat.reduceLT, Nat.reduceLeDiff, Nat.reduceMul, Nat.reduceEqDiff, exists_eq', implies_true, exists_true_left, tys0, tys1, tys2, und0, und1, md3, Tryz.ntmps3, Tryz.results3, List.length_map, List.getElem_map, savA, g, gi, endB, ints_len, endL_len]
    iterate 2 (refine ol_quiet (by rfl) (by rfl) (by rfl) (by rfl) ?_; simp only [q0, q1, q2, q3, q4, q5, q6, q7, q8, q9, zr0, zr1, zr2, zr3, zq0, zq1, zq2, zq3, zq4, Nat.reduceAdd, Nat.reduceSub, lenA, convA, convB, convO, indexA, indexS, sliceA, Int.reduceToNat, cond_true, cond_false, ↓reduceIte, reduceCtorEq, Nat.reduceLT, Nat.reduceLeDiff, Nat.reduceMul, Nat.reduceEqDiff, exists_eq', implies_true, exists_true_left, tys0, tys1, tys2, und0, und1, md3, Tryz.ntmps3, Tryz.results3, List.length_map, List.getElem_map, savA, g, gi, endB, ints_len, endL_len])
    refine ol_nil ?_
    have w1 : IntKind.i64.wrap (((i + 1 : Nat) : Int) - 1) = (i : Int) := by rw [w64 (by omega) (by omega)]; omega
    have w2 : IntKind.i64.wrap ((((allT (L.take i)).length : Nat) : Int) + (((storeT L[i]).length : Nat) : Int)) = (((allT (L.take (i + 1))).length : Nat) : Int) := by rw [w64 (by omega) (by omega), sn]; omega
    have E1 : ∀ h, (ints (endL L i))[i]'h = .int .i64 (((allT (L.take i)).length : Nat) : Int) := fun h => by simp [ints, endL]
    simp only [q0, q1, q2, q3, q4, q5, q6, q7, q8, q9, zr0, zr1, zr2, zr3, zq0, zq1, zq2, zq3, zq4, Nat.reduceAdd, Nat.reduceSub, lenA, convA, convB, convO, indexA, indexS, sliceA, Int.reduceToNat, cond_true, cond_false, ↓reduceIte, reduceCtorEq, Nat.reduceLT, Nat.reduceLeDiff, Nat.reduceMul, Nat.reduceEqDiff, exists_eq', implies_true, exists_true_left, tys0, tys1, tys2, und0, und1, md3, Tryz.ntmps3, Tryz.results3, List.length_map, List.getElem_map, savA, g, gi, endB, ints_len, endL_len, w1, w2, E1, allW_int, fits, List.isEmpty_cons, brk_false, Nat.reduceMul]
    refine ⟨by omega, by omega, by omega, ⟨i + 1, by omega⟩, by show L.length - (i + 1) < L.length - i; omega, ?_⟩
    rw [← endL_succ]
    show Weak 0 _ ⟨_, [{ ty := 3, w := 1, els := ints (endL L (i + 1)) }]⟩
    exact weak_drop (by simp) (by simp [DropHp, ints_below, flts_below, w64_succ i (by omega)]) (by simp [DropTm, DropV, below, belowM, belowL, w64_succ i (by omega)])
  · have g : i = L.length := by have := of_decide_eq_false g; omega
    subst g
    have h8 : L.length ≤ 8 := by omega
    have t1 := implAllN hL h8
    have rs := rec_all_store hL h8
    have t2 := implRecoverN (allT L) (by omega)
    rw [rs] at t2
    have t3 := implSameN hL h8
    have eg : ∀ h, (ints (endL L L.length))[L.length]'h = .int .i64 (((allT L).length : Nat) : Int) := fun h => by simp [ints, endL]
    have bn : ((((allT L).length : Nat) : Int) != (((allT L).length : Nat) : Int)) = false := bne_self_eq_false _
    refine call_ret t1 rfl rfl ?_
    simp only [q0, q1, q2, q3, q4, q5, q6, q7, q8, q9, zr0, zr1, zr2, zr3, zq0, zq1, zq2, zq3, zq4, Nat.reduceAdd, Nat.reduceSub, lenA, convA, convB, convO, indexA, indexS, sliceA, Int.reduceToNat, cond_true, cond_false, ↓reduceIte, reduceCtorEq, Nat.reduceLT, Nat.reduceLeDiff, Nat.reduceMul, Nat.reduceEqDiff, exists_eq', implies_true, exists_true_left, tys0, tys1, tys2, und0, und1, md3, Tryz.ntmps3, Tryz.results3, List.length_map, endB, ints_len, endL_len]
    refine call_ret t2 rfl rfl ?_
    have ll : (L.length : Int) < ((L.length + 1 : Nat) : Int) := by omega
    have ll2 : L.length < L.length + 1 := by omega
    simp only [q0, q1, q2, q3, q4, q5, q6, q7, q8, q9, zr0, zr1, zr2, zr3, zq0, zq1, zq2, zq3, zq4, Nat.reduceAdd, Nat.reduceSub, lenA, convA, convB, convO, indexA, indexS, sliceA, Int.reduceToNat, cond_true, cond_false, ↓reduceIte, reduceCtorEq, Nat.reduceLT, Nat.reduceLeDiff, Nat.reduceMul, Nat.reduceEqDiff, exists_eq', implies_true, exists_true_left, tys0, tys1, tys2, und0, und1, md3, Tryz.ntmps3, Tryz.results3, List.length_map, endB, ints_len, endL_len, eg, bn, ll, ll2]
    refine call_ret t3 rfl rfl ?_
    simp only [q0, q1, q2, q3, q4, q5, q6, q7, q8, q9, zr0, zr1, zr2, zr3, zq0, zq1, zq2, zq3, zq4, Nat.reduceAdd, Nat.reduceSub, lenA, convA, convB, convO, indexA, indexS, sliceA, Int.reduceToNat, cond_true, cond_false, ↓reduceIte, reduceCtorEq, Nat.reduceLT, Nat.reduceLeDiff, Nat.reduceMul, Nat.reduceEqDiff, exists_eq', implies_true, exists_true_left, tys0, tys1, tys2, und0, und1, md3, Tryz.ntmps3, Tryz.results3, List.length_map]
    refine br_intro (fun z => ?_) (fun z => ?_) <;> simp only [q0, q1, q2, q3, q4, q5, q6, q7, q8, q9, zr0, zr1, zr2, zr3, zq0, zq1, zq2, zq3, zq4, Nat.reduceAdd, Nat.reduceSub, lenA, convA, convB, convO, indexA, indexS, sliceA, Int.reduceToNat, cond_true, cond_false, ↓reduceIte, reduceCtorEq, Nat.reduceLT, Nat.reduceLeDiff, Nat.reduceMul, Nat.reduceEqDiff, exists_eq', implies_true, exists_true_left, tys0, tys1, tys2, und0, und1, md3, Tryz.ntmps3, Tryz.results3, List.length_map]
    · exact PostR.pure ⟨rfl, rfl⟩ rfl
    have zl : (allT L).length ≠ 0 := by
      intro e
      rw [e] at z
      simp at z
    obtain ⟨x, xc, x0, x1⟩ := b10At_call m hm l2 0 256 (by omega) (by omega) (by omega) (by omega)
    obtain ⟨y, yc, y0, y1⟩ := b10At_call m hm l2 1 256 (by omega) (by omega) (by omega) (by omega)
    obtain ⟨v, vc, v0, v1⟩ := b10At_call m hm l2 2 255 (by omega) (by omega) (by omega) (by omega)
    have w1 : IntKind.i64.wrap (256 * x) = 256 * x := w64 (by omega) (by omega)
    have w2 : IntKind.i64.wrap (256 * x + y) = 256 * x + y := w64 (by omega) (by omega)
    have e3 : (256 * x + y).tmod ((allT L).length : Int) = (256 * x + y) % ((allT L).length : Int) := Int.tmod_eq_emod_of_nonneg (by omega)
    have m1 := Int.emod_nonneg (256 * x + y) (show ((allT L).length : Int) ≠ 0 by omega)
    have m2 := Int.emod_lt_of_pos (256 * x + y) (show 0 < ((allT L).length : Int) by omega)
    obtain ⟨c, hc', cl⟩ : ∃ c : Nat, (256 * x + y).tmod ((allT L).length : Int) = (c : Int) ∧ c < (allT L).length := ⟨((256 * x + y) % ((allT L).length : Int)).toNat, by omega, by omega⟩
    refine call_ret xc rfl rfl ?_
    simp only [q0, q1, q2, q3, q4, q5, q6, q7, q8, q9, zr0, zr1, zr2, zr3, zq0, zq1, zq2, zq3, zq4, Nat.reduceAdd, Nat.reduceSub, lenA, convA, convB, convO, indexA, indexS, sliceA, Int.reduceToNat, cond_true, cond_false, ↓reduceIte, reduceCtorEq, Nat.reduceLT, Nat.reduceLeDiff, Nat.reduceMul, Nat.reduceEqDiff, exists_eq', implies_true, exists_true_left, tys0, tys1, tys2, und0, und1, md3, Tryz.ntmps3, Tryz.results3, w1]
    refine call_ret yc rfl rfl ?_
    simp only [q0, q1, q2, q3, q4, q5, q6, q7, q8, q9, zr0, zr1, zr2, zr3, zq0, zq1, zq2, zq3, zq4, Nat.reduceAdd, Nat.reduceSub, lenA, convA, convB, convO, indexA, indexS, sliceA, Int.reduceToNat, cond_true, cond_false, ↓reduceIte, reduceCtorEq, Nat.reduceLT, Nat.reduceLeDiff, Nat.reduceMul, Nat.reduceEqDiff, exists_eq', implies_true, exists_true_left, tys0, tys1, tys2, und0, und1, md3, Tryz.ntmps3, Tryz.results3, w1, w2, hc']
    refine ⟨by omega, ?_⟩
    refine go_round (md := md3) mixed (by kernel_rfl) (fun k : {k : Nat // k ≤ L.length ∧ (allT (L.take k)).length ≤ c} => ⟨[.any, .ro (kint .u8 m), .any, .any, .any, .ro (L.map savA), .sl 0 0 (L.length + 1), .any, .any, .any, .any, .any, .str (allT L), .any, .any, .any, .any, .int .i64 ((c : Nat) : Int), .int .i64 k.1, .any, .any, .any, .any, .any, .any, .any, .any, .any, .any, .any, .any, .any, .any, .any, .any, .any, .any, .any, .any, .any, .any, .any, .any, .any, .any, .any, .any, .any, .any, .any, .any, .any, .any, .any, .any, .any, .any, .any, .any, .any, .any, .any, .any, .any, .any, .any, .any, .any, .any, .any, .any, .any, .any, .any, .any, .any, .any, .any, .any, .any, .any, .any, .any, .any, .any, .any, .any, .any, .any, .any, .any, .any, .any, .any, .any, .any, .any, .any, .any, .any, .any, .any, .any, .any, .any, .any, .any, .any, .any, .any, .any, .any, .any, .any, .any, .any, .any, .any, .any, .any, .any, .any, .any, .any, .any, .any, .any, .any, .any, .any, .any, .any, .any, .any, .any, .any, .any, .any, .any, .any, .any, .any, .any, .any, .any, .any, .any, .any, .any, .any, .any, .any, .any, .any, .any, .any, .any, .any, .any, .any, .any, .any, .any, .any, .any, .any, .any, .any, .any, .any, .any, .any, .any, .any, .any, .any, .any, .any, .any, .any, .any, .any, .any, .any, .any, .any, .any, .any, .any, .any, .any, .any, .any, .any, .any, .any, .any, .any, .any, .any, .any, .any, .any, .any, .any, .any, .any, .any, .any, .any, .any, .any, .any, .any, .any, .any, .any, .any, .any, .any, .any, .any, .any, .any, .any, .any, .any, .any, .any, .any, .any, .any], [endB L L.length]⟩) (fun k => L.length - k.1) ⟨0, by omega, by simp [allT]⟩ ?_ ?_
    · exact weak_drop (by simp) (by simp [DropHp, ints_below, flts_below, endB, allBelow_cons, allBelow_nil, below, belowM, belowL]) (by simp [DropTm, DropV, below, belowM, belowL, endB, allBelow_cons, allBelow_nil, below, belowM, belowL])
    rintro ⟨k, hk, hkc⟩
    dsimp only
    have tk := tl (k + 1)
    simp only [q0, q1, q2, q3, q4, q5, q6, q7, q8, q9, zr0, zr1, zr2, zr3, zq0, zq1, zq2, zq3, zq4, Nat.reduceAdd, Nat.reduceSub, lenA, convA, convB, convO, indexA, indexS, sliceA, Int.reduceToNat, cond_true, cond_false, ↓reduceIte, reduceCtorEq, Nat.reduceLT, Nat.reduceLeDiff, Nat.reduceMul, Nat.reduceEqDiff, exists_eq', implies_true, exists_true_left, tys0, tys1, tys2, und0, und1, md3, Tryz.ntmps3, Tryz.results3, List.length_map, endB, ints_len, endL_len]
    refine br_intro (fun g => ?_) (fun g => ?_) <;> simp only [q0, q1, q2, q3, q4, q5, q6, q7, q8, q9, zr0, zr1, zr2, zr3, zq0, zq1, zq2, zq3, zq4, Nat.reduceAdd, Nat.reduceSub, lenA, convA, convB, convO, indexA, indexS, sliceA, Int.reduceToNat, cond_true, cond_false, ↓reduceIte, reduceCtorEq, Nat.reduceLT, Nat.reduceLeDiff, Nat.reduceMul, Nat.reduceEqDiff, exists_eq', implies_true, exists_true_left, tys0, tys1, tys2, und0, und1, md3, Tryz.ntmps3, Tryz.results3, List.length_map, endB, ints_len, endL_len]
    · have g : k < L.length := by have := of_decide_eq_true g; omega
      have wk : IntKind.i64.wrap ((k : Int) + 1) = ((k + 1 : Nat) : Int) := by rw [w64 (by omega) (by omega)]; omega
      have kl : ((k + 1 : Nat) : Int) < ((L.length + 1 : Nat) : Int) := by omega
      have kl2 : k + 1 < L.length + 1 := by omega
      simp only [q0, q1, q2, q3, q4, q5, q6, q7, q8, q9, zr0, zr1, zr2, zr3, zq0, zq1, zq2, zq3, zq4, Nat.reduceAdd, Nat.reduceSub, lenA, convA, convB, convO, indexA, indexS, sliceA, Int.reduceToNat, cond_true, cond_false, ↓reduceIte, reduceCtorEq, Nat.reduceLT, Nat.reduceLeDiff, Nat.reduceMul, Nat.reduceEqDiff, exists_eq', implies_true, exists_true_left, tys0, tys1, tys2, und0, und1, md3, Tryz.ntmps3, Tryz.results3, List.length_map, endB, ints_len, endL_len, endL_get, wk, kl, kl2]
      refine br_intro (fun q => ?_) (fun q => ?_) <;> simp only [q0, q1, q2, q3, q4, q5, q6, q7, q8, q9, zr0, zr1, zr2, zr3, zq0, zq1, zq2, zq3, zq4, Nat.reduceAdd, Nat.reduceSub, lenA, convA, convB, convO, indexA, indexS, sliceA, Int.reduceToNat, cond_true, cond_false, ↓reduceIte, reduceCtorEq, Nat.reduceLT, Nat.reduceLeDiff, Nat.reduceMul, Nat.reduceEqDiff, exists_eq', implies_true, exists_true_left, tys0, tys1, tys2, und0, und1, md3, Tryz.ntmps3, Tryz.results3, List.length_map, endB, ints_len, endL_len, endL_get, wk, kl, kl2]
      · have q : (allT (L.take (k + 1))).length ≤ c := by have := of_decide_eq_true q; omega
        refine ⟨⟨k + 1, by omega, q⟩, by show L.length - (k + 1) < L.length - k; omega, ?_⟩
        show Weak 0 _ ⟨_, [endB L L.length]⟩
        exact weak_drop (by simp) (by simp [DropHp, ints_below, flts_below, endB, allBelow_cons, allBelow_nil, below, belowM, belowL]) (by simp [DropTm, DropV, below, belowM, belowL, endB, allBelow_cons, allBelow_nil, below, belowM, belowL])
      · have q : c < (allT (L.take (k + 1))).length := by have := of_decide_eq_false q; omega
        have rc := rec_cut hL h8 g hkc q
        have u1 := implRecoverN ((allT L).take c) (by rw [List.length_take]; omega)
        rw [rc] at u1
        have eg2 : ∀ h, (ints (endL L L.length))[k]'h = .int .i64 (((allT (L.take k)).length : Nat) : Int) := fun h => by simp [ints, endL]
        have k3 : (k : Int) < ((L.length + 1 : Nat) : Int) := by omega
        have k4 : k < L.length + 1 := by omega
        have tkl : (L.take k).length = k := by rw [List.length_take]; omega
        have bn2 : ((((allT (L.take k)).length : Nat) : Int) != (((allT (L.take k)).length : Nat) : Int)) = false := bne_self_eq_false _
        have bn3 : ((k : Int) != (k : Int)) = false := bne_self_eq_false _
        refine ⟨Int.le_refl 0, by omega, ?_⟩
        refine call_ret u1 rfl rfl ?_
        simp only [q0, q1, q2, q3, q4, q5, q6, q7, q8, q9, zr0, zr1, zr2, zr3, zq0, zq1, zq2, zq3, zq4, Nat.reduceAdd, Nat.reduceSub, lenA, convA, convB, convO, indexA, indexS, sliceA, Int.reduceToNat, cond_true, cond_false, ↓reduceIte, reduceCtorEq, Nat.reduceLT, Nat.reduceLeDiff, Nat.reduceMul, Nat.reduceEqDiff, exists_eq', implies_true, exists_true_left, tys0, tys1, tys2, und0, und1, md3, Tryz.ntmps3, Tryz.results3, List.length_map, tkl, endB, ints_len, endL_len, eg2, k3, k4, bn2, bn3]
        have cI : ((c : Nat) : Int) < (((allT L).length : Nat) : Int) := by omega
        have E3 : ∀ h, (byts (allT L))[c]'h = .int .u8 (((allT L)[c].toNat : Nat) : Int) := fun h => by simp [byts]
        have w3 : IntKind.i64.wrap (1 + v) = 1 + v := w64 (by omega) (by omega)
        have w4 : IntKind.u8.wrap (1 + v) = 1 + v := w8 (by omega) (by omega)
        have wz := u8w ((((allT L)[c].toNat : Nat) : Int) + (1 + v))
        generalize hz : IntKind.u8.wrap ((((allT L)[c].toNat : Nat) : Int) + (1 + v)) = zz at wz
        obtain ⟨d, hd⟩ : ∃ d : UInt8, ((d.toNat : Nat) : Int) = zz := ⟨UInt8.ofNat zz.toNat, by simp only [UInt8.toNat_ofNat']; omega⟩
        have hbs : (byts (allT L)).set c (.int .u8 zz) = byts ((allT L).set c d) := by
          unfold byts
          rw [List.map_set, hd]
        have rb := rec_bent hL h8 d g hkc
        have ul : ((allT L).set c d).length = (allT L).length := List.length_set
        generalize (allT L).set c d = u at hbs rb ul
        refine ⟨by omega, ?_⟩
        simp only [q0, q1, q2, q3, q4, q5, q6, q7, q8, q9, zr0, zr1, zr2, zr3, zq0, zq1, zq2, zq3, zq4, Nat.reduceAdd, Nat.reduceSub, lenA, convA, convB, convO, indexA, indexS, sliceA, Int.reduceToNat, cond_true, cond_false, ↓reduceIte, reduceCtorEq, Nat.reduceLT, Nat.reduceLeDiff, Nat.reduceMul, Nat.reduceEqDiff, exists_eq', implies_true, exists_true_left, tys0, tys1, tys2, und0, und1, md3, Tryz.ntmps3, Tryz.results3, byts_len, cI, cl, E3]
        refine callr_ret vc rfl rfl ?_
        simp only [q0, q1, q2, q3, q4, q5, q6, q7, q8, q9, zr0, zr1, zr2, zr3, zq0, zq1, zq2, zq3, zq4, Nat.reduceAdd, Nat.reduceSub, lenA, convA, convB, convO, indexA, indexS, sliceA, Int.reduceToNat, cond_true, cond_false, ↓reduceIte, reduceCtorEq, Nat.reduceLT, Nat.reduceLeDiff, Nat.reduceMul, Nat.reduceEqDiff, exists_eq', implies_true, exists_true_left, tys0, tys1, tys2, und0, und1, md3, Tryz.ntmps3, Tryz.results3, byts_len, cI, cl, E3, w3, w4, hz, hbs]
        have bl' : ∀ v : List UInt8, (byts v).length = v.length := fun v => List.length_map _
        have bt : List.take (allT L).length (byts u) = byts u := List.take_of_length_le (by rw [bl']; omega)
        have u2 := implRecoverN u (by omega)
        obtain ⟨p1, p2, p3, p4⟩ := rec_valid 8 u
        generalize recOf 8 u = M at rb u2 p1 p2 p3 p4
        obtain ⟨M, o⟩ := M
        dsimp only at rb u2 p1 p2 p3 p4
        have u3 := implAllN p3 p4
        have g1 : decide ((k : Int) ≤ (M.length : Int)) = true := decide_eq_true (by omega)
        have g2 : decide ((0 : Int) ≤ (o : Int)) = true := decide_eq_true (by omega)
        have g3 : decide ((o : Int) ≤ (((allT L).length : Nat) : Int)) = true := decide_eq_true (by omega)
        refine ⟨⟨5, rfl, Tryz.underlying5⟩, u, bt, ul, ?_⟩
        refine call_ret u2 rfl rfl ?_
        simp only [q0, q1, q2, q3, q4, q5, q6, q7, q8, q9, zr0, zr1, zr2, zr3, zq0, zq1, zq2, zq3, zq4, Nat.reduceAdd, Nat.reduceSub, lenA, convA, convB, convO, indexA, indexS, sliceA, Int.reduceToNat, cond_true, cond_false, ↓reduceIte, reduceCtorEq, Nat.reduceLT, Nat.reduceLeDiff, Nat.reduceMul, Nat.reduceEqDiff, exists_eq', implies_true, exists_true_left, tys0, tys1, tys2, und0, und1, md3, Tryz.ntmps3, Tryz.results3, byts_len, cI, cl]
        refine call_ret u3 rfl rfl ?_
        simp only [q0, q1, q2, q3, q4, q5, q6, q7, q8, q9, zr0, zr1, zr2, zr3, zq0, zq1, zq2, zq3, zq4, Nat.reduceAdd, Nat.reduceSub, lenA, convA, convB, convO, indexA, indexS, sliceA, Int.reduceToNat, cond_true, cond_false, ↓reduceIte, reduceCtorEq, Nat.reduceLT, Nat.reduceLeDiff, Nat.reduceMul, Nat.reduceEqDiff, exists_eq', implies_true, exists_true_left, tys0, tys1, tys2, und0, und1, md3, Tryz.ntmps3, Tryz.results3, List.length_map, byts_len, g1, g2, g3, ul, decide_true]
        refine ⟨Int.le_refl 0, by omega, ⟨5, rfl, Tryz.underlying5⟩, u.take o, by unfold byts; rw [Nat.sub_zero, List.map_take], by rw [List.length_take]; omega, ?_⟩
        rw [p1, beq_self_eq_true]
        exact PostR.pure ⟨rfl, rfl⟩ rfl
    · have g : k = L.length := by have := of_decide_eq_false g; omega
      rw [g, List.take_length] at hkc
      omega
theorem savedDues_all (cd m : List Int) (hc : byteL cd) (hm : byteL m) : CallA Tryz.prog 3 [.ro (kint .u8 cd), .ro (kint .u8 m)] [] (Ret (.bool true) []) := by
  cases big : (decide (1048576 < (cd.length : Int)) || decide (1048576 < (m.length : Int))) with
  | false =>
    have b2 := big
    rw [Bool.or_eq_false_iff] at b2
    have h1 := of_decide_eq_false b2.1
    have h2 := of_decide_eq_false b2.2
    exact savedDues_list cd m hc hm (by omega) (by omega) big
  | true =>
    have bl := b10Long_call cd m
    rw [big] at bl
    refine CallP.out (t := .mk) (go_in (md := md3) mixed Tryz.func3 rfl go3 (by kernel_rfl) ?_)
    simp only [q0, q1, q2, q3, q4, q5, q6, q7, q8, q9, zr0, zr1, zr2, zr3, zq0, zq1, zq2, zq3, zq4, Nat.reduceAdd, Nat.reduceSub, lenA, convA, convB, convO, indexA, indexS, sliceA, Int.reduceToNat, cond_true, cond_false, ↓reduceIte, reduceCtorEq, Nat.reduceLT, Nat.reduceLeDiff, Nat.reduceMul, Nat.reduceEqDiff, exists_eq', implies_true, exists_true_left, tys0, tys1, tys2, und0, und1, md3, Tryz.ntmps3, Tryz.results3]
    refine call_ret bl rfl rfl ?_
    simp only [q0, q1, q2, q3, q4, q5, q6, q7, q8, q9, zr0, zr1, zr2, zr3, zq0, zq1, zq2, zq3, zq4, Nat.reduceAdd, Nat.reduceSub, lenA, convA, convB, convO, indexA, indexS, sliceA, Int.reduceToNat, cond_true, cond_false, ↓reduceIte, reduceCtorEq, Nat.reduceLT, Nat.reduceLeDiff, Nat.reduceMul, Nat.reduceEqDiff, exists_eq', implies_true, exists_true_left, tys0, tys1, tys2, und0, und1, md3, Tryz.ntmps3, Tryz.results3]
    exact PostR.pure ⟨rfl, rfl⟩ rfl
theorem u8_wf {x : Int} (h : (Lit.int .u8 x).wf = true) : 0 ≤ x ∧ x ≤ 255 := by
  simp [Lit.wf, IntKind.min, IntKind.max, IntKind.bits, IntKind.signed] at h
  omega
theorem ofT_bytes {a : AV} (h : OfT Tryz.prog 8 22 [a]) : ∃ xs : List Int, a = .ro (kint .u8 xs) ∧ byteL xs := by
  obtain ⟨xs, h1, h2, h3⟩ := ofT_kint Tryz.underlying22 Tryz.underlying5 h
  exact ⟨xs, h1, fun x hx => u8_wf (h3 x hx)⟩
theorem savedDuesLaw (l0 l1 : AV) (of0 : OfT Tryz.prog 8 22 [l0]) (of1 : OfT Tryz.prog 8 22 [l1]) : CallA Tryz.prog 3 [l0, l1] [] (Ret (.bool true) []) := by
  obtain ⟨c, rfl, hc⟩ := ofT_bytes of0
  obtain ⟨m, rfl, hm⟩ := ofT_bytes of1
  exact savedDues_all c m hc hm
end Go.Proofs.YtigipcckflcilaaGreatDoor
