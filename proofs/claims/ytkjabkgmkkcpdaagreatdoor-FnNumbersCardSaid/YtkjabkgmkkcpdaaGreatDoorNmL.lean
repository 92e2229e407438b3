/- Lists of numbers as texts, and read back. -/
import Derived.Test.YtkjabkgmkkcpdaaGreatDoorNmK
set_option maxRecDepth 10000
set_option maxHeartbeats 4000000
set_option linter.unusedSimpArgs false
set_option linter.unusedVariables false
namespace Go.Proofs.YtkjabkgmkkcpdaaGreatDoor
open Go Go.Abs
theorem canon_ok {x : Nat} (h : okW x) : canon .f32 x = x := by
  unfold canon
  split
  · rename_i e
    rw [h.2 e]
    rfl
  · rfl
theorem ok_canon {n : Nat} (h : n < 4294967296) : okW (canon .f32 n) := by
  refine ⟨canon_lt h, fun e => ?_⟩
  rw [canon_isNaN] at e
  rw [canon_of_nan e]
  rfl
theorem frombits_int (n : Int) : CallA Tryz.prog 55 [.int .u32 n] [] (Ret (.flt .f32 (canon .f32 n.toNat)) []) :=
  frombits_call (e := Extern.MathFloatBits.float32frombits) Tryz.func55 (by kernel_rfl) (by kernel_rfl) (by kernel_rfl) (by kernel_rfl) (fun _ _ => rfl) n
theorem frombits_call32 (n : Nat) : CallA Tryz.prog 55 [.int .u32 n] [] (Ret (.flt .f32 (canon .f32 n)) []) := frombits_int (n : Int)
theorem u32_ok {x : Nat} (h : x < 4294967296) : IntKind.u32.wrap (x : Int) = (x : Int) := by
  show (x : Int) % 4294967296 = x
  exact Int.emod_eq_of_lt (by omega) (by omega)
theorem unhex_call (x : Nat) (hx : okW x) : CallA Tryz.prog 50 [.str (hexT x 8)] [] (Ret (.tup [.flt .f32 x, .bool true]) []) := by
  have ln := hexT_len x 8
  refine CallP.out (t := .mk) (go_in (md := md50) mixed Tryz.func50 rfl go50 (by kernel_rfl) ?_)
  simp only [q0, q1, q2, q3, q4, q5, q6, q7, q8, q9, zr0, zr1, zr2, zr3, zq0, zq1, zq2, zq3, zq4, Nat.reduceAdd, Nat.reduceSub, lenA, convA, indexA, flatP, nilI, ifaA, indexS, Int.reduceToNat, cond_true, cond_false, ↓reduceIte, reduceCtorEq, Nat.reduceLT, Nat.reduceLeDiff, Nat.reduceMul, Nat.reduceEqDiff, exists_eq', implies_true, exists_true_left, tys0, tys1, und0, und1, md50, Tryz.ntmps50, Tryz.results50, ln, Int.reduceLT, Int.reduceLE, Int.reduceNeg, Int.reduceEq, Int.reduceGT, Int.reduceGE, decide_true, decide_false, beq_self_eq_true, bne_self_eq_false, Int.reduceBEq, Int.reduceBNe, Int.reduceAdd, Int.reduceSub]
  repeat (refine br_no (by first | exact decide_eq_false (by omega) | exact beq_false_of_ne (by omega) | (simp only [bne_eq_false_iff_eq, beq_eq_false_iff_ne, ne_eq]; omega)) ?_; simp only [q0, q1, q2, q3, q4, q5, q6, q7, q8, q9, zr0, zr1, zr2, zr3, zq0, zq1, zq2, zq3, zq4, Nat.reduceAdd, Nat.reduceSub, lenA, convA, indexA, flatP, nilI, ifaA, indexS, Int.reduceToNat, cond_true, cond_false, ↓reduceIte, reduceCtorEq, Nat.reduceLT, Nat.reduceLeDiff, Nat.reduceMul, Nat.reduceEqDiff, exists_eq', implies_true, exists_true_left, tys0, tys1, und0, und1, md50, Tryz.ntmps50, Tryz.results50, Int.reduceLT, Int.reduceLE, Int.reduceNeg, Int.reduceEq, Int.reduceGT, Int.reduceGE, decide_true, decide_false, beq_self_eq_true, bne_self_eq_false, Int.reduceBEq, Int.reduceBNe, Int.reduceAdd, Int.reduceSub])
  refine call_ret (parseUintS_call x hx.1) rfl rfl ?_
  simp only [q0, q1, q2, q3, q4, q5, q6, q7, q8, q9, zr0, zr1, zr2, zr3, zq0, zq1, zq2, zq3, zq4, Nat.reduceAdd, Nat.reduceSub, lenA, convA, indexA, flatP, nilI, ifaA, indexS, Int.reduceToNat, cond_true, cond_false, ↓reduceIte, reduceCtorEq, Nat.reduceLT, Nat.reduceLeDiff, Nat.reduceMul, Nat.reduceEqDiff, exists_eq', implies_true, exists_true_left, tys0, tys1, und0, und1, md50, Tryz.ntmps50, Tryz.results50, u32_ok hx.1]
  refine call_ret (frombits_call32 x) rfl rfl ?_
  simp only [q0, q1, q2, q3, q4, q5, q6, q7, q8, q9, zr0, zr1, zr2, zr3, zq0, zq1, zq2, zq3, zq4, Nat.reduceAdd, Nat.reduceSub, lenA, convA, indexA, flatP, nilI, ifaA, indexS, Int.reduceToNat, cond_true, cond_false, ↓reduceIte, reduceCtorEq, Nat.reduceLT, Nat.reduceLeDiff, Nat.reduceMul, Nat.reduceEqDiff, exists_eq', implies_true, exists_true_left, tys0, tys1, und0, und1, md50, Tryz.ntmps50, Tryz.results50, canon_ok hx, Int.reduceLT, Int.reduceLE, Int.reduceNeg, Int.reduceEq, Int.reduceGT, Int.reduceGE, decide_true, decide_false, beq_self_eq_true, bne_self_eq_false, Int.reduceBEq, Int.reduceBNe, Int.reduceAdd, Int.reduceSub]
  refine call_ret (hex_call x hx) rfl rfl ?_
  simp only [q0, q1, q2, q3, q4, q5, q6, q7, q8, q9, zr0, zr1, zr2, zr3, zq0, zq1, zq2, zq3, zq4, Nat.reduceAdd, Nat.reduceSub, lenA, convA, indexA, flatP, nilI, ifaA, indexS, Int.reduceToNat, cond_true, cond_false, ↓reduceIte, reduceCtorEq, Nat.reduceLT, Nat.reduceLeDiff, Nat.reduceMul, Nat.reduceEqDiff, exists_eq', implies_true, exists_true_left, tys0, tys1, und0, und1, md50, Tryz.ntmps50, Tryz.results50, Int.reduceLT, Int.reduceLE, Int.reduceNeg, Int.reduceEq, Int.reduceGT, Int.reduceGE, decide_true, decide_false, beq_self_eq_true, bne_self_eq_false, Int.reduceBEq, Int.reduceBNe, Int.reduceAdd, Int.reduceSub]
  exact PostR.pure ⟨rfl, rfl⟩ rfl
theorem fromBits_call (x : Nat) (hx : okW x) : CallA Tryz.prog 20 [.int .i64 x] [] (Ret (.tup [.flt .f32 x, .bool true]) []) := by
  have hr : inR 0 4294967295 (x : Int) = true := by
    have := hx.1
    simp [inR]
    omega
  refine CallP.out (t := .mk) (go_in (md := md20) mixed Tryz.func20 rfl go20 (by kernel_rfl) ?_)
  simp only [q0, q1, q2, q3, q4, q5, q6, q7, q8, q9, zr0, zr1, zr2, zr3, zq0, zq1, zq2, zq3, zq4, Nat.reduceAdd, Nat.reduceSub, lenA, convA, indexA, flatP, nilI, ifaA, indexS, Int.reduceToNat, cond_true, cond_false, ↓reduceIte, reduceCtorEq, Nat.reduceLT, Nat.reduceLeDiff, Nat.reduceMul, Nat.reduceEqDiff, exists_eq', implies_true, exists_true_left, tys0, tys1, und0, und1, md20, Tryz.ntmps20, Tryz.results20]
  refine call_ret (within_call (x : Int) 0 4294967295) rfl rfl ?_
  simp only [q0, q1, q2, q3, q4, q5, q6, q7, q8, q9, zr0, zr1, zr2, zr3, zq0, zq1, zq2, zq3, zq4, Nat.reduceAdd, Nat.reduceSub, lenA, convA, indexA, flatP, nilI, ifaA, indexS, Int.reduceToNat, cond_true, cond_false, ↓reduceIte, reduceCtorEq, Nat.reduceLT, Nat.reduceLeDiff, Nat.reduceMul, Nat.reduceEqDiff, exists_eq', implies_true, exists_true_left, tys0, tys1, und0, und1, md20, Tryz.ntmps20, Tryz.results20, hr]
  repeat (refine br_no (by first | exact decide_eq_false (by omega) | exact beq_false_of_ne (by omega) | (simp only [bne_eq_false_iff_eq, beq_eq_false_iff_ne, ne_eq]; omega)) ?_; simp only [q0, q1, q2, q3, q4, q5, q6, q7, q8, q9, zr0, zr1, zr2, zr3, zq0, zq1, zq2, zq3, zq4, Nat.reduceAdd, Nat.reduceSub, lenA, convA, indexA, flatP, nilI, ifaA, indexS, Int.reduceToNat, cond_true, cond_false, ↓reduceIte, reduceCtorEq, Nat.reduceLT, Nat.reduceLeDiff, Nat.reduceMul, Nat.reduceEqDiff, exists_eq', implies_true, exists_true_left, tys0, tys1, und0, und1, md20, Tryz.ntmps20, Tryz.results20])
  simp only [u32_ok hx.1]
  refine call_ret (frombits_call32 x) rfl rfl ?_
  simp only [q0, q1, q2, q3, q4, q5, q6, q7, q8, q9, zr0, zr1, zr2, zr3, zq0, zq1, zq2, zq3, zq4, Nat.reduceAdd, Nat.reduceSub, lenA, convA, indexA, flatP, nilI, ifaA, indexS, Int.reduceToNat, cond_true, cond_false, ↓reduceIte, reduceCtorEq, Nat.reduceLT, Nat.reduceLeDiff, Nat.reduceMul, Nat.reduceEqDiff, exists_eq', implies_true, exists_true_left, tys0, tys1, und0, und1, md20, Tryz.ntmps20, Tryz.results20, canon_ok hx]
  exact PostR.pure ⟨rfl, rfl⟩ rfl
theorem hexC_44 : ∀ d, d < 16 → hexC d ≠ 44 := by decide
theorem hexT_44 (n : Nat) : ∀ k, (44 : UInt8) ∉ hexT n k
  | 0 => by simp [hexT]
  | k + 1 => by
    intro h
    rcases List.mem_cons.1 h with e | e
    · exact hexC_44 _ (Nat.mod_lt _ (by decide)) e.symm
    · exact hexT_44 n k e
def hexW (xs : List Nat) : List (List UInt8) := xs.map (hexT · 8)
theorem hexW_len (xs : List Nat) : (hexW xs).length = xs.length := List.length_map ..
theorem hexW_ok {xs : List Nat} (h : xs.length ≤ 256) : OkWds 8 (hexW xs) := by
  refine ⟨by rw [hexW_len]; exact h, fun w hw => ?_⟩
  obtain ⟨x, _, rfl⟩ := List.mem_map.1 hw
  exact ⟨hexT_len x 8, hexT_44 x 8⟩
theorem take_snoc {α : Type} (xs : List α) (i : Nat) (h : i < xs.length) : xs.take (i + 1) = xs.take i ++ [xs[i]] := by
  rw [List.take_add_one, List.getElem?_eq_getElem h]
  rfl
theorem numbersText_call (xs : List Nat) (hl : xs.length ≤ 256) (ok : ∀ x ∈ xs, okW x) : CallA Tryz.prog 31 [.ro (flts xs)] [] (Ret (.tup [.str (wdsT (hexW xs)), .bool true]) []) := by
  have fl : (flts xs).length = xs.length := flts_len _
  refine CallP.out (t := .mk) (go_in (md := md31) mixed Tryz.func31 rfl go31 (by kernel_rfl) ?_)
  simp only [q0, q1, q2, q3, q4, q5, q6, q7, q8, q9, zr0, zr1, zr2, zr3, zq0, zq1, zq2, zq3, zq4, Nat.reduceAdd, Nat.reduceSub, lenA, convA, indexA, flatP, nilI, ifaA, indexS, Int.reduceToNat, cond_true, cond_false, ↓reduceIte, reduceCtorEq, Nat.reduceLT, Nat.reduceLeDiff, Nat.reduceMul, Nat.reduceEqDiff, exists_eq', implies_true, exists_true_left, tys0, tys1, und0, und1, md31, Tryz.ntmps31, Tryz.results31, fl]
  refine br_no (by first | exact decide_eq_false (by omega) | exact beq_false_of_ne (by omega) | (simp only [bne_eq_false_iff_eq, beq_eq_false_iff_ne, ne_eq]; omega)) ?_; simp only [q0, q1, q2, q3, q4, q5, q6, q7, q8, q9, zr0, zr1, zr2, zr3, zq0, zq1, zq2, zq3, zq4, Nat.reduceAdd, Nat.reduceSub, lenA, convA, indexA, flatP, nilI, ifaA, indexS, Int.reduceToNat, cond_true, cond_false, ↓reduceIte, reduceCtorEq, Nat.reduceLT, Nat.reduceLeDiff, Nat.reduceMul, Nat.reduceEqDiff, exists_eq', implies_true, exists_true_left, tys0, tys1, und0, und1, md31, Tryz.ntmps31, Tryz.results31, fl]
  refine go_round (md := md31) mixed (by kernel_rfl) (fun i : {i : Nat // i ≤ xs.length} => ⟨[.any, .any, .any, .any, .sl 0 0 i.1, .any, .any, .any, .any, .any, .any, .ro (flts xs), .int .i64 xs.length, .int .i64 i.1, .any, .any, .any, .any, .any, .any, .any, .any, .any, .any, .any], [strB (hexW (xs.take i.1))]⟩) (fun i => xs.length - i.1) ⟨0, Nat.zero_le _⟩ ?_ ?_
  · exact weak_drop (by simp) (by simp [DropHp, ints_below, flts_below, strB, hexW, strs, allBelow_cons, allBelow_nil, below, belowM, belowL]) (by simp [DropTm, DropV, below, belowM, belowL, strB, hexW, strs, allBelow_cons, allBelow_nil, below, belowM, belowL])
  rintro ⟨i, hi⟩
  have ll : (strs (hexW (xs.take i))).length = i := by rw [strs_len, hexW_len, List.length_take]; omega
  have nx := fun h : i < xs.length => (show hexW (xs.take i) ++ [hexT xs[i] 8] = hexW (xs.take (i + 1)) by rw [take_snoc _ _ h, hexW, hexW, List.map_append]; rfl)
  simp only [q0, q1, q2, q3, q4, q5, q6, q7, q8, q9, zr0, zr1, zr2, zr3, zq0, zq1, zq2, zq3, zq4, Nat.reduceAdd, Nat.reduceSub, lenA, convA, indexA, flatP, nilI, ifaA, indexS, Int.reduceToNat, cond_true, cond_false, ↓reduceIte, reduceCtorEq, Nat.reduceLT, Nat.reduceLeDiff, Nat.reduceMul, Nat.reduceEqDiff, exists_eq', implies_true, exists_true_left, tys0, tys1, und0, und1, md31, Tryz.ntmps31, Tryz.results31, strB]
  refine br_intro (fun h => ?_) (fun h => ?_) <;> simp only [q0, q1, q2, q3, q4, q5, q6, q7, q8, q9, zr0, zr1, zr2, zr3, zq0, zq1, zq2, zq3, zq4, Nat.reduceAdd, Nat.reduceSub, lenA, convA, indexA, flatP, nilI, ifaA, indexS, Int.reduceToNat, cond_true, cond_false, ↓reduceIte, reduceCtorEq, Nat.reduceLT, Nat.reduceLeDiff, Nat.reduceMul, Nat.reduceEqDiff, exists_eq', implies_true, exists_true_left, tys0, tys1, und0, und1, md31, Tryz.ntmps31, Tryz.results31, strB]
  · have hi' : i < xs.length := by have := of_decide_eq_true h; omega
    have hI : (i : Int) < (xs.length : Int) := by omega
    have nx := nx hi'
    have w1 : IntKind.i64.wrap ((i : Int) + 1) = ((i + 1 : Nat) : Int) := by rw [w64 (by omega) (by omega)]; omega
    simp only [q0, q1, q2, q3, q4, q5, q6, q7, q8, q9, zr0, zr1, zr2, zr3, zq0, zq1, zq2, zq3, zq4, Nat.reduceAdd, Nat.reduceSub, lenA, convA, indexA, flatP, nilI, ifaA, indexS, Int.reduceToNat, cond_true, cond_false, ↓reduceIte, reduceCtorEq, Nat.reduceLT, Nat.reduceLeDiff, Nat.reduceMul, Nat.reduceEqDiff, exists_eq', implies_true, exists_true_left, tys0, tys1, und0, und1, md31, Tryz.ntmps31, Tryz.results31, strB, hi', hI, fl, flts_get]
    refine call_ret (hex_call xs[i] (ok _ (List.getElem_mem hi'))) rfl rfl ?_
    generalize hexW (xs.take i) = T at ll nx
    simp only [q0, q1, q2, q3, q4, q5, q6, q7, q8, q9, zr0, zr1, zr2, zr3, zq0, zq1, zq2, zq3, zq4, Nat.reduceAdd, Nat.reduceSub, lenA, convA, indexA, flatP, nilI, ifaA, indexS, Int.reduceToNat, cond_true, cond_false, ↓reduceIte, reduceCtorEq, Nat.reduceLT, Nat.reduceLeDiff, Nat.reduceMul, Nat.reduceEqDiff, exists_eq', implies_true, exists_true_left, tys0, tys1, und0, und1, md31, Tryz.ntmps31, Tryz.results31, strB, hi', hI, allW_int, fits, List.isEmpty_cons, brk_false, Nat.reduceMul, ll, w1]
    refine ⟨allW_str _, by omega, ⟨i + 1, by omega⟩, by show xs.length - (i + 1) < _; omega, ?_⟩
    show Weak 0 _ ⟨_, _⟩
    rw [strs_more, nx]
    exact weak_drop (by simp) (by simp [DropHp, ints_below, flts_below, strB, strs_below, allBelow_cons, allBelow_nil, below, belowM, belowL]) (by simp [DropTm, DropV, below, belowM, belowL, strB, strs_below, allBelow_cons, allBelow_nil, below, belowM, belowL])
  · have hi' : i = xs.length := by have := of_decide_eq_false h; omega
    subst hi'
    rw [List.take_length] at ll ⊢
    have tk : (strs (hexW xs)).take xs.length = strs (hexW xs) := List.take_of_length_le (by rw [ll]; exact Nat.le_refl _)
    refine call_lent 2 (by simp [view_sl, view_str, strB, map_view_strs, hexW_len, strs_len, tk]) (listed_call (by decide) (hexW xs) (hexW_ok hl)) rfl rfl ?_
    simp only [q0, q1, q2, q3, q4, q5, q6, q7, q8, q9, zr0, zr1, zr2, zr3, zq0, zq1, zq2, zq3, zq4, Nat.reduceAdd, Nat.reduceSub, lenA, convA, indexA, flatP, nilI, ifaA, indexS, Int.reduceToNat, cond_true, cond_false, ↓reduceIte, reduceCtorEq, Nat.reduceLT, Nat.reduceLeDiff, Nat.reduceMul, Nat.reduceEqDiff, exists_eq', implies_true, exists_true_left, tys0, tys1, und0, und1, md31, Tryz.ntmps31, Tryz.results31]
    exact PostR.pure ⟨rfl, rfl⟩ rfl
def fltB (l : List Nat) : Blk := { ty := 28, w := 1, els := flts l }
theorem flts_kill (b : Nat) (l : List Nat) : (flts l).map (kill b) = flts l := by
  unfold flts
  rw [List.map_map]
  exact List.map_congr_left fun x _ => rfl
theorem allW_flt (x : Nat) : AllW 1 [AV.flt .f32 x] := by
  intro a ha
  rw [List.mem_singleton.1 ha]
  exact ⟨rfl, rfl⟩
theorem readNumbers_call (xs : List Nat) (hl : xs.length ≤ 256) (ok : ∀ x ∈ xs, okW x) : CallA Tryz.prog 32 [.str (wdsT (hexW xs))] [] (Ret (.tup [.sl 0 0 xs.length, .bool true]) [fltB xs]) := by
  refine CallP.out (t := .mk) (go_in (md := md32) mixed Tryz.func32 rfl go32 (by kernel_rfl) ?_)
  simp only [q0, q1, q2, q3, q4, q5, q6, q7, q8, q9, zr0, zr1, zr2, zr3, zq0, zq1, zq2, zq3, zq4, Nat.reduceAdd, Nat.reduceSub, lenA, convA, indexA, flatP, nilI, ifaA, indexS, Int.reduceToNat, cond_true, cond_false, ↓reduceIte, reduceCtorEq, Nat.reduceLT, Nat.reduceLeDiff, Nat.reduceMul, Nat.reduceEqDiff, exists_eq', implies_true, exists_true_left, tys0, tys1, und0, und1, md32, Tryz.ntmps32, Tryz.results32]
  refine call_ret (wordsOf_call (by decide) (by decide) (hexW xs) (hexW_ok hl)) rfl rfl ?_
  simp only [q0, q1, q2, q3, q4, q5, q6, q7, q8, q9, zr0, zr1, zr2, zr3, zq0, zq1, zq2, zq3, zq4, Nat.reduceAdd, Nat.reduceSub, lenA, convA, indexA, flatP, nilI, ifaA, indexS, Int.reduceToNat, cond_true, cond_false, ↓reduceIte, reduceCtorEq, Nat.reduceLT, Nat.reduceLeDiff, Nat.reduceMul, Nat.reduceEqDiff, exists_eq', implies_true, exists_true_left, tys0, tys1, und0, und1, md32, Tryz.ntmps32, Tryz.results32, strs_len, hexW_len]
  repeat (refine br_no (by first | exact decide_eq_false (by omega) | exact beq_false_of_ne (by omega) | (simp only [bne_eq_false_iff_eq, beq_eq_false_iff_ne, ne_eq]; omega)) ?_; simp only [q0, q1, q2, q3, q4, q5, q6, q7, q8, q9, zr0, zr1, zr2, zr3, zq0, zq1, zq2, zq3, zq4, Nat.reduceAdd, Nat.reduceSub, lenA, convA, indexA, flatP, nilI, ifaA, indexS, Int.reduceToNat, cond_true, cond_false, ↓reduceIte, reduceCtorEq, Nat.reduceLT, Nat.reduceLeDiff, Nat.reduceMul, Nat.reduceEqDiff, exists_eq', implies_true, exists_true_left, tys0, tys1, und0, und1, md32, Tryz.ntmps32, Tryz.results32, strs_len, hexW_len])
  refine go_round (md := md32) mixed (by kernel_rfl) (fun i : {i : Nat // i ≤ xs.length} => ⟨[.any, .any, .any, .any, .any, .any, .sl 0 0 i.1, .any, .any, .any, .any, .any, .any, .any, .any, .any, .any, .any, .any, .ro (strs (hexW xs)), .int .i64 xs.length, .int .i64 i.1, .any, .any, .any, .any, .any, .any, .any, .any, .any, .any, .any, .any, .any, .any, .any, .any], [fltB (xs.take i.1)]⟩) (fun i => xs.length - i.1) ⟨0, Nat.zero_le _⟩ ?_ ?_
  · exact weak_drop (by simp) (by simp [DropHp, ints_below, flts_below, fltB, flts, allBelow_cons, allBelow_nil, below, belowM, belowL]) (by simp [DropTm, DropV, below, belowM, belowL, fltB, flts, allBelow_cons, allBelow_nil, below, belowM, belowL])
  rintro ⟨i, hi⟩
  have ll : (flts (xs.take i)).length = i := by rw [flts_len, List.length_take]; omega
  have nx := fun h : i < xs.length => (show xs.take i ++ [xs[i]] = xs.take (i + 1) from (take_snoc _ _ h).symm)
  simp only [q0, q1, q2, q3, q4, q5, q6, q7, q8, q9, zr0, zr1, zr2, zr3, zq0, zq1, zq2, zq3, zq4, Nat.reduceAdd, Nat.reduceSub, lenA, convA, indexA, flatP, nilI, ifaA, indexS, Int.reduceToNat, cond_true, cond_false, ↓reduceIte, reduceCtorEq, Nat.reduceLT, Nat.reduceLeDiff, Nat.reduceMul, Nat.reduceEqDiff, exists_eq', implies_true, exists_true_left, tys0, tys1, und0, und1, md32, Tryz.ntmps32, Tryz.results32, fltB]
  refine br_intro (fun h => ?_) (fun h => ?_) <;> simp only [q0, q1, q2, q3, q4, q5, q6, q7, q8, q9, zr0, zr1, zr2, zr3, zq0, zq1, zq2, zq3, zq4, Nat.reduceAdd, Nat.reduceSub, lenA, convA, indexA, flatP, nilI, ifaA, indexS, Int.reduceToNat, cond_true, cond_false, ↓reduceIte, reduceCtorEq, Nat.reduceLT, Nat.reduceLeDiff, Nat.reduceMul, Nat.reduceEqDiff, exists_eq', implies_true, exists_true_left, tys0, tys1, und0, und1, md32, Tryz.ntmps32, Tryz.results32, fltB]
  · have hi' : i < xs.length := by have := of_decide_eq_true h; omega
    have hI : (i : Int) < (xs.length : Int) := by omega
    have nx := nx hi'
    have w1 : IntKind.i64.wrap ((i : Int) + 1) = ((i + 1 : Nat) : Int) := by rw [w64 (by omega) (by omega)]; omega
    have gw : ∀ h, (hexW xs)[i]'h = hexT xs[i] 8 := fun h => by simp [hexW]
    simp only [q0, q1, q2, q3, q4, q5, q6, q7, q8, q9, zr0, zr1, zr2, zr3, zq0, zq1, zq2, zq3, zq4, Nat.reduceAdd, Nat.reduceSub, lenA, convA, indexA, flatP, nilI, ifaA, indexS, Int.reduceToNat, cond_true, cond_false, ↓reduceIte, reduceCtorEq, Nat.reduceLT, Nat.reduceLeDiff, Nat.reduceMul, Nat.reduceEqDiff, exists_eq', implies_true, exists_true_left, tys0, tys1, und0, und1, md32, Tryz.ntmps32, Tryz.results32, fltB, hi', hI, strs_len, hexW_len, strs_get, gw]
    refine call_ret (unhex_call xs[i] (ok _ (List.getElem_mem hi'))) rfl rfl ?_
    generalize xs.take i = T at ll nx
    simp only [q0, q1, q2, q3, q4, q5, q6, q7, q8, q9, zr0, zr1, zr2, zr3, zq0, zq1, zq2, zq3, zq4, Nat.reduceAdd, Nat.reduceSub, lenA, convA, indexA, flatP, nilI, ifaA, indexS, Int.reduceToNat, cond_true, cond_false, ↓reduceIte, reduceCtorEq, Nat.reduceLT, Nat.reduceLeDiff, Nat.reduceMul, Nat.reduceEqDiff, exists_eq', implies_true, exists_true_left, tys0, tys1, und0, und1, md32, Tryz.ntmps32, Tryz.results32, fltB, hi', hI, allW_int, fits, List.isEmpty_cons, brk_false, Nat.reduceMul, ll, w1]
    repeat (refine br_no (by first | exact decide_eq_false (by omega) | exact beq_false_of_ne (by omega) | (simp only [bne_eq_false_iff_eq, beq_eq_false_iff_ne, ne_eq]; omega)) ?_; simp only [q0, q1, q2, q3, q4, q5, q6, q7, q8, q9, zr0, zr1, zr2, zr3, zq0, zq1, zq2, zq3, zq4, Nat.reduceAdd, Nat.reduceSub, lenA, convA, indexA, flatP, nilI, ifaA, indexS, Int.reduceToNat, cond_true, cond_false, ↓reduceIte, reduceCtorEq, Nat.reduceLT, Nat.reduceLeDiff, Nat.reduceMul, Nat.reduceEqDiff, exists_eq', implies_true, exists_true_left, tys0, tys1, und0, und1, md32, Tryz.ntmps32, Tryz.results32, fltB, hi', hI, allW_int, fits, List.isEmpty_cons, brk_false, Nat.reduceMul, ll, w1])
    refine ⟨allW_flt _, by omega, ⟨i + 1, by omega⟩, by show xs.length - (i + 1) < _; omega, ?_⟩
    show Weak 0 _ ⟨_, _⟩
    rw [nx]
    exact weak_drop (by simp) (by simp [DropHp, ints_below, flts_below, fltB, flts_below, allBelow_cons, allBelow_nil, below, belowM, belowL]) (by simp [DropTm, DropV, below, belowM, belowL, fltB, flts_below, allBelow_cons, allBelow_nil, below, belowM, belowL])
  · have hi' : i = xs.length := by have := of_decide_eq_false h; omega
    subst hi'
    rw [List.take_length]
    exact PostR.ret
end Go.Proofs.YtkjabkgmkkcpdaaGreatDoor
