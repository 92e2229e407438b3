/- Hexadecimal digits: the library's.  -/
import Derived.Test.YtkjabkgmkkcpdaaGreatDoorNmG
import Derived.Test.YtkjabkgmkkcpdaaGreatDoorAbsM5
import Derived.WalkKit
import Derived.Laws.Externs
set_option maxRecDepth 100000
set_option maxHeartbeats 8000000
set_option linter.unusedSimpArgs false
set_option linter.unusedVariables false
namespace Go.Proofs.YtkjabkgmkkcpdaaGreatDoor
open Go Go.Abs
theorem tz64_call : CallA Tryz.prog 130 [.int .u64 16] [] (Ret (.int .i64 4) []) := by
  intro E vs H hl hrv
  obtain ⟨v, rfl, hv⟩ := RV.one hl hrv
  cases hv
  have hg : Tryz.prog.globalNamed "math/bits.deBruijn64tab" = some 6 := by kernel_rfl
  obtain ⟨_, ty, fr, hc⟩ := H.laid.1 ("math/bits.deBruijn64tab", .u8, bits64) (by simp [tables]) 6 hg
  have hcell : E.w.cell? ⟨6, 15, none⟩ = some (.int .u8 ((4 : Nat) : Int)) := by
    simp [World.cell?, hc, bits64]
  refine .inl ⟨go130, (tz_core 15 4 E.w (by decide) (by decide) (by decide) hcell).mono ?_⟩
  rintro ex w' ⟨rfl, rfl⟩
  exact ⟨_, rfl, .int .i64 4, [], E, rfl, ⟨rfl, rfl⟩, .int _ _, H, Fr.refl E []⟩
theorem tz_call : CallA Tryz.prog 119 [.int .u64 16] [] (Ret (.int .i64 4) []) := by
  refine CallP.out (t := .mk) (go_in (md := md119) mixed Tryz.func119 rfl go119 (by kernel_rfl) ?_)
  simp only [q0, q1, q2, q3, q4, q5, q6, q7, q8, q9, zr0, zr1, zr2, zr3, zq0, zq1, zq2, zq3, zq4, Nat.reduceAdd, Nat.reduceSub, lenA, convA, indexA, flatP, nilI, ifaA, indexS, sliceA, Int.reduceToNat, cond_true, cond_false, ↓reduceIte, reduceCtorEq, Nat.reduceLT, Nat.reduceLeDiff, Nat.reduceMul, Nat.reduceEqDiff, exists_eq', implies_true, exists_true_left, tys0, tys1, und0, und1, md119, Tryz.ntmps119, Tryz.results119]
  refine call_ret tz64_call rfl rfl ?_
  simp only [q0, q1, q2, q3, q4, q5, q6, q7, q8, q9, zr0, zr1, zr2, zr3, zq0, zq1, zq2, zq3, zq4, Nat.reduceAdd, Nat.reduceSub, lenA, convA, indexA, flatP, nilI, ifaA, indexS, sliceA, Int.reduceToNat, cond_true, cond_false, ↓reduceIte, reduceCtorEq, Nat.reduceLT, Nat.reduceLeDiff, Nat.reduceMul, Nat.reduceEqDiff, exists_eq', implies_true, exists_true_left, tys0, tys1, und0, und1, md119, Tryz.ntmps119, Tryz.results119]
  exact PostR.pure ⟨rfl, rfl⟩ rfl
theorem pow2_call : CallA Tryz.prog 118 [.int .i64 16] [] (Ret (.bool true) []) := by
  refine CallP.out (t := .mk) (go_in (md := md118) mixed Tryz.func118 rfl go118 (by kernel_rfl) ?_)
  simp only [q0, q1, q2, q3, q4, q5, q6, q7, q8, q9, zr0, zr1, zr2, zr3, zq0, zq1, zq2, zq3, zq4, Nat.reduceAdd, Nat.reduceSub, lenA, convA, indexA, flatP, nilI, ifaA, indexS, sliceA, Int.reduceToNat, cond_true, cond_false, ↓reduceIte, reduceCtorEq, Nat.reduceLT, Nat.reduceLeDiff, Nat.reduceMul, Nat.reduceEqDiff, exists_eq', implies_true, exists_true_left, tys0, tys1, und0, und1, md118, Tryz.ntmps118, Tryz.results118]
  exact PostR.pure ⟨by first | rfl | decide, rfl⟩ rfl
def hexC (d : Nat) : UInt8 := if d < 10 then UInt8.ofNat (48 + d) else UInt8.ofNat (87 + d)
def hexT (n : Nat) : Nat → List UInt8
  | 0 => []
  | k + 1 => hexC (n / 16 ^ k % 16) :: hexT n k
theorem hexT_len (n : Nat) : ∀ k, (hexT n k).length = k
  | 0 => rfl
  | k + 1 => by show (hexT n k).length + 1 = _; rw [hexT_len n k]
theorem hexT_pad (n : Nat) : ∀ (j k : Nat), n < 16 ^ k → hexT n (k + j) = List.replicate j 48 ++ hexT n k
  | 0, k, _ => rfl
  | j + 1, k, h => by
    show hexC (n / 16 ^ (k + j) % 16) :: hexT n (k + j) = _
    have hp : 16 ^ k ≤ 16 ^ (k + j) := Nat.pow_le_pow_right (by decide) (by omega)
    rw [hexT_pad n j k h, Nat.div_eq_of_lt (by omega)]
    rfl
theorem zero140 : zeroOf Tryz.prog 140 = .agg (List.replicate 65 (.int .u8 0)) := by kernel_rfl
def digs : List UInt8 := 48 :: 49 :: 50 :: 51 :: 52 :: 53 :: 54 :: 55 :: 56 :: 57 :: 97 :: 98 :: 99 :: 100 :: 101 :: 102 :: 103 :: 104 :: 105 :: 106 :: 107 :: 108 :: 109 :: 110 :: 111 :: 112 :: 113 :: 114 :: 115 :: 116 :: 117 :: 118 :: 119 :: 120 :: 121 :: 122 :: []
theorem digs_at (d : Nat) (h : d < 16) (h2 : d < digs.length) : digs[d] = hexC d := by
  revert h2
  revert d
  decide
theorem and15 (m : Nat) (h : m < 18446744073709551616) : IntKind.u64.wrap (((BitVec.ofInt IntKind.u64.bits (m : Int) &&& BitVec.ofInt IntKind.u64.bits 15).toNat : Nat) : Int) = ((m % 16 : Nat) : Int) := by
  have e1 : BitVec.ofInt IntKind.u64.bits (m : Int) = BitVec.ofNat IntKind.u64.bits m := BitVec.ofInt_natCast _ _
  have e2 : BitVec.ofInt IntKind.u64.bits 15 = BitVec.ofNat IntKind.u64.bits 15 := rfl
  rw [e1, e2, BitVec.toNat_and, BitVec.toNat_ofNat, BitVec.toNat_ofNat]
  have b : IntKind.u64.bits = 64 := rfl
  rw [b, Nat.mod_eq_of_lt (by omega), show 15 % 2 ^ 64 = 2 ^ 4 - 1 from rfl, Nat.and_two_pow_sub_one_eq_mod]
  simp [IntKind.wrap, IntKind.signed, IntKind.bits]
  omega
theorem rep_set (m : Nat) (c : UInt8) (T : List UInt8) : (List.replicate (m + 1) 0 ++ T).set m c = List.replicate m 0 ++ c :: T := by
  rw [List.replicate_succ', List.append_assoc, List.set_append_right _ _ (by simp)]
  simp
theorem byts_set (l : List UInt8) (i : Nat) (c : UInt8) : (byts l).set i (.int .u8 (c.toNat : Int)) = byts (l.set i c) := by
  unfold byts
  rw [List.map_set]
theorem und140 : Tryz.prog.underlying 140 = some (TypeDesc.array 65 5) := Tryz.underlying140
theorem shr4 (n j : Nat) : ((n / 16 ^ j : Nat) : Int).fdiv (2 ^ min 4 IntKind.u64.bits) = ((n / 16 ^ (j + 1) : Nat) : Int) := by
  have e : (2 : Int) ^ min 4 IntKind.u64.bits = ((16 : Nat) : Int) := by decide
  rw [e, Int.fdiv_eq_ediv_of_nonneg _ (by omega), ← Int.natCast_ediv, Nat.div_div_eq_div_mul, ← Nat.pow_succ]
theorem formatBits_call (n : Nat) (hn : n < 4294967296) : CallA Tryz.prog 100 [.nils, .int .u64 n, .int .i64 16, .bool false, .bool false] [] (fun r hp => ∃ k, 1 ≤ k ∧ k ≤ 8 ∧ n < 16 ^ k ∧ r = .tup [.nils, .str (hexT n k)] ∧ hp = []) := by
  refine CallP.out (t := .mk) (go_in (md := md100) mixed Tryz.func100 rfl go100 (by kernel_rfl) ?_)
  simp only [q0, q1, q2, q3, q4, q5, q6, q7, q8, q9, zr0, zr1, zr2, zr3, zq0, zq1, zq2, zq3, zq4, Nat.reduceAdd, Nat.reduceSub, lenA, convA, indexA, flatP, nilI, ifaA, indexS, sliceA, Int.reduceToNat, cond_true, cond_false, ↓reduceIte, reduceCtorEq, Nat.reduceLT, Nat.reduceLeDiff, Nat.reduceMul, Nat.reduceEqDiff, exists_eq', implies_true, exists_true_left, tys0, tys1, und0, und1, md100, Tryz.ntmps100, Tryz.results100, zero140]
  repeat (refine br_no (by first | exact decide_eq_false (by omega) | exact beq_false_of_ne (by omega) | (simp only [bne_eq_false_iff_eq, beq_eq_false_iff_ne, ne_eq]; omega)) ?_; simp only [q0, q1, q2, q3, q4, q5, q6, q7, q8, q9, zr0, zr1, zr2, zr3, zq0, zq1, zq2, zq3, zq4, Nat.reduceAdd, Nat.reduceSub, lenA, convA, indexA, flatP, nilI, ifaA, indexS, sliceA, Int.reduceToNat, cond_true, cond_false, ↓reduceIte, reduceCtorEq, Nat.reduceLT, Nat.reduceLeDiff, Nat.reduceMul, Nat.reduceEqDiff, exists_eq', implies_true, exists_true_left, tys0, tys1, und0, und1, md100, Tryz.ntmps100, Tryz.results100, zero140])
  refine call_ret pow2_call rfl rfl ?_
  simp only [q0, q1, q2, q3, q4, q5, q6, q7, q8, q9, zr0, zr1, zr2, zr3, zq0, zq1, zq2, zq3, zq4, Nat.reduceAdd, Nat.reduceSub, lenA, convA, indexA, flatP, nilI, ifaA, indexS, sliceA, Int.reduceToNat, cond_true, cond_false, ↓reduceIte, reduceCtorEq, Nat.reduceLT, Nat.reduceLeDiff, Nat.reduceMul, Nat.reduceEqDiff, exists_eq', implies_true, exists_true_left, tys0, tys1, und0, und1, md100, Tryz.ntmps100, Tryz.results100, zero140]
  refine call_ret tz_call rfl rfl ?_
  simp only [q0, q1, q2, q3, q4, q5, q6, q7, q8, q9, zr0, zr1, zr2, zr3, zq0, zq1, zq2, zq3, zq4, Nat.reduceAdd, Nat.reduceSub, lenA, convA, indexA, flatP, nilI, ifaA, indexS, sliceA, Int.reduceToNat, cond_true, cond_false, ↓reduceIte, reduceCtorEq, Nat.reduceLT, Nat.reduceLeDiff, Nat.reduceMul, Nat.reduceEqDiff, exists_eq', implies_true, exists_true_left, tys0, tys1, und0, und1, md100, Tryz.ntmps100, Tryz.results100, zero140]
  have hw16 : IntKind.u64.wrap 16 = 16 := by decide
  have hw4 : IntKind.u64.wrap 4 = 4 := by decide
  have hw15 : IntKind.u64.wrap (16 - 1) = 15 := by decide
  refine go_round (md := md100) mixed (by kernel_rfl) (fun j : {j : Nat // j ≤ 7} => ⟨(.any :: (.int .u64 ((n / 16 ^ j.1 : Nat) : Int)) :: .any :: (.bool false) :: (.bool false) :: .any :: .any :: .any :: .any :: .any :: .nils :: (.str []) :: (.ptr 0 0 0) :: (.int .i64 ((65 - j.1 : Nat) : Int)) :: (.int .u64 4) :: (.int .u64 16) :: (.int .u64 15) :: .any :: .any :: .any :: .any :: .any :: .any :: .any :: .any :: .any :: .any :: .any :: .any :: .any :: .any :: .any :: .any :: .any :: .any :: .any :: .any :: .any :: .any :: .any :: .any :: .any :: .any :: .any :: .any :: .any :: .any :: .any :: .any :: .any :: .any :: .any :: .any :: .any :: .any :: .any :: .any :: .any :: .any :: .any :: .any :: .any :: .any :: .any :: .any :: .any :: .any :: .any :: .any :: .any :: .any :: .any :: .any :: .any :: .any :: .any :: .any :: .any :: .any :: .any :: .any :: .any :: .any :: .any :: .any :: .any :: .any :: .any :: .any :: .any :: .any :: .any :: .any :: .any :: .any :: .any :: .any :: .any :: .any :: .any :: .any :: .any :: []), [{ ty := 140, w := 1, els := byts (List.replicate (65 - j.1) 0 ++ hexT n j.1) }]⟩) (fun j => 8 - j.1) ⟨0, Nat.zero_le _⟩ ?_ ?_
  · refine weak_flat (W := 65) (cs := List.replicate 65 (.int .u8 0)) (by decide) (by decide) ?_
    simp [FlatTm, FlatV, below, belowM, belowL, hw16, hw4, hw15, show IntKind.u64.wrap 15 = 15 from by decide]
  rintro ⟨j, hj⟩
  dsimp only
  have hl : (List.replicate (65 - j) (0 : UInt8) ++ hexT n j).length = 65 := by rw [List.length_append, List.length_replicate, hexT_len]; omega
  have hn1 : n / 16 ^ j < 4294967296 := Nat.lt_of_le_of_lt (Nat.div_le_self _ _) hn
  have hd16 : n / 16 ^ j % 16 < 16 := Nat.mod_lt _ (by decide)
  have a15 := and15 (n / 16 ^ j) (by omega)
  have wi : IntKind.i64.wrap (((65 - j : Nat) : Int) - 1) = ((64 - j : Nat) : Int) := by rw [w64 (by omega) (by omega)]; omega
  have dg : ∀ h, (48 :: 49 :: 50 :: 51 :: 52 :: 53 :: 54 :: 55 :: 56 :: 57 :: 97 :: 98 :: 99 :: 100 :: 101 :: 102 :: 103 :: 104 :: 105 :: 106 :: 107 :: 108 :: 109 :: 110 :: 111 :: 112 :: 113 :: 114 :: 115 :: 116 :: 117 :: 118 :: 119 :: 120 :: 121 :: 122 :: [] : List UInt8)[n / 16 ^ j % 16]'h = hexC (n / 16 ^ j % 16) := fun h => digs_at _ hd16 h
  have rs := rep_set (64 - j) (hexC (n / 16 ^ j % 16)) (hexT n j)
  rw [show 64 - j + 1 = 65 - j by omega] at rs
  simp only [q0, q1, q2, q3, q4, q5, q6, q7, q8, q9, zr0, zr1, zr2, zr3, zq0, zq1, zq2, zq3, zq4, Nat.reduceAdd, Nat.reduceSub, lenA, convA, indexA, flatP, nilI, ifaA, indexS, sliceA, Int.reduceToNat, cond_true, cond_false, ↓reduceIte, reduceCtorEq, Nat.reduceLT, Nat.reduceLeDiff, Nat.reduceMul, Nat.reduceEqDiff, exists_eq', implies_true, exists_true_left, tys0, tys1, und0, und1, md100, Tryz.ntmps100, Tryz.results100]
  refine br_intro (fun h => ?_) (fun h => ?_) <;> simp only [q0, q1, q2, q3, q4, q5, q6, q7, q8, q9, zr0, zr1, zr2, zr3, zq0, zq1, zq2, zq3, zq4, Nat.reduceAdd, Nat.reduceSub, lenA, convA, indexA, flatP, nilI, ifaA, indexS, sliceA, Int.reduceToNat, cond_true, cond_false, ↓reduceIte, reduceCtorEq, Nat.reduceLT, Nat.reduceLeDiff, Nat.reduceMul, Nat.reduceEqDiff, exists_eq', implies_true, exists_true_left, tys0, tys1, und0, und1, md100, Tryz.ntmps100, Tryz.results100, a15, und140, wi]
  · have hj' : 16 ≤ n / 16 ^ j := by have := of_decide_eq_true h; omega
    have hj7 : j ≤ 6 := by
      by_cases e : j = 7
      · subst e
        omega
      · omega
    refine ⟨by show n / 16 ^ j % 16 < 36; omega, by omega, by unfold byts; rw [List.length_map, hl]; omega, by omega, ⟨j + 1, by omega⟩, by show 8 - (j + 1) < _; omega, ?_⟩
    simp only [dg, Nat.mul_one, byts_set, rs, shr4]
    rw [show 65 - (j + 1) = 64 - j by omega, show hexC (n / 16 ^ j % 16) :: hexT n j = hexT n (j + 1) from rfl]
    exact weak_drop (by simp) (by simp [DropHp, ints_below, flts_below, byts_below]) (by simp [DropTm, DropV, below, belowM, belowL, byts_below])
  · have hj' : n / 16 ^ j < 16 := by have := of_decide_eq_false h; omega
    have dg0 := dg
    rw [Nat.mod_eq_of_lt hj'] at dg0 rs
    have hk : n < 16 ^ (j + 1) := by
      rw [Nat.pow_succ]
      exact Nat.mul_comm 16 (16 ^ j) ▸ (Nat.div_lt_iff_lt_mul (Nat.pow_pos (n := j) (show 0 < 16 by decide))).1 hj'
    have hx : hexT n (j + 1) = hexC (n / 16 ^ j) :: hexT n j := by show hexC (n / 16 ^ j % 16) :: _ = _; rw [Nat.mod_eq_of_lt hj']
    refine ⟨by show n / 16 ^ j < 36; omega, by omega, by unfold byts; rw [List.length_map, hl]; omega, by omega, by omega, by decide, ?_⟩
    simp only [dg0, Nat.mul_one, byts_set, rs]
    refine ⟨⟨_, rfl, rfl, rfl, ?_⟩, ⟨5, rfl, Tryz.underlying5⟩, hexT n (j + 1), ?_, by rw [hexT_len]; omega, ?_⟩
    · show 65 ≤ (byts _).length
      unfold byts
      rw [List.length_map, List.length_append, List.length_replicate, List.length_cons, hexT_len]
      omega
    · unfold byts
      rw [← List.map_drop, List.drop_left' (by rw [List.length_replicate]), ← hx, ← List.map_take, List.take_of_length_le (by rw [hexT_len]; omega)]
    · exact PostR.pure ⟨j + 1, by omega, by omega, hk, rfl, rfl⟩ rfl
end Go.Proofs.YtkjabkgmkkcpdaaGreatDoor
