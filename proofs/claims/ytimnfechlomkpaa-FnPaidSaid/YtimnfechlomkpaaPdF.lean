/- Products and quotients of small numbers, as the library and the reference make them. -/
import Derived.Test.YtimnfechlomkpaaPdA
set_option maxRecDepth 10000
set_option maxHeartbeats 8000000
set_option linter.unusedSimpArgs false
set_option linter.unusedVariables false
namespace Go.Proofs.Ytimnfechlomkpaa
open Go Go.Abs

theorem and_mask {n : Int} (k : Nat) (hk : k ≤ 62) (h0 : 0 ≤ n) (h1 : n ≤ 9223372036854775807) : (((BitVec.ofInt 64 n &&& BitVec.ofInt 64 (((2 ^ k - 1 : Nat) : Int))).toNat : Nat) : Int) = n % 2 ^ k := by
  obtain ⟨m, rfl⟩ := Int.eq_ofNat_of_zero_le h0
  rw [BitVec.toNat_and]
  have e1 : (BitVec.ofInt 64 (m : Int)).toNat = m := by
    rw [BitVec.ofInt_natCast, BitVec.toNat_ofNat]
    exact Nat.mod_eq_of_lt (by omega)
  have hp : 2 ^ k ≤ 2 ^ 62 := Nat.pow_le_pow_right (by decide) hk
  have e2 : (BitVec.ofInt 64 (((2 ^ k - 1 : Nat) : Int))).toNat = 2 ^ k - 1 := by
    rw [BitVec.ofInt_natCast, BitVec.toNat_ofNat]
    exact Nat.mod_eq_of_lt (by omega)
  rw [e1, e2, Nat.and_two_pow_sub_one_eq_mod]
  simp
theorem mask32 {n : Int} (h0 : 0 ≤ n) (h1 : n < 4294967296) : IntKind.u64.wrap (((BitVec.ofInt IntKind.u64.bits n &&& BitVec.ofInt IntKind.u64.bits 4294967295).toNat : Nat) : Int) = n := by
  have h := and_mask (n := n) 32 (by decide) h0 (by omega)
  have e : (((2 ^ 32 - 1 : Nat) : Int)) = 4294967295 := rfl
  rw [e] at h
  show IntKind.u64.wrap (((BitVec.ofInt 64 n &&& BitVec.ofInt 64 4294967295).toNat : Nat) : Int) = n
  rw [h, show (2 : Int) ^ 32 = 4294967296 from rfl, Int.emod_eq_of_lt h0 h1]
  exact IntWalk.u64_in _ (by omega)
theorem shr32 {n : Int} (h0 : 0 ≤ n) (h1 : n < 4294967296) : n.fdiv (2 ^ min 32 IntKind.u64.bits) = 0 := by
  show n.fdiv 4294967296 = 0
  rw [Int.fdiv_eq_ediv_of_nonneg _ (by decide)]
  exact Int.ediv_eq_zero_of_lt h0 h1
theorem mul64_call (x y : Int) (x0 : 0 ≤ x) (x1 : x ≤ 2000) (y0 : 0 ≤ y) (y1 : y ≤ 2000) : CallA Try.prog 39 [.int .u64 x, .int .u64 y] [] (Ret (.tup [.int .u64 0, .int .u64 (x * y)]) []) := by
  have p0 := Int.mul_nonneg x0 y0
  have p1 : x * y ≤ 4000000 := by
    have a := Int.mul_le_mul_of_nonneg_right x1 y0
    have b := Int.mul_le_mul_of_nonneg_left y1 (show (0 : Int) ≤ 2000 by decide)
    omega
  have e1 := mask32 x0 (by omega)
  have e2 := mask32 y0 (by omega)
  have e3 := shr32 x0 (by omega)
  have e4 := shr32 y0 (by omega)
  have e5 : IntKind.u64.wrap (x * y) = x * y := IntWalk.u64_in _ (by omega)
  have e6 := shr32 p0 (by omega)
  have e7 := mask32 (n := 0) (by decide) (by decide)
  have e8 := shr32 (n := 0) (by decide) (by decide)
  have e9 : IntKind.u64.wrap 0 = 0 := by decide
  refine CallP.out (t := .mk) (go_in (md := md39) mixed Try.func39 rfl go39 (by kernel_rfl) ?_)
  simp only [q0, q1, q2, q3, q4, q5, q6, q7, q8, q9, zq0, zq1, zq2, zq3, zq4, guardSlot, quietA, nilC, nilA, quietB, St.ev, St.put, St.after, Nat.reduceAdd, Nat.reduceSub, ofV, ofL, lenA, binA, intBin, fltBin, strBin, cpxBin, unA, convA, convB, convO, pickV, resL, oneA, indexA, indexS, isQuiet, loadA, loadC, storeA, fieldA, partA, sliceA, boundA, buildA, placeA, setAll, appendA, readSl, newEl, AV.cells, AV.solid, AV.one, kill, killM, killL, notInt, Int.reduceToNat, cond_true, cond_false, ↓reduceIte, reduceCtorEq, Nat.reduceLT, Nat.reduceLeDiff, Nat.reduceMul, Nat.reduceEqDiff, exists_eq', putF, implies_true, exists_true_left, tys0, tys1, tys2, tys3, und0, und1, und2, md39, Try.ntmps39, Try.results39, e1, e2, e3, e4, e5, e6, e7, e8, e9, Int.zero_mul, Int.mul_zero, Int.add_zero, Int.zero_add]
  refine ⟨by decide, by decide, by decide, by decide, by decide, ?_⟩
  exact PostR.pure ⟨rfl, rfl⟩ rfl
theorem div64_call (x y : Int) (x0 : 0 ≤ x) (x1 : x ≤ 10000000000) (y0 : 1 ≤ y) (y1 : y ≤ 100000) : CallA Try.prog 40 [.int .u64 0, .int .u64 x, .int .u64 y] [] (Ret (.tup [.int .u64 (x / y), .int .u64 (x % y)]) []) := by
  have d0 := Int.ediv_nonneg x0 (show 0 ≤ y by omega)
  have d1 := Int.ediv_le_self y x0
  have e1 : x.tdiv y = x / y := Int.tdiv_eq_ediv_of_nonneg x0
  have e2 : x.tmod y = x % y := Int.tmod_eq_emod_of_nonneg x0
  have e3 : IntKind.u64.wrap (x / y) = x / y := IntWalk.u64_in _ (by omega)
  refine CallP.out (t := .mk) (go_in (md := md40) mixed Try.func40 rfl go40 (by kernel_rfl) ?_)
  simp only [q0, q1, q2, q3, q4, q5, q6, q7, q8, q9, zq0, zq1, zq2, zq3, zq4, guardSlot, quietA, nilC, nilA, quietB, St.ev, St.put, St.after, Nat.reduceAdd, Nat.reduceSub, ofV, ofL, lenA, binA, intBin, fltBin, strBin, cpxBin, unA, convA, convB, convO, pickV, resL, oneA, indexA, indexS, isQuiet, loadA, loadC, storeA, fieldA, partA, sliceA, boundA, buildA, placeA, setAll, appendA, readSl, newEl, AV.cells, AV.solid, AV.one, kill, killM, killL, notInt, Int.reduceToNat, cond_true, cond_false, ↓reduceIte, reduceCtorEq, Nat.reduceLT, Nat.reduceLeDiff, Nat.reduceMul, Nat.reduceEqDiff, exists_eq', putF, implies_true, exists_true_left, tys0, tys1, tys2, tys3, und0, und1, und2, md40, Try.ntmps40, Try.results40]
  refine br_no (by simp; omega) ?_
  simp only [q0, q1, q2, q3, q4, q5, q6, q7, q8, q9, zq0, zq1, zq2, zq3, zq4, guardSlot, quietA, nilC, nilA, quietB, St.ev, St.put, St.after, Nat.reduceAdd, Nat.reduceSub, ofV, ofL, lenA, binA, intBin, fltBin, strBin, cpxBin, unA, convA, convB, convO, pickV, resL, oneA, indexA, indexS, isQuiet, loadA, loadC, storeA, fieldA, partA, sliceA, boundA, buildA, placeA, setAll, appendA, readSl, newEl, AV.cells, AV.solid, AV.one, kill, killM, killL, notInt, Int.reduceToNat, cond_true, cond_false, ↓reduceIte, reduceCtorEq, Nat.reduceLT, Nat.reduceLeDiff, Nat.reduceMul, Nat.reduceEqDiff, exists_eq', putF, implies_true, exists_true_left, tys0, tys1, tys2, tys3, und0, und1, und2, md40, Try.ntmps40, Try.results40]
  refine br_no (decide_eq_false (by omega)) ?_
  simp only [q0, q1, q2, q3, q4, q5, q6, q7, q8, q9, zq0, zq1, zq2, zq3, zq4, guardSlot, quietA, nilC, nilA, quietB, St.ev, St.put, St.after, Nat.reduceAdd, Nat.reduceSub, ofV, ofL, lenA, binA, intBin, fltBin, strBin, cpxBin, unA, convA, convB, convO, pickV, resL, oneA, indexA, indexS, isQuiet, loadA, loadC, storeA, fieldA, partA, sliceA, boundA, buildA, placeA, setAll, appendA, readSl, newEl, AV.cells, AV.solid, AV.one, kill, killM, killL, notInt, Int.reduceToNat, cond_true, cond_false, ↓reduceIte, reduceCtorEq, Nat.reduceLT, Nat.reduceLeDiff, Nat.reduceMul, Nat.reduceEqDiff, exists_eq', putF, implies_true, exists_true_left, tys0, tys1, tys2, tys3, und0, und1, und2, md40, Try.ntmps40, Try.results40, e1, e2, e3, beq_self_eq_true]
  refine ⟨by omega, by omega, ?_⟩
  exact PostR.pure ⟨rfl, rfl⟩ rfl
theorem and_one {n : Int} (h0 : 0 ≤ n) (h1 : n ≤ 9223372036854775807) : IntKind.i64.wrap (((BitVec.ofInt IntKind.i64.bits n &&& BitVec.ofInt IntKind.i64.bits 1).toNat : Nat) : Int) = n % 2 := by
  have h := and_mask (n := n) 1 (by decide) h0 h1
  show IntKind.i64.wrap (((BitVec.ofInt 64 n &&& BitVec.ofInt 64 1).toNat : Nat) : Int) = n % 2
  have e : (((2 ^ 1 - 1 : Nat) : Int)) = 1 := rfl
  rw [e, show (2 : Int) ^ 1 = 2 from rfl] at h
  rw [h]
  exact w64 (by omega) (by omega)
theorem shr_by {n : Int} (k : Nat) (hk : k ≤ 60) : n.fdiv (2 ^ min (k : Int).toNat IntKind.i64.bits) = n / 2 ^ k := by
  rw [Int.toNat_natCast, Int.fdiv_eq_ediv_of_nonneg _ (Int.pow_nonneg (by decide)), Nat.min_eq_left (by show k ≤ 64; omega)]
def rmd (a c : Int) : Int := a % c
theorem twice_step {T q r b c : Int} (β : Int) (hc : 1 ≤ c) (hq : q = T / c) (hr : r = T % c) : 2 * q + (2 * r + β) / c = (2 * T + β) / c ∧ (2 * r + β) % c = (2 * T + β) % c := by
  have h := Int.mul_ediv_add_emod T c
  rw [← hq, ← hr] at h
  have e : 2 * T + β = (2 * r + β) + c * (2 * q) := by
    rw [← h, Int.mul_add, Int.mul_left_comm]; omega
  rw [e, Int.add_mul_ediv_left _ _ (by omega), Int.add_mul_emod_self_left]
  constructor
  · omega
  · rfl
theorem twice_call (a b c : Int) (a0 : 0 ≤ a) (a1 : a ≤ 2000) (b0 : 0 ≤ b) (b1 : b ≤ 2000) (c0 : 1 ≤ c) (c1 : c ≤ 100000) : CallA Try.prog 52 [.int .i64 a, .int .i64 b, .int .i64 c] [] (Ret (.tup [.int .i64 (a * b / c), .int .i64 (a * b % c)]) []) := by
  refine CallP.out (t := .mk) (go_in (md := md52) mixed Try.func52 rfl go52 (by kernel_rfl) ?_)
  simp only [q0, q1, q2, q3, q4, q5, q6, q7, q8, q9, zq0, zq1, zq2, zq3, zq4, guardSlot, quietA, nilC, nilA, quietB, St.ev, St.put, St.after, Nat.reduceAdd, Nat.reduceSub, ofV, ofL, lenA, binA, intBin, fltBin, strBin, cpxBin, unA, convA, convB, convO, pickV, resL, oneA, indexA, indexS, isQuiet, loadA, loadC, storeA, fieldA, partA, sliceA, boundA, buildA, placeA, setAll, appendA, readSl, newEl, AV.cells, AV.solid, AV.one, kill, killM, killL, notInt, Int.reduceToNat, cond_true, cond_false, ↓reduceIte, reduceCtorEq, Nat.reduceLT, Nat.reduceLeDiff, Nat.reduceMul, Nat.reduceEqDiff, exists_eq', putF, implies_true, exists_true_left, tys0, tys1, tys2, tys3, und0, und1, und2, md52, Try.ntmps52, Try.results52]
  refine go_round (md := md52) mixed (by kernel_rfl) (fun k : {k : Nat // k ≤ 41} => ⟨[.int .i64 a, .int .i64 b, .int .i64 c, .any, .any, .any, .any, .any, .int .i64 (a / 2 ^ k.1 * b / c), .int .i64 (rmd (a / 2 ^ k.1 * b) c), .int .i64 ((k.1 : Int) - 1), .any, .any, .any, .any, .any, .any, .any, .any, .any, .any, .any, .any, .any, .any, .any, .any, .any, .any, .any, .any, .any, .any, .any, .any, .any, .any, .any], []⟩) (fun k => k.1) ⟨41, by decide⟩ ?_ ?_
  · have z : a / 2 ^ 41 = 0 := Int.ediv_eq_zero_of_lt a0 (by show a < 2199023255552; omega)
    have z2 : (0 : Int) / c = 0 := Int.zero_ediv c
    have z3 : rmd (0 : Int) c = 0 := Int.zero_emod c
    rw [z, Int.zero_mul, z2, z3]
    exact weak_drop (by simp) (by simp [DropHp, ints_below, flts_below]) (by simp [DropTm, DropV, below, belowM, belowL])
  rintro ⟨k, hk⟩
  have Ab : 0 ≤ a / 2 ^ k ∧ a / 2 ^ k ≤ a := ⟨Int.ediv_nonneg a0 (Int.pow_nonneg (by decide)), Int.ediv_le_self _ a0⟩
  have T0 := Int.mul_nonneg Ab.1 b0
  have T1 : a / 2 ^ k * b ≤ 4000000 := by
    have x := Int.mul_le_mul_of_nonneg_right (show a / 2 ^ k ≤ 2000 by omega) b0
    have y := Int.mul_le_mul_of_nonneg_left b1 (show (0 : Int) ≤ 2000 by decide)
    omega
  have Q0 := Int.ediv_nonneg T0 (show 0 ≤ c by omega)
  have Q1 := Int.ediv_le_self c T0
  have R0 : 0 ≤ rmd (a / 2 ^ k * b) c := Int.emod_nonneg (a / 2 ^ k * b) (show c ≠ 0 by omega)
  have R1 : rmd (a / 2 ^ k * b) c < c := Int.emod_lt_of_pos (a / 2 ^ k * b) (show 0 < c by omega)
  simp only [q0, q1, q2, q3, q4, q5, q6, q7, q8, q9, zq0, zq1, zq2, zq3, zq4, guardSlot, quietA, nilC, nilA, quietB, St.ev, St.put, St.after, Nat.reduceAdd, Nat.reduceSub, ofV, ofL, lenA, binA, intBin, fltBin, strBin, cpxBin, unA, convA, convB, convO, pickV, resL, oneA, indexA, indexS, isQuiet, loadA, loadC, storeA, fieldA, partA, sliceA, boundA, buildA, placeA, setAll, appendA, readSl, newEl, AV.cells, AV.solid, AV.one, kill, killM, killL, notInt, Int.reduceToNat, cond_true, cond_false, ↓reduceIte, reduceCtorEq, Nat.reduceLT, Nat.reduceLeDiff, Nat.reduceMul, Nat.reduceEqDiff, exists_eq', putF, implies_true, exists_true_left, tys0, tys1, tys2, tys3, und0, und1, und2, md52, Try.ntmps52, Try.results52]
  refine br_intro (fun g => ?_) (fun g => ?_) <;> simp only [q0, q1, q2, q3, q4, q5, q6, q7, q8, q9, zq0, zq1, zq2, zq3, zq4, guardSlot, quietA, nilC, nilA, quietB, St.ev, St.put, St.after, Nat.reduceAdd, Nat.reduceSub, ofV, ofL, lenA, binA, intBin, fltBin, strBin, cpxBin, unA, convA, convB, convO, pickV, resL, oneA, indexA, indexS, isQuiet, loadA, loadC, storeA, fieldA, partA, sliceA, boundA, buildA, placeA, setAll, appendA, readSl, newEl, AV.cells, AV.solid, AV.one, kill, killM, killL, notInt, Int.reduceToNat, cond_true, cond_false, ↓reduceIte, reduceCtorEq, Nat.reduceLT, Nat.reduceLeDiff, Nat.reduceMul, Nat.reduceEqDiff, exists_eq', putF, implies_true, exists_true_left, tys0, tys1, tys2, tys3, und0, und1, und2, md52, Try.ntmps52, Try.results52]
  · have g' := of_decide_eq_true g
    obtain ⟨j, rfl⟩ : ∃ j, k = j + 1 := ⟨k - 1, by omega⟩
    have e1 : IntKind.u64.wrap (((j + 1 : Nat) : Int) - 1) = (j : Int) := by
      rw [IntWalk.u64_in _ (by omega)]; omega
    have e2 := shr_by (n := a) j (by omega)
    have e3 := and_one (n := a / 2 ^ j) (Int.ediv_nonneg a0 (Int.pow_nonneg (by decide))) (by have := Int.ediv_le_self (2 ^ j) a0; omega)
    have e4 : a / 2 ^ j = 2 * (a / 2 ^ (j + 1)) + a / 2 ^ j % 2 := by
      have := Int.mul_ediv_add_emod (a / 2 ^ j) 2
      rw [Int.ediv_ediv_of_nonneg (Int.pow_nonneg (by decide)), ← Int.pow_succ] at this
      exact this.symm
    have e5 : IntKind.i64.wrap (a / 2 ^ (j + 1) * b / c * 2) = 2 * (a / 2 ^ (j + 1) * b / c) := by rw [w64 (by omega) (by omega)]; omega
    have e6 : IntKind.i64.wrap (rmd (a / 2 ^ (j + 1) * b) c * 2) = 2 * rmd (a / 2 ^ (j + 1) * b) c := by rw [w64 (by omega) (by omega)]; omega
    have eb : IntKind.i64.wrap (((j + 1 : Nat) : Int) - 1 - 1) = (j : Int) - 1 := by rw [w64 (by omega) (by omega)]; omega
    generalize hT : a / 2 ^ (j + 1) * b = T at *
    have fin : ∀ β : Int, a / 2 ^ j * b = 2 * T + β → 2 * (T / c) + (2 * rmd T c + β) / c = a / 2 ^ j * b / c ∧ rmd (2 * rmd T c + β) c = rmd (a / 2 ^ j * b) c := fun β h => by
      rw [h]; exact twice_step (b := b) β c0 rfl rfl
    rw [e1, e2, e3]
    refine ⟨by omega, ?_⟩
    have cn : c ≠ 0 := by omega
    have step : ∀ β : Int, 0 ≤ β → β ≤ 2000 → a / 2 ^ j * b = 2 * T + β → IntKind.i64.wrap (2 * (T / c) + IntKind.i64.wrap ((2 * rmd T c + β).tdiv c)) = a / 2 ^ j * b / c ∧ (2 * rmd T c + β).tmod c = rmd (a / 2 ^ j * b) c := fun β l u h => by
      obtain ⟨f1, f2⟩ := fin β h
      have n0 : 0 ≤ 2 * rmd T c + β := by omega
      have d0 := Int.ediv_nonneg n0 (show 0 ≤ c by omega)
      have d1 := Int.ediv_le_self c n0
      rw [Int.tdiv_eq_ediv_of_nonneg n0, Int.tmod_eq_emod_of_nonneg n0, w64 (n := (2 * rmd T c + β) / c) (by omega) (by omega), w64 (by omega) (by omega)]
      exact ⟨f1, f2⟩
    refine br_intro (fun u => ?_) (fun u => ?_) <;> simp only [q0, q1, q2, q3, q4, q5, q6, q7, q8, q9, zq0, zq1, zq2, zq3, zq4, guardSlot, quietA, nilC, nilA, quietB, St.ev, St.put, St.after, Nat.reduceAdd, Nat.reduceSub, ofV, ofL, lenA, binA, intBin, fltBin, strBin, cpxBin, unA, convA, convB, convO, pickV, resL, oneA, indexA, indexS, isQuiet, loadA, loadC, storeA, fieldA, partA, sliceA, boundA, buildA, placeA, setAll, appendA, readSl, newEl, AV.cells, AV.solid, AV.one, kill, killM, killL, notInt, Int.reduceToNat, cond_true, cond_false, ↓reduceIte, reduceCtorEq, Nat.reduceLT, Nat.reduceLeDiff, Nat.reduceMul, Nat.reduceEqDiff, exists_eq', putF, implies_true, exists_true_left, tys0, tys1, tys2, tys3, und0, und1, und2, md52, Try.ntmps52, Try.results52, e5, e6, eb]
    · have u' : a / 2 ^ j % 2 = 1 := by simpa using u
      obtain ⟨s1, s2⟩ := step b b0 b1 (by rw [e4, u', Int.add_mul, Int.mul_assoc, hT, Int.one_mul])
      have e7 : IntKind.i64.wrap (2 * rmd T c + b) = 2 * rmd T c + b := w64 (by omega) (by omega)
      rw [e7]
      refine ⟨cn, cn, ⟨j, by omega⟩, by show j < j + 1; omega, ?_⟩
      rw [s1, s2]
      exact weak_drop (by simp) (by simp [DropHp, ints_below, flts_below]) (by simp [DropTm, DropV, below, belowM, belowL])
    · have u' : a / 2 ^ j % 2 = 0 := by have : ¬ a / 2 ^ j % 2 = 1 := by simpa using u
                                        omega
      obtain ⟨s1, s2⟩ := step 0 (by decide) (by decide) (by rw [e4, u', Int.add_mul, Int.mul_assoc, hT, Int.zero_mul])
      rw [Int.add_zero] at s1 s2
      refine ⟨cn, cn, ⟨j, by omega⟩, by show j < j + 1; omega, ?_⟩
      rw [s1, s2]
      exact weak_drop (by simp) (by simp [DropHp, ints_below, flts_below]) (by simp [DropTm, DropV, below, belowM, belowL])
  · have g' := of_decide_eq_false g
    have hk0 : k = 0 := by omega
    subst hk0
    have z : a / 2 ^ 0 = a := by rw [Int.pow_zero]; exact Int.ediv_one a
    rw [z]
    exact PostR.pure ⟨rfl, rfl⟩ rfl
end Go.Proofs.Ytimnfechlomkpaa
