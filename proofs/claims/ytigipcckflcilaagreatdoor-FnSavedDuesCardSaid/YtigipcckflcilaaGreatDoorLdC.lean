/- What is saved, as bytes that are read: the program's reader of bytes. -/
import Derived.Test.YtigipcckflcilaaGreatDoorLdA
set_option maxRecDepth 10000
set_option maxHeartbeats 4000000
set_option linter.unusedSimpArgs false
set_option linter.unusedVariables false
namespace Go.Proofs.YtigipcckflcilaaGreatDoor
open Go Go.Abs

def rdB (s : List UInt8) (a : Nat) (b : Bool) : Blk := { ty := 98, w := 3, els := [.agg [.str s, .int .i64 ((a : Nat) : Int), .bool b]] }
def tkB (s : List UInt8) (a : Nat) (b : Bool) (c : Nat) : Bool := b || decide (s.length < a + c)
def tkA (s : List UInt8) (a : Nat) (b : Bool) (c : Nat) : Nat := if tkB s a b c = true then a else a + c
def tkS (s : List UInt8) (a : Nat) (b : Bool) (c : Nat) : List UInt8 := if tkB s a b c = true then [] else (s.drop a).take c
theorem tkS_len (s : List UInt8) (a : Nat) (b : Bool) (c : Nat) : (tkS s a b c).length ≤ c := by
  unfold tkS
  split
  · simp
  · rw [List.length_take]; omega
theorem tkS_len2 (s : List UInt8) (a : Nat) (b : Bool) (c : Nat) : (tkS s a b c).length ≤ s.length := by
  unfold tkS
  split
  · simp
  · rw [List.length_take, List.length_drop]; omega
theorem take_call (s : List UInt8) (a : Nat) (b : Bool) (c : Nat) (ha : a ≤ s.length) (hc : c ≤ 70000) (hs : s.length ≤ 1048576) : CallA Tryz.prog 74 [.ptr 0 0 0, .int .i64 ((c : Nat) : Int)] [rdB s a b] (Ret (.str (tkS s a b c)) [rdB s (tkA s a b c) (tkB s a b c)]) := by
  have w1 : IntKind.i64.wrap ((s.length : Int) - (a : Int)) = ((s.length - a : Nat) : Int) := by rw [w64 (by omega) (by omega)]; omega
  have w2 : IntKind.i64.wrap ((a : Int) + (c : Int)) = ((a + c : Nat) : Int) := by rw [w64 (by omega) (by omega)]; omega
  have w3 : IntKind.i64.wrap (((a + c : Nat) : Int) - (c : Int)) = ((a : Nat) : Int) := by rw [w64 (by omega) (by omega)]; omega
  have tA : tkA s a b c = if tkB s a b c = true then a else a + c := rfl
  have tS : tkS s a b c = if tkB s a b c = true then [] else (s.drop a).take c := rfl
  refine CallP.out (t := .mk) (go_in (md := md74) mixed Tryz.func74 rfl go74 (by kernel_rfl) ?_)
  simp only [q0, q1, q2, q3, q4, q5, q6, q7, q8, q9, zr0, zr1, zr2, zr3, zq0, zq1, zq2, zq3, zq4, Nat.reduceAdd, Nat.reduceSub, lenA, convA, convO, indexA, indexS, Int.reduceToNat, cond_true, cond_false, ↓reduceIte, reduceCtorEq, Nat.reduceLT, Nat.reduceLeDiff, Nat.reduceMul, Nat.reduceEqDiff, exists_eq', implies_true, exists_true_left, tys0, tys1, tys2, und0, und1, md74, Tryz.ntmps74, Tryz.results74, rdB, w1, w2, w3]
  cases b with
  | true =>
    have tB : tkB s a true c = true := rfl
    rw [tA, tS, tB]
    simp only [q0, q1, q2, q3, q4, q5, q6, q7, q8, q9, zr0, zr1, zr2, zr3, zq0, zq1, zq2, zq3, zq4, Nat.reduceAdd, Nat.reduceSub, lenA, convA, convO, indexA, indexS, Int.reduceToNat, cond_true, cond_false, ↓reduceIte, reduceCtorEq, Nat.reduceLT, Nat.reduceLeDiff, Nat.reduceMul, Nat.reduceEqDiff, exists_eq', implies_true, exists_true_left, tys0, tys1, tys2, und0, und1, md74, Tryz.ntmps74, Tryz.results74, rdB, w1, w2, w3]
    exact PostR.ret
  | false =>
    have tB : tkB s a false c = decide (s.length < a + c) := rfl
    simp only [q0, q1, q2, q3, q4, q5, q6, q7, q8, q9, zr0, zr1, zr2, zr3, zq0, zq1, zq2, zq3, zq4, Nat.reduceAdd, Nat.reduceSub, lenA, convA, convO, indexA, indexS, Int.reduceToNat, cond_true, cond_false, ↓reduceIte, reduceCtorEq, Nat.reduceLT, Nat.reduceLeDiff, Nat.reduceMul, Nat.reduceEqDiff, exists_eq', implies_true, exists_true_left, tys0, tys1, tys2, und0, und1, md74, Tryz.ntmps74, Tryz.results74, rdB, w1, w2, w3]
    refine br_intro (fun g => ?_) (fun g => ?_) <;> simp only [q0, q1, q2, q3, q4, q5, q6, q7, q8, q9, zr0, zr1, zr2, zr3, zq0, zq1, zq2, zq3, zq4, Nat.reduceAdd, Nat.reduceSub, lenA, convA, convO, indexA, indexS, Int.reduceToNat, cond_true, cond_false, ↓reduceIte, reduceCtorEq, Nat.reduceLT, Nat.reduceLeDiff, Nat.reduceMul, Nat.reduceEqDiff, exists_eq', implies_true, exists_true_left, tys0, tys1, tys2, und0, und1, md74, Tryz.ntmps74, Tryz.results74, rdB, w1, w2, w3]
    · have g := of_decide_eq_true g
      rw [tA, tS, tB, decide_eq_true (by omega)]
      exact PostR.ret
    · have g := of_decide_eq_false g
      have e : (s.take (a + c)).drop a = (s.drop a).take c := by rw [List.drop_take, show a + c - a = c by omega]
      rw [tA, tS, tB, decide_eq_false (by omega), ← e]
      refine ⟨by omega, by omega, ?_⟩
      exact PostR.ret
theorem or_num {x c n : Nat} (hx : x < 2 ^ n) (h : 2 ^ n * c + x < 9223372036854775808) : ((BitVec.ofInt 64 ((x : Nat) : Int) ||| BitVec.ofInt 64 ((2 ^ n * c : Nat) : Int)).toNat : Int) = ((x + 2 ^ n * c : Nat) : Int) := by
  have e : ∀ m : Nat, m < 18446744073709551616 → (BitVec.ofInt 64 ((m : Nat) : Int)).toNat = m := fun m hm => by
    rw [BitVec.toNat_ofInt]
    have : ((2 ^ 64 : Nat) : Int) = 18446744073709551616 := by decide
    rw [this]
    omega
  rw [BitVec.toNat_or, e x (by omega), e _ (by omega)]
  have := Nat.two_pow_add_eq_or_of_lt hx c
  rw [Nat.or_comm, ← this, Nat.add_comm]
theorem num_take {l : List UInt8} {i : Nat} (h : i < l.length) : num (l.take (i + 1)) = num (l.take i) + 256 ^ i * l[i].toNat := by
  rw [take_snoc _ _ h, num_snoc, List.length_take, Nat.min_eq_left (by omega)]
theorem pow_two_eight (i : Nat) : (256 : Nat) ^ i = 2 ^ (8 * i) := by
  rw [Nat.pow_mul]
theorem number_call (s : List UInt8) (a : Nat) (b : Bool) (c : Nat) (ha : a ≤ s.length) (hc : c ≤ 4) (hs : s.length ≤ 1048576) : CallA Tryz.prog 75 [.ptr 0 0 0, .int .i64 ((c : Nat) : Int)] [rdB s a b] (Ret (.int .i64 ((num (tkS s a b c) : Nat) : Int)) [rdB s (tkA s a b c) (tkB s a b c)]) := by
  have tc := take_call s a b c ha (by omega) hs
  have tl := tkS_len s a b c
  generalize tkS s a b c = l at tc tl
  generalize tkA s a b c = a2 at tc
  generalize tkB s a b c = b2 at tc
  refine CallP.out (t := .mk) (go_in (md := md75) mixed Tryz.func75 rfl go75 (by kernel_rfl) ?_)
  simp only [q0, q1, q2, q3, q4, q5, q6, q7, q8, q9, zr0, zr1, zr2, zr3, zq0, zq1, zq2, zq3, zq4, Nat.reduceAdd, Nat.reduceSub, lenA, convA, convO, indexA, indexS, Int.reduceToNat, cond_true, cond_false, ↓reduceIte, reduceCtorEq, Nat.reduceLT, Nat.reduceLeDiff, Nat.reduceMul, Nat.reduceEqDiff, exists_eq', implies_true, exists_true_left, tys0, tys1, tys2, und0, und1, md75, Tryz.ntmps75, Tryz.results75]
  refine call_by tc ?_
  rintro r hp ⟨rfl, rfl⟩
  simp only [q0, q1, q2, q3, q4, q5, q6, q7, q8, q9, zr0, zr1, zr2, zr3, zq0, zq1, zq2, zq3, zq4, Nat.reduceAdd, Nat.reduceSub, lenA, convA, convO, indexA, indexS, Int.reduceToNat, cond_true, cond_false, ↓reduceIte, reduceCtorEq, Nat.reduceLT, Nat.reduceLeDiff, Nat.reduceMul, Nat.reduceEqDiff, exists_eq', implies_true, exists_true_left, tys0, tys1, tys2, und0, und1, md75, Tryz.ntmps75, Tryz.results75]
  refine ⟨by omega, ?_⟩
  refine go_round (md := md75) mixed (by kernel_rfl) (fun i : {i : Nat // i ≤ l.length} => ⟨[.any, .any, .any, .any, .any, .int .i64 ((num (l.take i.1) : Nat) : Int), .any, .any, .any, .any, .any, .sl 1 0 l.length, .int .i64 l.length, .int .i64 i.1, .any, .any, .any, .any, .any, .any, .any, .any, .any, .any, .any, .any, .any], [rdB s a2 b2, { ty := 5, w := 1, els := byts l }]⟩) (fun i => l.length - i.1) ⟨0, by omega⟩ ?_ ?_
  · refine weak_same rfl ?_
    simp [SameTm, num]
  rintro ⟨i, hi⟩
  have bl := byts_len l
  simp only [q0, q1, q2, q3, q4, q5, q6, q7, q8, q9, zr0, zr1, zr2, zr3, zq0, zq1, zq2, zq3, zq4, Nat.reduceAdd, Nat.reduceSub, lenA, convA, convO, indexA, indexS, Int.reduceToNat, cond_true, cond_false, ↓reduceIte, reduceCtorEq, Nat.reduceLT, Nat.reduceLeDiff, Nat.reduceMul, Nat.reduceEqDiff, exists_eq', implies_true, exists_true_left, tys0, tys1, tys2, und0, und1, md75, Tryz.ntmps75, Tryz.results75, bl]
  refine br_intro (fun g => ?_) (fun g => ?_) <;> simp only [q0, q1, q2, q3, q4, q5, q6, q7, q8, q9, zr0, zr1, zr2, zr3, zq0, zq1, zq2, zq3, zq4, Nat.reduceAdd, Nat.reduceSub, lenA, convA, convO, indexA, indexS, Int.reduceToNat, cond_true, cond_false, ↓reduceIte, reduceCtorEq, Nat.reduceLT, Nat.reduceLeDiff, Nat.reduceMul, Nat.reduceEqDiff, exists_eq', implies_true, exists_true_left, tys0, tys1, tys2, und0, und1, md75, Tryz.ntmps75, Tryz.results75, bl]
  · have g := of_decide_eq_true g
    have h0 : i < l.length := by omega
    have hI : (i : Int) < (l.length : Int) := by omega
    have nl := num_lt (l.take i)
    rw [List.length_take, Nat.min_eq_left (by omega), pow_two_eight] at nl
    have nt := num_take h0
    rw [pow_two_eight] at nt
    have lc := l[i].toNat_lt
    simp only [q0, q1, q2, q3, q4, q5, q6, q7, q8, q9, zr0, zr1, zr2, zr3, zq0, zq1, zq2, zq3, zq4, Nat.reduceAdd, Nat.reduceSub, lenA, convA, convO, indexA, indexS, Int.reduceToNat, cond_true, cond_false, ↓reduceIte, reduceCtorEq, Nat.reduceLT, Nat.reduceLeDiff, Nat.reduceMul, Nat.reduceEqDiff, exists_eq', implies_true, exists_true_left, tys0, tys1, tys2, und0, und1, md75, Tryz.ntmps75, Tryz.results75, bl, h0, hI]
    have be : ∀ h, (byts l)[i]'h = AV.int .u8 (l[i].toNat : Int) := fun h => by simp [byts]
    have i4 : 8 * i ≤ 24 := by omega
    have v1 : IntKind.i64.wrap (l[i].toNat : Int) = (l[i].toNat : Int) := w64 (by omega) (by omega)
    have v2 : IntKind.i64.wrap (8 * (i : Int)) = ((8 * i : Nat) : Int) := by rw [w64 (by omega) (by omega)]; omega
    have v3 : IntKind.i64.wrap ((i : Int) + 1) = ((i + 1 : Nat) : Int) := by rw [w64 (by omega) (by omega)]; omega
    have p24 : (2 : Nat) ^ (8 * i) ≤ 2 ^ 24 := Nat.pow_le_pow_right (by decide) i4
    have e24 : (2 : Nat) ^ 24 = 16777216 := by decide
    refine ⟨by rw [be]; exact Nat.zero_lt_one, ?_⟩
    simp only [q0, q1, q2, q3, q4, q5, q6, q7, q8, q9, zr0, zr1, zr2, zr3, zq0, zq1, zq2, zq3, zq4, Nat.reduceAdd, Nat.reduceSub, lenA, convA, convO, indexA, indexS, Int.reduceToNat, cond_true, cond_false, ↓reduceIte, reduceCtorEq, Nat.reduceLT, Nat.reduceLeDiff, Nat.reduceMul, Nat.reduceEqDiff, exists_eq', implies_true, exists_true_left, tys0, tys1, tys2, und0, und1, md75, Tryz.ntmps75, Tryz.results75, be, v1, v2, v3]
    have hb : 2 ^ (8 * i) * l[i].toNat ≤ 16777216 * 255 := Nat.mul_le_mul (by omega) (by omega)
    have v4 : (l[i].toNat : Int) * 2 ^ min (8 * i) IntKind.i64.bits = ((2 ^ (8 * i) * l[i].toNat : Nat) : Int) := by
      show (l[i].toNat : Int) * 2 ^ min (8 * i) 64 = _
      rw [Nat.min_eq_left (by omega), Int.mul_comm]
      push_cast
      rfl
    have v5 : IntKind.i64.wrap ((2 ^ (8 * i) * l[i].toNat : Nat) : Int) = ((2 ^ (8 * i) * l[i].toNat : Nat) : Int) := w64 (by omega) (by omega)
    have v6 := or_num nl (c := l[i].toNat) (by omega)
    have v7 : IntKind.i64.wrap ((num (l.take i) + 2 ^ (8 * i) * l[i].toNat : Nat) : Int) = ((num (l.take (i + 1)) : Nat) : Int) := by rw [w64 (by omega) (by omega), nt]
    refine ⟨⟨i + 1, by omega⟩, by show l.length - (i + 1) < l.length - i; omega, ?_⟩
    rw [v4, v5]
    rw [show IntKind.i64.wrap ((BitVec.ofInt IntKind.i64.bits ((num (l.take i) : Nat) : Int) ||| BitVec.ofInt IntKind.i64.bits ((2 ^ (8 * i) * l[i].toNat : Nat) : Int)).toNat : Int) = ((num (l.take (i + 1)) : Nat) : Int) from (congrArg IntKind.i64.wrap v6).trans v7]
    refine weak_same rfl ?_
    simp [SameTm]
  · have g : i = l.length := by have := of_decide_eq_false g; omega
    subst g
    rw [List.take_length]
    exact PostR.drop _ _ (by simp) (by simp [DropHp, ints_below, flts_below, rdB, allBelow_cons, allBelow_nil, below, belowM, belowL]) (by simp [DropV, below, belowM, belowL, rdB, allBelow_cons, allBelow_nil, below, belowM, belowL]) ⟨rfl, rfl⟩
end Go.Proofs.YtigipcckflcilaaGreatDoor
