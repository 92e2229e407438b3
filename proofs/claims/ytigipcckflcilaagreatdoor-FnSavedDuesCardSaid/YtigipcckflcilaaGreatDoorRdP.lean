/- Numerals that are read: the plain law. -/
import Derived.Test.YtigipcckflcilaaGreatDoorStH
import Derived.Lib.ParseIntBCases
set_option maxRecDepth 10000
set_option maxHeartbeats 2000000
set_option linter.unusedSimpArgs false
set_option linter.unusedVariables false
namespace Go.Proofs.YtigipcckflcilaaGreatDoor
open Go Go.Abs

def dig (c : UInt8) : Bool := decide (48 ≤ c.toNat) && decide (c.toNat ≤ 57)
def valD1 (n : Int) (c : UInt8) : Int := if dig c then 10 * n + (c.toNat - 48 : Int) else n
def valD (l : List UInt8) : Int := l.foldl valD1 0
def valOf (s : List UInt8) : Int := if s.head? = some 45 then -valD s else valD s
def decOf (s : List UInt8) : Option Int := if 1 ≤ s.length ∧ s.length ≤ 17 ∧ inR (-1000000000000000) 1000000000000000 (valOf s) = true ∧ Lib.itoa (valOf s) = s then some (valOf s) else none
theorem digit_toNat {m : Nat} (h : m < 10) : (UInt8.ofNat (48 + m)).toNat = 48 + m := by
  rw [UInt8.toNat_ofNat']; omega
theorem dig_digit {m : Nat} (h : m < 10) : dig (UInt8.ofNat (48 + m)) = true := by
  unfold dig
  rw [digit_toNat h]
  simp; omega
theorem valD_snoc (l : List UInt8) (c : UInt8) : valD (l ++ [c]) = valD1 (valD l) c := by simp [valD]
theorem valD_dec : ∀ (k u : Nat), u < k → valD (Lib.decDigits u) = u
  | 0, u, h => absurd h (Nat.not_lt_zero _)
  | k + 1, u, h => by
    by_cases hu : u < 10
    · rw [digits_one hu]
      show valD1 0 _ = _
      unfold valD1
      rw [dig_digit hu, if_pos rfl, digit_toNat hu]
      omega
    · have hm : u % 10 < 10 := Nat.mod_lt _ (by decide)
      rw [digits_step hu, valD_snoc, valD_dec k (u / 10) (by omega)]
      unfold valD1
      rw [dig_digit hm, if_pos rfl, digit_toNat hm]
      omega
theorem valD_minus (l : List UInt8) : valD (45 :: l) = valD l := rfl
theorem dec_digits : ∀ (k u : Nat), u < k → ∀ c ∈ Lib.decDigits u, dig c = true
  | 0, u, h => absurd h (Nat.not_lt_zero _)
  | k + 1, u, h => by
    intro c hc
    by_cases hu : u < 10
    · rw [digits_one hu] at hc
      rw [List.mem_singleton.1 hc]; exact dig_digit hu
    · rw [digits_step hu] at hc
      rcases List.mem_append.1 hc with m | m
      · exact dec_digits k (u / 10) (by omega) c m
      · rw [List.mem_singleton.1 m]; exact dig_digit (Nat.mod_lt _ (by decide))
theorem dec_head (u : Nat) : (Lib.decDigits u).head? ≠ some 45 := by
  intro h
  have hm : (45 : UInt8) ∈ Lib.decDigits u := List.mem_of_head? h
  have := dec_digits (u + 1) u (by omega) 45 hm
  revert this; decide
theorem valOf_itoa (n : Int) : valOf (Lib.itoa n) = n := by
  rw [itoa_abs]
  unfold valOf
  by_cases h : n < 0
  · rw [if_pos h, if_pos (by rfl), valD_minus, valD_dec (n.natAbs + 1) _ (by omega)]; omega
  · rw [if_neg h, if_neg (dec_head _), valD_dec (n.natAbs + 1) _ (by omega)]; omega
theorem itoa_17 {n : Int} (h : inR (-1000000000000000) 1000000000000000 n = true) : 1 ≤ (Lib.itoa n).length ∧ (Lib.itoa n).length ≤ 17 := by
  have h1 := inR_iff.1 h
  have h2 := dec_len 15 n.natAbs (by have : (10 : Nat) ^ (15 + 1) = 10000000000000000 := by decide
                                     omega)
  have h3 := List.length_pos_iff.2 (dec_ne n.natAbs)
  rw [itoa_abs]
  split
  · rw [List.length_cons]; omega
  · omega
theorem decOf_itoa {n : Int} (h : inR (-1000000000000000) 1000000000000000 n = true) : decOf (Lib.itoa n) = some n := by
  have h1 := itoa_17 h
  unfold decOf
  rw [valOf_itoa, if_pos ⟨h1.1, h1.2, h, rfl⟩]
theorem decOf_some {s : List UInt8} {n : Int} (h : decOf s = some n) : Lib.itoa n = s ∧ inR (-1000000000000000) 1000000000000000 n = true ∧ s.length ≤ 17 := by
  unfold decOf at h
  split at h
  · rename_i hc
    cases h
    exact ⟨hc.2.2.2, hc.2.2.1, hc.2.1⟩
  · cases h
theorem decOf_iff {s : List UInt8} {n : Int} : decOf s = some n ↔ Lib.itoa n = s ∧ inR (-1000000000000000) 1000000000000000 n = true :=
  ⟨fun h => ⟨(decOf_some h).1, (decOf_some h).2.1⟩, fun ⟨h1, h2⟩ => h1 ▸ decOf_itoa h2⟩

theorem parse_snoc (M : Nat) (c : UInt8) : ∀ (l : List UInt8) (acc a : Nat), Lib.parseUintM M acc l = .ok a → Lib.parseUintM M acc (l ++ [c]) = Lib.parseUintM M a [c]
  | [], acc, a, h => by
    unfold Lib.parseUintM at h
    cases h
    rfl
  | d :: l, acc, a, h => by
    rw [List.cons_append]
    unfold Lib.parseUintM at h ⊢
    split at h
    · rename_i h1
      rw [if_pos h1]
      split at h
      · cases h
      · rename_i h2
        rw [if_neg h2]
        split at h
        · cases h
        · rename_i h3
          rw [if_neg h3]
          exact parse_snoc M c l _ _ h
    · cases h
theorem parse_one {M a m : Nat} (hm : m < 10) (h1 : ¬ 1844674407370955162 ≤ a) (h2 : ¬ M < a * 10 + m) : Lib.parseUintM M a [UInt8.ofNat (48 + m)] = .ok (a * 10 + m) := by
  unfold Lib.parseUintM
  rw [digit_toNat hm, if_pos (by omega), if_neg h1, show 48 + m - 48 = m by omega, if_neg h2]
  rfl
theorem parse_dec (M : Nat) (hM : 1000000000000000 ≤ M) : ∀ (k u : Nat), u < k → u ≤ 1000000000000000 → Lib.parseUintM M 0 (Lib.decDigits u) = .ok u
  | 0, u, h, _ => absurd h (Nat.not_lt_zero _)
  | k + 1, u, h, hu => by
    by_cases h10 : u < 10
    · rw [digits_one h10]
      have := parse_one (M := M) (a := 0) h10 (by omega) (by omega)
      simpa using this
    · have hm : u % 10 < 10 := Nat.mod_lt _ (by decide)
      rw [digits_step h10, parse_snoc M _ _ _ _ (parse_dec M hM k (u / 10) (by omega) (by omega)), parse_one hm (by omega) (by omega)]
      congr 1; omega
theorem parseInt_itoa {n : Int} (h : inR (-1000000000000000) 1000000000000000 n = true) : Lib.parseIntB 64 (Lib.itoa n) = .ok n := by
  have h1 := inR_iff.1 h
  have hp := parse_dec (2 ^ 64 - 1) (by decide) (n.natAbs + 1) n.natAbs (by omega) (by omega)
  have hu : Lib.parseUintB 64 (Lib.decDigits n.natAbs) = .ok n.natAbs := by
    unfold Lib.parseUintB
    rw [if_neg (dec_ne _), hp]
  have e63 : (2 : Nat) ^ (64 - 1) = 9223372036854775808 := by decide
  rw [itoa_abs]
  by_cases hn : n < 0
  · rw [if_pos hn, Lib.parseIntB_minus, hu]
    unfold Lib.signedC
    rw [e63]
    show (if (9223372036854775808 : Nat) < n.natAbs then Lib.NumEnd.range else .ok (-(n.natAbs : Int))) = _
    rw [if_neg (by omega)]
    congr 1; omega
  · rw [if_neg hn]
    cases hd : Lib.decDigits n.natAbs with
    | nil => exact absurd hd (dec_ne _)
    | cons c r =>
      have dc : dig c = true := dec_digits (n.natAbs + 1) n.natAbs (by omega) c (by rw [hd]; exact List.mem_cons_self)
      unfold dig at dc
      simp only [Bool.and_eq_true, decide_eq_true_eq] at dc
      rw [Lib.parseIntB_plain 64 c r (by omega) (by omega), ← hd, hu]
      unfold Lib.signlessC
      rw [e63]
      show (if (9223372036854775808 : Nat) ≤ n.natAbs then Lib.NumEnd.range else .ok (n.natAbs : Int)) = _
      rw [if_neg (by omega)]
      congr 1; omega
theorem decOf_parse {s : List UInt8} {v : Int} (h : Lib.parseIntB 64 s = .ok v) : decOf s = if inR (-1000000000000000) 1000000000000000 v = true ∧ Lib.itoa v = s then some v else none := by
  split
  · rename_i hc
    exact decOf_iff.2 ⟨hc.2, hc.1⟩
  · rename_i hc
    cases hd : decOf s with
    | none => rfl
    | some n =>
      obtain ⟨h1, h2⟩ := decOf_iff.1 hd
      have := parseInt_itoa h2
      rw [h1, h] at this
      cases this
      exact absurd ⟨h2, h1⟩ hc
theorem decOf_bad {s : List UInt8} (h : ∀ v, Lib.parseIntB 64 s ≠ .ok v) : decOf s = none := by
  cases hd : decOf s with
  | none => rfl
  | some n =>
    obtain ⟨h1, h2⟩ := decOf_iff.1 hd
    exact absurd (h1 ▸ parseInt_itoa h2) (h n)
end Go.Proofs.YtigipcckflcilaaGreatDoor
