/- The abstract layer, part T: a float32 made a float64 is never too great. -/
import Derived.Test.YtdhomifcjakbgaaDoorAbsS
set_option linter.unusedSimpArgs false
set_option linter.unusedVariables false
namespace Go.Abs
open Go
variable {P : Program}

theorem word_mod (f : Ieee.Format) (s : Bool) (r : Nat) (h : r < f.signWeight) : f.word s r % f.signWeight = r := by
  unfold Ieee.Format.word
  cases s
  · simp only [Bool.false_eq_true, if_false]; exact Nat.mod_eq_of_lt h
  · simp only [if_true, Nat.add_mod_left]; exact Nat.mod_eq_of_lt h

theorem read_fin (f : Ieee.Format) (s : Bool) (r : Nat) (h : r < f.infRung) (hi : f.infRung < f.signWeight) : (f.read (f.word s r)).isInfinity = false := by
  unfold Ieee.Format.read
  simp only [word_mod f s r (by omega)]
  split
  · rfl
  · rfl

theorem cut_none (way : Ieee.Toward) (neg : Bool) (n : Nat) : Ieee.Toward.even.cut neg n 0 = n := by
  simp [Ieee.Toward.cut, Nat.mod_one]

/-- What a float32 stands for. -/
theorem read_single (x : Nat) (s : Bool) (m : Nat) (e : Int) (h : FloatKind.f32.decode x = .number s m e) : m < 16777216 ∧ -149 ≤ e ∧ e ≤ 104 := by
  have hb : Ieee.single.binade = 8388608 := by decide
  have hl : Ieee.single.leastPlace = -149 := by decide
  have hi : Ieee.single.infRung = 2139095040 := by decide
  have h' : Ieee.single.read x = .number s m e := h
  unfold Ieee.Format.read at h'
  simp only [hb, hl, hi] at h'
  generalize x % Ieee.single.signWeight = r at h'
  split at h'
  · injection h' with h1 h2 h3; subst h2; subst h3; exact ⟨by omega, by omega, by omega⟩
  · split at h'
    · injection h' with h1 h2 h3
      subst h2; subst h3
      have : r / 8388608 ≤ 254 := by omega
      have hm := Nat.mod_lt r (y := 8388608) (by omega)
      exact ⟨by omega, by omega, by omega⟩
    · split at h' <;> cases h'

theorem small (y z : Nat) (h : y ≤ 1149) (hz : z < 9007199254740992) : min (y * 4503599627370496 + z) (2047 * 4503599627370496) < 2047 * 4503599627370496 := by omega

theorem near_wide (s : Bool) (m : Nat) (e : Int) (hm : m < 16777216) (h1 : -149 ≤ e) (h2 : e ≤ 104) : ∃ r, Ieee.double.nearest s m e = Ieee.double.word s r ∧ r < Ieee.double.infRung := by
  have hi : Ieee.double.infRung = 2047 * 4503599627370496 := by decide
  have hb : Ieee.double.binade = 4503599627370496 := by decide
  have hl : Ieee.double.leastPlace = -1074 := by decide
  unfold Ieee.Format.nearest
  by_cases h0 : m = 0
  · rw [if_pos h0]; exact ⟨0, rfl, by rw [hi]; omega⟩
  rw [if_neg h0]
  have hlog : m.log2 ≤ 23 := by
    have := (Nat.log2_lt h0 (k := 24)).2 (by omega)
    omega
  have hmlt : m < 2 ^ (m.log2 + 1) := Nat.lt_log2_self
  simp only [hl, hb]
  have hf : Ieee.double.fractionBits = 52 := rfl
  rw [hf]
  generalize hlast : max (e + (m.log2 : Int) - (52 : Nat)) (-1074) = last
  have l1 : last ≤ 75 := by omega
  have l2 : last < e := by omega
  have l3 : -1074 ≤ last := by omega
  have l4 : e - last ≤ 52 - (m.log2 : Int) := by omega
  rw [show (last - e).toNat = 0 from by omega, cut_none .even]
  refine ⟨_, rfl, ?_⟩
  have hk : m <<< (e - last).toNat < 9007199254740992 := by
    rw [Nat.shiftLeft_eq]
    have a1 : 2 ^ (e - last).toNat ≤ 2 ^ (52 - m.log2) := Nat.pow_le_pow_right (by omega) (by omega)
    calc m * 2 ^ (e - last).toNat ≤ m * 2 ^ (52 - m.log2) := Nat.mul_le_mul_left _ a1
      _ < 2 ^ (m.log2 + 1) * 2 ^ (52 - m.log2) := Nat.mul_lt_mul_of_pos_right hmlt (Nat.two_pow_pos _)
      _ = 2 ^ 53 := by rw [← Nat.pow_add]; congr 1; omega
      _ = 9007199254740992 := by decide
  rw [hi]
  have hn : (last - -1074).toNat ≤ 1149 := by omega
  generalize (last - -1074).toNat = y at hn ⊢
  generalize m <<< (e - last).toNat = z at hk ⊢
  exact small y z hn hk

theorem wide_ok (x : Nat) : fconvOk .f64 .f32 x := by
  unfold fconvOk
  right
  cases h : FloatKind.f32.decode x with
  | number n m e =>
    obtain ⟨hm, h1, h2⟩ := read_single x n m e h
    obtain ⟨r, e1, e2⟩ := near_wide n m e hm h1 h2
    have e3 : FloatKind.f64.encode (.number n m e) = Ieee.double.word n r := e1
    show (FloatKind.f64.decode (FloatKind.f64.encode (.number n m e))).isInfinity = false
    rw [e3]
    exact read_fin Ieee.double n r e2 (by decide)
  | _ => trivial
end Go.Abs
