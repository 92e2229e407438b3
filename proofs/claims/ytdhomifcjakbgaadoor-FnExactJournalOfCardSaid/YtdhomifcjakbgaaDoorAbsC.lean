/- The abstract layer, part C: floats with one NaN: the operations answer alike whichever NaN comes in. -/
import Derived.Test.YtdhomifcjakbgaaDoorAbsB
namespace Go.Abs
open Go
variable {P : Program}

theorem isNaN_iff (k : FloatKind) (b : Nat) : (k.decode b).isNaN = true ↔ k.format.infRung < b % k.format.signWeight := by
  unfold FloatKind.decode Ieee.Format.read
  have hi : k.format.binade ≤ k.format.infRung := by cases k <;> decide
  simp only []
  split
  · simp only [Ieee.Datum.isNaN]; constructor <;> intro h <;> first | (cases h) | omega
  · split
    · simp only [Ieee.Datum.isNaN]; constructor <;> intro h <;> first | (cases h) | omega
    · split
      · simp only [Ieee.Datum.isNaN]; constructor <;> intro h <;> first | (cases h) | omega
      · simp only [Ieee.Datum.isNaN, true_iff]; omega

theorem nanOf_isNaN (k : FloatKind) : (k.decode (nanOf k)).isNaN = true := by
  rw [isNaN_iff]; cases k <;> decide

theorem canon_of_nan {k : FloatKind} {b : Nat} (h : (k.decode b).isNaN = true) : canon k b = nanOf k := by simp [canon, h]
theorem canon_of_not {k : FloatKind} {b : Nat} (h : (k.decode b).isNaN = false) : canon k b = b := by simp [canon, h]
theorem canon_isNaN (k : FloatKind) (b : Nat) : (k.decode (canon k b)).isNaN = (k.decode b).isNaN := by
  cases h : (k.decode b).isNaN with
  | true => rw [canon_of_nan h]; exact nanOf_isNaN k
  | false => rw [canon_of_not h]; exact h
theorem canon_canon (k : FloatKind) (b : Nat) : canon k (canon k b) = canon k b := by
  cases h : (k.decode b).isNaN with
  | true => rw [canon_of_nan h, canon_of_nan (nanOf_isNaN k)]
  | false => rw [canon_of_not h, canon_of_not h]
theorem canon_nanOf (k : FloatKind) : canon k (nanOf k) = nanOf k := canon_of_nan (nanOf_isNaN k)

theorem nan_of {d : Ieee.Datum} (h : d.isNaN = true) : ∃ s t, d = .nan s t := by
  cases d with
  | nan s t => exact ⟨s, t, rfl⟩
  | number s m e => cases h
  | infinity s => cases h

/-- A function of two data that knows no NaN answers alike at the one NaN. -/
theorem canon_two {α : Type} (k : FloatKind) (φ : Ieee.Datum → Ieee.Datum → Option α) (hl : ∀ s t d, φ (.nan s t) d = none) (hr : ∀ s t d, φ d (.nan s t) = none) (a b : Nat) :
    φ (k.decode (canon k a)) (k.decode (canon k b)) = φ (k.decode a) (k.decode b) := by
  cases ha : (k.decode a).isNaN with
  | true =>
    obtain ⟨s, t, e⟩ := nan_of ha
    obtain ⟨s', t', e'⟩ := nan_of ((canon_isNaN k a).trans ha)
    rw [e, e', hl, hl]
  | false =>
    rw [canon_of_not ha]
    cases hb : (k.decode b).isNaN with
    | true =>
      obtain ⟨s, t, e⟩ := nan_of hb
      obtain ⟨s', t', e'⟩ := nan_of ((canon_isNaN k b).trans hb)
      rw [e, e', hr, hr]
    | false => rw [canon_of_not hb]

theorem canon_add (k : FloatKind) (a b : Nat) : k.format.add (canon k a) (canon k b) = k.format.add a b :=
  canon_two k (fun x y => (x.sum y).map k.format.write) (fun _ _ d => by cases d <;> rfl) (fun _ _ d => by cases d <;> rfl) a b
theorem canon_sub (k : FloatKind) (a b : Nat) : k.format.sub (canon k a) (canon k b) = k.format.sub a b :=
  canon_two k (fun x y => (x.sum y.opposite).map k.format.write) (fun _ _ d => by cases d <;> rfl) (fun _ _ d => by cases d <;> rfl) a b
theorem canon_mul (k : FloatKind) (a b : Nat) : k.format.mul (canon k a) (canon k b) = k.format.mul a b :=
  canon_two k (fun x y => (x.product y).map k.format.write) (fun _ _ d => by cases d <;> rfl) (fun _ _ d => by cases d <;> rfl) a b
theorem canon_div (k : FloatKind) (a b : Nat) : k.format.div (canon k a) (canon k b) = k.format.div a b :=
  canon_two k (fun x y => (x.quotient (k.format.fractionBits + 2) y).map k.format.write) (fun _ _ d => by cases d <;> rfl) (fun _ _ d => by cases d <;> rfl) a b
theorem canon_order (k : FloatKind) (a b : Nat) : k.format.order (canon k a) (canon k b) = k.format.order a b :=
  canon_two k (fun x y => x.order y) (fun _ _ d => by cases d <;> rfl) (fun _ _ d => by cases d <;> rfl) a b

theorem neg_mod (k : FloatKind) (b : Nat) : Op.negFloat k b % k.format.signWeight = b % k.format.signWeight := by
  have h : Op.negFloat k b = b ^^^ k.format.signWeight := rfl
  rw [h]
  have e : ∃ n, k.format.signWeight = 2 ^ n := ⟨_, rfl⟩
  obtain ⟨n, e⟩ := e
  rw [e, Nat.xor_mod_two_pow, Nat.mod_self, Nat.xor_zero]

theorem canon_neg (k : FloatKind) (b : Nat) : canon k (Op.negFloat k (canon k b)) = canon k (Op.negFloat k b) := by
  cases h : (k.decode b).isNaN with
  | false => rw [canon_of_not h]
  | true =>
    have h1 : (k.decode (Op.negFloat k b)).isNaN = true := by rw [isNaN_iff, neg_mod]; exact (isNaN_iff k b).1 h
    have h2 : (k.decode (Op.negFloat k (canon k b))).isNaN = true := by
      rw [isNaN_iff, neg_mod]; exact (isNaN_iff k _).1 ((canon_isNaN k b).trans h)
    rw [canon_of_nan h1, canon_of_nan h2]

theorem cut_mod (S I u a : Nat) (h : I + 1 + u < S) : I < (a * S + I + 1 + u) % S := by
  have e : a * S + I + 1 + u = S * a + (I + 1 + u) := by rw [Nat.mul_comm a S]; omega
  rw [e, Nat.mul_add_mod, Nat.mod_eq_of_lt h]
  omega

/-- What the tape gives for a NaN is one. -/
theorem cut_nanBits (k : FloatKind) (x y t : Nat) : canon k ((Question.nanBits k x y).cut t) = nanOf k := by
  apply canon_of_nan
  rw [isNaN_iff]
  cases k
  · exact cut_mod 2147483648 2139095040 _ _ (by have := Nat.mod_lt (t / 2) (show 0 < 2 ^ 23 - 1 by decide); omega)
  · exact cut_mod 9223372036854775808 9218868437227405312 _ _ (by have := Nat.mod_lt (t / 2) (show 0 < 2 ^ 52 - 1 by decide); omega)
theorem cut_nanConv (k : FloatKind) (x t : Nat) : canon k ((Question.nanConv k x).cut t) = nanOf k := by
  apply canon_of_nan
  rw [isNaN_iff]
  cases k
  · exact cut_mod 2147483648 2139095040 _ _ (by have := Nat.mod_lt (t / 2) (show 0 < 2 ^ 23 - 1 by decide); omega)
  · exact cut_mod 9223372036854775808 9218868437227405312 _ _ (by have := Nat.mod_lt (t / 2) (show 0 < 2 ^ 52 - 1 by decide); omega)

theorem decode_canon_not {k : FloatKind} {b : Nat} (h : (k.decode (canon k b)).isNaN = false) : canon k b = b := canon_of_not ((canon_isNaN k b).symm.trans h)
end Go.Abs
