/- The greatest of a number, another and that one turned about. -/
import Derived.Test.YtdhomifcjakbgaaDoorAbsF
set_option linter.unusedVariables false
namespace Go.Abs
open Go
variable {P : Program}

theorem fmt_order (k : FloatKind) (x y : Nat) : k.format.order x y = (k.decode x).order (k.decode y) := rfl
theorem decode_neg (k : FloatKind) (b : Nat) {s : Bool} {m : Nat} {e : Int} (h : k.decode b = .number s m e) : k.decode (fneg k b) = .number (!s) m e := by
  have hp : 0 < k.format.signWeight := by cases k <;> decide
  have e0 : k.format.signWeight = 2 ^ (k.format.exponentBits + k.format.fractionBits) := rfl
  have h1 := neg_mod k b
  have h2 : Op.negFloat k b / k.format.signWeight % 2 = 1 - b / k.format.signWeight % 2 := by
    have hx : Op.negFloat k b = b ^^^ 2 ^ (k.format.exponentBits + k.format.fractionBits) := rfl
    rw [hx, e0, ← Nat.shiftRight_eq_div_pow, ← Nat.shiftRight_eq_div_pow, Nat.shiftRight_xor_distrib]
    have e1 : (2 ^ (k.format.exponentBits + k.format.fractionBits)) >>> (k.format.exponentBits + k.format.fractionBits) = 1 := by
      rw [Nat.shiftRight_eq_div_pow, Nat.div_self (Nat.two_pow_pos _)]
    rw [e1]
    generalize b >>> (k.format.exponentBits + k.format.fractionBits) = c
    have : (c ^^^ 1) % 2 = (c % 2) ^^^ 1 := by
      have := Nat.xor_mod_two_pow (a := c) (b := 1) (n := 1)
      simpa using this
    rw [this]
    rcases Nat.mod_two_eq_zero_or_one c with h | h <;> rw [h] <;> rfl
  have hd : k.decode (Op.negFloat k b) = .number (!s) m e := by
    have hr : k.decode b = k.format.read b := rfl
    have hr2 : k.decode (Op.negFloat k b) = k.format.read (Op.negFloat k b) := rfl
    rw [hr] at h
    rw [hr2]
    unfold Ieee.Format.read at h ⊢
    simp only [h1, h2] at h ⊢
    have flip : ((1 - b / k.format.signWeight % 2) == 1) = !(b / k.format.signWeight % 2 == 1) := by
      rcases Nat.mod_two_eq_zero_or_one (b / k.format.signWeight) with h | h <;> rw [h] <;> rfl
    rw [flip]
    split at h
    · rename_i c
      rw [if_pos c]
      injection h with h3 h4 h5
      rw [h3, h4, h5]
    · rename_i c
      rw [if_neg c]
      split at h
      · rename_i c2
        rw [if_pos c2]
        injection h with h3 h4 h5
        rw [h3, h4, h5]
      · split at h <;> cases h
  unfold fneg
  rw [canon_of_not (by rw [hd]; rfl), hd]

theorem decode_neg_inf (k : FloatKind) (b : Nat) {s : Bool} (h : k.decode b = .infinity s) : k.decode (fneg k b) = .infinity (!s) := by
  have hp : 0 < k.format.signWeight := by cases k <;> decide
  have e0 : k.format.signWeight = 2 ^ (k.format.exponentBits + k.format.fractionBits) := rfl
  have h1 := neg_mod k b
  have h2 : Op.negFloat k b / k.format.signWeight % 2 = 1 - b / k.format.signWeight % 2 := by
    have hx : Op.negFloat k b = b ^^^ 2 ^ (k.format.exponentBits + k.format.fractionBits) := rfl
    rw [hx, e0, ← Nat.shiftRight_eq_div_pow, ← Nat.shiftRight_eq_div_pow, Nat.shiftRight_xor_distrib]
    have e1 : (2 ^ (k.format.exponentBits + k.format.fractionBits)) >>> (k.format.exponentBits + k.format.fractionBits) = 1 := by
      rw [Nat.shiftRight_eq_div_pow, Nat.div_self (Nat.two_pow_pos _)]
    rw [e1]
    generalize b >>> (k.format.exponentBits + k.format.fractionBits) = c
    have : (c ^^^ 1) % 2 = (c % 2) ^^^ 1 := by
      have := Nat.xor_mod_two_pow (a := c) (b := 1) (n := 1)
      simpa using this
    rw [this]
    rcases Nat.mod_two_eq_zero_or_one c with h | h <;> rw [h] <;> rfl
  have hd : k.decode (Op.negFloat k b) = .infinity (!s) := by
    have hr : k.decode b = k.format.read b := rfl
    have hr2 : k.decode (Op.negFloat k b) = k.format.read (Op.negFloat k b) := rfl
    rw [hr] at h
    rw [hr2]
    unfold Ieee.Format.read at h ⊢
    simp only [h1, h2] at h ⊢
    have flip : ((1 - b / k.format.signWeight % 2) == 1) = !(b / k.format.signWeight % 2 == 1) := by
      rcases Nat.mod_two_eq_zero_or_one (b / k.format.signWeight) with h | h <;> rw [h] <;> rfl
    rw [flip]
    split at h
    · cases h
    · rename_i c
      rw [if_neg c]
      split at h
      · cases h
      · rename_i c2
        rw [if_neg c2]
        split at h
        · rename_i c3
          rw [if_pos c3]
          injection h with h3
          rw [h3]
        · cases h
  unfold fneg
  rw [canon_of_not (by rw [hd]; rfl), hd]

theorem signed_pos (m k : Nat) : 0 ≤ Ieee.signed false m k := by
  unfold Ieee.signed
  rw [if_neg (by decide)]
  exact Int.natCast_nonneg _
theorem signed_flip (s : Bool) (m k : Nat) : Ieee.signed (!s) m k = -Ieee.signed s m k := by cases s <;> simp [Ieee.signed]
theorem cmp_swap (a b : Int) : compare a b = .gt ↔ compare b a = .lt := by rw [Int.compare_eq_gt, Int.compare_eq_lt]

/-- It is a number, and bears no sign. -/
def Plus (k : FloatKind) (x : Nat) : Prop := ∃ m e, k.decode x = .number false m e
theorem max_abs (k : FloatKind) (w d z : Nat) {mz : Nat} {ez : Int} (hz : k.decode z = .number false 0 ez) (hw : Plus k w) {s : Bool} {m : Nat} {e : Int} (hd : k.decode d = .number s m e) :
    (k.format.order w d).isSome = true ∧ (k.format.order (fmax k w d) (fneg k d)).isSome = true ∧
    fmax k (fmax k w d) (fneg k d) = (if fgt k (if flt k d z then fneg k d else d) w then (if flt k d z then fneg k d else d) else w) ∧
    Plus k (fmax k (fmax k w d) (fneg k d)) := by
  obtain ⟨mw, ew, hw⟩ := hw
  have hn := decode_neg k d hd
  have o1 : k.format.order w d = some (compare (Ieee.signed false mw (ew - min ew e).toNat) (Ieee.signed s m (e - min ew e).toNat)) := by rw [fmt_order, hw, hd]; rfl
  have o2 : k.format.order d z = some (compare (Ieee.signed s m (e - min e ez).toNat) (Ieee.signed false 0 (ez - min e ez).toNat)) := by rw [fmt_order, hz, hd]; rfl
  have z0 : Ieee.signed false 0 (ez - min e ez).toNat = 0 := by simp [Ieee.signed]
  rw [z0] at o2
  have on : k.format.order w (fneg k d) = some (compare (Ieee.signed false mw (ew - min ew e).toNat) (Ieee.signed (!s) m (e - min ew e).toNat)) := by rw [fmt_order, hw, hn]; rfl
  have on' : k.format.order (fneg k d) w = some (compare (Ieee.signed (!s) m (e - min e ew).toNat) (Ieee.signed false mw (ew - min e ew).toNat)) := by rw [fmt_order, hw, hn]; rfl
  have od' : k.format.order d w = some (compare (Ieee.signed s m (e - min e ew).toNat) (Ieee.signed false mw (ew - min e ew).toNat)) := by rw [fmt_order, hw, hd]; rfl
  have odn : k.format.order d (fneg k d) = some (compare (Ieee.signed s m (e - min e e).toNat) (Ieee.signed (!s) m (e - min e e).toNat)) := by rw [fmt_order, hd, hn]; rfl
  have hmin : min e ew = min ew e := Int.min_comm ..
  rw [hmin] at on' od'
  have p1 := signed_pos mw (ew - min ew e).toNat
  have f1 := signed_flip s m (e - min ew e).toNat
  have wneg : (k.decode w).neg = false := by rw [hw]; rfl
  -- the sign of d, at any scale
  have sg : ∀ q : Nat, (Ieee.signed s m q < 0 ↔ s = true ∧ m ≠ 0) := by
    intro q
    have hq : 0 < 2 ^ q := Nat.two_pow_pos q
    cases s with
    | false => simp only [Bool.false_eq_true, false_and, iff_false]; have := signed_pos m q; omega
    | true =>
      simp only [Ieee.signed, if_true, true_and, Nat.shiftLeft_eq]
      by_cases hm : m = 0
      · subst hm; simp
      · have : 0 < m * 2 ^ q := Nat.mul_pos (by omega) hq
        constructor
        · intro _; exact hm
        · intro _; omega
  have lt0 : flt k d z = true ↔ s = true ∧ m ≠ 0 := by
    unfold flt
    rw [o2, ← sg (e - min e ez).toNat, ← Int.compare_eq_lt]
    simp
  by_cases neg : s = true ∧ m ≠ 0
  · -- d is less than 0
    have hl := lt0.2 neg
    have d1 := (sg (e - min ew e).toNat).2 neg
    have c1 : compare (Ieee.signed false mw (ew - min ew e).toNat) (Ieee.signed s m (e - min ew e).toNat) = .gt := Int.compare_eq_gt.2 (by omega)
    have m1 : fmax k w d = w := by unfold fmax; rw [o1, c1]
    rw [m1, hl]
    refine ⟨by rw [o1]; rfl, by rw [on]; rfl, ?_⟩
    simp only [if_true]
    unfold fmax fgt
    rw [on, on']
    generalize Ieee.signed false mw (ew - min ew e).toNat = A
    generalize Ieee.signed (!s) m (e - min ew e).toNat = B
    cases c : compare A B with
    | lt =>
      have : compare B A = .gt := (cmp_swap B A).2 c
      rw [this]
      exact ⟨rfl, m, e, by rw [neg.1] at hn; exact hn⟩
    | gt =>
      have : compare B A = .lt := (cmp_swap A B).1 c
      rw [this]
      exact ⟨rfl, mw, ew, hw⟩
    | eq =>
      have hab : A = B := Int.compare_eq_eq.1 c
      have : compare B A = .eq := Int.compare_eq_eq.2 hab.symm
      rw [this]
      simp only [wneg]
      exact ⟨rfl, mw, ew, hw⟩
  · have hl : flt k d z = false := by
      cases h : flt k d z with
      | false => rfl
      | true => exact absurd (lt0.1 h) neg
    have d1 : 0 ≤ Ieee.signed s m (e - min ew e).toNat := by
      apply Decidable.byContradiction
      intro h
      exact neg ((sg (e - min ew e).toNat).1 (by omega))
    have d2 : 0 ≤ Ieee.signed s m (e - min e e).toNat := by
      apply Decidable.byContradiction
      intro h
      exact neg ((sg (e - min e e).toNat).1 (by omega))
    have f2 := signed_flip s m (e - min e e).toNat
    rw [hl]
    simp only [Bool.false_eq_true, if_false]
    refine ⟨by rw [o1]; rfl, ?_⟩
    cases c : compare (Ieee.signed false mw (ew - min ew e).toNat) (Ieee.signed s m (e - min ew e).toNat) with
    | lt =>
      have clt := Int.compare_eq_lt.1 c
      have m1 : fmax k w d = d := by unfold fmax; rw [o1, c]
      have hs : s = false := by
        cases s with
        | false => rfl
        | true =>
          exfalso
          have hm : m = 0 := by
            apply Decidable.byContradiction
            intro h
            exact neg ⟨rfl, h⟩
          subst hm
          have zz : Ieee.signed true 0 (e - min ew e).toNat = 0 := by simp [Ieee.signed]
          rw [zz] at clt
          omega
      have dneg : (k.decode d).neg = false := by rw [hd, hs]; rfl
      have g : fgt k d w = true := by unfold fgt; rw [od', (cmp_swap _ _).2 c]; rfl
      rw [m1, g]
      refine ⟨by rw [odn]; rfl, ?_⟩
      have : fmax k d (fneg k d) = d := by
        unfold fmax
        rw [odn]
        cases c2 : compare (Ieee.signed s m (e - min e e).toNat) (Ieee.signed (!s) m (e - min e e).toNat) with
        | lt => have := Int.compare_eq_lt.1 c2; omega
        | gt => rfl
        | eq => simp only [dneg]; rfl
      rw [this]
      exact ⟨rfl, m, e, by rw [hs] at hd; exact hd⟩
    | gt =>
      have m1 : fmax k w d = w := by unfold fmax; rw [o1, c]
      have g : fgt k d w = false := by unfold fgt; rw [od', (cmp_swap _ _).1 c]; rfl
      rw [m1, g]
      refine ⟨by rw [on]; rfl, ?_⟩
      have : fmax k w (fneg k d) = w := by
        unfold fmax
        rw [on]
        cases c2 : compare (Ieee.signed false mw (ew - min ew e).toNat) (Ieee.signed (!s) m (e - min ew e).toNat) with
        | lt => have := Int.compare_eq_lt.1 c2; omega
        | gt => rfl
        | eq => simp only [wneg]; rfl
      rw [this]
      exact ⟨rfl, mw, ew, hw⟩
    | eq =>
      have ceq := Int.compare_eq_eq.1 c
      have m1 : fmax k w d = w := by unfold fmax; rw [o1, c]; simp only [wneg]; rfl
      have g : fgt k d w = false := by unfold fgt; rw [od', Int.compare_eq_eq.2 ceq.symm]; rfl
      rw [m1, g]
      refine ⟨by rw [on]; rfl, ?_⟩
      have : fmax k w (fneg k d) = w := by
        unfold fmax
        rw [on]
        cases c2 : compare (Ieee.signed false mw (ew - min ew e).toNat) (Ieee.signed (!s) m (e - min ew e).toNat) with
        | lt => have := Int.compare_eq_lt.1 c2; omega
        | gt => rfl
        | eq => simp only [wneg]; rfl
      rw [this]
      exact ⟨rfl, mw, ew, hw⟩
end Go.Abs
