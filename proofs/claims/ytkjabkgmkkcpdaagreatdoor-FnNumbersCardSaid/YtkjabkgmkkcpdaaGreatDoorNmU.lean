/- Numbers made wide and narrow again, turned about twice: plain. -/
import Derived.Test.YtkjabkgmkkcpdaaGreatDoorNmT
set_option maxRecDepth 10000
set_option maxHeartbeats 4000000
set_option linter.unusedSimpArgs false
set_option linter.unusedVariables false
namespace Go.Proofs.YtkjabkgmkkcpdaaGreatDoor
open Go Go.Abs
theorem near_same (k : FloatKind) (s : Bool) {m n : Nat} {e f : Int} (h : (m : Rat) * p2 e = (n : Rat) * p2 f) : k.format.nearest s m e = k.format.nearest s n f := by
  have key : ∀ {m n : Nat} {e f : Int}, (m : Rat) * p2 e = (n : Rat) * p2 f → e ≤ f → k.format.nearest s m e = k.format.nearest s n f := by
    intro m n e f h hef
    obtain ⟨a, ha⟩ := Int.eq_ofNat_of_zero_le (show 0 ≤ f - e by omega)
    have he : e = f - (a : Int) := by omega
    subst he
    have h3 : (m : Rat) = (n : Rat) * p2 (a : Int) := by
      have h4 : p2 f = p2 (a : Int) * p2 (f - (a : Int)) := by rw [← p2_add]; congr 1; omega
      rw [h4, ← Rat.mul_assoc] at h
      exact mul_cancel (p2_pos _) h
    have h2 : m = n * 2 ^ a := by
      rw [p2_nat, ← Rat.natCast_mul] at h3
      exact_mod_cast h3
    rw [h2]
    exact nearest_scale k.format s n a f
  rcases Int.le_total e f with c | c
  · exact key h c
  · exact (key h.symm c).symm
theorem signs_same {s t : Bool} {a b : Rat} (ha : 0 < a) (hb : 0 ≤ b) (h : sg t * b = sg s * a) : t = s ∧ b = a := by
  have f : ∀ v : Rat, sg false * v = v := fun v => by show 1 * v = v; grind
  have g : ∀ v : Rat, sg true * v = -v := fun v => by show -1 * v = -v; grind
  cases s <;> cases t <;> simp only [f, g] at h
  · exact ⟨rfl, h⟩
  · exfalso; grind
  · exfalso; grind
  · exact ⟨rfl, by grind⟩
theorem ok_kinds {x : Nat} (h : okW x) : (x = 0 ∨ x = 2147483648 ∨ x = 2139095040 ∨ x = 4286578688 ∨ x = 2143289344) ∨ ∃ s r m e, x = Ieee.single.word s r ∧ r < 2139095040 ∧ r ≠ 0 ∧ m ≠ 0 ∧ FloatKind.f32.decode x = .number s m e := by
  obtain ⟨s, r, hw, hr⟩ := word_of h.1
  by_cases c : r < 2139095040
  · by_cases r0 : r = 0
    · subst r0
      left
      cases s
      · exact .inl hw
      · exact .inr (.inl hw)
    · right
      have hd := read_rung .f32 s r c
      have eb : 2 ^ fb .f32 = 8388608 := rfl
      by_cases c2 : r < 2 ^ fb .f32
      · rw [if_pos c2] at hd
        exact ⟨s, r, r, _, hw, c, r0, r0, by rw [hw]; exact hd⟩
      · rw [if_neg c2] at hd
        exact ⟨s, r, 2 ^ fb .f32 + r % 2 ^ fb .f32, _, hw, c, r0, by rw [eb]; omega, by rw [hw]; exact hd⟩
  · left
    by_cases c2 : r = 2139095040
    · subst c2
      cases s
      · exact .inr (.inr (.inl hw))
      · exact .inr (.inr (.inr (.inl hw)))
    · refine .inr (.inr (.inr (.inr (h.2 ?_))))
      rw [hw]
      have hs : Ieee.single.word s r % 2147483648 = r := by
        cases s
        · show r % 2147483648 = r
          omega
        · show (2147483648 + r) % 2147483648 = r
          omega
      show (Ieee.single.read (Ieee.single.word s r)).isNaN = true
      have e1 : Ieee.single.signWeight = 2147483648 := by decide +kernel
      have e2 : Ieee.single.binade = 8388608 := by decide +kernel
      have e3 : Ieee.single.infRung = 2139095040 := by decide +kernel
      unfold Ieee.Format.read
      simp only [e1, e2, e3, hs]
      rw [if_neg (by omega), if_neg (by omega), if_neg (by omega)]
      rfl
theorem nok_zero {x : Nat} {s : Bool} {e : Int} (h : FloatKind.f64.decode x = .number s 0 e) : nok x := by
  right
  rw [h]
  show (FloatKind.f32.decode (FloatKind.f32.format.nearest s 0 e)).isInfinity = false
  unfold Ieee.Format.nearest
  rw [if_pos rfl]
  cases s <;> decide +kernel
theorem nok_not {x : Nat} (h : (FloatKind.f64.decode x).isNaN = true ∨ (FloatKind.f64.decode x).isInfinity = true) : nok x := by
  right
  cases hd : FloatKind.f64.decode x with
  | number s m e =>
    rw [hd] at h
    rcases h with h | h <;> cases h
  | infinity s => trivial
  | nan s t => trivial
theorem narrow_wide {x : Nat} (h : okW x) : nok (wid x) ∧ nrw (wid x) = x := by
  rcases ok_kinds h with (rfl | rfl | rfl | rfl | rfl) | ⟨s, r, m, e, hw, hr, r0, m0, hd⟩
  · exact ⟨nok_zero (s := false) (e := -1074) (by decide +kernel), by decide +kernel⟩
  · exact ⟨nok_zero (s := true) (e := -1074) (by decide +kernel), by decide +kernel⟩
  · exact ⟨nok_not (.inr (by decide +kernel)), by decide +kernel⟩
  · exact ⟨nok_not (.inr (by decide +kernel)), by decide +kernel⟩
  · exact ⟨nok_not (.inl (by decide +kernel)), by decide +kernel⟩
  · have hf : finB .f32 x = true := num_fin hd
    obtain ⟨w1, w2⟩ := wide_rn hf
    obtain ⟨t, n, f, hd2⟩ := fin_num w1.fin
    rw [fval_of hd, fval_of hd2] at w2
    have mp : (0 : Rat) < (m : Rat) * p2 e := Rat.mul_pos (by exact_mod_cast Nat.pos_of_ne_zero m0) (p2_pos e)
    obtain ⟨rfl, hv⟩ := signs_same mp (mag_nonneg n f) w2
    have hn : FloatKind.f32.format.nearest t n f = x := by
      rw [near_same .f32 t hv]
      have := near_read t r hr r0 (m := m) (e := e) (by rw [← hw]; exact hd)
      rw [hw]
      exact this
    have hd2' : FloatKind.f64.decode (wid x) = .number t n f := hd2
    constructor
    · right
      rw [hd2']
      show (FloatKind.f32.decode (FloatKind.f32.format.nearest t n f)).isInfinity = false
      rw [hn, hd]
      rfl
    · unfold nrw fconv
      rw [if_neg (by decide), hd2']
      show canon .f32 (FloatKind.f32.format.nearest t n f) = x
      rw [hn]
      exact canon_ok h
end Go.Proofs.YtkjabkgmkkcpdaaGreatDoor
