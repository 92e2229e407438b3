/- Funds: the numbers, in plain Lean. -/
import Derived.Test.YtobjnmdofgbacaaFuB
set_option maxRecDepth 10000
set_option maxHeartbeats 4000000
set_option linter.unusedSimpArgs false
set_option linter.unusedVariables false
namespace Go.Proofs.Ytobjnmdofgbacaa
open Go Go.Abs

theorem div24 {x : Nat} (hf : finB .f32 x = true) : fmul .f32 x 864026624 = fdiv .f32 x 1266679808 := by
  obtain ⟨s, m, e, hd⟩ := fin_num hf
  obtain ⟨b1, b2, b3⟩ := read_single x s m e hd
  have h1 : FloatKind.f32.decode 864026624 = .number false 8388608 (-47) := by decide +kernel
  have h2 : FloatKind.f32.decode 1266679808 = .number false 8388608 1 := by decide +kernel
  have hl : m.log2 ≤ 23 := by
    by_cases h0 : m = 0
    · subst h0; decide
    · have := (Nat.log2_lt h0).2 (show m < 2 ^ 24 by omega); omega
  have e1 := nearest_scale Ieee.single s m 23 (e - 24)
  have e2 := nearest_scale Ieee.single s m (26 - m.log2) (e - 24)
  have em : FloatKind.f32.format.fractionBits + 2 + Nat.log2 8388608 - m.log2 = (25 - m.log2) + 23 := by
    have : Nat.log2 8388608 = 23 := by decide +kernel
    rw [this]
    show 23 + 2 + 23 - m.log2 = _
    omega
  unfold fmul Ieee.Format.mul fdiv Ieee.Format.div
  rw [format_read, format_read, format_read, hd, h1, h2]
  simp only [Ieee.Datum.quotient, if_neg (show (8388608 : Nat) ≠ 0 by decide)]
  rw [em, natShift, Nat.pow_add, ← Nat.mul_assoc, show (2 : Nat) ^ 23 = 8388608 from rfl, Nat.mul_div_cancel _ (by decide), Nat.mul_mod_left]
  show canon .f32 (Ieee.single.nearest (s ^^ false) (m * 2 ^ 23) (e + -47)) = canon .f32 (Ieee.single.nearest (s ^^ false) (2 * (m * 2 ^ (25 - m.log2)) + 0) _)
  rw [Bool.xor_false, show e + -47 = e - 24 - ((23 : Nat) : Int) by omega, e1]
  congr 1
  rw [← e2]
  have a1 : 2 * (m * 2 ^ (25 - m.log2)) + 0 = m * 2 ^ (26 - m.log2) := by
    rw [show 26 - m.log2 = (25 - m.log2) + 1 by omega, Nat.pow_succ]
    generalize 2 ^ (25 - m.log2) = g
    rw [Nat.add_zero, ← Nat.mul_assoc, Nat.mul_comm 2 m, Nat.mul_assoc, Nat.mul_comm 2 g]
  rw [a1]
  congr 1
  omega
theorem seed_fin {s : Int} (hs : 0 ≤ s ∧ s ≤ 4294967295) : Rn .f32 ((s / 256 : Int) : Rat) (iF (s / 256)) ∧ fval .f32 (iF (s / 256)) = ((s / 256 : Int) : Rat) ∧ 0 ≤ ((s / 256 : Int) : Rat) ∧ ((s / 256 : Int) : Rat) ≤ 16777215 := by
  have a := int_cast_le (show 0 ≤ s / 256 by omega)
  have b := int_cast_le (show s / 256 ≤ 16777215 by omega)
  have e0 : (((0 : Int)) : Rat) = 0 := rfl
  have e1 : (((16777215 : Int)) : Rat) = 16777215 := rfl
  rw [e0] at a
  rw [e1] at b
  have r : Rn .f32 ((s / 256 : Int) : Rat) (iF (s / 256)) := int_rn (by
    refine lt_top32 (t := 24) ?_ (by decide)
    have h4 : p2 24 = 16777216 := p2_nat 24
    rw [h4]
    exact ab_le (by grind) (by grind))
  exact ⟨r, r.same (rep_int _ (by show (s / 256).natAbs < 2 ^ 24; omega)), a, b⟩
theorem dr_same (s : Int) (j : Nat) : drF (sdn s (j + 1)) = dsF (sdn s (j + 1)) := by
  have h := (seed_fin (sd_low (sdn s j))).1.fin
  unfold drF dsF
  rw [show sdn s (j + 1) = sd (sdn s j) from rfl, div24 h]
theorem pw1 : p2 (-1) = 1 / 2 := by decide +kernel
theorem pw2 : p2 (-2) = 1 / 4 := by decide +kernel
theorem pw4 : p2 (-4) = 1 / 16 := by decide +kernel
theorem rep_jt (k : FloatKind) (j : Nat) (t : Int) (hj : j < 2 ^ (fb k + 1)) (ht : least k ≤ t) : Rep k ((j : Rat) * p2 t) := ⟨false, j, t, hj, ht, by simp [sg]⟩
theorem w_of {x : Nat} {m : Nat} {e : Int} (h : FloatKind.f32.decode x = .number false m e) : finB .f32 x = true ∧ fval .f32 x = (m : Rat) * p2 e := ⟨num_fin h, by rw [fval_of h]; simp [sg]⟩
def hlfW : Nat := 1056964608
theorem hlf_ok : finB .f32 hlfW = true ∧ fval .f32 hlfW = 1 / 2 := by
  obtain ⟨a, b⟩ := w_of (x := hlfW) (m := 8388608) (e := -24) (by decide +kernel)
  exact ⟨a, b.trans (by decide +kernel)⟩
def mW : Nat := 1031798784
theorem m_ok : finB .f32 mW = true ∧ fval .f32 mW = 1 / 16 := by
  obtain ⟨a, b⟩ := w_of (x := mW) (m := 8388608) (e := -27) (by decide +kernel)
  exact ⟨a, b.trans (by decide +kernel)⟩
def wW : Nat := 1040187392
theorem w_ok : finB .f32 wW = true ∧ fval .f32 wW = 1 / 8 := by
  obtain ⟨a, b⟩ := w_of (x := wW) (m := 8388608) (e := -26) (by decide +kernel)
  exact ⟨a, b.trans (by decide +kernel)⟩
theorem r24_ok : finB .f32 864026624 = true ∧ fval .f32 864026624 = p2 (-24) := by
  obtain ⟨a, b⟩ := w_of (x := 864026624) (m := 8388608) (e := -47) (by decide +kernel)
  exact ⟨a, b.trans (by decide +kernel)⟩
theorem top_of {v : Rat} (h : ab v ≤ 1048576) : ab v < p2 (top .f32) := by
  refine lt_top32 (t := 20) ?_ (by decide)
  have h4 : p2 20 = 1048576 := p2_nat 20
  rw [h4]; exact h
theorem dr_ok {s : Int} (hs : 0 ≤ s ∧ s ≤ 4294967295) : finB .f32 (drF s) = true ∧ ab (fval .f32 (drF s)) ≤ 1 / 2 := by
  obtain ⟨r, v, l, u⟩ := seed_fin hs
  have e24 : p2 (-24) * 16777216 = 1 := by decide +kernel
  have p := p2_pos (-24)
  have m1 := Rat.mul_le_mul_of_nonneg_left u (Rat.le_of_lt p)
  have m0 := Rat.mul_nonneg l (Rat.le_of_lt p)
  have b1 : ab (fval .f32 (iF (s / 256)) * fval .f32 864026624) ≤ 1 := by
    rw [v, r24_ok.2]; exact ab_le (by grind) (by grind)
  have r1 := rn_mul r.fin r24_ok.1 (top_of (by grind))
  rw [v, r24_ok.2] at r1
  have u1 := r1.up 1 (by have := rep_int .f32 (z := 1) (by decide); exact this) (by grind)
  have l1 := r1.lo 0 (by have := rep_int .f32 (z := 0) (by decide); exact this) m0
  have key : ∀ x, finB .f32 x = true → 0 ≤ fval .f32 x → fval .f32 x ≤ 1 → finB .f32 (fsub .f32 x hlfW) = true ∧ ab (fval .f32 (fsub .f32 x hlfW)) ≤ 1 / 2 := fun x fx l1 u1 => by
   have b2 : ab (fval .f32 x - fval .f32 hlfW) ≤ 1 / 2 := by
     rw [hlf_ok.2]; exact ab_le (by grind) (by grind)
   have r2 := rn_sub fx hlf_ok.1 (top_of (by grind))
   exact ⟨r2.fin, r2.bound (B := 1 / 2) (by rw [← pw1]; exact rep_p2 _ (by decide)) b2⟩
  exact key _ r1.fin l1 u1
theorem sm_ok {s : Int} (hs : 0 ≤ s ∧ s ≤ 4294967295) (k : Nat) (hk : k ≤ 4) : finB .f32 (smD s k) = true ∧ ab (fval .f32 (smD s k)) ≤ (k : Rat) * p2 (-1) := by
  induction k with
  | zero => exact ⟨by show finB .f32 0 = true; decide +kernel, by
      show ab (fval .f32 0) ≤ _
      rw [fval_zero]; simp; decide +kernel⟩
  | succ k ih =>
    obtain ⟨f, b⟩ := ih (by omega)
    obtain ⟨g, c⟩ := dr_ok (sdn_low hs (k + 1))
    have hk' := cast_le (show k ≤ 3 by omega)
    have e3 : ((3 : Nat) : Rat) = 3 := rfl
    have e1 : ((1 : Nat) : Rat) = 1 := rfl
    have ek : ((k + 1 : Nat) : Rat) = (k : Rat) + 1 := by rw [Rat.natCast_add, e1]
    rw [e3] at hk'
    have t := ab_add (fval .f32 (smD s k)) (fval .f32 (drF (sdn s (k + 1))))
    have tb : ab (fval .f32 (smD s k) + fval .f32 (drF (sdn s (k + 1)))) ≤ ((k + 1 : Nat) : Rat) * p2 (-1) := by
      rw [ek, pw1] at *; grind
    have r := rn_add f g (top_of (by rw [ek, pw1] at tb; grind))
    exact ⟨r.fin, r.bound (rep_jt _ _ _ (by show k + 1 < 2 ^ 24; omega) (by decide)) tb⟩
theorem re_ok {s : Int} (hs : 0 ≤ s ∧ s ≤ 4294967295) : finB .f32 (reW mW wW s) = true ∧ -(3 / 16) ≤ fval .f32 (reW mW wW s) ∧ fval .f32 (reW mW wW s) ≤ 5 / 16 := by
  obtain ⟨f, b⟩ := sm_ok hs 4 (by decide)
  have e4 : ((4 : Nat) : Rat) = 4 := rfl
  rw [e4, pw1] at b
  have l := le_ab (fval .f32 (smD s 4))
  have b1 : ab (fval .f32 wW * fval .f32 (smD s 4)) ≤ 1 / 4 := by
    rw [w_ok.2]; exact ab_le (by grind) (by grind)
  have r1 := rn_mul w_ok.1 f (top_of (by grind))
  have c := r1.bound (B := 1 / 4) (by rw [← pw2]; exact rep_p2 _ (by decide)) b1
  have l2 := le_ab (fval .f32 (fmul .f32 wW (smD s 4)))
  have r2 := rn_add m_ok.1 r1.fin (top_of (by rw [m_ok.2]; exact ab_le (by grind) (by grind)))
  rw [m_ok.2] at r2
  have e3 : ((3 : Nat) : Rat) = 3 := rfl
  have e5 : ((5 : Nat) : Rat) = 5 := rfl
  have u := r2.up (5 / 16) (by have := rep_jt .f32 5 (-4) (by decide) (by decide); rw [pw4, e5] at this; exact (show (5 : Rat) * (1 / 16) = 5 / 16 by grind) ▸ this) (by grind)
  have lo := r2.lo (-(3 / 16)) (by have := (rep_jt .f32 3 (-4) (by decide) (by decide)).neg; rw [pw4, e3] at this; exact (show -((3 : Rat) * (1 / 16)) = -(3 / 16) by grind) ▸ this) (by grind)
  exact ⟨r2.fin, lo, u⟩
end Go.Proofs.Ytobjnmdofgbacaa
