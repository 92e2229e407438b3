/- Raked weights, nearly: what rounding may do to them. -/
import Derived.Test.YtmgfghcmmbdcgaaRakeM
import Derived.Test.YtmgfghcmmbdcgaaAbsM4
set_option maxRecDepth 10000
set_option maxHeartbeats 2000000
set_option linter.unusedSimpArgs false
set_option linter.unusedVariables false
namespace Go.Proofs.Ytmgfghcmmbdcgaa
open Go Go.Abs

structure NN (x : Nat) : Prop where
  fin : finB .f32 x = true
  lt : x < 4294967296
  ne : x ≠ 2147483648
theorem word_of {x : Nat} (h : x < 4294967296) : ∃ s r, x = Ieee.single.word s r ∧ r < 2147483648 := by
  by_cases c : x < 2147483648
  · exact ⟨false, x, rfl, c⟩
  · refine ⟨true, x - 2147483648, ?_, by omega⟩
    show x = 2147483648 + (x - 2147483648)
    omega
theorem near_read (s : Bool) (r : Nat) (hr : r < 2139095040) (h0 : r ≠ 0) {m : Nat} {e : Int} (hd : Ieee.single.read (Ieee.single.word s r) = .number s m e) : Ieee.single.nearest s m e = Ieee.single.word s r := by
  have hd2 := read_rung .f32 s r hr
  rw [show FloatKind.f32.format = Ieee.single from rfl, hd] at hd2
  have cn : ∀ n : Nat, Ieee.Toward.even.cut s n 0 = n := fun n => cut_none .even _ _
  by_cases c : r < 2 ^ fb .f32
  · rw [if_pos c] at hd2
    obtain ⟨rfl, rfl⟩ : m = r ∧ e = least .f32 := by injection hd2 with _ a b; exact ⟨a, b⟩
    have hl : m.log2 ≤ 23 := by
      have := (Nat.log2_lt h0).2 c
      show m.log2 ≤ 23
      have e : fb .f32 = 23 := rfl
      omega
    unfold Ieee.Format.nearest
    rw [if_neg h0]
    have e1 : max (least .f32 + (m.log2 : Int) - (Ieee.single.fractionBits : Nat)) Ieee.single.leastPlace = -149 := by
      show max (-149 + (m.log2 : Int) - ((23 : Nat) : Int)) (-149) = -149
      omega
    simp only [e1]
    show Ieee.single.word s (min (((-149 : Int) - (-149)).toNat * Ieee.single.binade + Ieee.Toward.even.cut s (m <<< ((-149 : Int) - -149).toNat) ((-149 : Int) - -149).toNat) Ieee.single.infRung) = _
    rw [show ((-149 : Int) - -149).toNat = 0 from rfl, Nat.zero_mul, Nat.zero_add, Nat.shiftLeft_zero, cn, Nat.min_eq_left (by show m ≤ 2139095040; omega)]
  · rw [if_neg c] at hd2
    obtain ⟨rfl, rfl⟩ : m = 2 ^ fb .f32 + r % 2 ^ fb .f32 ∧ e = least .f32 + (r / 2 ^ fb .f32 - 1 : Nat) := by injection hd2 with _ a b; exact ⟨a, b⟩
    have eb : 2 ^ fb .f32 = 8388608 := rfl
    rw [eb] at c ⊢
    have hm : (8388608 + r % 8388608) ≠ 0 := by omega
    have hl : (8388608 + r % 8388608).log2 = 23 := (Nat.log2_eq_iff hm).2 (by omega)
    unfold Ieee.Format.nearest
    rw [if_neg hm, hl]
    have e1 : max (least .f32 + ((r / 8388608 - 1 : Nat) : Int) + ((23 : Nat) : Int) - (Ieee.single.fractionBits : Nat)) Ieee.single.leastPlace = least .f32 + ((r / 8388608 - 1 : Nat) : Int) := by
      show max (-149 + ((r / 8388608 - 1 : Nat) : Int) + ((23 : Nat) : Int) - ((23 : Nat) : Int)) (-149) = -149 + ((r / 8388608 - 1 : Nat) : Int)
      omega
    simp only [e1, Int.sub_self]
    rw [show (0 : Int).toNat = 0 from rfl, Nat.shiftLeft_zero, cn]
    have e2 : (least .f32 + ((r / 8388608 - 1 : Nat) : Int) - Ieee.single.leastPlace).toNat * Ieee.single.binade = (r / 8388608 - 1) * 8388608 := by
      show (-149 + ((r / 8388608 - 1 : Nat) : Int) - -149).toNat * 8388608 = _
      congr 1
      omega
    rw [e2]
    have e3 : (r / 8388608 - 1) * 8388608 + (8388608 + r % 8388608) = r := by omega
    rw [e3, Nat.min_eq_left (by show r ≤ 2139095040; omega)]
theorem nan32 : nanOf .f32 = 2143289344 := rfl
theorem inf32 : Ieee.single.infRung = 2139095040 := by decide +kernel
theorem lt_top32 {v : Rat} {t : Int} (h : v ≤ p2 t) (ht : t < 127) : v < p2 (top .f32) := by
  have h1 := p2_mono (show t + 1 ≤ top .f32 by show t + 1 ≤ 127; omega)
  rw [p2_add, show p2 1 = 2 from rfl] at h1
  have := p2_pos t
  grind
theorem lt_top64 {v : Rat} {t : Int} (h : v ≤ p2 t) (ht : t < 1023) : v < p2 (top .f64) := by
  have h1 := p2_mono (show t + 1 ≤ top .f64 by show t + 1 ≤ 1023; omega)
  rw [p2_add, show p2 1 = 2 from rfl] at h1
  have := p2_pos t
  grind
def one32 : Nat := 1065353216
theorem nn_inf {x : Nat} {s : Bool} {r : Nat} (hx : x = Ieee.single.word s r) (hr : r < 2147483648) (hf : finB .f32 x = true) : r < 2139095040 := by
  apply Classical.byContradiction
  intro hn
  obtain ⟨s', m, e, hd⟩ := fin_num hf
  subst hx
  have hrd : Ieee.single.read (Ieee.single.word s r) = .number s' m e := hd
  unfold Ieee.Format.read at hrd
  have e1 : Ieee.single.word s r % Ieee.single.signWeight = r := word_mod _ _ _ (by show r < 2147483648; exact hr)
  simp only [e1] at hrd
  rw [if_neg (by show ¬ r < 8388608; omega), if_neg (by show ¬ r < 2139095040; exact hn)] at hrd
  split at hrd <;> cases hrd
structure Pw (x : Nat) : Prop where
  fin : finB .f32 x = true
  lt : x < 4294967296
  pos : 0 < fval .f32 x
theorem Pw.num {x : Nat} (h : Pw x) : ∃ m e, FloatKind.f32.decode x = .number false m e ∧ m ≠ 0 := by
  obtain ⟨s, m, e, hd⟩ := fin_num h.fin
  have hp := h.pos
  rw [fval_of hd] at hp
  have hm := mag_nonneg m e
  refine ⟨m, e, ?_, ?_⟩
  · cases s
    · exact hd
    · simp only [sg, if_true] at hp
      grind
  · intro h0
    subst h0
    have e0 : ((0 : Nat) : Rat) = 0 := rfl
    rw [e0] at hp
    grind
theorem mul_one32 {x : Nat} (h : Pw x) : fmul .f32 x one32 = x := by
  obtain ⟨m, e, hd, hm⟩ := h.num
  obtain ⟨s, r, hw, hr⟩ := word_of h.lt
  have hi := nn_inf hw hr h.fin
  have h1 : FloatKind.f32.decode one32 = .number false 8388608 (-23) := by decide +kernel
  have hd2 : Ieee.single.read (Ieee.single.word s r) = .number false m e := by rw [← hw]; exact hd
  have hrd := read_rung .f32 s r hi
  rw [show FloatKind.f32.format = Ieee.single from rfl, hd2] at hrd
  have hs : s = false := by
    split at hrd <;> injection hrd with a _ _ <;> exact a.symm
  subst hs
  have r0 : r ≠ 0 := by
    intro h0
    subst h0
    rw [if_pos (Nat.two_pow_pos _)] at hrd
    injection hrd with _ a _
    exact hm a
  have nr := near_read false r hi r0 hd2
  unfold fmul Ieee.Format.mul
  rw [format_read, format_read, hd, h1]
  show canon .f32 (Ieee.single.nearest false (m * 2 ^ 23) (e + -23)) = x
  have e1 := nearest_scale Ieee.single false m 23 e
  rw [show e - ((23 : Nat) : Int) = e + -23 by omega] at e1
  rw [e1, nr, ← hw]
  exact fin_canon h.fin
theorem div_self32 {x : Nat} (h : Pw x) : fdiv .f32 x x = one32 := by
  obtain ⟨m, e, hd, hm⟩ := h.num
  unfold fdiv Ieee.Format.div
  rw [format_read, hd]
  simp only [Ieee.Datum.quotient, if_neg hm]
  have em : FloatKind.f32.format.fractionBits + 2 + m.log2 - m.log2 = 25 := by
    show 23 + 2 + m.log2 - m.log2 = 25
    omega
  rw [em, natShift, Nat.mul_div_cancel_left _ (Nat.pos_of_ne_zero hm), Nat.mul_mod_right]
  have ee : e - e - ((25 : Nat) : Int) - 1 = -26 := by omega
  rw [ee]
  decide +kernel
theorem sub_self32 {x : Nat} (h : finB .f32 x = true) : fsub .f32 x x = 0 := by
  obtain ⟨s, m, e, hd⟩ := fin_num h
  unfold fsub Ieee.Format.sub
  rw [format_read, hd]
  show canon .f32 (Ieee.single.nearest (if Ieee.signed s m (e - min e e).toNat + Ieee.signed (!s) m (e - min e e).toNat = 0 then s && !s else decide (Ieee.signed s m (e - min e e).toNat + Ieee.signed (!s) m (e - min e e).toNat < 0)) (Ieee.signed s m (e - min e e).toNat + Ieee.signed (!s) m (e - min e e).toNat).natAbs (min e e)) = 0
  have h0 : Ieee.signed s m (e - min e e).toNat + Ieee.signed (!s) m (e - min e e).toNat = 0 := by
    rw [signed_flip]; omega
  rw [h0, if_pos rfl]
  cases s <;> rfl

def ep : Rat := p2 (-23)
theorem ep_pos : 0 < ep := p2_pos _
theorem ep_small : ep * 8388608 = 1 := by
  have h : p2 (-23) * p2 23 = 1 := by rw [← p2_add]; rfl
  have h1 : p2 23 = 8388608 := p2_nat 23
  rw [h1] at h
  exact h
theorem rel32 {v : Rat} {x : Nat} (r : Rn .f32 v x) (hv : p2 (-100) ≤ v) : fval .f32 x ≤ v + ep * v ∧ v - ep * v ≤ fval .f32 x := by
  have h1 := r.e1
  have h2 := r.e2
  have p0 := p2_pos (-100)
  rw [ab_of (by grind)] at h1 h2
  have e1 : ((fb .f32 + 1 : Nat) : Int) = 24 := rfl
  have e2 : least .f32 - 1 = -150 := rfl
  rw [e1, e2] at h1 h2
  have e3 : ep = 2 * p2 (-24) := by
    show p2 (1 + -24) = _
    rw [p2_add]; rfl
  have e4 : p2 (-150) ≤ p2 (-24) * p2 (-100) := by rw [← p2_add]; exact p2_mono (by decide)
  have e5 := Rat.mul_le_mul_of_nonneg_left hv (Rat.le_of_lt (p2_pos (-24)))
  rw [e3]
  constructor <;> grind
theorem rel64 {v : Rat} {x : Nat} (r : Rn .f64 v x) (hv : p2 (-200) ≤ v) : fval .f64 x ≤ v + ep * v ∧ v - ep * v ≤ fval .f64 x := by
  have h1 := r.e1
  have h2 := r.e2
  have p0 := p2_pos (-200)
  rw [ab_of (by grind)] at h1 h2
  have e1 : ((fb .f64 + 1 : Nat) : Int) = 53 := rfl
  have e2 : least .f64 - 1 = -1075 := rfl
  rw [e1, e2] at h1 h2
  have e3 : ep = 2 * p2 (-24) := by
    show p2 (1 + -24) = _
    rw [p2_add]; rfl
  have e6 := p2_mono (show (-53 : Int) ≤ -24 by decide)
  have e4 : p2 (-1075) ≤ p2 (-24) * p2 (-200) := by rw [← p2_add]; exact p2_mono (by decide)
  have e5 := Rat.mul_le_mul_of_nonneg_left hv (Rat.le_of_lt (p2_pos (-24)))
  have e7 := Rat.mul_le_mul_of_nonneg_right e6 (show 0 ≤ v by grind)
  rw [e3]
  constructor <;> grind
def Apx (c v x : Rat) : Prop := x ≤ v + c * (ep * v) ∧ v - c * (ep * v) ≤ x
theorem apx_step {c v x w y : Rat} (c0 : 0 ≤ c) (c1 : c ≤ 1000) (v0 : 0 ≤ v) (w0 : 0 ≤ w) (x0 : 0 ≤ x) (h : Apx c v x) (h1 : y ≤ (x + w) + ep * (x + w)) (h2 : (x + w) - ep * (x + w) ≤ y) : Apx (c + 2) (v + w) y := by
  obtain ⟨a1, a2⟩ := h
  have e0 := ep_pos
  have es := ep_small
  have u0 : 0 ≤ ep * v := Rat.mul_nonneg (Rat.le_of_lt e0) v0
  have t0 : 0 ≤ ep * w := Rat.mul_nonneg (Rat.le_of_lt e0) w0
  have m1 := Rat.mul_le_mul_of_nonneg_left a1 (Rat.le_of_lt e0)
  have ce : c * ep ≤ 1 := by
    have := Rat.mul_le_mul_of_nonneg_right c1 (Rat.le_of_lt e0)
    grind
  have m2 := Rat.mul_le_mul_of_nonneg_right ce u0
  have ct := Rat.mul_nonneg c0 t0
  have cu := Rat.mul_nonneg c0 u0
  constructor <;> grind
end Go.Proofs.Ytmgfghcmmbdcgaa
