/- Flows and their values, nearly: plain laws. -/
import Derived.Test.YthildgdbgjgidaaAbsM4
set_option maxRecDepth 10000
set_option maxHeartbeats 2000000
set_option linter.unusedSimpArgs false
set_option linter.unusedVariables false
namespace Go.Proofs.Ythildgdbgjgidaa
open Go Go.Abs

theorem one32_val : fval .f32 one32 = 1 := by
  have e : iF 1 = one32 := by decide +kernel
  rw [← e, iF_val (by decide)]; rfl
theorem fin_one32 : finB .f32 one32 = true := by decide +kernel
def dF (r : Nat) : Nat := fadd .f32 one32 r
def flow (fl : List Int) (k : Nat) : Int := fl.getD (fl.length - 1 - k) 0
def wF (fl : List Int) (r : Nat) : Nat → Nat
  | 0 => 0
  | k + 1 => fadd .f32 (iF (flow fl k)) (fdiv .f32 (wF fl r k) (dF r))
def hE (fl : List Int) (d : Rat) : Nat → Rat
  | 0 => 0
  | k + 1 => (flow fl k : Rat) + hE fl d k / d
def gE : Rat := p2 (-16) + p2 (-100)
structure Yld (r : Nat) : Prop where
  fin : finB .f32 r = true
  lo : -p2 (-1) ≤ fval .f32 r
  up : fval .f32 r ≤ 1
theorem half : p2 (-1) * 2 = 1 := by rw [show (2 : Rat) = p2 1 from rfl, ← p2_add]; rfl
theorem dF_ok {r : Nat} (Y : Yld r) : finB .f32 (dF r) = true ∧ p2 (-1) ≤ fval .f32 (dF r) ∧ fval .f32 (dF r) ≤ 2 ∧ fval .f32 (dF r) - (1 + fval .f32 r) ≤ p2 (-23) + p2 (-150) ∧ (1 + fval .f32 r) - fval .f32 (dF r) ≤ p2 (-23) + p2 (-150) := by
  have h := half
  have hl := Y.lo
  have hu := Y.up
  have e1 : p2 1 = 2 := rfl
  have hb : ab (fval .f32 one32 + fval .f32 r) ≤ p2 1 := by rw [one32_val, e1]; exact ab_le (by grind) (by grind)
  have rn := rn_add (k := .f32) fin_one32 Y.fin (lt_top32 hb (by decide))
  have a1 := rn.lo (p2 (-1)) (rep_p2 _ (by decide)) (by rw [one32_val]; grind)
  have a2 := rn.up (p2 1) (rep_p2 _ (by decide)) (by rw [one32_val]; grind)
  have x1 := rn.e1
  have x2 := rn.e2
  have g1 : ((fb .f32 + 1 : Nat) : Int) = 24 := rfl
  have g2 : least .f32 - 1 = -150 := rfl
  rw [g1, g2] at x1 x2
  have m := Rat.mul_le_mul_of_nonneg_left hb (Rat.le_of_lt (p2_pos (-24)))
  rw [← p2_add] at m
  have e2 : p2 (-24 + 1) = p2 (-23) := rfl
  rw [one32_val] at x1 x2 m
  exact ⟨rn.fin, a1, by show fval .f32 (fadd .f32 one32 r) ≤ 2; grind, by show fval .f32 (fadd .f32 one32 r) - _ ≤ _; grind, by show _ - fval .f32 (fadd .f32 one32 r) ≤ _; grind⟩
theorem pow2R (k : Nat) : p2 ((k + 1 : Nat) : Int) = 2 * p2 (k : Int) := by
  rw [show ((k + 1 : Nat) : Int) = (k : Int) + 1 by omega, p2_add]
  have : p2 1 = 2 := rfl
  grind
theorem div_bound {x d B : Rat} (hd : p2 (-1) ≤ d) (h : ab x ≤ B) : ab (x / d) ≤ 2 * B := by
  have hh := half
  have p0 := p2_pos (-1)
  have hm : x / d * d = x := Rat.div_mul_cancel (by grind)
  have h1 := ab_mul (x / d) d
  rw [hm, ab_of (show 0 ≤ d by grind)] at h1
  have h2 := Rat.mul_le_mul_of_nonneg_left hd (ab_nonneg (x / d))
  have h3 : ab (x / d) * p2 (-1) * 2 = ab (x / d) := by rw [Rat.mul_assoc, hh, Rat.mul_one]
  generalize ab (x / d) = q at *
  generalize ab x = y at *
  generalize q * d = w at *
  generalize q * p2 (-1) = z at *
  clear hm hh hd
  grind
theorem int_fit {z : Int} (h : z.natAbs ≤ 1000) : finB .f32 (iF z) = true ∧ fval .f32 (iF z) = (z : Rat) := ⟨(iF_rn (by omega)).fin, iF_val (by omega)⟩
theorem lin_up {z f y q vd A t B W T : Rat} (h1 : z ≤ f + y + 254 * A + t) (h2 : y ≤ q + 242 * A + t) (h3 : q ≤ vd + 2 * B) (hT : 256 * A + W = T) (ht : t ≤ W) (hA : 0 ≤ A) : z - (f + vd) ≤ 2 * (B + T) := by grind
theorem lin_dn {z f y q vd A t B W T : Rat} (h1 : f + y - 254 * A - t ≤ z) (h2 : q - 242 * A - t ≤ y) (h3 : vd - 2 * B ≤ q) (hT : 256 * A + W = T) (ht : t ≤ W) (hA : 0 ≤ A) : (f + vd) - z ≤ 2 * (B + T) := by grind
theorem gE_facts : 0 ≤ gE ∧ gE * 32768 ≤ 1 ∧ gE = 256 * p2 (-24) + p2 (-100) ∧ p2 (-150) ≤ p2 (-100) := by
  have a1 : p2 (-16) * 65536 = 1 := by
    have : p2 16 = 65536 := p2_nat 16
    rw [← this, ← p2_add]; rfl
  have a2 := p2_mono (show (-100 : Int) ≤ -17 by decide)
  have a3 : p2 (-16) = 2 * p2 (-17) := by
    have : p2 1 = 2 := rfl
    rw [← this, ← p2_add]; rfl
  have a4 : p2 (-16) = 256 * p2 (-24) := by
    have : p2 8 = 256 := p2_nat 8
    rw [← this, ← p2_add]; rfl
  have a5 := p2_pos (-16)
  have a6 := p2_pos (-100)
  have a7 := p2_mono (show (-150 : Int) ≤ -100 by decide)
  have e : gE = p2 (-16) + p2 (-100) := rfl
  rw [e]
  generalize p2 (-16) = A at *
  generalize p2 (-100) = B at *
  exact ⟨by grind, by grind, by grind, a7⟩
theorem w_near {fl : List Int} {r : Nat} (Y : Yld r) (hf : ∀ k, k < fl.length → (flow fl k).natAbs ≤ 1000) (hb : ∀ k, k ≤ fl.length → ab (hE fl (fval .f32 (dF r)) k) ≤ 120 * p2 (k : Int)) (hn : fl.length ≤ 7) : ∀ k, k ≤ fl.length →
    finB .f32 (wF fl r k) = true ∧ fval .f32 (wF fl r k) - hE fl (fval .f32 (dF r)) k ≤ (k : Rat) * (p2 (k : Int) * gE) ∧ hE fl (fval .f32 (dF r)) k - fval .f32 (wF fl r k) ≤ (k : Rat) * (p2 (k : Int) * gE)
  | 0, _ => by
    have e : wF fl r 0 = 0 := rfl
    have e2 : hE fl (fval .f32 (dF r)) 0 = 0 := rfl
    have e0 : ((0 : Nat) : Rat) = 0 := rfl
    rw [e, e2, fval_zero, e0]
    exact ⟨by decide +kernel, by grind, by grind⟩
  | k + 1, h => by
    obtain ⟨wf, w1, w2⟩ := w_near Y hf hb hn k (by omega)
    obtain ⟨df, dl, du, _, _⟩ := dF_ok Y
    have hk := hb k (by omega)
    have hk1 := hb (k + 1) h
    obtain ⟨ff, fv⟩ := int_fit (hf k (by omega))
    have eh : hE fl (fval .f32 (dF r)) (k + 1) = (flow fl k : Rat) + hE fl (fval .f32 (dF r)) k / fval .f32 (dF r) := rfl
    have ew : wF fl r (k + 1) = fadd .f32 (iF (flow fl k)) (fdiv .f32 (wF fl r k) (dF r)) := rfl
    rw [eh] at hk1
    rw [eh, ew]
    have ek : ((k + 1 : Nat) : Rat) = (k : Rat) + 1 := Rat.natCast_add _ _
    have k0 : (0 : Rat) ≤ (k : Rat) := by exact_mod_cast Nat.zero_le k
    have k6 : (k : Rat) ≤ 6 := cast_le (show k ≤ 6 by omega)
    have pk := p2_pos (k : Int)
    rw [pow2R] at hk1 ⊢
    rw [ek]
    rw [← fv] at hk1 ⊢
    generalize iF (flow fl k) = f at *
    generalize hE fl (fval .f32 (dF r)) k = v at *
    generalize wF fl r k = x at *
    generalize dF r = d at *
    have p0 := p2_pos (-1)
    have d0 : fval .f32 d ≠ 0 := by grind
    have k6n : k ≤ 6 := by omega
    clear Y hf hb hn eh ew ek fv
    obtain ⟨g0, gs, ge, t150⟩ := gE_facts
    have pg0 := Rat.mul_nonneg (Rat.le_of_lt pk) g0
    have pg1 : p2 (k : Int) * gE * 32768 ≤ p2 (k : Int) := by
      have := Rat.mul_le_mul_of_nonneg_left gs (Rat.le_of_lt pk)
      rw [Rat.mul_one, ← Rat.mul_assoc] at this
      exact this
    have hT : 256 * (p2 (-24) * p2 (k : Int)) + p2 (k : Int) * p2 (-100) = p2 (k : Int) * gE := by rw [ge]; grind
    have pk1 : 1 ≤ p2 (k : Int) := p2_one_le k
    have ht : p2 (-150) ≤ p2 (k : Int) * p2 (-100) := by
      have a2 := Rat.mul_le_mul_of_nonneg_right pk1 (Rat.le_of_lt (p2_pos (-100)))
      grind
    have u0 := p2_pos (-24)
    have hA : 0 ≤ p2 (-24) * p2 (k : Int) := Rat.mul_nonneg (Rat.le_of_lt u0) (Rat.le_of_lt pk)
    have top8 : 128 * p2 (k : Int) ≤ p2 13 := by
      have a1 := p2_mono (show (k : Int) ≤ 6 by omega)
      have e6 : p2 6 = 64 := p2_nat 6
      have e13 : p2 13 = 8192 := p2_nat 13
      grind
    have e14 : p2 14 = 2 * p2 13 := by
      have : p2 1 = 2 := rfl
      rw [← this, ← p2_add]; rfl
    have kT := Rat.mul_le_mul_of_nonneg_right k6 pg0
    have kT0 := Rat.mul_nonneg k0 pg0
    have goalE : ((k : Rat) + 1) * (2 * p2 (k : Int) * gE) = 2 * ((k : Rat) * (p2 (k : Int) * gE) + p2 (k : Int) * gE) := by grind
    rw [goalE]
    clear goalE
    generalize p2 (k : Int) * gE = T at *
    generalize p2 (k : Int) * p2 (-100) = W at *
    generalize (k : Rat) * T = B at *
    generalize p2 (k : Int) = P at *
    have xb : ab (fval .f32 x) ≤ 121 * P := by
      have := le_ab v
      clear hk1 dl du hT ht
      exact ab_le (by grind) (by grind)
    clear g0 gs ge k0 k6 hk du
    have g1 : ((fb .f32 + 1 : Nat) : Int) = 24 := rfl
    have g2 : least .f32 - 1 = -150 := rfl
    have qb := div_bound dl xb
    have rq := rn_div (k := .f32) wf df d0 (lt_top32 (t := 14) (by grind) (by decide))
    have q1 := rq.e1
    have q2 := rq.e2
    rw [g1, g2] at q1 q2
    have qf := rq.fin
    have m1 := Rat.mul_le_mul_of_nonneg_left qb (Rat.le_of_lt u0)
    have near : ab (fval .f32 x / fval .f32 d - v / fval .f32 d) ≤ 2 * B := by
      have e : fval .f32 x / fval .f32 d - v / fval .f32 d = (fval .f32 x - v) / fval .f32 d := by grind
      rw [e]
      exact div_bound dl (ab_le w1 (by grind))
    have near1 := le_ab (fval .f32 x / fval .f32 d - v / fval .f32 d)
    clear rq
    generalize fval .f32 x / fval .f32 d = q at *
    generalize v / fval .f32 d = vd at *
    generalize fdiv .f32 x d = y at *
    have fb1 := le_ab (fval .f32 f + vd)
    have y1 : fval .f32 y ≤ q + 242 * (p2 (-24) * P) + p2 (-150) := by grind
    have y2 : q - 242 * (p2 (-24) * P) - p2 (-150) ≤ fval .f32 y := by grind
    have n1 : q ≤ vd + 2 * B := by grind
    have n2 : vd - 2 * B ≤ q := by grind
    have sb : ab (fval .f32 f + fval .f32 y) ≤ 254 * P := by
      clear near near1 m1 q1 q2
      exact ab_le (by grind) (by grind)
    have rs := rn_add (k := .f32) ff qf (lt_top32 (t := 14) (by grind) (by decide))
    have s1 := rs.e1
    have s2 := rs.e2
    rw [g1, g2] at s1 s2
    have m2 := Rat.mul_le_mul_of_nonneg_left sb (Rat.le_of_lt u0)
    refine ⟨rs.fin, ?_, ?_⟩
    · have := lin_up (z := fval .f32 (fadd .f32 f y)) (f := fval .f32 f) (y := fval .f32 y) (q := q) (vd := vd) (A := p2 (-24) * P) (t := p2 (-150)) (B := B) (W := W) (T := T) (by grind) y1 n1 hT ht hA
      exact this
    · have := lin_dn (z := fval .f32 (fadd .f32 f y)) (f := fval .f32 f) (y := fval .f32 y) (q := q) (vd := vd) (A := p2 (-24) * P) (t := p2 (-150)) (B := B) (W := W) (T := T) (by grind) y2 n2 hT ht hA
      exact this
end Go.Proofs.Ythildgdbgjgidaa
