/- Inner rates of flows: plain laws. -/
import Derived.Test.YthildgdbgjgidaaFrQ
set_option maxRecDepth 10000
set_option maxHeartbeats 2000000
set_option linter.unusedSimpArgs false
set_option linter.unusedVariables false
namespace Go.Proofs.Ythildgdbgjgidaa
open Go Go.Abs

structure Flw (fl : List Int) : Prop where
  two : 2 ≤ fl.length
  sev : fl.length ≤ 7
  pos : ∀ k, k + 1 < fl.length → 50 ≤ flow fl k ∧ flow fl k ≤ 99
  neg : -201 ≤ flow fl (fl.length - 1) ∧ flow fl (fl.length - 1) ≤ -1
theorem hE_low {fl : List Int} (F : Flw fl) {d : Rat} (hd : p2 (-1) ≤ d) : ∀ k, k + 1 ≤ fl.length → 0 ≤ hE fl d k ∧ hE fl d k ≤ 100 * p2 (k : Int) - 100
  | 0, _ => by
    have e : hE fl d 0 = 0 := rfl
    have e2 : p2 ((0 : Nat) : Int) = 1 := rfl
    rw [e, e2]
    exact ⟨by grind, by grind⟩
  | k + 1, h => by
    obtain ⟨h1, h2⟩ := hE_low F hd k (by omega)
    obtain ⟨p1, p9⟩ := F.pos k (by omega)
    have f1 := int_cast_le p1
    have f9 := int_cast_le p9
    have e50 : ((50 : Int) : Rat) = 50 := rfl
    have e99 : ((99 : Int) : Rat) = 99 := rfl
    rw [e50] at f1
    rw [e99] at f9
    have b := div_bound hd (show ab (hE fl d k) ≤ 100 * p2 (k : Int) - 100 by rw [ab_of h1]; exact h2)
    have p0 := p2_pos (-1)
    have hm : hE fl d k / d * d = hE fl d k := Rat.div_mul_cancel (by grind)
    have e : hE fl d (k + 1) = (flow fl k : Rat) + hE fl d k / d := rfl
    have l := le_ab (hE fl d k / d)
    have q0 : 0 ≤ hE fl d k / d := by
      apply Classical.byContradiction
      intro hh
      have h6 := Rat.mul_lt_mul_of_pos_right (show hE fl d k / d < 0 by grind) (show 0 < d by grind)
      grind
    rw [e, pow2R]
    generalize hE fl d k / d = q at *
    generalize (flow fl k : Rat) = f at *
    clear hm F e50 e99
    exact ⟨by grind, by grind⟩
theorem hE_all {fl : List Int} (F : Flw fl) {d : Rat} (hd : p2 (-1) ≤ d) (k : Nat) (hk : k ≤ fl.length) : ab (hE fl d k) ≤ 120 * p2 (k : Int) := by
  by_cases c : k + 1 ≤ fl.length
  · obtain ⟨h1, h2⟩ := hE_low F hd k c
    rw [ab_of h1]
    have := p2_pos (k : Int)
    grind
  · obtain ⟨j, rfl⟩ : ∃ j, k = j + 1 := ⟨k - 1, by have := F.two; omega⟩
    have hj : fl.length - 1 = j := by omega
    obtain ⟨h1, h2⟩ := hE_low F hd j (by omega)
    obtain ⟨n1, n2⟩ := F.neg
    rw [hj] at n1 n2
    have f1 := int_cast_le n1
    have f9 := int_cast_le n2
    have e50 : ((-201 : Int) : Rat) = -201 := rfl
    have e99 : ((-1 : Int) : Rat) = -1 := rfl
    rw [e50] at f1
    rw [e99] at f9
    have b := div_bound hd (show ab (hE fl d j) ≤ 100 * p2 (j : Int) - 100 by rw [ab_of h1]; exact h2)
    have e : hE fl d (j + 1) = (flow fl j : Rat) + hE fl d j / d := rfl
    have l := le_ab (hE fl d j / d)
    have one : 2 ≤ p2 (j : Int) := by
      have := p2_mono (show (1 : Int) ≤ (j : Int) by have := F.two; omega)
      exact this
    rw [e, pow2R]
    generalize hE fl d j / d = q at *
    generalize (flow fl j : Rat) = f at *
    clear F e50 e99 e h1 h2
    exact ab_le (by grind) (by grind)
def dl20 : Rat := p2 (-20)
theorem dl20_ok : 0 ≤ dl20 ∧ dl20 * 1048576 = 1 := by
  refine ⟨Rat.le_of_lt (p2_pos _), ?_⟩
  have : p2 20 = 1048576 := p2_nat 20
  show p2 (-20) * 1048576 = 1
  rw [← this, ← p2_add]; rfl
theorem quo_close {h1 h2 d1 d2 k D : Rat} (p1 : 0 < d1) (p2' : 0 < d2) (k0 : 0 ≤ k) (k7 : k ≤ 12) (D0 : 0 ≤ D) (DS : D * 1048576 = 1) (hd : d2 ≤ d1 + d1 * D) (h20 : 0 ≤ h2) (h : h1 ≤ h2 + k * (D * h2)) : h1 / d1 ≤ h2 / d2 + (k + 2) * (D * (h2 / d2)) := by
  have e1 : h1 / d1 * d1 = h1 := Rat.div_mul_cancel (by grind)
  have e2 : h2 / d2 * d2 = h2 := Rat.div_mul_cancel (by grind)
  have y0 : 0 ≤ h2 / d2 := by
    apply Classical.byContradiction
    intro hh
    have h6 := Rat.mul_lt_mul_of_pos_right (show h2 / d2 < 0 by grind) p2'
    grind
  generalize h1 / d1 = y1 at *
  generalize h2 / d2 = y2 at *
  apply Classical.byContradiction
  intro hh
  have h6 := Rat.mul_lt_mul_of_pos_right (show y2 + (k + 2) * (D * y2) < y1 by grind) p1
  -- y1 d1 = h1 ≤ (1 + k D) y2 d2 ≤ (1 + k D) y2 (1 + D) d1
  have a1 := Rat.mul_le_mul_of_nonneg_left hd y0
  have yd : 0 ≤ y2 * d1 := Rat.mul_nonneg y0 (Rat.le_of_lt p1)
  have kD : 0 ≤ k * D := Rat.mul_nonneg k0 D0
  have a2 := Rat.mul_le_mul_of_nonneg_left a1 kD
  have kD1 : k * D ≤ 1 := by
    have := Rat.mul_le_mul_of_nonneg_right k7 D0
    grind
  have a3 := Rat.mul_le_mul_of_nonneg_right kD1 (Rat.mul_nonneg yd D0)
  rw [e1] at h6
  subst e2
  generalize hX : y2 * d1 = X at *
  have b1 : y2 * (d1 + d1 * D) = X + X * D := by rw [← hX]; grind
  rw [b1] at a1 a2
  have b2 : (y2 + (k + 2) * (D * y2)) * d1 = X + (k * D) * X + 2 * (X * D) := by rw [← hX]; grind
  rw [b2] at h6
  have b3 : k * (D * (y2 * d2)) = (k * D) * (y2 * d2) := by grind
  rw [b3] at h
  generalize y2 * d2 = Y at *
  have b4 : k * D * (X + X * D) = (k * D) * X + (k * D) * (X * D) := by grind
  rw [b4] at a2
  generalize k * D * Y = U at *
  generalize k * D * X = V at *
  generalize k * D * (X * D) = Z at *
  generalize X * D = T at *
  clear hX b1 b2 b3 b4 DS hd kD kD1 e1
  grind
theorem hE_close {fl : List Int} (F : Flw fl) {d1 d2 : Rat} (h1 : p2 (-1) ≤ d1) (h2 : p2 (-1) ≤ d2) (hd : d2 ≤ d1 + d1 * dl20) : ∀ k, k + 1 ≤ fl.length → hE fl d1 k ≤ hE fl d2 k + (2 * (k : Rat)) * (dl20 * hE fl d2 k)
  | 0, _ => by
    have e : ∀ d, hE fl d 0 = 0 := fun _ => rfl
    rw [e, e]
    grind
  | k + 1, h => by
    have ih := hE_close F h1 h2 hd k (by omega)
    obtain ⟨a1, _⟩ := hE_low F h2 k (by omega)
    obtain ⟨D0, DS⟩ := dl20_ok
    have p0 := p2_pos (-1)
    have k0 : (0 : Rat) ≤ (k : Rat) := by exact_mod_cast Nat.zero_le k
    have k6 : (k : Rat) ≤ 6 := cast_le (show k ≤ 6 by have := F.sev; omega)
    have q := quo_close (k := 2 * (k : Rat)) (by grind) (by grind) (by grind) (by grind) D0 DS hd a1 ih
    obtain ⟨p1, p9⟩ := F.pos k (by omega)
    have f1 := int_cast_le p1
    have e50 : ((50 : Int) : Rat) = 50 := rfl
    rw [e50] at f1
    have e : ∀ d, hE fl d (k + 1) = (flow fl k : Rat) + hE fl d k / d := fun _ => rfl
    rw [e, e, show ((k + 1 : Nat) : Rat) = (k : Rat) + 1 from Rat.natCast_add _ _]
    have m0 := Rat.mul_nonneg (show 0 ≤ 2 * ((k : Rat) + 1) by grind) (Rat.mul_nonneg D0 (show 0 ≤ (flow fl k : Rat) by grind))
    generalize hE fl d1 k / d1 = y1 at *
    generalize hE fl d2 k / d2 = y2 at *
    generalize (flow fl k : Rat) = f at *
    clear F ih hd
    have b1 : 2 * ((k : Rat) + 1) * (dl20 * (f + y2)) = 2 * ((k : Rat) + 1) * (dl20 * f) + (2 * (k : Rat) + 2) * (dl20 * y2) := by grind
    rw [b1]
    generalize 2 * ((k : Rat) + 1) * (dl20 * f) = u at *
    generalize (2 * (k : Rat) + 2) * (dl20 * y2) = v at *
    grind
def top_ (fl : List Int) (d : Rat) : Rat := hE fl d (fl.length - 1) / d
def f0R (fl : List Int) : Rat := (flow fl (fl.length - 1) : Rat)
theorem hE_last {fl : List Int} (F : Flw fl) (d : Rat) : hE fl d fl.length = f0R fl + top_ fl d := by
  obtain ⟨m, hm⟩ : ∃ m, fl.length = m + 1 := ⟨fl.length - 1, by have := F.two; omega⟩
  unfold top_ f0R
  rw [hm]
  rfl
theorem f0_low {fl : List Int} (F : Flw fl) : -201 ≤ f0R fl ∧ f0R fl ≤ -1 := by
  obtain ⟨n1, n2⟩ := F.neg
  have f1 := int_cast_le n1
  have f9 := int_cast_le n2
  exact ⟨f1, f9⟩
theorem top_close {fl : List Int} (F : Flw fl) {d1 d2 : Rat} (h1 : p2 (-1) ≤ d1) (h2 : p2 (-1) ≤ d2) (hd : d2 ≤ d1 + d1 * dl20) : 0 ≤ top_ fl d2 ∧ top_ fl d1 ≤ top_ fl d2 + 14 * (dl20 * top_ fl d2) := by
  have hm : fl.length - 1 + 1 ≤ fl.length := by have := F.two; omega
  have c := hE_close F h1 h2 hd (fl.length - 1) hm
  obtain ⟨a1, _⟩ := hE_low F h2 (fl.length - 1) hm
  obtain ⟨D0, DS⟩ := dl20_ok
  have p0 := p2_pos (-1)
  have k0 : (0 : Rat) ≤ ((fl.length - 1 : Nat) : Rat) := by exact_mod_cast Nat.zero_le _
  have k6 : ((fl.length - 1 : Nat) : Rat) ≤ 6 := cast_le (show fl.length - 1 ≤ 6 by have := F.sev; omega)
  have q := quo_close (k := 2 * ((fl.length - 1 : Nat) : Rat)) (by grind) (by grind) (by grind) (by grind) D0 DS hd a1 c
  have e2 : hE fl d2 (fl.length - 1) / d2 * d2 = hE fl d2 (fl.length - 1) := Rat.div_mul_cancel (by grind)
  have y0 : 0 ≤ hE fl d2 (fl.length - 1) / d2 := by
    apply Classical.byContradiction
    intro hh
    have h6 := Rat.mul_lt_mul_of_pos_right (show hE fl d2 (fl.length - 1) / d2 < 0 by grind) (show 0 < d2 by grind)
    grind
  refine ⟨y0, ?_⟩
  show hE fl d1 (fl.length - 1) / d1 ≤ _
  have m := Rat.mul_le_mul_of_nonneg_right (show 2 * ((fl.length - 1 : Nat) : Rat) + 2 ≤ 14 by grind) (Rat.mul_nonneg D0 y0)
  show _ ≤ hE fl d2 (fl.length - 1) / d2 + 14 * (dl20 * (hE fl d2 (fl.length - 1) / d2))
  grind
def worF (fl : List Int) (r : Nat) : Nat := wF fl r fl.length
def eMax : Rat := 896 * gE
theorem flow_small {fl : List Int} (F : Flw fl) (k : Nat) (hk : k < fl.length) : (flow fl k).natAbs ≤ 1000 := by
  by_cases c : k + 1 < fl.length
  · have := F.pos k c; omega
  · have e : fl.length - 1 = k := by omega
    have := F.neg
    rw [e] at this
    omega
theorem wor_near {fl : List Int} (F : Flw fl) {r : Nat} (Y : Yld r) : finB .f32 (worF fl r) = true ∧ fval .f32 (worF fl r) ≤ hE fl (fval .f32 (dF r)) fl.length + eMax ∧ hE fl (fval .f32 (dF r)) fl.length - eMax ≤ fval .f32 (worF fl r) := by
  obtain ⟨_, dl, _⟩ := dF_ok Y
  obtain ⟨w0, w1, w2⟩ := w_near Y (flow_small F) (fun k hk => hE_all F dl k hk) F.sev fl.length (Nat.le_refl _)
  have g0 : 0 ≤ gE := gE_facts.1
  have l7 : ((fl.length : Nat) : Rat) ≤ 7 := cast_le F.sev
  have l0 : (0 : Rat) ≤ ((fl.length : Nat) : Rat) := by exact_mod_cast Nat.zero_le _
  have p7 : p2 (fl.length : Int) ≤ 128 := by
    have h := p2_mono (show (fl.length : Int) ≤ 7 by have := F.sev; omega)
    have e : p2 7 = 128 := p2_nat 7
    rw [e] at h
    exact h
  have m1 := Rat.mul_le_mul_of_nonneg_right p7 g0
  have m2 := Rat.mul_le_mul_of_nonneg_left m1 l0
  have m3 := Rat.mul_le_mul_of_nonneg_right l7 (Rat.mul_nonneg (show (0 : Rat) ≤ 128 by decide) g0)
  have e : eMax = 7 * (128 * gE) := by show 896 * gE = _; clear F Y w0 w1 w2 l7 l0 p7 m1 m2 m3; grind
  unfold worF
  rw [e]
  refine ⟨w0, ?_⟩
  clear F Y w0 dl l7 l0 p7 m1 e g0
  generalize p2 (fl.length : Int) * gE = T at *
  generalize (fl.length : Rat) * T = U at *
  generalize (fl.length : Rat) * (128 * gE) = V at *
  generalize 7 * (128 * gE) = W at *
  generalize fval .f32 (wF fl r fl.length) = x at *
  generalize hE fl (fval .f32 (dF r)) fl.length = y at *
  constructor <;> grind
def Close (r s : Nat) : Prop := fval .f32 r - fval .f32 s ≤ p2 (-22) ∧ fval .f32 s - fval .f32 r ≤ p2 (-22)
theorem d_close {r s : Nat} (Y : Yld r) (Z : Yld s) (h : fval .f32 r - fval .f32 s ≤ p2 (-23) + p2 (-24) + p2 (-25)) : fval .f32 (dF r) ≤ fval .f32 (dF s) + fval .f32 (dF s) * dl20 := by
  obtain ⟨_, l1, _, a1, a2⟩ := dF_ok Y
  obtain ⟨_, l2, _, b1, b2⟩ := dF_ok Z
  obtain ⟨D0, _⟩ := dl20_ok
  have m := Rat.mul_le_mul_of_nonneg_right l2 D0
  have e : p2 (-1) * dl20 = p2 (-21) := by show p2 (-1) * p2 (-20) = _; rw [← p2_add]; rfl
  rw [e] at m
  have sc : ∀ (a b : Int) (n : Nat), a = (n : Int) + b → p2 a = ((2 ^ n : Nat) : Rat) * p2 b := fun a b n h => by rw [h, p2_add, p2_nat]
  have c1 : p2 (-21) = 64 * p2 (-27) := sc _ _ 6 rfl
  have c3 : p2 (-23) = 16 * p2 (-27) := sc _ _ 4 rfl
  have c4 : p2 (-24) = 8 * p2 (-27) := sc _ _ 3 rfl
  have c5 : p2 (-25) = 4 * p2 (-27) := sc _ _ 2 rfl
  have c6 := p2_mono (show (-150 : Int) ≤ -27 by decide)
  have u0 := p2_pos (-27)
  rw [c3] at a1 a2 b1 b2
  rw [c3, c4, c5] at h
  rw [c1] at m
  generalize fval .f32 (dF s) * dl20 = M at *
  generalize fval .f32 (dF r) = x at *
  generalize fval .f32 (dF s) = y at *
  generalize fval .f32 r = r' at *
  generalize fval .f32 s = s' at *
  generalize p2 (-27) = u at *
  generalize p2 (-150) = v at *
  clear Y Z e D0 c1 c3 c4 c5 sc l1 l2 a2 b1
  have a3 : x ≤ 1 + r' + (16 * u + v) := by grind
  have b3 : 1 + s' ≤ y + (16 * u + v) := by grind
  have h3 : r' ≤ s' + 28 * u := by grind
  clear a1 b2 h
  grind
theorem inner_small {fl : List Int} (F : Flw fl) {b o c : Nat} (Yb : Yld b) (Yo : Yld o) (Yc : Yld c) (nb : fval .f32 (worF fl b) ≤ 0) (no : 0 ≤ fval .f32 (worF fl o)) (h1 : fval .f32 b - fval .f32 c ≤ p2 (-23) + p2 (-24) + p2 (-25)) (h2 : fval .f32 c - fval .f32 o ≤ p2 (-23) + p2 (-24) + p2 (-25)) : ab (fval .f32 (worF fl c)) ≤ p2 (-5) := by
  obtain ⟨_, lb, _⟩ := dF_ok Yb
  obtain ⟨_, lo, _⟩ := dF_ok Yo
  obtain ⟨_, lc, _⟩ := dF_ok Yc
  obtain ⟨_, _, wb⟩ := wor_near F Yb
  obtain ⟨_, wo, _⟩ := wor_near F Yo
  obtain ⟨_, wc1, wc2⟩ := wor_near F Yc
  rw [hE_last F] at wb wo wc1 wc2
  obtain ⟨tb0, tc⟩ := top_close F lc lb (d_close Yb Yc h1)
  obtain ⟨tc0, to_⟩ := top_close F lo lc (d_close Yc Yo h2)
  obtain ⟨f1, f2⟩ := f0_low F
  obtain ⟨D0, DS⟩ := dl20_ok
  obtain ⟨g0, gs, ge, _⟩ := gE_facts
  have e5 : p2 (-5) * 32 = 1 := by
    have : p2 5 = 32 := p2_nat 5
    rw [← this, ← p2_add]; rfl
  have em : eMax = 896 * gE := rfl
  have g16 : gE * 65000 ≤ 1 := by
    have a1 : p2 (-16) * 65536 = 1 := by
      have : p2 16 = 65536 := p2_nat 16
      rw [← this, ← p2_add]; rfl
    have a2 := p2_mono (show (-100 : Int) ≤ -26 by decide)
    have a3 : p2 (-16) = p2 (-26) * 1024 := by
      have : p2 10 = 1024 := p2_nat 10
      rw [← this, ← p2_add]; rfl
    show (p2 (-16) + p2 (-100)) * 65000 ≤ 1
    grind
  have em2 : eMax ≤ 896 / 65000 := by rw [em]; grind
  have dl2 : dl20 ≤ 1 / 1048576 := by grind
  generalize fval .f32 (worF fl c) = x at *
  generalize fval .f32 (worF fl b) = xb at *
  generalize fval .f32 (worF fl o) = xo at *
  generalize top_ fl (fval .f32 (dF b)) = tb at *
  generalize top_ fl (fval .f32 (dF o)) = to' at *
  generalize top_ fl (fval .f32 (dF c)) = tcv at *
  generalize f0R fl = f at *
  generalize eMax = E at *
  generalize p2 (-5) = p5 at *
  clear F Yb Yo Yc ge em g0 gs g16 lb lo lc h1 h2
  have tb2 : tb ≤ 202 := by clear tc to_ wo wc1 wc2 no e5 DS dl2; grind
  have m1 := Rat.mul_le_mul_of_nonneg_right dl2 tb0
  have tc2 : tcv ≤ 203 := by clear to_ wo wc1 wc2 no e5 DS wb nb f1 f2; grind
  have m2 := Rat.mul_le_mul_of_nonneg_right dl2 tc0
  generalize dl20 * tb = Q at *
  generalize dl20 * tcv = R at *
  clear DS dl2 D0
  have r1 : R ≤ 203 / 1048576 := by clear tc to_ wo wc1 wc2 no e5 wb nb f1 f2 m1; grind
  have q1 : Q ≤ 202 / 1048576 := by clear tc to_ wo wc1 wc2 no e5 wb nb f1 f2 m2 r1; grind
  clear m1 m2
  have up : x ≤ 1 / 32 := by clear wc2 to_ wo no e5 r1; grind
  have dn : -(1 / 32) ≤ x := by clear wc1 tc wb nb e5 q1 up; grind
  clear wc1 wc2 wo wb to_ tc
  exact ab_le (by grind) (by grind)
end Go.Proofs.Ythildgdbgjgidaa
