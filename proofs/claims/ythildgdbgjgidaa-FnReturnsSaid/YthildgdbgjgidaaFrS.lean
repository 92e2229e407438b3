/- Inner rates of flows: the search; plain laws. -/
import Derived.Test.YthildgdbgjgidaaFrR
set_option maxRecDepth 10000
set_option maxHeartbeats 2000000
set_option linter.unusedSimpArgs false
set_option linter.unusedVariables false
namespace Go.Proofs.Ythildgdbgjgidaa
open Go Go.Abs

def mh32 : Nat := 3204448256
theorem mh_ok : finB .f32 mh32 = true ∧ fval .f32 mh32 = -p2 (-1) := by
  have h : FloatKind.f32.decode mh32 = .number true 8388608 (-24) := by decide +kernel
  refine ⟨num_fin h, ?_⟩
  rw [fval_of h]
  have h1 : ((8388608 : Nat) : Rat) = p2 ((23 : Nat) : Int) := (p2_nat 23).symm
  rw [h1, ← p2_add]
  have e : p2 (((23 : Nat) : Int) + -24) = p2 (-1) := rfl
  rw [e]
  simp only [sg, if_true]
  grind
theorem yld_mh : Yld mh32 := by
  obtain ⟨h1, h2⟩ := mh_ok
  have := half
  exact ⟨h1, by rw [h2]; grind, by rw [h2]; grind⟩
theorem yld_one : Yld one32 := by
  have := half
  exact ⟨fin_one32, by rw [one32_val]; grind, by rw [one32_val]; grind⟩
def mid (b o : Nat) : Nat := fdiv .f32 (fadd .f32 b o) two32
def eta : Rat := p2 (-24) + p2 (-140)
theorem rep_two {B : Rat} (h : Rep .f32 B) : Rep .f32 (2 * B) := by
  obtain ⟨s, j, t, h1, h2, rfl⟩ := h
  refine ⟨s, j, t + 1, h1, by omega, ?_⟩
  rw [p2_add]
  have : p2 1 = 2 := rfl
  rw [this]
  grind
theorem mid_ok {b o : Nat} (Yb : Yld b) (Yo : Yld o) (le : fval .f32 o ≤ fval .f32 b) : Yld (mid b o) ∧ fval .f32 o ≤ fval .f32 (mid b o) ∧ fval .f32 (mid b o) ≤ fval .f32 b ∧
    fval .f32 (mid b o) - (fval .f32 b + fval .f32 o) / 2 ≤ eta ∧ (fval .f32 b + fval .f32 o) / 2 - fval .f32 (mid b o) ≤ eta := by
  have hh := half
  have b1 := Yb.lo
  have b2 := Yb.up
  have o1 := Yo.lo
  have o2 := Yo.up
  have e1 : p2 1 = 2 := rfl
  have hb : ab (fval .f32 b + fval .f32 o) ≤ p2 1 := by rw [e1]; exact ab_le (by grind) (by grind)
  have rs := rn_add (k := .f32) Yb.fin Yo.fin (lt_top32 hb (by decide))
  have s1 := rs.e1
  have s2 := rs.e2
  have g1 : ((fb .f32 + 1 : Nat) : Int) = 24 := rfl
  have g2 : least .f32 - 1 = -150 := rfl
  rw [g1, g2] at s1 s2
  have m := Rat.mul_le_mul_of_nonneg_left hb (Rat.le_of_lt (p2_pos (-24)))
  rw [← p2_add] at m
  have lo2 := rs.lo _ (rep_two (rep_val32 Yo.fin)) (by grind)
  have up2 := rs.up _ (rep_two (rep_val32 Yb.fin)) (by grind)
  have sf := rs.fin
  have sb := rs.bound (rep_p2 _ (by decide)) hb
  unfold mid
  generalize hs : fadd .f32 b o = s at *
  have hq : fval .f32 s / fval .f32 two32 = fval .f32 s / 2 := by rw [two32_val]
  have d2 := div_bound (x := fval .f32 s) (d := 2) (B := p2 1) (by grind) sb
  have rq := rn_div (k := .f32) sf fin_two32 (by rw [two32_val]; decide) (by
    rw [hq]
    have : (2 : Rat) * p2 1 = p2 2 := by rw [← e1, ← p2_add]; rfl
    rw [this] at d2
    exact lt_top32 d2 (by decide))
  rw [hq] at rq
  have lo3 := rq.lo _ (rep_val32 Yo.fin) (by grind)
  have up3 := rq.up _ (rep_val32 Yb.fin) (by grind)
  -- half of what a word holds is a word's, nearly
  have near : ab (fval .f32 (fdiv .f32 s two32) - fval .f32 s / 2) ≤ p2 (-148) := by
    obtain ⟨sg', j, t, h1, h2, h3⟩ := rep_val32 sf
    by_cases c : -148 ≤ t
    · have r : Rep .f32 (fval .f32 s / 2) := by
        refine ⟨sg', j, t - 1, h1, by show (-149 : Int) ≤ t - 1; omega, ?_⟩
        rw [h3]
        have : p2 t = p2 (t - 1) * 2 := by rw [← e1, ← p2_add]; congr 1; omega
        rw [this]
        grind
      rw [rq.same r]
      have := p2_pos (-148)
      exact ab_le (by grind) (by grind)
    · have ht : t = -149 := by have : (-149 : Int) ≤ t := h2; omega
      subst ht
      have x1 := rq.e1
      have x2 := rq.e2
      rw [g1, g2] at x1 x2
      have j1 := cast_le (show j ≤ 2 ^ 24 by have : j < 2 ^ 24 := h1; omega)
      rw [← p2_nat] at j1
      have j2 := mul_le_r (Rat.le_of_lt (p2_pos (-149))) j1
      rw [← p2_add] at j2
      have q1 : ab (fval .f32 s) ≤ p2 (-125) := by
        rw [h3, ab_sg _ (mag_nonneg _ _)]
        exact j2
      have q2 : ab (fval .f32 s / 2) ≤ p2 (-125) := by
        have l := le_ab (fval .f32 s)
        have := p2_pos (-125)
        exact ab_le (by grind) (by grind)
      have m2 := Rat.mul_le_mul_of_nonneg_left q2 (Rat.le_of_lt (p2_pos (-24)))
      rw [← p2_add] at m2
      have e3 : p2 (-24 + -125) = 2 * p2 (-150) := by
        rw [← e1, ← p2_add]; rfl
      have e4 : p2 (-148) = 4 * p2 (-150) := by
        have : p2 2 = 4 := p2_nat 2
        rw [← this, ← p2_add]; rfl
      have e5 := p2_pos (-150)
      rw [e4]
      rw [e3] at m2
      generalize p2 (-24) * ab (fval .f32 s / 2) = U at *
      generalize fval .f32 (fdiv .f32 s two32) = x at *
      generalize fval .f32 s / 2 = y at *
      generalize p2 (-150) = v at *
      clear Yb Yo rs rq hh m s1 s2 lo2 up2 lo3 up3 hb sb hq d2 b1 b2 o1 o2 le e3 e4 j1 j2 q1 q2 h3
      exact ab_le (by grind) (by grind)
  have l := le_ab (fval .f32 (fdiv .f32 s two32) - fval .f32 s / 2)
  have e24 : p2 (-24 + 1) = 2 * p2 (-24) := by rw [← e1, ← p2_add]; rfl
  have t1 := p2_mono (show (-150 : Int) ≤ -142 by decide)
  have t2 := p2_mono (show (-148 : Int) ≤ -142 by decide)
  have t3 : p2 (-140) = 4 * p2 (-142) := by
    have : p2 2 = 4 := p2_nat 2
    rw [← this, ← p2_add]; rfl
  have t4 := p2_pos (-142)
  have ee : eta = p2 (-24) + p2 (-140) := rfl
  rw [e24] at m
  refine ⟨⟨rq.fin, by grind, by grind⟩, lo3, up3, ?_⟩
  clear Yb Yo rs rq hh lo2 up2 lo3 up3 hb sb hq d2 b1 b2 o1 o2 le sf
  rw [ee, t3]
  generalize p2 (-24) * ab (fval .f32 b + fval .f32 o) = U at *
  generalize ab (fval .f32 (fdiv .f32 s two32) - fval .f32 s / 2) = V at *
  generalize fval .f32 (fdiv .f32 s two32) = x at *
  generalize fval .f32 s = y at *
  generalize fval .f32 b + fval .f32 o = z at *
  generalize p2 (-150) = v at *
  generalize p2 (-148) = v2 at *
  generalize p2 (-142) = v3 at *
  generalize p2 (-24) = w at *
  clear g1 g2 e24 hs ee t3 e1
  constructor <;> grind
structure Bis (fl : List Int) (k : Nat) (b o : Nat) : Prop where
  Yb : Yld b
  Yo : Yld o
  le : fval .f32 o ≤ fval .f32 b
  wd : fval .f32 b - fval .f32 o ≤ 3 / 2 * p2 (-(k : Int)) + 2 * eta
  nb : flt .f32 (worF fl b) 0 = true
  no : flt .f32 (worF fl o) 0 = false
theorem fin0 : finB .f32 0 = true := by decide +kernel
theorem bis_step {fl : List Int} (F : Flw fl) {k b o : Nat} (B : Bis fl k b o) : (flt .f32 (worF fl (mid b o)) 0 = true → Bis fl (k + 1) (mid b o) o) ∧ (flt .f32 (worF fl (mid b o)) 0 = false → Bis fl (k + 1) b (mid b o)) := by
  obtain ⟨Ym, m1, m2, m3, m4⟩ := mid_ok B.Yb B.Yo B.le
  have w := B.wd
  have e : p2 (-(k : Int)) = 2 * p2 (-((k + 1 : Nat) : Int)) := by
    have : p2 1 = 2 := rfl
    rw [← this, ← p2_add]
    congr 1
    omega
  rw [e] at w
  refine ⟨fun h => ⟨Ym, B.Yo, m1, ?_, h, B.no⟩, fun h => ⟨B.Yb, Ym, m2, ?_, B.nb, h⟩⟩ <;> clear F B Ym e <;> generalize p2 (-((k + 1 : Nat) : Int)) = P at * <;> generalize eta = E at * <;> grind
theorem wor_neg {fl : List Int} (F : Flw fl) {r : Nat} (Y : Yld r) : (flt .f32 (worF fl r) 0 = true → fval .f32 (worF fl r) ≤ 0) ∧ (flt .f32 (worF fl r) 0 = false → 0 ≤ fval .f32 (worF fl r)) := by
  have hf := (wor_near F Y).1
  rw [flt_val hf fin0, fval_zero]
  clear F Y
  refine ⟨fun h => ?_, fun h => ?_⟩
  · have := of_decide_eq_true h; grind
  · have := of_decide_eq_false h; grind
theorem bis_end {fl : List Int} (F : Flw fl) {b o : Nat} (B : Bis fl 24 b o) : Yld (mid b o) ∧ ab (fval .f32 (worF fl (mid b o))) ≤ p2 (-5) := by
  obtain ⟨Ym, m1, m2, m3, m4⟩ := mid_ok B.Yb B.Yo B.le
  have w := B.wd
  have e1 : eta = p2 (-24) + p2 (-140) := rfl
  have sc : ∀ (a b : Int) (n : Nat), a = (n : Int) + b → p2 a = ((2 ^ n : Nat) : Rat) * p2 b := fun a b n h => by rw [h, p2_add, p2_nat]
  have c3 : p2 (-23) = 16 * p2 (-27) := sc _ _ 4 rfl
  have c4 : p2 (-24) = 8 * p2 (-27) := sc _ _ 3 rfl
  have c5 : p2 (-25) = 4 * p2 (-27) := sc _ _ 2 rfl
  have c6 := p2_mono (show (-140 : Int) ≤ -27 by decide)
  have u0 := p2_pos (-27)
  have ek : p2 (-((24 : Nat) : Int)) = p2 (-24) := rfl
  rw [ek] at w
  refine ⟨Ym, inner_small F B.Yb B.Yo Ym ((wor_neg F B.Yb).1 B.nb) ((wor_neg F B.Yo).2 B.no) ?_ ?_⟩ <;> rw [c3, c4, c5] <;> rw [e1, c4] at w m3 m4 <;> clear F B Ym e1 c3 c4 c5 sc ek <;> generalize p2 (-27) = u at * <;> generalize p2 (-140) = v at * <;> grind
theorem fall {fl : List Int} (F : Flw fl) (h : flt .f32 (worF fl mh32) 0 = true) : flt .f32 (worF fl one32) 0 = true := by
  have d1 : fval .f32 (dF mh32) = p2 (-1) := by
    have e : dF mh32 = 1056964608 := by decide +kernel
    have hd : FloatKind.f32.decode 1056964608 = .number false 8388608 (-24) := by decide +kernel
    rw [e, fval_of hd]
    have h1 : ((8388608 : Nat) : Rat) = p2 ((23 : Nat) : Int) := (p2_nat 23).symm
    rw [h1, ← p2_add]
    have e2 : p2 (((23 : Nat) : Int) + -24) = p2 (-1) := rfl
    rw [e2]
    simp [sg]
  have d2 : fval .f32 (dF one32) = 2 := by
    have e : dF one32 = two32 := by decide +kernel
    rw [e, two32_val]
  obtain ⟨_, _, w1⟩ := wor_near F yld_mh
  obtain ⟨wf, w2, _⟩ := wor_near F yld_one
  have n1 := (wor_neg F yld_mh).1 h
  rw [d1] at w1
  rw [d2] at w2
  rw [hE_last F] at w1 w2
  obtain ⟨f1, f2⟩ := f0_low F
  have hh := half
  have less : ∀ k, k + 1 ≤ fl.length → hE fl 2 k ≤ hE fl (p2 (-1)) k := by
    intro k
    induction k with
    | zero => intro _; exact Rat.le_refl
    | succ k ih =>
      intro hk
      have i1 := ih (by omega)
      have i2 := (hE_low F (d := p2 (-1)) Rat.le_refl k (by omega)).1
      have e1 : hE fl 2 (k + 1) = (flow fl k : Rat) + hE fl 2 k / 2 := rfl
      have e2 : hE fl (p2 (-1)) (k + 1) = (flow fl k : Rat) + hE fl (p2 (-1)) k / p2 (-1) := rfl
      have e3 : hE fl (p2 (-1)) k / p2 (-1) * p2 (-1) = hE fl (p2 (-1)) k := Rat.div_mul_cancel (by grind)
      have e4 : hE fl (p2 (-1)) k / p2 (-1) = 2 * hE fl (p2 (-1)) k := by
        have : hE fl (p2 (-1)) k / p2 (-1) * p2 (-1) * 2 = hE fl (p2 (-1)) k * 2 := by rw [e3]
        rw [Rat.mul_assoc, hh, Rat.mul_one] at this
        rw [this, Rat.mul_comm]
      rw [e1, e2, e4]
      clear F w1 w2 n1 h wf
      grind
  obtain ⟨m, hm⟩ : ∃ m, fl.length = m + 2 := ⟨fl.length - 2, by have := F.two; omega⟩
  have l1 := less (fl.length - 1) (by omega)
  have low := (hE_low F (d := p2 (-1)) Rat.le_refl m (by omega)).1
  have p50 := int_cast_le (F.pos m (by omega)).1
  have e50 : ((50 : Int) : Rat) = 50 := rfl
  rw [e50] at p50
  have hlast : fl.length - 1 = m + 1 := by omega
  have em : hE fl (p2 (-1)) (fl.length - 1) = (flow fl m : Rat) + hE fl (p2 (-1)) m / p2 (-1) := by rw [hlast]; rfl
  have q0 : 0 ≤ hE fl (p2 (-1)) m / p2 (-1) := by
    have e3 : hE fl (p2 (-1)) m / p2 (-1) * p2 (-1) = hE fl (p2 (-1)) m := Rat.div_mul_cancel (by have := p2_pos (-1); grind)
    apply Classical.byContradiction
    intro hh2
    have h6 := Rat.mul_lt_mul_of_pos_right (show hE fl (p2 (-1)) m / p2 (-1) < 0 by grind) (p2_pos (-1))
    grind
  have t1 : top_ fl (p2 (-1)) = 2 * hE fl (p2 (-1)) (fl.length - 1) := by
    unfold top_
    have e3 : hE fl (p2 (-1)) (fl.length - 1) / p2 (-1) * p2 (-1) = hE fl (p2 (-1)) (fl.length - 1) := Rat.div_mul_cancel (by have := p2_pos (-1); grind)
    have : hE fl (p2 (-1)) (fl.length - 1) / p2 (-1) * p2 (-1) * 2 = hE fl (p2 (-1)) (fl.length - 1) * 2 := by rw [e3]
    rw [Rat.mul_assoc, hh, Rat.mul_one] at this
    rw [this, Rat.mul_comm]
  have t2 : top_ fl 2 = hE fl 2 (fl.length - 1) / 2 := rfl
  rw [t1] at w1
  rw [t2] at w2
  have g16 : eMax ≤ 1 := by
    obtain ⟨_, gs, _⟩ := gE_facts
    show 896 * gE ≤ 1
    clear F w1 w2 n1 h wf
    grind
  rw [flt_val wf fin0, fval_zero]
  refine decide_eq_true ?_
  rw [em] at w1 l1
  clear F less h wf hm hlast t1 t2 em e50 d1 d2 hh
  generalize hE fl (p2 (-1)) m / p2 (-1) = y at *
  generalize hE fl 2 (fl.length - 1) = z at *
  generalize fval .f32 (worF fl one32) = x at *
  generalize fval .f32 (worF fl mh32) = x2 at *
  grind
end Go.Proofs.Ythildgdbgjgidaa
