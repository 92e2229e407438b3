/- Peoples: rates, and that those drawn are such, in plain Lean. -/
import Derived.Test.YtemeaobpedfkmaaPeT
set_option maxRecDepth 10000
set_option maxHeartbeats 4000000
set_option linter.unusedSimpArgs false
set_option linter.unusedVariables false
namespace Go.Proofs.Ytemeaobpedfkmaa
open Go Go.Abs

def hf32 : Nat := 1056964608
def hf64 : Nat := 4602678819172646912
theorem hf32_v : finB .f32 hf32 = true ∧ fval .f32 hf32 = 1 / 2 := by
  have h : FloatKind.f32.decode hf32 = .number false 8388608 (-24) := by decide +kernel
  refine ⟨num_fin h, ?_⟩
  rw [fval_of h]; decide +kernel
theorem hf64_v : finB .f64 hf64 = true ∧ fval .f64 hf64 = 1 / 2 := by
  have h : FloatKind.f64.decode hf64 = .number false 4503599627370496 (-53) := by decide +kernel
  refine ⟨num_fin h, ?_⟩
  rw [fval_of h]; decide +kernel
theorem sub_mul' (a b c : Rat) : (a - b) * c = a * c - b * c := by grind
theorem near_rat {X D p a r : Rat} (hm : X * a = r) (a0 : 0 < a) (r0 : 0 ≤ r) (r1 : r ≤ 160) (d1 : D ≤ X + 1 / 8388608 * X) (d2 : X - 1 / 8388608 * X ≤ D) (p1 : p ≤ 1 / 2 * D + 1 / 8388608 * (1 / 2 * D)) (p2 : 1 / 2 * D - 1 / 8388608 * (1 / 2 * D) ≤ p) : p * a - 1 / 2 * r ≤ 1 / 20000 ∧ 1 / 2 * r - p * a ≤ 1 / 20000 := by
  have k1 := Rat.mul_le_mul_of_nonneg_right d1 (Rat.le_of_lt a0)
  have k2 := Rat.mul_le_mul_of_nonneg_right d2 (Rat.le_of_lt a0)
  have k3 := Rat.mul_le_mul_of_nonneg_right p1 (Rat.le_of_lt a0)
  have k4 := Rat.mul_le_mul_of_nonneg_right p2 (Rat.le_of_lt a0)
  rw [Rat.add_mul, Rat.mul_assoc, hm] at k1
  rw [sub_mul', Rat.mul_assoc, hm] at k2
  rw [Rat.add_mul, Rat.mul_assoc, Rat.mul_assoc, Rat.mul_assoc] at k3
  rw [sub_mul', Rat.mul_assoc, Rat.mul_assoc, Rat.mul_assoc] at k4
  clear d1 d2 p1 p2 hm
  generalize D * a = E at *
  generalize p * a = F at *
  clear a0
  constructor <;> grind
theorem le_x {X a r c : Rat} (hm : X * a = r) (a0 : 0 < a) (h : c * a ≤ r) : c ≤ X := Rat.le_of_mul_le_mul_right (by rw [hm]; exact h) a0
theorem x_le {X a r c : Rat} (hm : X * a = r) (a0 : 0 < a) (h : r ≤ c * a) : X ≤ c := Rat.le_of_mul_le_mul_right (by rw [hm]; exact h) a0
theorem half_lo {X D : Rat} (h : X - 1 / 8388608 * X ≤ D) (x : 1 / 40 ≤ X) : 1 / 128 ≤ 1 / 2 * D ∧ 0 ≤ 1 / 2 * D := by constructor <;> grind
theorem half_hi {X D : Rat} (h : D ≤ X + 1 / 8388608 * X) (x : X ≤ 160) : 1 / 2 * D ≤ 1024 := by grind
theorem near_x {X a r : Rat} (hm : X * a = r) (a1 : 1 ≤ a) (a4 : a ≤ 40) (r0 : 0 ≤ r) (r1 : r ≤ 160) : 0 < a ∧ 0 ≤ X ∧ X ≤ 160 ∧ (1 ≤ r → 1 / 40 ≤ X) ∧ (r = 0 → X = 0) := by
  have a0 : 0 < a := by clear hm; grind
  refine ⟨a0, le_x hm a0 (by clear hm; grind), x_le hm a0 (by clear hm; grind), fun h => le_x hm a0 (by clear hm; grind), fun h => ?_⟩
  have p1 := le_x (c := 0) hm a0 (by clear hm; grind)
  have p2 := x_le (c := 0) hm a0 (by clear hm; grind)
  clear hm
  grind
theorem pa_near {A R C : Nat} (S : Sums A R C) : finB .f32 (fmul .f32 hf32 (fdiv .f32 R A)) = true ∧ 0 ≤ fval .f32 (fmul .f32 hf32 (fdiv .f32 R A)) * fval .f32 A ∧ fval .f32 (fmul .f32 hf32 (fdiv .f32 R A)) * fval .f32 A - 1 / 2 * fval .f32 R ≤ 1 / 20000 ∧ 1 / 2 * fval .f32 R - fval .f32 (fmul .f32 hf32 (fdiv .f32 R A)) * fval .f32 A ≤ 1 / 20000 := by
  obtain ⟨a, r, va, vr, vc, a1, a4, r0, r1⟩ := S.v
  have ba := int_bounds a1 a4
  have br := int_bounds r0 r1
  have e1 : ((1 : Int) : Rat) = 1 := rfl
  have e40 : ((40 : Int) : Rat) = 40 := rfl
  have e0 : ((0 : Int) : Rat) = 0 := rfl
  have e160 : ((160 : Int) : Rat) = 160 := rfl
  rw [e1, e40, ← va] at ba
  rw [e0, e160, ← vr] at br
  have fa := S.fa
  have fr := S.fr
  have an : fval .f32 A ≠ 0 := fun h => by rw [h] at ba; exact absurd ba.1 (by decide)
  have hm : fval .f32 R / fval .f32 A * fval .f32 A = fval .f32 R := Rat.div_mul_cancel an
  obtain ⟨aq, x0, x1, xl, xz⟩ := near_x hm ba.1 ba.2 br.1 br.2
  have l1 : (160 : Rat) ≤ 1024 := by grind
  have l2 : (-1024 : Rat) ≤ 0 := by grind
  have rd := rn_div fr fa an (top_small (Rat.le_trans x1 l1) (Rat.le_trans l2 x0))
  have hz32 : Rep .f32 0 := by have := rep_int .f32 (z := 0) (by decide); exact this
  by_cases hr : r = 0
  · have v0 : fval .f32 R = 0 := by rw [vr, hr]; rfl
    rw [xz v0] at rd
    have d0 := rd.same hz32
    have rp := rn_mul hf32_v.1 rd.fin (top_small (by rw [d0, Rat.mul_zero]; decide) (by rw [d0, Rat.mul_zero]; decide))
    rw [d0, Rat.mul_zero] at rp
    have p0 := rp.same hz32
    rw [p0, v0, Rat.zero_mul, Rat.mul_zero]
    exact ⟨rp.fin, Rat.le_refl, by grind, by grind⟩
  · have hr1 := int_cast_le (show 1 ≤ r by omega)
    rw [e1, ← vr] at hr1
    have xl := xl hr1
    have q6 : p2 (-100) ≤ p2 (-7) := p2_mono (by decide)
    have q7 : p2 (-7) = 1 / 128 := by decide +kernel
    rw [q7] at q6
    have l3 : (1 / 128 : Rat) ≤ 1 / 40 := by grind
    have eps : ep = 1 / 8388608 := by decide +kernel
    obtain ⟨d1, d2⟩ := rel32 rd (Rat.le_trans q6 (Rat.le_trans l3 xl))
    rw [eps] at d1 d2
    obtain ⟨h1, h2⟩ := half_lo d2 xl
    have h3 := half_hi d1 x1
    have rp := rn_mul hf32_v.1 rd.fin (by rw [hf32_v.2]; exact top_small h3 (Rat.le_trans l2 h2))
    rw [hf32_v.2] at rp
    obtain ⟨p1, p2'⟩ := rel32 rp (Rat.le_trans q6 h1)
    rw [eps] at p1 p2'
    have pn : 0 ≤ fval .f32 (fmul .f32 hf32 (fdiv .f32 R A)) := rp.lo 0 hz32 h2
    obtain ⟨g1, g2⟩ := near_rat hm aq br.1 br.2 d1 d2 p1 p2'
    exact ⟨rp.fin, Rat.mul_nonneg pn (Rat.le_of_lt aq), g1, g2⟩
theorem rate_gap {A R C : Nat} (S : Sums A R C) : flt .f64 (gapD (fmul .f64 (wid (fmul .f32 hf32 (fdiv .f32 R A))) (wid A)) (fmul .f64 hf64 (wid R))) (fmul .f64 c001 (fadd .f64 4607182418800017408 (wid R))) = true := by
  obtain ⟨fp, p0, p1, p2'⟩ := pa_near S
  obtain ⟨a, r, va, vr, vc, a1, a4, r0, r1⟩ := S.v
  have br := int_bounds r0 r1
  have e0 : ((0 : Int) : Rat) = 0 := rfl
  have e160 : ((160 : Int) : Rat) = 160 := rfl
  rw [e0, e160, ← vr] at br
  obtain ⟨fwp, vwp⟩ := wid_v fp
  obtain ⟨fwa, vwa⟩ := wid_v S.fa
  obtain ⟨fwr, vwr⟩ := wid_v S.fr
  have m1 := rn_mul fwp fwa (top64_of (by rw [vwp, vwa]; grind) (by rw [vwp, vwa]; grind))
  obtain ⟨x0, x1, x2⟩ := op64 (T := 40) m1 (by rw [vwp, vwa]; exact p0) (by grind) (by rw [vwp, vwa]; grind)
  have m2 := rn_mul hf64_v.1 fwr (top64_of (by rw [hf64_v.2, vwr]; grind) (by rw [hf64_v.2, vwr]; grind))
  obtain ⟨y0, y1, y2⟩ := op64 (T := 40) m2 (by rw [hf64_v.2, vwr]; grind) (by grind) (by rw [hf64_v.2, vwr]; grind)
  rw [vwp, vwa] at x1 x2
  rw [hf64_v.2, vwr] at y1 y2
  obtain ⟨fg, g0, g1⟩ := gap_le (d := 1 / 5000) m1.fin m2.fin (by grind) (by grind) (by grind)
  have m3 := rn_add one64_v.1 fwr (top64_of (by rw [one64_v.2, vwr]; grind) (by rw [one64_v.2, vwr]; grind))
  obtain ⟨z0, z1, z2⟩ := op64 (T := 50) m3 (by rw [one64_v.2, vwr]; grind) (by grind) (by rw [one64_v.2, vwr]; grind)
  rw [one64_v.2, vwr] at z1 z2
  obtain ⟨k1, k2, k3⟩ := c001_v
  have n1 := Rat.mul_le_mul_of_nonneg_right k2 z0
  have n2 := Rat.mul_le_mul_of_nonneg_right k3 z0
  have n0 := Rat.mul_nonneg (show (0 : Rat) ≤ fval .f64 c001 by grind) z0
  have m4 := rn_mul k1 m3.fin (top64_of (by grind) (by grind))
  have hl : fval .f64 (fmul .f64 c001 (fadd .f64 4607182418800017408 (wid R))) ≥ 1 / 2000 := by
    have e := m4.lo (p2 (-11) + 0) (by rw [Rat.add_zero]; exact rep_p2 _ (by decide)) (by
      have q : p2 (-11) = 1 / 2048 := by decide +kernel
      rw [q]; grind)
    have q : p2 (-11) = 1 / 2048 := by decide +kernel
    rw [q] at e
    have h4 := m4.lo (p2 (-11) + 0) (by rw [Rat.add_zero]; exact rep_p2 _ (by decide)) (by rw [q]; grind)
    have h5 : Rep .f64 (1 / 1024 - 1 / 4096) := ⟨false, 3, -12, by decide, by decide, by
      rw [show sg false = 1 from rfl, show ((3 : Nat) : Rat) = 3 from rfl, show p2 (-12) = 1 / 4096 by decide +kernel]; grind⟩
    have := m4.lo _ h5 (by grind)
    grind
  rw [flt_val fg m4.fin]
  exact decide_eq_true (by grind)
theorem sum_facts {cs ss bs : List Nat} (P : Pop cs ss bs) :
    (sumX cs ss bs 0 ((cs.length : Int) - 1) = sumF cs ∧ sumY cs ss bs 0 ((cs.length : Int) - 1) = true) ∧
    (sumX cs ss bs 0 0 = sumF (cs.take 1) ∧ sumY cs ss bs 0 0 = true) ∧
    (sumX cs ss bs 1 ((cs.length : Int) - 1) = sumF (cs.drop 1) ∧ sumY cs ss bs 1 ((cs.length : Int) - 1) = true) := by
  have S := pop_sums P
  have n2 := P.p.n2
  have hp := pop_people P
  have e1 : ((cs.length : Int) - 1 + 1).toNat = cs.length := by omega
  have d0 : (cs.take cs.length).drop (0 : Int).toNat = cs := by rw [List.take_length]; rfl
  have d1 : (cs.take cs.length).drop (1 : Int).toNat = cs.drop 1 := by rw [List.take_length]; rfl
  have d2 : (cs.take ((0 : Int) + 1).toNat).drop (0 : Int).toNat = cs.take 1 := rfl
  unfold sumX sumY sumB
  rw [e1, d0, d1, d2, S.fa, S.fr, S.fc, hp]
  have t1 : (decide ((0 : Int) ≤ 0) && decide ((0 : Int) ≤ (cs.length : Int) - 1)) = true := by rw [decide_eq_true (show (0 : Int) ≤ (cs.length : Int) - 1 by omega)]; rfl
  have t2 : decide ((cs.length : Int) - 1 < cs.length) = true := decide_eq_true (by omega)
  have t3 : decide ((0 : Int) < cs.length) = true := decide_eq_true (by omega)
  have t4 : (decide ((0 : Int) ≤ 1) && decide ((1 : Int) ≤ (cs.length : Int) - 1)) = true := by rw [decide_eq_true (show (1 : Int) ≤ (cs.length : Int) - 1 by omega)]; rfl
  rw [t1, t2, t3, t4]
  refine ⟨⟨rfl, rfl⟩, ⟨rfl, rfl⟩, rfl, rfl⟩
theorem rate_fact {cs ss bs : List Nat} (P : Pop cs ss bs) (h : rateY cs ss bs 0 1 hf32 = true) : rateX cs ss bs 0 1 hf32 = fmul .f32 hf32 (fdiv .f32 (sumF (cs.drop 1)) (sumF (cs.take 1))) := by
  unfold rateX
  unfold rateY at h
  rw [if_pos h]
  rfl
end Go.Proofs.Ytemeaobpedfkmaa
