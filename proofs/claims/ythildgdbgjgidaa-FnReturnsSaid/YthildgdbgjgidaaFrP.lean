/- Funds that run: plain laws. -/
import Derived.Test.YthildgdbgjgidaaMathS
set_option maxRecDepth 10000
set_option maxHeartbeats 2000000
set_option linter.unusedSimpArgs false
set_option linter.unusedVariables false
namespace Go.Proofs.Ythildgdbgjgidaa
open Go Go.Abs

def fundS (rate fee s p : Int) : Int := rnd ((s + p) * (10000 + rate)) 10000 2 - rnd (rnd ((s + p) * (10000 + rate)) 10000 2 * fee) 10000 0
def fundF (s0 : Int) (ps : List Int) (rate fee : Int) : Nat → Int
  | 0 => s0
  | i + 1 => fundS rate fee (fundF s0 ps rate fee i) (ps.getD i 0)
theorem rnd_tens (a w : Int) (h : 0 ≤ a) : rnd (a * 10000) 10000 w = a := by
  have h1 := (rnd_near (a * 10000) 10000 w (by omega) (by omega)).2.2 (by omega)
  rw [h1]
  omega
theorem fundS_low {rate fee s p : Int} (hr : -500 ≤ rate) (hr2 : rate ≤ 1490) (hf : 0 ≤ fee) (hf2 : fee ≤ 100) (hs : 0 ≤ s) (hp : 0 ≤ p) :
    0 ≤ rnd ((s + p) * (10000 + rate)) 10000 2 ∧ rnd ((s + p) * (10000 + rate)) 10000 2 ≤ 2 * (s + p) + 1 ∧ 0 ≤ fundS rate fee s p ∧ fundS rate fee s p ≤ rnd ((s + p) * (10000 + rate)) 10000 2 := by
  have m0 : 0 ≤ (s + p) * (10000 + rate) := Int.mul_nonneg (by omega) (by omega)
  have m1 : (s + p) * (10000 + rate) ≤ (s + p) * 20000 := Int.mul_le_mul_of_nonneg_left (by omega) (by omega)
  have n1 := rnd_near ((s + p) * (10000 + rate)) 10000 2 (by omega) m0
  have v0 : 0 ≤ rnd ((s + p) * (10000 + rate)) 10000 2 := by omega
  have v1 : rnd ((s + p) * (10000 + rate)) 10000 2 ≤ 2 * (s + p) + 1 := by omega
  unfold fundS
  generalize rnd ((s + p) * (10000 + rate)) 10000 2 = v at *
  have f0 : 0 ≤ v * fee := Int.mul_nonneg v0 hf
  have f1 : v * fee ≤ v * 100 := Int.mul_le_mul_of_nonneg_left hf2 v0
  have n2 := rnd_near (v * fee) 10000 0 (by omega) f0
  have e0 : rnd (v * fee) 10000 0 = v * fee / 10000 := rnd0 _ _
  omega
theorem fund_low {s0 rate fee : Int} {ps : List Int} (hr : -500 ≤ rate) (hr2 : rate ≤ 1490) (hf : 0 ≤ fee) (hf2 : fee ≤ 100) (h0 : 0 ≤ s0) (h1 : s0 ≤ 255) (hp : ∀ x ∈ ps, 0 ≤ x ∧ x < 2000) : ∀ i, i ≤ ps.length → 0 ≤ fundF s0 ps rate fee i ∧ fundF s0 ps rate fee i ≤ 5000 * 2 ^ i - 4001
  | 0, _ => by simp only [fundF, Int.pow_zero]; omega
  | i + 1, hi => by
    obtain ⟨a1, a2⟩ := fund_low hr hr2 hf hf2 h0 h1 hp i (by omega)
    have hx := hp (ps.getD i 0) (by rw [List.getD_eq_getElem?_getD, List.getElem?_eq_getElem (show i < ps.length by omega)]; exact List.getElem_mem _)
    have := fundS_low (p := ps.getD i 0) hr hr2 hf hf2 a1 hx.1
    simp only [fundF, Int.pow_succ]
    omega
theorem pow_small (i : Nat) (h : i ≤ 12) : (2 : Int) ^ i ≤ 4096 ∧ 1 ≤ (2 : Int) ^ i := by
  have h4 : ∀ i, i < 13 → (2 : Int) ^ i ≤ 4096 ∧ 1 ≤ (2 : Int) ^ i := by decide
  exact h4 i (by omega)
def psum (s0 : Int) (ps : List Int) : Nat → Int
  | 0 => s0
  | i + 1 => psum s0 ps i + ps.getD i 0
theorem rnd2_mono {a b : Int} (h : a ≤ b) : rnd a 10000 2 ≤ rnd b 10000 2 := rnd_mono (by decide) (by decide) h
theorem fund_laws {s0 rate : Int} {ps : List Int} (hr : -500 ≤ rate) (hr2 : rate ≤ 1490) (h0 : 0 ≤ s0) (h1 : s0 ≤ 255) (hp : ∀ x ∈ ps, 0 ≤ x ∧ x < 2000) : ∀ i, i ≤ ps.length →
    fundF s0 ps 0 0 i = psum s0 ps i ∧ 0 ≤ psum s0 ps i ∧ fundF s0 ps rate 100 i ≤ fundF s0 ps rate 0 i ∧ (0 ≤ rate → psum s0 ps i ≤ fundF s0 ps rate 0 i) ∧ (rate ≤ 0 → fundF s0 ps rate 0 i ≤ psum s0 ps i)
  | 0, _ => ⟨rfl, h0, Int.le_refl _, fun _ => Int.le_refl _, fun _ => Int.le_refl _⟩
  | i + 1, hi => by
    obtain ⟨b1, b2, b3, b4, b5⟩ := fund_laws hr hr2 h0 h1 hp i (by omega)
    obtain ⟨r1, r2⟩ := fund_low (fee := 0) hr hr2 (by omega) (by omega) h0 h1 hp i (by omega)
    obtain ⟨f1, f2⟩ := fund_low (fee := 100) hr hr2 (by omega) (by omega) h0 h1 hp i (by omega)
    have hx := hp (ps.getD i 0) (by rw [List.getD_eq_getElem?_getD, List.getElem?_eq_getElem (show i < ps.length by omega)]; exact List.getElem_mem _)
    have nofee : ∀ s p : Int, ∀ rt : Int, fundS rt 0 s p = rnd ((s + p) * (10000 + rt)) 10000 2 := fun s p rt => by
      unfold fundS
      have e : rnd (rnd ((s + p) * (10000 + rt)) 10000 2 * 0) 10000 0 = 0 := by rw [Int.mul_zero]; decide
      omega
    simp only [fundF, psum, nofee]
    have m := fundS_low (p := ps.getD i 0) hr hr2 (show (0 : Int) ≤ 100 by omega) (by omega) f1 hx.1
    have mono1 : rnd ((fundF s0 ps rate 100 i + ps.getD i 0) * (10000 + rate)) 10000 2 ≤ rnd ((fundF s0 ps rate 0 i + ps.getD i 0) * (10000 + rate)) 10000 2 := rnd2_mono (Int.mul_le_mul_of_nonneg_right (by omega) (by omega))
    rw [b1]
    have e1 : (10000 : Int) + 0 = 10000 := rfl
    rw [e1, rnd_tens _ _ (by omega)]
    generalize hR : fundF s0 ps rate 0 i = R at *
    generalize hP : psum s0 ps i = P at *
    generalize ps.getD i 0 = p at *
    refine ⟨rfl, by omega, by omega, fun h => ?_, fun h => ?_⟩
    · have a := b4 h
      have k1 : (P + p) * 10000 ≤ (R + p) * (10000 + rate) := Int.le_trans (Int.mul_le_mul_of_nonneg_right (show P + p ≤ R + p by omega) (by omega)) (Int.mul_le_mul_of_nonneg_left (by omega) (by omega))
      have k2 := rnd2_mono k1
      rw [rnd_tens _ _ (by omega)] at k2
      exact k2
    · have a := b5 h
      have k1 : (R + p) * (10000 + rate) ≤ (P + p) * 10000 := Int.le_trans (Int.mul_le_mul_of_nonneg_left (show 10000 + rate ≤ 10000 by omega) (by omega)) (Int.mul_le_mul_of_nonneg_right (show R + p ≤ P + p by omega) (by omega))
      have k2 := rnd2_mono k1
      rw [rnd_tens _ _ (by omega)] at k2
      exact k2
end Go.Proofs.Ythildgdbgjgidaa
