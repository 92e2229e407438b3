/- The law FnRaked: sums of what was raked. -/
import Derived.Test.YtmgfghcmmbdcgaaRkX
set_option maxRecDepth 10000
set_option maxHeartbeats 16000000
set_option linter.unusedSimpArgs false
set_option linter.unusedVariables false
namespace Go.Proofs.Ytmgfghcmmbdcgaa
open Go Go.Abs

def fl64 (l : List Nat) : List AV := l.map (AV.flt .f64)
theorem fl64_len {l : List Nat} : (fl64 l).length = l.length := by simp [fl64]
theorem fl64_get {l : List Nat} (i : Nat) (h : i < (fl64 l).length) : (fl64 l)[i] = .flt .f64 (l[i]'(by simpa [fl64] using h)) := by simp [fl64]
theorem fl64_set {l : List Nat} (i v : Nat) : (fl64 l).set i (.flt .f64 v) = fl64 (l.set i v) := by simp [fl64, List.map_set]
theorem fl64_below {l : List Nat} (N : Nat) : allBelow N (fl64 l) = true := by simp [allBelow, fl64, below, belowM, belowL]
theorem fl64_zero (n : Nat) : List.replicate n (AV.flt .f64 0) = fl64 (List.replicate n 0) := by simp [fl64]
def fltD (xs : List Nat) : Blk := { ty := 30, w := 1, els := fl64 xs }
def dL (X : List Nat) (gs : List Int) (c i : Nat) : List Nat := (List.range c).map fun g : Nat => sumD X gs (g : Int) i
theorem dL_len (W : List Nat) (gs : List Int) (c i : Nat) : (dL W gs c i).length = c := by simp [dL]
theorem dL_get (W : List Nat) (gs : List Int) (c i g : Nat) (h : g < c) : (dL W gs c i).getD g 0 = sumD W gs (g : Int) i := by simp [dL, h]
theorem dL_zero (W : List Nat) (gs : List Int) (c : Nat) : dL W gs c 0 = List.replicate c 0 := by simp [dL, sumD, List.map_const']
theorem dL_step {W : List Nat} {gs : List Int} {c i g : Nat} (hg : gs.getD i 0 = (g : Int)) (h : g < (dL W gs c i).length) : (dL W gs c i).set g (fadd .f64 (dL W gs c i)[g] (fconv .f64 .f32 (W.getD i 0))) = dL W gs c (i + 1) := by
  rw [← getD_at (dL W gs c i) 0 g h]
  rw [dL_len] at h
  refine List.ext_getElem (by simp [dL]) fun j h1 h2 => ?_
  have hj : j < c := by simpa [dL] using h2
  rw [← getD_at _ 0 j h1, ← getD_at _ 0 j h2, dL_get _ _ _ _ _ hj]
  rw [sumD, hg]
  by_cases e : g = j
  · subst e
    rw [if_pos rfl, dL_get _ _ _ _ _ hj]
    simp [List.getD_eq_getElem?_getD, dL_len, hj]
  · rw [if_neg (by omega)]
    simp only [List.getD_eq_getElem?_getD]
    rw [List.getElem?_set_ne e]
    have := dL_get W gs c i j hj
    rw [List.getD_eq_getElem?_getD] at this
    exact this
def c64 : Nat := 4562254508917369340
theorem c64_lo : finB .f64 c64 = true ∧ p2 (-10) ≤ fval .f64 c64 ∧ fval .f64 c64 ≤ 1 := by
  have h : FloatKind.f64.decode c64 = .number false 4611686018427388 (-62) := by decide +kernel
  refine ⟨num_fin h, ?_, ?_⟩
  · rw [fval_of h]
    have h1 := cast_le (show 2 ^ 52 ≤ 4611686018427388 by decide)
    rw [← p2_nat] at h1
    have h2 := mul_le_r (Rat.le_of_lt (p2_pos (-62))) h1
    rw [← p2_add] at h2
    have e : p2 (((52 : Nat) : Int) + -62) = p2 (-10) := rfl
    simp only [sg, Bool.false_eq_true, if_false]
    grind
  · rw [fval_of h]
    have h1 := cast_le (show 4611686018427388 ≤ 2 ^ 62 by decide)
    rw [← p2_nat] at h1
    have h2 := mul_le_r (Rat.le_of_lt (p2_pos (-62))) h1
    rw [← p2_add] at h2
    have e : p2 (((62 : Nat) : Int) + -62) = 1 := rfl
    simp only [sg, Bool.false_eq_true, if_false]
    grind
theorem gap_ok {F o one : Nat} (hF : finB .f64 F = true) (ho : finB .f64 o = true) (o1 : 1 ≤ fval .f64 o) (o9 : fval .f64 o ≤ 9) (h1 : fval .f64 F ≤ fval .f64 o + p2 (-12)) (h2 : fval .f64 o - p2 (-12) ≤ fval .f64 F) (hone : finB .f64 one = true) (e1 : fval .f64 one = 1) :
    fgt .f64 (gapD F o) (fmul .f64 c64 (fadd .f64 one o)) = false := by
  have gap : finB .f64 (gapD F o) = true ∧ fval .f64 (gapD F o) ≤ p2 (-12) := by
    have p12 := p2_pos (-12)
    unfold gapD
    split
    · have hb : ab (fval .f64 o - fval .f64 F) ≤ p2 (-12) := ab_le (by grind) (by grind)
      have r := rn_sub (k := .f64) ho hF (lt_top64 hb (by decide))
      exact ⟨r.fin, r.up _ (rep_p2 _ (by decide)) (by grind)⟩
    · have hb : ab (fval .f64 F - fval .f64 o) ≤ p2 (-12) := ab_le (by grind) (by grind)
      have r := rn_sub (k := .f64) hF ho (lt_top64 hb (by decide))
      exact ⟨r.fin, r.up _ (rep_p2 _ (by decide)) (by grind)⟩
  have e4 : p2 4 = 16 := p2_nat 4
  have e21 : p2 1 = 2 := rfl
  have s := rn_add (k := .f64) hone ho (by rw [ab_of (by grind)]; exact lt_top64 (t := 4) (by grind) (by decide))
  have s1 := s.lo (p2 1) (rep_p2 _ (by decide)) (by grind)
  have s2 := s.up (p2 4) (rep_p2 _ (by decide)) (by grind)
  have sf := s.fin
  obtain ⟨cf, cl, cu⟩ := c64_lo
  generalize fadd .f64 one o = t at *
  have p10 := p2_pos (-10)
  have m1 := Rat.mul_le_mul_of_nonneg_left s1 (show 0 ≤ fval .f64 c64 by grind)
  have m2 := Rat.mul_le_mul_of_nonneg_right cl (Rat.le_of_lt (p2_pos 1))
  rw [← p2_add] at m2
  have m3 := Rat.mul_le_mul_of_nonneg_left s2 (show 0 ≤ fval .f64 c64 by grind)
  have m4 := Rat.mul_le_mul_of_nonneg_right cu (Rat.le_of_lt (p2_pos 4))
  have e9 : p2 (-10 + 1) = p2 (-9) := rfl
  have p9 := p2_pos (-9)
  have pr := rn_mul (k := .f64) cf sf (by rw [ab_of (by grind)]; exact lt_top64 (t := 4) (by grind) (by decide))
  have pl := pr.lo (p2 (-9)) (rep_p2 _ (by decide)) (by grind)
  have hm := p2_mono (show (-12 : Int) ≤ -9 by decide)
  rw [fgt_val gap.1 pr.fin]
  exact decide_eq_false (by grind)
end Go.Proofs.Ytmgfghcmmbdcgaa
