/- Peoples: the numbers, in plain Lean: sums of a year, shares. -/
import Derived.Test.YtemeaobpedfkmaaPeP
set_option maxRecDepth 10000
set_option maxHeartbeats 4000000
set_option linter.unusedSimpArgs false
set_option linter.unusedVariables false
namespace Go.Proofs.Ytemeaobpedfkmaa
open Go Go.Abs

theorem age_er {c ss bs : List Nat} {T : Rat} (P : Par ss bs) (hc : NfL c) (hT : 1 ≤ T) (hT2 : T ≤ p2 60) (hs : sR (vL c) c.length ≤ T) {j : Nat} (hj : j + 1 < c.length) :
    finB .f32 (ageF c ss (j + 1)) = true ∧ 0 ≤ fval .f32 (ageF c ss (j + 1)) ∧
      (j + 2 < c.length → fval .f32 (ageF c ss (j + 1)) ≤ 15 / 16 * vL c j + T / 1048576) ∧
      (j + 2 = c.length → fval .f32 (ageF c ss (j + 1)) ≤ 15 / 16 * (vL c j + vL c (j + 1)) + 3 * (T / 1048576)) := by
  have c0 := hc.nn j
  have c1 := hc.nn (j + 1)
  have m0 := Rat.mul_nonneg c0 (P.s.nn j)
  have m1 := Rat.mul_nonneg c1 (P.s.nn (j + 1))
  have t0 := Rat.mul_le_mul_of_nonneg_left (P.s1 j) c0
  have t1 := Rat.mul_le_mul_of_nonneg_left (P.s1 (j + 1)) c1
  have s2 := sR_mono hc.nn (show j + 2 ≤ c.length from hj)
  have e2 : sR (vL c) (j + 2) = sR (vL c) j + vL c j + vL c (j + 1) := rfl
  have s0 := sR_nonneg hc.nn j
  obtain ⟨rm, a0, a1, a2⟩ := mul_er (hc.fin j) (P.s.fin j) c0 (P.s.nn j) hT hT2 (show vL c j * vL ss j ≤ 4 * T by grind)
  obtain ⟨rn, b0, b1, b2⟩ := mul_er (hc.fin (j + 1)) (P.s.fin (j + 1)) c1 (P.s.nn (j + 1)) hT hT2 (show vL c (j + 1) * vL ss (j + 1) ≤ 4 * T by grind)
  change fval .f32 _ ≤ vL c j * vL ss j + _ at a1
  change fval .f32 _ ≤ vL c (j + 1) * vL ss (j + 1) + _ at b1
  unfold ageF
  split
  · rename_i h
    obtain ⟨ra, r0, r1, r2⟩ := add_er rm.fin rn.fin a0 b0 hT hT2 (by grind)
    refine ⟨ra.fin, r0, fun h' => by omega, fun _ => ?_⟩
    rw [Nat.add_sub_cancel]
    grind
  · rename_i h
    rw [Nat.add_sub_cancel]
    exact ⟨rm.fin, a0, fun _ => by grind, fun h' => by omega⟩
structure NextOk (c N : List Nat) (T : Rat) : Prop where
  nf : NfL N
  sum : sR (vL N) c.length ≤ 9 / 4 * T
theorem next_sum {c ss bs : List Nat} {T : Rat} (P : Par ss bs) (hc : NfL c) (n2 : 2 ≤ c.length) (n5 : c.length ≤ 5) (hT : 1 ≤ T) (hT2 : T ≤ p2 60) (hs : sR (vL c) c.length ≤ T) : NextOk c (nextL c ss bs) T := by
  obtain ⟨df, d0, d1, _⟩ := dot_er P hc hT hT2 n5 hs c.length (Nat.le_refl _)
  have ez : vL (nextL c ss bs) 0 = fval .f32 (dotF c bs c.length) := by unfold vL; rw [next_zero]
  have ej : ∀ j, j + 1 < c.length → vL (nextL c ss bs) (j + 1) = fval .f32 (ageF c ss (j + 1)) := fun j h => by unfold vL; rw [next_succ _ _ _ h]
  have nf : NfL (nextL c ss bs) := by
    have key : ∀ j, finB .f32 ((nextL c ss bs).getD j 0) = true ∧ 0 ≤ vL (nextL c ss bs) j := fun j => by
      cases j with
      | zero => exact ⟨by rw [next_zero]; exact df, by rw [ez]; exact d0⟩
      | succ j =>
        by_cases h : j + 1 < c.length
        · obtain ⟨f, z, _⟩ := age_er P hc hT hT2 hs h
          exact ⟨by rw [next_succ _ _ _ h]; exact f, by rw [ej _ h]; exact z⟩
        · have e := next_out c ss bs (j := j + 1) (by omega) (by omega)
          exact ⟨by rw [e]; decide +kernel, by unfold vL; rw [e, fval_zero]; exact Rat.le_refl⟩
    exact ⟨fun j => (key j).1, fun j => (key j).2⟩
  refine ⟨nf, ?_⟩
  have u0 : 0 ≤ T / 1048576 := by grind
  have part : ∀ k, k + 2 ≤ c.length → sR (vL (nextL c ss bs)) (k + 1) ≤ fval .f32 (dotF c bs c.length) + 15 / 16 * sR (vL c) k + (k : Rat) * (T / 1048576) := fun k => by
    induction k with
    | zero =>
      intro _
      show 0 + vL (nextL c ss bs) 0 ≤ fval .f32 _ + 15 / 16 * 0 + ((0 : Nat) : Rat) * _
      rw [ez, show ((0 : Nat) : Rat) = 0 from rfl]
      grind
    | succ k ih =>
      intro hk
      have h1 := ih (by omega)
      obtain ⟨_, _, g, _⟩ := age_er P hc hT hT2 hs (j := k) (by omega)
      have g := g (by omega)
      show sR (vL (nextL c ss bs)) (k + 1) + vL (nextL c ss bs) (k + 1) ≤ _ + 15 / 16 * (sR (vL c) k + vL c k) + _
      rw [ej k (by omega), nat_cast_succ]
      grind
  obtain ⟨m, hm⟩ : ∃ m, c.length = m + 2 := ⟨c.length - 2, by omega⟩
  have hp := part m (by omega)
  obtain ⟨_, _, _, g⟩ := age_er P hc hT hT2 hs (j := m) (by omega)
  have g := g (by omega)
  have hu := mul_u (i := m) (by omega) u0
  have hv := mul_u (i := c.length) n5 (show 0 ≤ 2 * (T / 1048576) by grind)
  have es : sR (vL (nextL c ss bs)) c.length = sR (vL (nextL c ss bs)) (m + 1) + vL (nextL c ss bs) (m + 1) := by rw [hm]; rfl
  have ec : sR (vL c) c.length = sR (vL c) m + vL c m + vL c (m + 1) := by rw [hm]; rfl
  rw [es, ej m (by omega)]
  have k0 := sR_nonneg hc.nn c.length
  grind
def sumN (l : List Nat) : Nat → Nat
  | 0 => 0
  | k + 1 => fadd .f32 (sumN l k) (l.getD k 0)
theorem sumN_take (l : List Nat) : ∀ k, k ≤ l.length → sumN l k = sumF (l.take k)
  | 0, _ => rfl
  | k + 1, h => by
    rw [sumF_take l k (by omega), sumN, sumN_take l k (by omega), getD_at l 0 k (by omega)]
theorem sumN_all (l : List Nat) : sumN l l.length = sumF l := by rw [sumN_take l _ (Nat.le_refl _), List.take_length]
theorem rel_lo {v : Rat} {x : Nat} (r : Rn .f32 v x) (hv : p2 (-126) ≤ v) : fval .f32 x ≤ v + ep * v ∧ v - ep * v ≤ fval .f32 x := by
  have h1 := r.e1
  have h2 := r.e2
  have p0 := p2_pos (-126)
  rw [ab_of (by grind)] at h1 h2
  have e1 : ((fb .f32 + 1 : Nat) : Int) = 24 := rfl
  have e2 : least .f32 - 1 = -150 := rfl
  rw [e1, e2] at h1 h2
  have e3 : ep = 2 * p2 (-24) := by
    show p2 (1 + -24) = _
    rw [p2_add]; rfl
  have e4 : p2 (-150) ≤ p2 (-24) * p2 (-126) := by rw [← p2_add]; exact p2_mono (by decide)
  have e5 := Rat.mul_le_mul_of_nonneg_left hv (Rat.le_of_lt (p2_pos (-24)))
  rw [e3]
  constructor <;> grind
theorem sum_er {l : List Nat} {n : Nat} {T : Rat} (hc : NfL l) (hT : 1 ≤ T) (hT2 : T ≤ p2 60) (n5 : n ≤ 5) (hs : sR (vL l) n ≤ 3 * T) (h0 : p2 (-126) ≤ vL l 0) :
    ∀ k, k ≤ n → finB .f32 (sumN l k) = true ∧ 0 ≤ fval .f32 (sumN l k) ∧ Apx (2 * (k : Rat)) (sR (vL l) k) (fval .f32 (sumN l k)) ∧ (1 ≤ k → ∀ B, Rep .f32 B → B ≤ vL l 0 → B ≤ fval .f32 (sumN l k))
  | 0, _ => ⟨by show finB .f32 0 = true; decide +kernel, by show 0 ≤ fval .f32 0; rw [fval_zero]; exact Rat.le_refl, by
      show Apx _ 0 (fval .f32 0)
      rw [fval_zero, show ((0 : Nat) : Rat) = 0 from rfl]
      constructor <;> grind, fun h => by omega⟩
  | k + 1, hk => by
    obtain ⟨f, z, a, lo⟩ := sum_er hc hT hT2 n5 hs h0 k (by omega)
    have w0 := hc.nn k
    have si := sR_nonneg hc.nn k
    have s1 := sR_mono hc.nn (show k + 1 ≤ n from hk)
    have e1 : sR (vL l) (k + 1) = sR (vL l) k + vL l k := rfl
    have hp := p2_pos (-126)
    have eps : ep = 1 / 8388608 := by decide +kernel
    have k5 := cast5 (show k ≤ 5 by omega)
    have k0 := cast0 k
    have ev := Rat.mul_nonneg (Rat.le_of_lt ep_pos) si
    have a1 := a.1
    have m1 : 2 * (k : Rat) * (ep * sR (vL l) k) ≤ 10 * (ep * sR (vL l) k) := Rat.mul_le_mul_of_nonneg_right (by grind) ev
    have r := rn_add f (hc.fin k) (big60 (show 0 ≤ _ by change 0 ≤ _ + vL l k; grind) hT2 (by
      change _ + vL l k ≤ _
      rw [eps] at *
      grind))
    have lv : ∀ B, Rep .f32 B → B ≤ vL l 0 → B ≤ fval .f32 (sumN l k) + vL l k := fun B hB hb => by
      rcases Nat.eq_zero_or_pos k with e | e
      · subst e
        grind
      · have := lo e B hB hb
        grind
    obtain ⟨h1, h2⟩ := rel_lo r (lv _ (rep_p2 _ (by decide)) h0)
    have ap := apx_step (c := 2 * (k : Rat)) (by grind) (by grind) si w0 z a h1 h2
    refine ⟨r.fin, r.lo 0 (by have := rep_int .f32 (z := 0) (by decide); exact this) (by change 0 ≤ _ + vL l k; grind), ?_, fun _ B hB hb => r.lo B hB (lv B hB hb)⟩
    have : 2 * ((k + 1 : Nat) : Rat) = 2 * (k : Rat) + 2 := by rw [nat_cast_succ]; grind
    rw [this]
    exact ap
end Go.Proofs.Ytemeaobpedfkmaa
