/- Lives, nearly: what the law compares. -/
import Derived.Test.YtpjifmfpddjeiaaAlE
import Derived.Test.YtpjifmfpddjeiaaAlR
set_option maxRecDepth 10000
set_option maxHeartbeats 2000000
set_option linter.unusedSimpArgs false
set_option linter.unusedVariables false
namespace Go.Proofs.Ytpjifmfpddjeiaa
open Go Go.Abs

theorem p10_dlt : p2 (-10) = 512 * dlt := by
  have : p2 9 = 512 := p2_nat 9
  show _ = 512 * p2 (-19)
  rw [← this, ← p2_add]; rfl
theorem ep_dlt : ep * 16 = dlt := by
  have : p2 4 = 16 := p2_nat 4
  show p2 (-23) * 16 = p2 (-19)
  rw [← this, ← p2_add]; rfl
theorem ev_gap {m n X : Rat} {a b : Nat} (ha : Ev m X a) (hb : Ev n X b) (h : m + n ≤ 500) : fgt .f64 (gap8 a b) c001 = false := by
  have k := Rat.mul_le_mul_of_nonneg_right h (Rat.le_of_lt dlt_ok.1)
  have d0 := dlt_ok.1
  have a1 := ha.up
  have a2 := ha.lo
  have b1 := hb.up
  have b2 := hb.lo
  refine gap_no ha.fin hb.fin ?_ ?_ <;> rw [p10_dlt] <;> clear ha hb <;> grind
theorem c001_up : fval .f64 c001 ≤ p2 (-9) := by
  have h : FloatKind.f64.decode c001 = .number false 4611686018427388 (-62) := by decide +kernel
  rw [fval_of h]
  have h1 := cast_le (show 4611686018427388 ≤ 2 ^ 53 by decide)
  rw [← p2_nat] at h1
  have h2 := mul_le_r (Rat.le_of_lt (p2_pos (-62))) h1
  rw [← p2_add] at h2
  have e : p2 (((53 : Nat) : Int) + -62) = p2 (-9) := rfl
  simp only [sg, Bool.false_eq_true, if_false]
  grind
theorem p5 : p2 5 = 32 := p2_nat 5
theorem p9_dlt : p2 (-9) = 1024 * dlt := by
  have : p2 10 = 1024 := p2_nat 10
  show _ = 1024 * p2 (-19)
  rw [← this, ← p2_add]; rfl
theorem p200 : p2 (-200) ≤ dlt := p2_mono (by decide)
theorem le_add {m n X Y : Rat} {a b : Nat} (ha : Ev m X a) (hb : Ev n Y b) (hXY : X ≤ Y) (h : m + n ≤ 500) (b0 : 0 ≤ fval .f32 b) (b1 : fval .f32 b ≤ 16) : fgt .f64 (fconv .f64 .f32 a) (fadd .f64 (fconv .f64 .f32 b) c001) = false := by
  have k := Rat.mul_le_mul_of_nonneg_right h (Rat.le_of_lt dlt_ok.1)
  have d0 := dlt_ok.1
  have du := dlt_ok.2
  have a1 := ha.up
  have b2 := hb.lo
  obtain ⟨ra, va⟩ := wide_rn ha.fin
  obtain ⟨rb, vb⟩ := wide_rn hb.fin
  obtain ⟨cf, c0, c1⟩ := c001_ok
  rw [p10_dlt] at c0
  have s0 : 0 ≤ fval .f32 b + fval .f64 c001 := by clear ra rb ha hb; grind
  have s1 : fval .f32 b + fval .f64 c001 ≤ 17 := by clear ra rb ha hb; grind
  have rs := rn_add (k := .f64) rb.fin cf (by rw [vb, ab_of s0]; exact lt_top64 (t := 5) (by rw [p5]; clear ra rb ha hb; grind) (by decide))
  rw [vb] at rs
  have l := (rel64 rs (Rat.le_trans p200 (by clear ra rb ha hb rs; grind))).2
  have e1 := Rat.mul_le_mul_of_nonneg_left s1 (Rat.le_of_lt ep_pos)
  have ed := ep_dlt
  rw [fgt_val ra.fin rs.fin, va]
  refine decide_eq_false ?_
  generalize ep * (fval .f32 b + fval .f64 c001) = z at *
  clear ra rb ha hb rs
  grind
theorem le_sub {m n X Y : Rat} {a b : Nat} (ha : Ev m X a) (hb : Ev n Y b) (hXY : X ≤ Y) (h : m + n ≤ 500) (a0 : 1 ≤ fval .f32 a) (a9 : fval .f32 a ≤ 16) : flt .f64 (fconv .f64 .f32 b) (fsub .f64 (fconv .f64 .f32 a) c001) = false := by
  have k := Rat.mul_le_mul_of_nonneg_right h (Rat.le_of_lt dlt_ok.1)
  have d0 := dlt_ok.1
  have du := dlt_ok.2
  have a1 := ha.up
  have b2 := hb.lo
  obtain ⟨ra, va⟩ := wide_rn ha.fin
  obtain ⟨rb, vb⟩ := wide_rn hb.fin
  obtain ⟨cf, c0, _⟩ := c001_ok
  have c1 := c001_up
  rw [p10_dlt] at c0
  rw [p9_dlt] at c1
  have s0 : dlt ≤ fval .f32 a - fval .f64 c001 := by clear ra rb ha hb; grind
  have s1 : fval .f32 a - fval .f64 c001 ≤ 16 := by clear ra rb ha hb; grind
  have rs := rn_sub (k := .f64) ra.fin cf (by rw [va, ab_of (by clear ra rb ha hb; grind)]; exact lt_top64 (t := 5) (by rw [p5]; clear ra rb ha hb; grind) (by decide))
  rw [va] at rs
  have l := (rel64 rs (Rat.le_trans p200 s0)).1
  have e1 := Rat.mul_le_mul_of_nonneg_left s1 (Rat.le_of_lt ep_pos)
  have ed := ep_dlt
  rw [flt_val rb.fin rs.fin, vb]
  refine decide_eq_false ?_
  generalize ep * (fval .f32 a - fval .f64 c001) = z at *
  clear ra rb ha hb rs
  grind
theorem fmin_or (k : FloatKind) (a b : Nat) : fmin k a b = a ∨ fmin k a b = b := by
  unfold fmin
  split
  · exact .inl rfl
  · exact .inr rfl
  · split
    · exact .inl rfl
    · exact .inr rfl
  · exact .inl rfl
theorem fmax_or (k : FloatKind) (a b : Nat) : fmax k a b = a ∨ fmax k a b = b := by
  unfold fmax
  split
  · exact .inr rfl
  · exact .inl rfl
  · split
    · exact .inr rfl
    · exact .inl rfl
  · exact .inl rfl
theorem pE_one : ∀ i, pE 1 i = 1
  | 0 => rfl
  | i + 1 => by rw [pE, pE_one i, Rat.mul_one]
theorem prE_le {X : Nat → Rat} {φ : Rat} (h0 : 0 ≤ φ) (h1 : φ ≤ 1) (w : Nat) {n : Nat} (x0 : ∀ i, i < n → 0 ≤ X i) (x1 : ∀ i, i < n → X i ≤ 1) : ∀ i, i ≤ n → prE X φ w i ≤ (i : Rat)
  | 0, _ => Rat.le_refl
  | i + 1, hi => by
    have ih := prE_le h0 h1 w x0 x1 i (by omega)
    have ei : ((i + 1 : Nat) : Rat) = (i : Rat) + 1 := Rat.natCast_add _ _
    have m := mul01 (x0 i (by omega)) (x1 i (by omega)) (pE_u h0 h1 i).1
    have u := (pE_u h0 h1 i).2
    rw [prE, ei]
    split
    · clear x0 x1; grind
    · clear x0 x1; grind
theorem prF_none (S : List Nat) (f w : Nat) : ∀ i, i ≤ w → prF S f w i = 0
  | 0, _ => rfl
  | i + 1, h => by rw [prF, if_neg (by omega), prF_none S f w i (by omega)]
theorem sm_ok {q : List Nat} (T : Tab q) : ∀ i, i ≤ q.length → 0 ≤ fval .f32 (smF (alvL q) i) ∧ fval .f32 (smF (alvL q) i) ≤ (i : Rat) ∧ Ev (i : Rat) (prE (vX (alvL q)) 1 0 i) (smF (alvL q) i)
  | 0, _ => by
    have e : smF (alvL q) 0 = 0 := rfl
    have e2 : prE (vX (alvL q)) 1 0 0 = 0 := rfl
    have e0 : ((0 : Nat) : Rat) = 0 := rfl
    have ev := ev_exact fin_z
    rw [fval_zero] at ev
    rw [e, e2, fval_zero, e0]
    exact ⟨by grind, by grind, ev⟩
  | i + 1, h => by
    obtain ⟨b, c, d⟩ := sm_ok T i (by omega)
    have ei : ((i + 1 : Nat) : Rat) = (i : Rat) + 1 := Rat.natCast_add _ _
    have i0 : (0 : Rat) ≤ (i : Rat) := by exact_mod_cast Nat.zero_le i
    have i5 : (i : Rat) ≤ 5 := cast_le (show i ≤ 5 by have := T.six; omega)
    have ua := alv_u T i
    have a0 := ua.lo
    have a1 := ua.up
    have nr := nat_rep (i + 1) (by have := T.six; omega)
    rw [ei] at nr
    have hb : ab (fval .f32 (smF (alvL q) i) + fval .f32 ((alvL q).getD i 0)) ≤ 16 := by clear d ua T; exact ab_le (by grind) (by grind)
    have rs := rn_add d.fin ua.fin (top16 hb)
    have ev := ev_add d (ev_exact ua.fin) hb
    rw [smF, prE, if_pos (Nat.zero_le _), pE_one, Rat.mul_one, ei]
    refine ⟨rs.lo 0 rep0 (by clear d ua T rs ev; grind), rs.up _ nr (by clear d ua T rs ev; grind), ev_more ev (by clear d ua T rs ev; grind)⟩
def hlf : Nat := 1056964608
theorem hlf_ok : finB .f32 hlf = true ∧ fval .f32 hlf = p2 (-1) := by
  have h : FloatKind.f32.decode hlf = .number false 8388608 (-24) := by decide +kernel
  refine ⟨num_fin h, ?_⟩
  rw [fval_of h]
  have e : ((8388608 : Nat) : Rat) = p2 23 := (p2_nat 23).symm
  rw [e, ← p2_add]
  show 1 * p2 (-1) = p2 (-1)
  grind
end Go.Proofs.Ytpjifmfpddjeiaa
