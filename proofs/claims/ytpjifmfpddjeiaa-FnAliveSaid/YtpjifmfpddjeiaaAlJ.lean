/- Lives, nearly: the test of a pay. -/
import Derived.Test.YtpjifmfpddjeiaaAlI
set_option maxRecDepth 10000
set_option maxHeartbeats 2000000
set_option linter.unusedSimpArgs false
set_option linter.unusedVariables false
namespace Go.Proofs.Ytpjifmfpddjeiaa
open Go Go.Abs

theorem rep0d : Rep .f64 0 := rep_int .f64 (z := 0) (by decide)
theorem rep1d : Rep .f64 1 := rep_int .f64 (z := 1) (by decide)
theorem ep_le : ep ≤ 1 := by have := ep_small; have := ep_pos; grind
theorem p20 : p2 20 = 1048576 := p2_nat 20
theorem pay_near {fund v n : Nat} (P : Pay fund v n) (v1 : 1 ≤ fval .f32 v) (v9 : fval .f32 v ≤ 16) :
    (fund = 0 → n = 0) ∧ (1 ≤ fund → (n : Rat) * fval .f32 v ≤ (fund : Rat) + ep * (fund : Rat) ∧ (fund : Rat) - ep * (fund : Rat) ≤ ((n : Rat) + 1) * fval .f32 v) := by
  have lo := P.lo
  have up := P.up
  have rn := P.rn
  have d0 : fval .f32 v ≠ 0 := by clear P rn; grind
  have hm : (fund : Rat) / fval .f32 v * fval .f32 v = (fund : Rat) := Rat.div_mul_cancel d0
  constructor
  · rintro rfl
    have z : ((0 : Nat) : Rat) / fval .f32 v = 0 := by have e0 : ((0 : Nat) : Rat) = 0 := rfl; rw [e0, Rat.div_def, Rat.zero_mul]
    rw [z] at rn
    have := rn.up 0 rep0 Rat.le_refl
    have z4 : n ≤ 0 := nat_le_of (by have e0 : ((0 : Nat) : Rat) = 0 := rfl; rw [e0]; clear P rn; grind)
    omega
  · intro h1
    have f1 : (1 : Rat) ≤ (fund : Rat) := cast_le h1
    generalize (fund : Rat) / fval .f32 v = w at *
    have w1 : p2 (-4) ≤ w := by
      apply Classical.byContradiction
      intro hh
      have w0 : w < p2 (-4) := by clear P rn; grind
      have h6 := Rat.mul_lt_mul_of_pos_right w0 (show (0 : Rat) < fval .f32 v by clear P rn; grind)
      have h7 := Rat.mul_le_mul_of_nonneg_left v9 (Rat.le_of_lt (p2_pos (-4)))
      have e : p2 (-4) * 16 = 1 := by rw [← p2_16, ← p2_add]; rfl
      clear P rn
      grind
    obtain ⟨r1, r2⟩ := rel32 rn (Rat.le_trans (p2_mono (by decide)) w1)
    have v0 : 0 ≤ fval .f32 v := by clear P rn; grind
    have m1 := Rat.mul_le_mul_of_nonneg_right (Rat.le_trans lo r1) v0
    have m2 := Rat.mul_le_mul_of_nonneg_right (show w - ep * w ≤ (n : Rat) + 1 by clear P rn m1; grind) v0
    rw [Rat.add_mul, Rat.mul_assoc, hm] at m1
    have m3 : (w - ep * w) * fval .f32 v = w * fval .f32 v - ep * (w * fval .f32 v) := by rw [Rat.sub_eq_add_neg, Rat.add_mul, Rat.neg_mul, Rat.mul_assoc, ← Rat.sub_eq_add_neg]
    rw [m3, hm] at m2
    exact ⟨m1, m2⟩
theorem lt_20 {v : Rat} (h : v ≤ 1048576) : v < p2 (top .f64) := lt_top64 (t := 20) (by rw [p20]; exact h) (by decide)
theorem prod_nn {n : Nat} {v : Rat} (hn : n ≤ 10001) (v0 : 0 ≤ v) (v9 : v ≤ 16) : 0 ≤ (n : Rat) * v ∧ (n : Rat) * v ≤ 1048576 := by
  have n0 : (0 : Rat) ≤ (n : Rat) := by exact_mod_cast Nat.zero_le n
  have n9 : (n : Rat) ≤ 10001 := cast_le hn
  have a := Rat.mul_nonneg n0 v0
  have b := Rat.mul_le_mul_of_nonneg_left v9 n0
  exact ⟨a, by grind⟩
theorem t_hi {fund v n : Nat} (P : Pay fund v n) (hf : fund ≤ 10000) (fv : finB .f32 v = true) (v1 : 1 ≤ fval .f32 v) (v9 : fval .f32 v ≤ 16) :
    fle .f64 (fmul .f64 (dF n) (fconv .f64 .f32 v)) (fadd .f64 (fmul .f64 (dF fund) cHi) cCt) = true := by
  have hn := P.n_le
  obtain ⟨z, near⟩ := pay_near P v1 v9
  clear P
  obtain ⟨rv, vv⟩ := wide_rn fv
  obtain ⟨n1, n2⟩ := dF_ok (n := n) (by omega)
  obtain ⟨g1, g2⟩ := dF_ok (n := fund) (by omega)
  obtain ⟨c1, c2, c3⟩ := cHi_ok
  obtain ⟨d1, d2, d3⟩ := cCt_ok
  have e0 := ep_pos
  have e1 := ep_le
  obtain ⟨a0, a9⟩ := prod_nn (n := n) (by omega) (show 0 ≤ fval .f32 v by clear rv; grind) v9
  obtain ⟨b0, b9⟩ := prod_nn (n := fund) (by omega) (show 0 ≤ fval .f64 cHi by clear rv; grind) (show fval .f64 cHi ≤ 16 by clear rv; grind)
  have ra := rn_mul (k := .f64) n1 rv.fin (by rw [n2, vv, ab_of a0]; exact lt_20 a9)
  have rb := rn_mul (k := .f64) g1 c1 (by rw [g2, ab_of b0]; exact lt_20 b9)
  rw [n2, vv] at ra
  rw [g2] at rb
  have q0 := rb.lo 0 rep0d b0
  have q9 := rb.up 1048576 (rep_int .f64 (z := 1048576) (by decide)) b9
  have s0 : 0 ≤ fval .f64 (fmul .f64 (dF fund) cHi) + fval .f64 cCt := by clear ra rb rv near z; grind
  have rs := rn_add (k := .f64) rb.fin d1 (by rw [ab_of s0]; exact lt_top64 (t := 21) (by have : p2 21 = 2097152 := p2_nat 21; rw [this]; clear ra rb rv near z; grind) (by decide))
  have ls := rs.lo _ (rep_val64 rb.fin) (by clear ra rb rv near z; grind)
  rw [fle_val ra.fin rs.fin]
  refine decide_eq_true (Rat.le_trans ?_ ls)
  by_cases h : n = 0
  · subst h
    have z0 : ((0 : Nat) : Rat) * fval .f32 v = 0 := by have e0 : ((0 : Nat) : Rat) = 0 := rfl; rw [e0, Rat.zero_mul]
    exact Rat.le_trans (ra.up 0 rep0d (by rw [z0]; exact Rat.le_refl)) q0
  · have hf1 : 1 ≤ fund := by
      rcases Nat.eq_zero_or_pos fund with e | e
      · exact absurd (z e) h
      · exact e
    obtain ⟨k, _⟩ := near hf1
    have f1 : (1 : Rat) ≤ (fund : Rat) := cast_le hf1
    have m1 : (1 : Rat) ≤ (n : Rat) := cast_le (show 1 ≤ n by omega)
    have nv : 1 ≤ (n : Rat) * fval .f32 v := by
      have := Rat.mul_le_mul_of_nonneg_left v1 (show (0 : Rat) ≤ (n : Rat) by clear rv ra rb rs near z; grind)
      clear rv ra rb rs near z
      grind
    have p1 : p2 (-200) ≤ 1 := p2_mono (b := 0) (by decide)
    have l1 := (rel64 ra (Rat.le_trans p1 nv)).1
    have fc := Rat.mul_le_mul_of_nonneg_left c2 (show (0 : Rat) ≤ (fund : Rat) by clear rv ra rb rs near z; grind)
    have fc9 := Rat.mul_le_mul_of_nonneg_left c3 (show (0 : Rat) ≤ (fund : Rat) by clear rv ra rb rs near z; grind)
    have f0 : 0 ≤ ep * (fund : Rat) := Rat.mul_nonneg (Rat.le_of_lt e0) (by clear rv ra rb rs near z; grind)
    have ee : (fund : Rat) * (1 + 512 * ep) = (fund : Rat) + 512 * (ep * (fund : Rat)) := by clear rv ra rb rs near z; grind
    rw [ee] at fc
    have l2 := (rel64 rb (Rat.le_trans p1 (by clear rv ra rb rs near z; grind))).2
    have x1 := Rat.mul_le_mul_of_nonneg_left k (Rat.le_of_lt e0)
    have x2 := Rat.mul_le_mul_of_nonneg_right e1 f0
    have x3 := Rat.mul_le_mul_of_nonneg_left fc9 (Rat.le_of_lt e0)
    rw [Rat.mul_add] at x1
    have x4 : ep * ((fund : Rat) * 2) = 2 * (ep * (fund : Rat)) := by clear rv ra rb rs near z; grind
    rw [x4] at x3
    clear rv ra rb rs near z
    generalize ep * ((fund : Rat) * fval .f64 cHi) = U at *
    generalize (fund : Rat) * fval .f64 cHi = U2 at *
    generalize ep * (ep * (fund : Rat)) = W at *
    generalize ep * (fund : Rat) = E at *
    generalize ep * ((n : Rat) * fval .f32 v) = U3 at *
    generalize (n : Rat) * fval .f32 v = U4 at *
    grind
theorem lo_end {F V1 V2 V3 V4 V5 Z0 e R1 R M D : Rat} (ls : R ≤ R1) (t1 : Z0 ≤ e) (x2 : e * 1 ≤ e * F) (x3 : V4 ≤ V2) (t3 : V3 ≤ V4) (r1 : R1 - V5 ≤ V3 + Z0) (l1 : D ≤ M) (f0 : 0 < e * F) (fc : V5 ≤ F - 512 * (e * F)) (x6 : V1 ≤ e * F) (x7 : V2 ≤ e * F) (x5 : F - e * F - V1 ≤ D) : R < M := by
  generalize e * F = E at *
  grind
theorem t_lo {fund v n : Nat} (P : Pay fund v n) (hf : fund ≤ 10000) (fv : finB .f32 v = true) (v1 : 1 ≤ fval .f32 v) (v9 : fval .f32 v ≤ 16) :
    fgt .f64 (fmul .f64 (dF (n + 1)) (fconv .f64 .f32 v)) (fsub .f64 (fmul .f64 (dF fund) cLo) cCt) = true := by
  have hn := P.n_le
  obtain ⟨z, near⟩ := pay_near P v1 v9
  clear P
  obtain ⟨rv, vv⟩ := wide_rn fv
  obtain ⟨n1, n2⟩ := dF_ok (n := n + 1) (by omega)
  obtain ⟨g1, g2⟩ := dF_ok (n := fund) (by omega)
  obtain ⟨c1, c2, c3⟩ := cLo_ok
  obtain ⟨d1, d2, d3⟩ := cCt_ok
  have e0 := ep_pos
  have e1 := ep_le
  obtain ⟨a0, a9⟩ := prod_nn (n := n + 1) (by omega) (show 0 ≤ fval .f32 v by clear rv; grind) v9
  obtain ⟨b0, b9⟩ := prod_nn (n := fund) (by omega) c2 (show fval .f64 cLo ≤ 16 by clear rv; grind)
  have ra := rn_mul (k := .f64) n1 rv.fin (by rw [n2, vv, ab_of a0]; exact lt_20 a9)
  have rb := rn_mul (k := .f64) g1 c1 (by rw [g2, ab_of b0]; exact lt_20 b9)
  rw [n2, vv] at ra
  rw [g2] at rb
  have q0 := rb.lo 0 rep0d b0
  have q9 := rb.up 1048576 (rep_int .f64 (z := 1048576) (by decide)) b9
  have rs := rn_sub (k := .f64) rb.fin d1 (lt_top64 (t := 21) (by have : p2 21 = 2097152 := p2_nat 21; rw [this]; clear ra rb rv near z; exact ab_le (by grind) (by grind)) (by decide))
  have ls := rs.up _ (rep_val64 rb.fin) (by clear ra rb rv near z; grind)
  rw [fgt_val ra.fin rs.fin]
  refine decide_eq_true ?_
  have en : ((n + 1 : Nat) : Rat) = (n : Rat) + 1 := Rat.natCast_add _ _
  rw [en] at ra
  have n0 : (0 : Rat) ≤ (n : Rat) := by exact_mod_cast Nat.zero_le n
  have nv : 1 ≤ ((n : Rat) + 1) * fval .f32 v := by
    have := Rat.mul_le_mul_of_nonneg_left v1 (show (0 : Rat) ≤ (n : Rat) + 1 by clear rv ra rb rs near z; grind)
    clear rv ra rb rs near z
    grind
  by_cases h : fund = 0
  · subst h
    have z0 : ((0 : Nat) : Rat) * fval .f64 cLo = 0 := by have e0 : ((0 : Nat) : Rat) = 0 := rfl; rw [e0, Rat.zero_mul]
    have r0 := rb.up 0 rep0d (by rw [z0]; exact Rat.le_refl)
    have m1 := ra.lo 1 rep1d nv
    clear rv ra rb rs near z
    grind
  · have hf1 : 1 ≤ fund := by omega
    obtain ⟨_, k⟩ := near hf1
    have f1 : (1 : Rat) ≤ (fund : Rat) := cast_le hf1
    have p1 : p2 (-200) ≤ 1 := p2_mono (b := 0) (by decide)
    have l1 := (rel64 ra (Rat.le_trans p1 nv)).2
    have fp : (0 : Rat) ≤ (fund : Rat) := by clear rv ra rb rs near z; grind
    have fc := Rat.mul_le_mul_of_nonneg_left c3 fp
    have f0 : 0 < ep * (fund : Rat) := Rat.mul_pos e0 (by clear rv ra rb rs near z; grind)
    have ee : (fund : Rat) * (1 - 512 * ep) = (fund : Rat) - 512 * (ep * (fund : Rat)) := by clear rv ra rb rs near z; grind
    rw [ee] at fc
    -- the product of the fund, rounded, is at most so much
    have r1 := rb.e1
    have g24 : ((fb .f64 + 1 : Nat) : Int) = 53 := rfl
    have gl : least .f64 - 1 = -1075 := rfl
    rw [ab_of b0, g24, gl] at r1
    have t1 := p2_mono (show (-1075 : Int) ≤ -23 by decide)
    have t2 := p2_mono (show (-53 : Int) ≤ -23 by decide)
    have t3 := Rat.mul_le_mul_of_nonneg_right t2 b0
    have t4 : p2 (-23) = ep := rfl
    rw [t4] at t1 t3
    have x1 := Rat.mul_le_mul_of_nonneg_left k (Rat.le_of_lt e0)
    have x2 := Rat.mul_le_mul_of_nonneg_left f1 (Rat.le_of_lt e0)
    have x3 := Rat.mul_le_mul_of_nonneg_left fc (Rat.le_of_lt e0)
    have x5 : ((fund : Rat) - ep * (fund : Rat)) - ep * ((fund : Rat) - ep * (fund : Rat)) ≤ ((n : Rat) + 1) * fval .f32 v - ep * (((n : Rat) + 1) * fval .f32 v) := by
      have o : 0 ≤ 1 - ep := by clear rv ra rb rs near z; grind
      have := Rat.mul_le_mul_of_nonneg_left k o
      have y1 : (1 - ep) * ((fund : Rat) - ep * (fund : Rat)) = ((fund : Rat) - ep * (fund : Rat)) - ep * ((fund : Rat) - ep * (fund : Rat)) := by clear rv ra rb rs near z this; grind
      have y2 : (1 - ep) * (((n : Rat) + 1) * fval .f32 v) = ((n : Rat) + 1) * fval .f32 v - ep * (((n : Rat) + 1) * fval .f32 v) := by
        generalize ((n : Rat) + 1) * fval .f32 v = M at *
        clear rv ra rb rs near z this
        grind
      rw [y1, y2] at this
      exact this
    have x6 : ep * ((fund : Rat) - ep * (fund : Rat)) ≤ ep * (fund : Rat) := Rat.mul_le_mul_of_nonneg_left (by clear rv ra rb rs near z; grind) (Rat.le_of_lt e0)
    have x7 : ep * ((fund : Rat) - 512 * (ep * (fund : Rat))) ≤ ep * (fund : Rat) := Rat.mul_le_mul_of_nonneg_left (by clear rv ra rb rs near z; grind) (Rat.le_of_lt e0)
    exact lo_end ls t1 x2 x3 t3 r1 l1 f0 fc x6 x7 x5
end Go.Proofs.Ytpjifmfpddjeiaa
