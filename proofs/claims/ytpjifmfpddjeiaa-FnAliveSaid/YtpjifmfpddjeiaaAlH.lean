/- Lives, nearly: the law's tests. -/
import Derived.Test.YtpjifmfpddjeiaaAlG
set_option maxRecDepth 10000
set_option maxHeartbeats 2000000
set_option linter.unusedSimpArgs false
set_option linter.unusedVariables false
namespace Go.Proofs.Ytpjifmfpddjeiaa
open Go Go.Abs

theorem fac_zero : facF 0 = one32 := by decide +kernel
theorem hlf_half : fval .f32 hlf * 2 = 1 := by rw [hlf_ok.2]; exact half
theorem len_bounds {q : List Nat} (T : Tab q) : (0 : Rat) ≤ (q.length : Rat) ∧ (q.length : Rat) ≤ 6 := ⟨by exact_mod_cast Nat.zero_le _, cast_le T.six⟩
theorem alv_one {q : List Nat} (T : Tab q) : (alvL q).getD 0 0 = one32 := alvL_get q 0 T.one
theorem val_ok {q : List Nat} (T : Tab q) {r : Nat} (Y : U01 r) (w : Nat) : finB .f32 (valF q r w) = true ∧ 0 ≤ fval .f32 (valF q r w) ∧ fval .f32 (valF q r w) ≤ 12 ∧ Ev 60 (prE (vX (alvL q)) (fval .f32 (facF r)) w q.length) (valF q r w) ∧ (w = 0 → 1 ≤ fval .f32 (valF q r w)) := by
  obtain ⟨a, b, c, d, e⟩ := pr_ok (alv_shs T) T.six (fac_u Y) w q.length (Nat.le_refl _)
  obtain ⟨l0, l6⟩ := len_bounds T
  exact ⟨a, b, Rat.le_trans c (by clear d e T Y; grind), ev_more d (by clear d e T Y; grind), fun h => e T.one h (alv_one T)⟩
theorem years_ok {q : List Nat} (T : Tab q) : finB .f32 (yrF q) = true ∧ Ev 8 (prE (vX (alvL q)) 1 0 q.length) (fadd .f32 (yrF q) hlf) := by
  obtain ⟨b, c, d⟩ := sm_ok T q.length (Nat.le_refl _)
  obtain ⟨l0, l6⟩ := len_bounds T
  have hh := hlf_half
  have fh := hlf_ok.1
  have b1 : ab (fval .f32 (smF (alvL q) q.length) - fval .f32 hlf) ≤ 16 := by clear d T; exact ab_le (by grind) (by grind)
  have s1 := rn_sub d.fin fh (top16 b1)
  have e1 := ev_sub d (ev_exact fh) b1
  have up := s1.up 6 (nat_rep 6 (by decide)) (by clear d T s1 e1; grind)
  have lo := s1.lo (-1) rep1.neg (by clear d T s1 e1; grind)
  have b2 : ab (fval .f32 (yrF q) + fval .f32 hlf) ≤ 16 := by
    have up' : fval .f32 (yrF q) ≤ 6 := up
    have lo' : -1 ≤ fval .f32 (yrF q) := lo
    clear d T s1 e1
    exact ab_le (by grind) (by grind)
  have e2 := ev_add (x := yrF q) e1 (ev_exact fh) b2
  refine ⟨s1.fin, ?_⟩
  have ex : prE (vX (alvL q)) 1 0 q.length - fval .f32 hlf + fval .f32 hlf = prE (vX (alvL q)) 1 0 q.length := by grind
  rw [ex] at e2
  exact ev_more e2 (by clear d T s1 e1 e2; grind)
theorem t_years {q : List Nat} (T : Tab q) : fgt .f64 (gap8 (valF q 0 0) (fadd .f32 (yrF q) hlf)) c001 = false := by
  have v := (val_ok T u_zero 0).2.2.2.1
  rw [fac_zero, one_val] at v
  exact ev_gap v (years_ok T).2 (by decide +kernel)
theorem fac_rat {r : Nat} (Y : U01 r) : 0 ≤ fval .f32 (facF r) ∧ fval .f32 (facF r) ≤ 1 := ⟨(fac_u Y).lo, (fac_u Y).up⟩
theorem t_flat {q : List Nat} (T : Tab q) {r : Nat} (Y : U01 r) : fgt .f64 (fconv .f64 .f32 (valF q r 0)) (fadd .f64 (fconv .f64 .f32 (valF q 0 0)) c001) = false := by
  have v := (val_ok T Y 0).2.2.2.1
  obtain ⟨_, n0, n12, n, _⟩ := val_ok T u_zero 0
  rw [fac_zero, one_val] at n
  obtain ⟨f0, f1⟩ := fac_rat Y
  exact le_add v n (prE_flat f0 f1 0 (alv_shs T).x0 _ (Nat.le_refl _)) (by decide +kernel) n0 (Rat.le_trans n12 (by decide))
theorem t_one {q : List Nat} (T : Tab q) {r : Nat} (Y : U01 r) : flt .f32 (valF q r 0) one32 = false := by
  obtain ⟨f, _, _, _, h⟩ := val_ok T Y 0
  rw [flt_val f fin_one, one_val]
  exact decide_eq_false (by have := h rfl; grind)
theorem t_res {q : List Nat} (T : Tab q) {r : Nat} (Y : U01 r) : fgt .f64 (gap8 (valF q r 0) (rvF q (facF r) q.length)) c001 = false := by
  have v := (val_ok T Y 0).2.2.2.1
  obtain ⟨_, _, _, _, _, e⟩ := rv_ok T (fac_u Y) q.length (Nat.le_refl _)
  obtain ⟨f0, f1⟩ := fac_rat Y
  obtain ⟨l0, l6⟩ := len_bounds T
  obtain ⟨n1, n2⟩ := alv_near T f0 f1 q.length (Nat.le_refl _)
  rw [rv_total] at e
  have d0 := Rat.le_of_lt dlt_ok.1
  have m := Rat.mul_le_mul_of_nonneg_right (show 10 * (q.length : Rat) ≤ 60 by clear T Y v e n1 n2; grind) d0
  have m2 := Rat.mul_le_mul_of_nonneg_right (show 18 * (q.length : Rat) ≤ 108 by clear T Y v e n1 n2; grind) d0
  have e' : Ev 168 (prE (vX (alvL q)) (fval .f32 (facF r)) 0 q.length) (rvF q (facF r) q.length) := by
    have u := e.up
    have l := e.lo
    refine ⟨e.fin, ?_, ?_⟩ <;> clear T Y v e <;> grind
  exact ev_gap v e' (by decide +kernel)
theorem t_last {q : List Nat} (T : Tab q) {r : Nat} (Y : U01 r) : feq .f32 (rvF q (facF r) 1) one32 = true := by
  obtain ⟨a, b, c, d, _, _⟩ := rv_ok T (fac_u Y) 1 T.one
  rw [feq_val a fin_one, one_val]
  refine decide_eq_true ?_
  have := d (Nat.le_refl _)
  have e1 : ((1 : Nat) : Rat) = 1 := rfl
  rw [e1] at c
  grind
theorem sh_u {q : List Nat} (T : Tab q) {i : Nat} (h : i ≤ q.length) : U01 (shF q i) := (sh_ok T i h).1
theorem t_fall {q : List Nat} (T : Tab q) {i : Nat} (h : i + 1 ≤ q.length) : fgt .f32 (shF q (i + 1)) (shF q i) = false := by
  have u := sh_u T (i := i) (by omega)
  have w := (u_not (T.u i (by omega))).1
  have m := u_mul u w
  have e : shF q (i + 1) = fmul .f32 (shF q i) (fsub .f32 one32 (q.getD i 0)) := rfl
  rw [e, fgt_val m.1.fin u.fin]
  exact decide_eq_false (by have := m.2.1; grind)
theorem t_same {x : Nat} (h : finB .f32 x = true) : fgt .f64 (gap8 x x) c001 = false :=
  ev_gap (ev_exact h) (ev_exact h) (by decide +kernel)
theorem t_row {q : List Nat} (T : Tab q) {r : Nat} (Y : U01 r) {k : Nat} (h : k ≤ q.length) (hk : 1 ≤ k) : flt .f32 (rvF q (facF r) k) one32 = false := by
  obtain ⟨a, _, _, d, _, _⟩ := rv_ok T (fac_u Y) k h
  rw [flt_val a fin_one, one_val]
  exact decide_eq_false (by have := d hk; grind)
theorem t_later {q : List Nat} (T : Tab q) {r : Nat} (Y : U01 r) (w : Nat) : fgt .f64 (fconv .f64 .f32 (valF q r w)) (fadd .f64 (fconv .f64 .f32 (valF q r 0)) c001) = false := by
  have v := (val_ok T Y w).2.2.2.1
  obtain ⟨_, n0, n12, n, _⟩ := val_ok T Y 0
  obtain ⟨f0, f1⟩ := fac_rat Y
  exact le_add v n (prE_wait f0 f1 w (alv_shs T).x0 _ (Nat.le_refl _)) (by decide +kernel) n0 (Rat.le_trans n12 (by decide))
theorem t_pos {q : List Nat} (T : Tab q) {r : Nat} (Y : U01 r) (w : Nat) : flt .f32 (valF q r w) 0 = false := by
  obtain ⟨a, b, _⟩ := val_ok T Y w
  rw [flt_val a fin_z, fval_zero]
  exact decide_eq_false (by grind)
theorem val_none (q : List Nat) (r : Nat) : valF q r q.length = 0 := prF_none _ _ _ _ (Nat.le_refl _)
theorem feq_self {x : Nat} (h : finB .f32 x = true) : feq .f32 x x = true := by rw [feq_val h h]; exact decide_eq_true rfl
end Go.Proofs.Ytpjifmfpddjeiaa
