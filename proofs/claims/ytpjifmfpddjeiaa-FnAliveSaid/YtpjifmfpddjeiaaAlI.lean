/- Lives, nearly: two lives, pays. -/
import Derived.Test.YtpjifmfpddjeiaaAlH
set_option maxRecDepth 10000
set_option maxHeartbeats 2000000
set_option linter.unusedSimpArgs false
set_option linter.unusedVariables false
namespace Go.Proofs.Ytpjifmfpddjeiaa
open Go Go.Abs

def joiE (q p : List Nat) (r : Nat) (both : Bool) : Rat := prE (ownX (alvL q) (alvL p) both) (fval .f32 (facF r)) 0 (joiN q p)
def oneE (q : List Nat) (r : Nat) (n : Nat) : Rat := prE (vX (alvL q)) (fval .f32 (facF r)) 0 n
theorem joiN_ok {q p : List Nat} (T : Tab q) (Z : Tab p) : q.length ≤ joiN q p ∧ p.length ≤ joiN q p ∧ joiN q p ≤ 6 := by
  have := T.six
  have := Z.six
  unfold joiN
  omega
theorem joi_ok {q p : List Nat} (T : Tab q) (Z : Tab p) {r : Nat} (Y : U01 r) (both : Bool) : finB .f32 (joiV q p r both) = true ∧ 0 ≤ fval .f32 (joiV q p r both) ∧ fval .f32 (joiV q p r both) ≤ 12 ∧ Ev 60 (joiE q p r both) (joiV q p r both) := by
  have hN := (joiN_ok T Z).2.2
  obtain ⟨a, b, c, d, e⟩ := pr_ok (joi_shs T Z both (joiN q p)) hN (fac_u Y) 0 (joiN q p) (Nat.le_refl _)
  have l6 : ((joiN q p : Nat) : Rat) ≤ 6 := cast_le hN
  exact ⟨a, b, Rat.le_trans c (by clear d e T Y Z; grind), ev_more d (by clear d e T Y Z; grind)⟩
theorem one_pad {q : List Nat} (T : Tab q) (r : Nat) {n : Nat} (h : q.length ≤ n) : oneE q r n = prE (vX (alvL q)) (fval .f32 (facF r)) 0 q.length := by
  obtain ⟨k, rfl⟩ : ∃ k, n = q.length + k := ⟨n - q.length, by omega⟩
  exact prE_pad _ h k (Nat.le_refl _)
theorem vX_u {q : List Nat} (T : Tab q) (i : Nat) : 0 ≤ vX (alvL q) i ∧ vX (alvL q) i ≤ 1 := ⟨(alv_u T i).lo, (alv_u T i).up⟩
theorem own_le {q p : List Nat} (T : Tab q) (Z : Tab p) (i : Nat) : ownX (alvL q) (alvL p) true i ≤ vX (alvL q) i ∧ ownX (alvL q) (alvL p) true i ≤ vX (alvL p) i ∧ vX (alvL q) i ≤ ownX (alvL q) (alvL p) false i ∧ vX (alvL p) i ≤ ownX (alvL q) (alvL p) false i ∧ ownX (alvL q) (alvL p) true i + ownX (alvL q) (alvL p) false i = vX (alvL q) i + vX (alvL p) i := by
  obtain ⟨a0, a1⟩ := vX_u T i
  obtain ⟨b0, b1⟩ := vX_u Z i
  have m1 := (mul01 a0 a1 b0).2
  have m2 := (mul01 b0 b1 a0).2
  rw [Rat.mul_comm] at m2
  simp only [ownX, if_true, Bool.false_eq_true, if_false]
  generalize vX (alvL q) i * vX (alvL p) i = m at *
  refine ⟨?_, ?_, ?_, ?_, ?_⟩ <;> clear T Z <;> grind
theorem joi_vs {q p : List Nat} (T : Tab q) (Z : Tab p) {r : Nat} (Y : U01 r) :
    joiE q p r true ≤ oneE q r (joiN q p) ∧ joiE q p r true ≤ oneE p r (joiN q p) ∧ oneE q r (joiN q p) ≤ joiE q p r false ∧ oneE p r (joiN q p) ≤ joiE q p r false ∧ joiE q p r true + joiE q p r false = oneE q r (joiN q p) + oneE p r (joiN q p) := by
  obtain ⟨f0, f1⟩ := fac_rat Y
  exact ⟨prE_mono f0 f1 0 (fun i _ => (own_le T Z i).1) _ (Nat.le_refl _), prE_mono f0 f1 0 (fun i _ => (own_le T Z i).2.1) _ (Nat.le_refl _), prE_mono f0 f1 0 (fun i _ => (own_le T Z i).2.2.1) _ (Nat.le_refl _),
    prE_mono f0 f1 0 (fun i _ => (own_le T Z i).2.2.2.1) _ (Nat.le_refl _), prE_add 0 (fun i _ => (own_le T Z i).2.2.2.2) _ (Nat.le_refl _)⟩
theorem one_ev {q : List Nat} (T : Tab q) {r : Nat} (Y : U01 r) {n : Nat} (h : q.length ≤ n) : Ev 60 (oneE q r n) (valF q r 0) := by
  rw [one_pad T r h]
  exact (val_ok T Y 0).2.2.2.1
theorem one_le {q : List Nat} (T : Tab q) {r : Nat} (Y : U01 r) {n : Nat} (h : q.length ≤ n) : oneE q r n ≤ 6 := by
  rw [one_pad T r h]
  obtain ⟨f0, f1⟩ := fac_rat Y
  exact Rat.le_trans (prE_le f0 f1 0 (fun i _ => (vX_u T i).1) (fun i _ => (vX_u T i).2) _ (Nat.le_refl _)) (len_bounds T).2
theorem t_sum {q p : List Nat} (T : Tab q) (Z : Tab p) {r : Nat} (Y : U01 r) : fgt .f64 (gap8 (fadd .f32 (joiV q p r true) (joiV q p r false)) (fadd .f32 (valF q r 0) (valF p r 0))) c001 = false := by
  obtain ⟨h1, h2, _⟩ := joiN_ok T Z
  obtain ⟨_, x0, x1, x⟩ := joi_ok T Z Y true
  obtain ⟨_, y0, y1, y⟩ := joi_ok T Z Y false
  have v := one_ev T Y h1
  have w := one_ev Z Y h2
  have v6 := one_le T Y h1
  have w6 := one_le Z Y h2
  have v0 := (val_ok T Y 0).2.1
  have w0 := (val_ok Z Y 0).2.1
  obtain ⟨_, _, _, _, e⟩ := joi_vs T Z Y
  have d0 := dlt_ok.1
  have du := dlt_ok.2
  have xu := x.up
  have yu := y.up
  have vu := v.up
  have wu := w.up
  have s1 := ev_add x y (by clear x y v w T Z Y; exact ab_le (by grind) (by grind))
  have s2 := ev_add v w (by clear x y v w T Z Y s1; exact ab_le (by grind) (by grind))
  rw [e] at s1
  exact ev_gap s1 s2 (by decide +kernel)
theorem t_both {q p : List Nat} (T : Tab q) (Z : Tab p) {r : Nat} (Y : U01 r) : fgt .f64 (fconv .f64 .f32 (joiV q p r true)) (fadd .f64 (fconv .f64 .f32 (fmin .f32 (valF q r 0) (valF p r 0))) c001) = false := by
  obtain ⟨h1, h2, _⟩ := joiN_ok T Z
  have x := (joi_ok T Z Y true).2.2.2
  obtain ⟨a, b, _, _, _⟩ := joi_vs T Z Y
  rcases fmin_or .f32 (valF q r 0) (valF p r 0) with e | e <;> rw [e]
  · exact le_add x (one_ev T Y h1) a (by decide +kernel) (val_ok T Y 0).2.1 (Rat.le_trans (val_ok T Y 0).2.2.1 (by decide))
  · exact le_add x (one_ev Z Y h2) b (by decide +kernel) (val_ok Z Y 0).2.1 (Rat.le_trans (val_ok Z Y 0).2.2.1 (by decide))
theorem t_either {q p : List Nat} (T : Tab q) (Z : Tab p) {r : Nat} (Y : U01 r) : flt .f64 (fconv .f64 .f32 (joiV q p r false)) (fsub .f64 (fconv .f64 .f32 (fmax .f32 (valF q r 0) (valF p r 0))) c001) = false := by
  obtain ⟨h1, h2, _⟩ := joiN_ok T Z
  have x := (joi_ok T Z Y false).2.2.2
  obtain ⟨_, _, a, b, _⟩ := joi_vs T Z Y
  rcases fmax_or .f32 (valF q r 0) (valF p r 0) with e | e <;> rw [e]
  · exact le_sub (one_ev T Y h1) x a (by decide +kernel) ((val_ok T Y 0).2.2.2.2 rfl) (Rat.le_trans (val_ok T Y 0).2.2.1 (by decide))
  · exact le_sub (one_ev Z Y h2) x b (by decide +kernel) ((val_ok Z Y 0).2.2.2.2 rfl) (Rat.le_trans (val_ok Z Y 0).2.2.1 (by decide))
theorem rep_val64 {x : Nat} (h : finB .f64 x = true) : Rep .f64 (fval .f64 x) := by
  obtain ⟨s, m, e, hd⟩ := fin_num h
  obtain ⟨b1, b2, b3⟩ := read_double x s m e hd
  exact ⟨s, m, e, by show m < 2 ^ 53; omega, b2, fval_of hd⟩
def dF (n : Nat) : Nat := canon .f64 (FloatKind.nearest .f64 (n : Int))
theorem dF_ok {n : Nat} (h : n ≤ 100000) : finB .f64 (dF n) = true ∧ fval .f64 (dF n) = (n : Rat) := by
  have b : ((n : Int) : Rat) = (n : Rat) := rfl
  have n0 : (0 : Rat) ≤ (n : Rat) := by exact_mod_cast Nat.zero_le n
  have n9 : (n : Rat) ≤ 100000 := cast_le h
  have r := int_rn (k := .f64) (z := (n : Int)) (by rw [b, ab_of n0]; exact lt_top64 (t := 20) (by rw [show (20 : Int) = ((20 : Nat) : Int) from rfl, p2_nat]; grind) (by decide))
  exact ⟨r.fin, r.same (rep_int .f64 (by show _ < 2 ^ 53; omega))⟩
def cHi : Nat := 4607182869159980145
def cLo : Nat := 4607181518080091934
def cCt : Nat := 4576918229304087675
theorem cHi_ok : finB .f64 cHi = true ∧ 1 + 512 * ep ≤ fval .f64 cHi ∧ fval .f64 cHi ≤ 2 := by
  have h : FloatKind.f64.decode cHi = .number false 4504049987333233 (-52) := by decide +kernel
  refine ⟨num_fin h, ?_, ?_⟩ <;> rw [fval_of h] <;> simp only [sg, Bool.false_eq_true, if_false]
  · have e : 1 + 512 * ep = ((2 ^ 52 + 2 ^ 38 : Nat) : Rat) * p2 (-52) := by
      rw [Rat.natCast_add, ← p2_nat, ← p2_nat, Rat.add_mul, ← p2_add, ← p2_add]
      have : p2 9 = 512 := p2_nat 9
      rw [← this]
      show p2 0 + p2 9 * p2 (-23) = p2 0 + p2 (-14)
      rw [← p2_add]; rfl
    rw [e]
    have := mul_le_r (Rat.le_of_lt (p2_pos (-52))) (cast_le (show 2 ^ 52 + 2 ^ 38 ≤ 4504049987333233 by decide))
    grind
  · have := mul_le_r (Rat.le_of_lt (p2_pos (-52))) (cast_le (show 4504049987333233 ≤ 2 ^ 53 by decide))
    rw [← p2_nat, ← p2_add] at this
    have e : p2 (((53 : Nat) : Int) + -52) = 2 := rfl
    rw [e] at this
    grind
theorem cLo_ok : finB .f64 cLo = true ∧ 0 ≤ fval .f64 cLo ∧ fval .f64 cLo ≤ 1 - 512 * ep := by
  have h : FloatKind.f64.decode cLo = .number false 9006298534815518 (-53) := by decide +kernel
  refine ⟨num_fin h, ?_, ?_⟩ <;> rw [fval_of h] <;> simp only [sg, Bool.false_eq_true, if_false]
  · have := mag_nonneg 9006298534815518 (-53); grind
  · have e : 1 - 512 * ep = ((2 ^ 53 : Nat) : Rat) * p2 (-53) - ((2 ^ 39 : Nat) : Rat) * p2 (-53) := by
      rw [← p2_nat, ← p2_nat, ← p2_add, ← p2_add]
      have : p2 9 = 512 := p2_nat 9
      rw [← this]
      show p2 0 - p2 9 * p2 (-23) = p2 0 - p2 (-14)
      rw [← p2_add]; rfl
    rw [e]
    have := mul_le_r (Rat.le_of_lt (p2_pos (-53))) (cast_le (show 9006298534815518 + 2 ^ 39 ≤ 2 ^ 53 by decide))
    rw [Rat.natCast_add, Rat.add_mul] at this
    generalize ((2 ^ 53 : Nat) : Rat) * p2 (-53) = A at *
    generalize ((2 ^ 39 : Nat) : Rat) * p2 (-53) = B at *
    grind
theorem cCt_ok : finB .f64 cCt = true ∧ 0 < fval .f64 cCt ∧ fval .f64 cCt ≤ 1 := by
  have h : FloatKind.f64.decode cCt = .number false 5764607523034235 (-59) := by decide +kernel
  refine ⟨num_fin h, ?_, ?_⟩ <;> rw [fval_of h] <;> simp only [sg, Bool.false_eq_true, if_false]
  · have := Rat.mul_pos (show (0 : Rat) < ((5764607523034235 : Nat) : Rat) by exact_mod_cast (show 0 < 5764607523034235 by decide)) (p2_pos (-59)); grind
  · have := mul_le_r (Rat.le_of_lt (p2_pos (-59))) (cast_le (show 5764607523034235 ≤ 2 ^ 59 by decide))
    rw [← p2_nat, ← p2_add] at this
    have e : p2 (((59 : Nat) : Int) + -59) = 1 := rfl
    rw [e] at this
    grind
end Go.Proofs.Ytpjifmfpddjeiaa
