/- Lives and pays for life, nearly: reserves, two lives, comparisons. -/
import Derived.Test.YtpjifmfpddjeiaaAlP
set_option maxRecDepth 10000
set_option maxHeartbeats 2000000
set_option linter.unusedSimpArgs false
set_option linter.unusedVariables false
namespace Go.Proofs.Ytpjifmfpddjeiaa
open Go Go.Abs

def qAt (q : List Nat) (k : Nat) : Nat := q.getD (q.length - 1 - k) 0
def rvF (q : List Nat) (f : Nat) : Nat → Nat
  | 0 => 0
  | k + 1 => fadd .f32 one32 (fmul .f32 (fmul .f32 (fsub .f32 one32 (qAt q k)) f) (rvF q f k))
def rvE (q : List Nat) (φ : Rat) : Nat → Rat
  | 0 => 0
  | k + 1 => 1 + (1 - fval .f32 (qAt q k)) * φ * rvE q φ k
theorem rv_ok {q : List Nat} (T : Tab q) {f : Nat} (F : U01 f) : ∀ k, k ≤ q.length → finB .f32 (rvF q f k) = true ∧ 0 ≤ fval .f32 (rvF q f k) ∧ fval .f32 (rvF q f k) ≤ (k : Rat) ∧ (1 ≤ k → 1 ≤ fval .f32 (rvF q f k)) ∧ 0 ≤ rvE q (fval .f32 f) k ∧ Ev (18 * (k : Rat)) (rvE q (fval .f32 f) k) (rvF q f k)
  | 0, _ => by
    have e : rvF q f 0 = 0 := rfl
    have e2 : rvE q (fval .f32 f) 0 = 0 := rfl
    have e0 : ((0 : Nat) : Rat) = 0 := rfl
    have ev := ev_exact fin_z
    rw [fval_zero] at ev
    rw [e, e2, fval_zero, e0]
    exact ⟨fin_z, by grind, by grind, fun h => by omega, by grind, ev_more ev (by grind)⟩
  | k + 1, h => by
    obtain ⟨a, b, c, _, x0, d⟩ := rv_ok T F k (by omega)
    have ek : ((k + 1 : Nat) : Rat) = (k : Rat) + 1 := Rat.natCast_add _ _
    have k0 : (0 : Rat) ≤ (k : Rat) := by exact_mod_cast Nat.zero_le k
    have k5 : (k : Rat) ≤ 5 := cast_le (show k ≤ 5 by have := T.six; omega)
    have qu : U01 (qAt q k) := T.u _ (by have := T.one; omega)
    obtain ⟨nu, ne⟩ := u_not qu
    obtain ⟨cu, _, _⟩ := u_mul nu F
    have q0 := qu.lo
    have q1 := qu.up
    obtain ⟨i0, i1⟩ := mul01 nu.lo nu.up F.lo
    have Fu := F.up
    have ce := ev_mul ne (ev_exact F.fin) (by decide) (by decide) F.lo F.up (show 0 ≤ 1 - fval .f32 (qAt q k) by clear T nu ne d F cu qu; grind) (show 1 - fval .f32 (qAt q k) ≤ 1 by clear T nu ne d F cu qu; grind) (by rw [ab_of i0]; clear T nu ne d F cu qu; grind)
    obtain ⟨j0, j1⟩ := mul01 cu.lo cu.up b
    obtain ⟨x1, x2⟩ := mul01 (show 0 ≤ 1 - fval .f32 (qAt q k) by clear T nu ne d cu qu; grind) (show 1 - fval .f32 (qAt q k) ≤ 1 by clear T nu ne d cu qu; grind) F.lo
    have pe := ev_mul (B := 8) ce d (by grind) (by grind) b (by clear T nu ne d F cu qu ce; grind) x1 (by clear T nu ne d F cu qu ce; grind) (by rw [ab_of j0]; clear T nu ne d F cu qu ce; grind)
    have rp := rn_mul cu.fin a (top16 (by rw [ab_of j0]; clear T nu ne d F cu qu ce pe; grind))
    have pl := rp.lo 0 rep0 j0
    have pu := rp.up _ (nat_rep k (by have := T.six; omega)) (by clear T nu ne d F cu qu ce pe rp; grind)
    have e1 := ev_exact fin_one
    rw [one_val] at e1
    have hb : ab (fval .f32 one32 + fval .f32 (fmul .f32 (fmul .f32 (fsub .f32 one32 (qAt q k)) f) (rvF q f k))) ≤ 16 := by
      rw [one_val]
      clear T nu ne d F cu qu ce pe rp e1
      exact ab_le (by grind) (by grind)
    have se := ev_add e1 pe hb
    have r := rn_add fin_one rp.fin (top16 hb)
    rw [one_val] at r
    have l := r.lo 1 rep1 (by clear T nu ne d F cu qu ce pe rp e1 r se; grind)
    have u := r.up ((k + 1 : Nat) : Rat) (nat_rep (k + 1) (by have := T.six; omega)) (by rw [ek]; clear T nu ne d F cu qu ce pe rp e1 r se; grind)
    have m0 := Rat.mul_nonneg x1 x0
    rw [rvE]
    refine ⟨r.fin, ?_, u, fun _ => l, ?_, ?_⟩
    · show 0 ≤ fval .f32 (fadd .f32 _ _)
      clear T nu ne d F cu qu ce pe rp e1 r se
      grind
    · clear T nu ne d F cu qu ce pe rp e1 r se
      grind
    · have w := ev_more se (b := 18 * ((k : Rat) + 1)) (by clear T nu ne d F cu qu ce pe rp e1 r se; grind)
      rw [ek]
      exact w
theorem rv_sum {q : List Nat} (φ : Rat) : ∀ i, i ≤ q.length → prE (sE q) φ 0 i + sE q i * pE φ i * rvE q φ (q.length - i) = rvE q φ q.length
  | 0, _ => by
    have e1 : prE (sE q) φ 0 0 = 0 := rfl
    have e2 : sE q 0 = 1 := rfl
    have e3 : pE φ 0 = 1 := rfl
    rw [e1, e2, e3, Nat.sub_zero]
    grind
  | i + 1, h => by
    have ih := rv_sum (q := q) φ i (by omega)
    have ek : q.length - i = (q.length - (i + 1)) + 1 := by omega
    have eq : qAt q (q.length - (i + 1)) = q.getD i 0 := by
      unfold qAt
      congr 1
      omega
    rw [ek, rvE, eq] at ih
    rw [prE, if_pos (Nat.zero_le i), ← ih]
    show prE (sE q) φ 0 i + sE q i * pE φ i + sE q i * (1 - fval .f32 (q.getD i 0)) * (pE φ i * φ) * rvE q φ (q.length - (i + 1)) = _
    generalize rvE q φ (q.length - (i + 1)) = R
    generalize prE (sE q) φ 0 i = P
    generalize sE q i = s
    generalize pE φ i = p
    generalize fval .f32 (q.getD i 0) = x
    grind
theorem rv_total {q : List Nat} (φ : Rat) : rvE q φ q.length = prE (sE q) φ 0 q.length := by
  have h := rv_sum (q := q) φ q.length (Nat.le_refl _)
  rw [Nat.sub_self] at h
  have e : rvE q φ 0 = 0 := rfl
  rw [e] at h
  rw [← h]
  grind
def alvL (q : List Nat) : List Nat := (List.range q.length).map (shF q)
theorem alvL_len (q : List Nat) : (alvL q).length = q.length := by simp [alvL]
theorem alvL_get (q : List Nat) (i : Nat) (h : i < q.length) : (alvL q).getD i 0 = shF q i := by simp [alvL, h]
def vX (S : List Nat) (i : Nat) : Rat := fval .f32 (S.getD i 0)
theorem alv_shs {q : List Nat} (T : Tab q) : Shs (alvL q) (vX (alvL q)) q.length := by
  have u : ∀ i, i < q.length → U01 ((alvL q).getD i 0) := fun i hi => by rw [alvL_get q i hi]; exact (sh_ok T i (by omega)).1
  exact ⟨fun i hi => (u i hi).two, fun i hi => (u i hi).lo, fun i hi => (u i hi).up, fun i hi => ev_more (ev_exact (u i hi).fin) (by decide)⟩
theorem alv_near {q : List Nat} (T : Tab q) {φ : Rat} (h0 : 0 ≤ φ) (h1 : φ ≤ 1) : ∀ i, i ≤ q.length → prE (vX (alvL q)) φ 0 i - prE (sE q) φ 0 i ≤ 10 * (i : Rat) * dlt ∧ prE (sE q) φ 0 i - prE (vX (alvL q)) φ 0 i ≤ 10 * (i : Rat) * dlt
  | 0, _ => by
    have e1 : ∀ X, prE X φ 0 0 = 0 := fun _ => rfl
    have e0 : ((0 : Nat) : Rat) = 0 := rfl
    rw [e1, e1, e0]
    constructor <;> grind
  | i + 1, h => by
    obtain ⟨a, b⟩ := alv_near T h0 h1 i (by omega)
    obtain ⟨_, e⟩ := sh_ok T i (by omega)
    have u := e.up
    have l := e.lo
    obtain ⟨p0, p1⟩ := pE_u h0 h1 i
    have i5 : (i : Rat) ≤ 5 := cast_le (show i ≤ 5 by have := T.six; omega)
    have ei : ((i + 1 : Nat) : Rat) = (i : Rat) + 1 := Rat.natCast_add _ _
    have d0 := dlt_ok.1
    have m0 := Rat.mul_le_mul_of_nonneg_right i5 (Rat.le_of_lt d0)
    have ev : vX (alvL q) i = fval .f32 (shF q i) := by show fval .f32 ((alvL q).getD i 0) = _; rw [alvL_get q i (by omega)]
    have k1 := Rat.mul_le_mul_of_nonneg_right u p0
    have k2 := Rat.mul_le_mul_of_nonneg_right l p0
    have dd : 0 ≤ 10 * dlt := by grind
    have k3 := Rat.mul_le_mul_of_nonneg_left p1 dd
    have k4 := Rat.mul_le_mul_of_nonneg_right (show 2 * (i : Rat) * dlt ≤ 10 * dlt by grind) p0
    rw [prE, prE, if_pos (Nat.zero_le i), if_pos (Nat.zero_le i), ei, ev]
    clear T e ev
    generalize fval .f32 (shF q i) = s at *
    generalize sE q i = S at *
    generalize pE φ i = p at *
    generalize prE (vX (alvL q)) φ 0 i = A at *
    generalize prE (sE q) φ 0 i = B at *
    constructor <;> grind
end Go.Proofs.Ytpjifmfpddjeiaa
