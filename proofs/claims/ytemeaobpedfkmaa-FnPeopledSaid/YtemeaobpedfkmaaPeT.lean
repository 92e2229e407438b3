/- Peoples: sums, rates and gaps, in plain Lean. -/
import Derived.Test.YtemeaobpedfkmaaPeU
set_option maxRecDepth 10000
set_option maxHeartbeats 4000000
set_option linter.unusedSimpArgs false
set_option linter.unusedVariables false
namespace Go.Proofs.Ytemeaobpedfkmaa
open Go Go.Abs

def IntW (x : Nat) : Prop := finB .f32 x = true ∧ ∃ z : Int, fval .f32 x = (z : Rat) ∧ 0 ≤ z ∧ z ≤ 40
theorem fold_int : ∀ (l : List Nat) (m : Nat) (a : Nat) (z : Int), (∀ x ∈ l, IntW x) → finB .f32 a = true → fval .f32 a = (z : Rat) → 0 ≤ z → z ≤ 40 * (m : Int) → m + l.length ≤ 1000 →
    ∃ w : Int, finB .f32 (l.foldl (fadd .f32) a) = true ∧ fval .f32 (l.foldl (fadd .f32) a) = ((z + w : Int) : Rat) ∧ 0 ≤ w ∧ w ≤ 40 * (l.length : Int) ∧ (∀ (b : Nat) (y : Int), finB .f32 b = true → fval .f32 b = (y : Rat) → 0 ≤ y → y ≤ 40 * (m : Int) → fval .f32 (l.foldl (fadd .f32) b) = ((y + w : Int) : Rat))
  | [], m, a, z, _, fa, va, z0, zm, _ => ⟨0, fa, by rw [Int.add_zero]; exact va, by omega, by simp, fun b y _ vb _ _ => by rw [Int.add_zero]; exact vb⟩
  | x :: l, m, a, z, h, fa, va, z0, zm, hm => by
    obtain ⟨fx, q, vx, q0, q40⟩ := h x (by simp)
    have step : ∀ (b : Nat) (y : Int), finB .f32 b = true → fval .f32 b = (y : Rat) → 0 ≤ y → y ≤ 40 * (m : Int) → finB .f32 (fadd .f32 b x) = true ∧ fval .f32 (fadd .f32 b x) = ((y + q : Int) : Rat) := fun b y fb vb y0 ym => by
      have hl : m ≤ 1000 := by simp at hm; omega
      have e : fval .f32 b + fval .f32 x = ((y + q : Int) : Rat) := by rw [vb, vx, Rat.intCast_add]
      have b1 := int_cast_le (show y + q ≤ 50000 by omega)
      have b0 := int_cast_le (show 0 ≤ y + q by omega)
      have e5 : ((50000 : Int) : Rat) = 50000 := rfl
      have e0 : ((0 : Int) : Rat) = 0 := rfl
      rw [e5] at b1
      rw [e0] at b0
      have r := rn_add fb fx (by
        rw [e]
        refine lt_top32 (t := 20) ?_ (by decide)
        have e20 : p2 20 = 1048576 := p2_nat 20
        rw [e20, ab_of b0]; grind)
      rw [e] at r
      exact ⟨r.fin, r.same (rep_int _ (by show (y + q).natAbs < 2 ^ 24; omega))⟩
    obtain ⟨f1, v1⟩ := step a z fa va z0 zm
    obtain ⟨w, fw, vw, w0, w4, wb⟩ := fold_int l (m + 1) (fadd .f32 a x) (z + q) (fun y hy => h y (by simp [hy])) f1 v1 (by omega) (by omega) (by simp at hm; omega)
    refine ⟨q + w, fw, by rw [← Int.add_assoc]; exact vw, by omega, by simp; omega, fun b y fb vb y0 ym => ?_⟩
    obtain ⟨f2, v2⟩ := step b y fb vb y0 ym
    rw [← Int.add_assoc]
    exact wb _ _ f2 v2 (by omega) (by omega)
theorem pop_int {cs ss bs : List Nat} (P : Pop cs ss bs) {x : Nat} (hx : x ∈ cs) : IntW x := by
  obtain ⟨j, rfl⟩ := nf_mem P.p.c hx
  exact ⟨P.p.c.fin j, P.int j⟩
structure Sums (A R C : Nat) : Prop where
  fa : finB .f32 A = true
  fr : finB .f32 R = true
  fc : finB .f32 C = true
  v : ∃ a r : Int, fval .f32 A = (a : Rat) ∧ fval .f32 R = (r : Rat) ∧ fval .f32 C = ((a + r : Int) : Rat) ∧ 1 ≤ a ∧ a ≤ 40 ∧ 0 ≤ r ∧ r ≤ 160
theorem pop_sums {cs ss bs : List Nat} (P : Pop cs ss bs) : Sums (sumF (cs.take 1)) (sumF (cs.drop 1)) (sumF cs) := by
  have n2 := P.p.n2
  have n5 := P.p.n5
  obtain ⟨x, l, rfl⟩ : ∃ x l, cs = x :: l := by
    cases cs with
    | nil => simp at n2
    | cons x l => exact ⟨x, l, rfl⟩
  have f0 : finB .f32 0 = true := by decide +kernel
  have v0 : fval .f32 0 = ((0 : Int) : Rat) := fval_zero _
  obtain ⟨fx, q, vx, q0, q4⟩ := pop_int P (x := x) (by simp)
  have c0 := P.p.c0
  change 1 ≤ fval .f32 x at c0
  have hq : 1 ≤ q := by
    rw [vx] at c0
    exact_mod_cast c0
  have hx := fold_int [x] 0 0 0 (fun y hy => by rw [List.mem_singleton.1 hy]; exact ⟨fx, q, vx, q0, q4⟩) f0 v0 (by omega) (by omega) (by simp)
  obtain ⟨w, fw, vw, w0, w4, wb⟩ := hx
  obtain ⟨u, fu, vu, u0, u4, ub⟩ := fold_int l 1 0 0 (fun y hy => pop_int P (by simp [hy])) f0 v0 (by omega) (by omega) (by simp at n5; omega)
  have hw : w = q := by
    have e : fval .f32 ([x].foldl (fadd .f32) 0) = fval .f32 (fadd .f32 0 x) := rfl
    have r := rn_add f0 fx (by
      rw [fval_zero, vx]
      have b1 := int_cast_le (show q ≤ 40 by omega)
      have b0 := int_cast_le (show 0 ≤ q by omega)
      have e5 : ((40 : Int) : Rat) = 40 := rfl
      have e0 : ((0 : Int) : Rat) = 0 := rfl
      rw [e5] at b1
      rw [e0] at b0
      refine lt_top32 (t := 20) ?_ (by decide)
      have e20 : p2 20 = 1048576 := p2_nat 20
      rw [e20, Rat.zero_add, ab_of b0]; grind)
    rw [fval_zero, vx, Rat.zero_add] at r
    have rs := r.same (rep_int _ (by show q.natAbs < 2 ^ 24; omega))
    rw [e, rs] at vw
    have : (q : Rat) = ((0 + w : Int) : Rat) := vw
    have := Rat.intCast_inj.1 this
    omega
  have v1 : fval .f32 (fadd .f32 0 x) = (q : Rat) := by
    have := vw
    rw [hw, Int.zero_add] at this
    exact this
  have f1 : finB .f32 (fadd .f32 0 x) = true := fw
  have hc := ub (fadd .f32 0 x) q f1 v1 (by omega) (by omega)
  obtain ⟨u', fu', _⟩ := fold_int l 1 (fadd .f32 0 x) q (fun y hy => pop_int P (by simp [hy])) f1 v1 (by omega) (by omega) (by simp at n5; omega)
  have ll : l.length ≤ 4 := by simp at n5; omega
  exact ⟨fw, fu, fu', q, u, v1, by rw [Int.zero_add] at vu; exact vu, hc, hq, q4, u0, by omega⟩
def c001 : Nat := 4562254508917369340
theorem c001_v : finB .f64 c001 = true ∧ 1 / 1001 ≤ fval .f64 c001 ∧ fval .f64 c001 ≤ 1 := by
  have h : FloatKind.f64.decode c001 = .number false 4611686018427388 (-62) := by decide +kernel
  refine ⟨num_fin h, ?_⟩
  rw [fval_of h]
  decide +kernel
theorem wid_v {x : Nat} (f : finB .f32 x = true) : finB .f64 (wid x) = true ∧ fval .f64 (wid x) = fval .f32 x := ⟨(wide_rn f).1.fin, (wide_rn f).2⟩
theorem top64_of {v : Rat} (h1 : v ≤ 1024) (h2 : -1024 ≤ v) : ab v < p2 (top .f64) := by
  refine lt_top64 (t := 10) ?_ (by decide)
  have e10 : p2 10 = 1024 := p2_nat 10
  rw [e10]
  exact ab_le h1 h2
theorem op64 {v T : Rat} {x : Nat} (r : Rn .f64 v x) (h0 : 0 ≤ v) (hT : 1 ≤ T) (h : v ≤ 4 * T) : 0 ≤ fval .f64 x ∧ fval .f64 x ≤ v + T / 1048576 ∧ v - T / 1048576 ≤ fval .f64 x := by
  have h1 := r.e1
  have h2 := r.e2
  rw [ab_of h0] at h1 h2
  have e1 : ((fb .f64 + 1 : Nat) : Int) = 53 := rfl
  have e2 : least .f64 - 1 = -1075 := rfl
  rw [e1, e2] at h1 h2
  have t1 := p2_mono (show (-53 : Int) ≤ -24 by decide)
  have t2 := p2_mono (show (-1075 : Int) ≤ -150 by decide)
  have t3 := tn_small
  rw [p24] at t1
  have m := Rat.mul_le_mul_of_nonneg_right t1 h0
  refine ⟨r.lo 0 (by have := rep_int .f64 (z := 0) (by decide); exact this) h0, ?_, ?_⟩ <;> grind
theorem zero64 : Rep .f64 0 := by have := rep_int .f64 (z := 0) (by decide); exact this
theorem gap_le {x y : Nat} {d : Rat} (fx : finB .f64 x = true) (fy : finB .f64 y = true) (h1 : fval .f64 x - fval .f64 y ≤ d) (h2 : fval .f64 y - fval .f64 x ≤ d) (hd : d ≤ 4) : finB .f64 (gapD x y) = true ∧ 0 ≤ fval .f64 (gapD x y) ∧ fval .f64 (gapD x y) ≤ d + 1 / 1048576 := by
  unfold gapD
  rw [flt_val fx fy]
  by_cases h : fval .f64 x < fval .f64 y
  · rw [if_pos (decide_eq_true h)]
    have r := rn_sub fy fx (top64_of (by grind) (by grind))
    obtain ⟨a, b, c⟩ := op64 (T := 1) r (by grind) (by grind) (by grind)
    exact ⟨r.fin, a, by grind⟩
  · rw [if_neg (by rw [decide_eq_false h]; simp)]
    have r := rn_sub fx fy (top64_of (by grind) (by grind))
    obtain ⟨a, b, c⟩ := op64 (T := 1) r (by grind) (by grind) (by grind)
    exact ⟨r.fin, a, by grind⟩
theorem gap_zero {x y : Nat} (fx : finB .f64 x = true) (fy : finB .f64 y = true) (h : fval .f64 x = fval .f64 y) : finB .f64 (gapD x y) = true ∧ fval .f64 (gapD x y) = 0 := by
  unfold gapD
  rw [flt_val fx fy, if_neg (by rw [h]; simp [Rat.lt_irrefl])]
  have e : fval .f64 x - fval .f64 y = 0 := by grind
  have r := rn_sub fx fy (top64_of (by grind) (by grind))
  rw [e] at r
  exact ⟨r.fin, r.same zero64⟩
theorem int_bounds {z : Int} {lo hi : Int} (h1 : lo ≤ z) (h2 : z ≤ hi) : (lo : Rat) ≤ (z : Rat) ∧ (z : Rat) ≤ (hi : Rat) := ⟨int_cast_le h1, int_cast_le h2⟩
theorem sum_gap {A R C : Nat} (S : Sums A R C) : fgt .f64 (gapD (wid C) (fadd .f64 (wid A) (wid R))) (fmul .f64 c001 (wid C)) = false := by
  obtain ⟨a, r, va, vr, vc, a1, a4, r0, r1⟩ := S.v
  obtain ⟨fa, wa⟩ := wid_v S.fa
  obtain ⟨fr, wr⟩ := wid_v S.fr
  obtain ⟨fc, wc⟩ := wid_v S.fc
  rw [va] at wa
  rw [vr] at wr
  rw [vc] at wc
  have e : fval .f64 (wid A) + fval .f64 (wid R) = ((a + r : Int) : Rat) := by rw [wa, wr, Rat.intCast_add]
  have b := int_bounds (show (1 : Int) ≤ a + r by omega) (show a + r ≤ 200 by omega)
  have e1 : ((1 : Int) : Rat) = 1 := rfl
  have e2 : ((200 : Int) : Rat) = 200 := rfl
  rw [e1, e2] at b
  have ra := rn_add fa fr (by rw [e]; exact top64_of (by grind) (by grind))
  rw [e] at ra
  have sa := ra.same (rep_int _ (by show (a + r).natAbs < 2 ^ 53; omega))
  obtain ⟨fg, vg⟩ := gap_zero fc ra.fin (by rw [wc, sa])
  obtain ⟨k1, k2, k3⟩ := c001_v
  have m0 := Rat.mul_nonneg (show (0 : Rat) ≤ fval .f64 c001 by grind) (show 0 ≤ fval .f64 (wid C) by rw [wc]; grind)
  have m1 := Rat.mul_le_mul_of_nonneg_right k3 (show 0 ≤ fval .f64 (wid C) by rw [wc]; grind)
  have rm := rn_mul k1 fc (top64_of (by rw [wc] at *; grind) (by grind))
  have l := rm.lo 0 zero64 m0
  rw [fgt_val fg rm.fin, vg]
  exact decide_eq_false (by grind)
def s64 (q : List Nat) : Nat → Nat
  | 0 => 0
  | k + 1 => fadd .f64 (s64 q k) (wid (q.getD k 0))
theorem s64_ok {q : List Nat} {n : Nat} (Q : Shr q n) (n5 : n ≤ 5) : ∀ k, k ≤ n → finB .f64 (s64 q k) = true ∧ 0 ≤ fval .f64 (s64 q k) ∧ fval .f64 (s64 q k) ≤ sR (vL q) k + (k : Rat) * (1 / 1048576) ∧ sR (vL q) k - (k : Rat) * (1 / 1048576) ≤ fval .f64 (s64 q k)
  | 0, _ => by
    show finB .f64 0 = true ∧ 0 ≤ fval .f64 0 ∧ fval .f64 0 ≤ 0 + ((0 : Nat) : Rat) * _ ∧ 0 - ((0 : Nat) : Rat) * _ ≤ fval .f64 0
    rw [fval_zero, show ((0 : Nat) : Rat) = 0 from rfl]
    exact ⟨by decide +kernel, Rat.le_refl, by grind, by grind⟩
  | k + 1, hk => by
    obtain ⟨f, z, u, l⟩ := s64_ok Q n5 k (by omega)
    obtain ⟨fw, vw⟩ := wid_v (Q.nf.fin k)
    change _ = vL q k at vw
    have w0 := Q.nf.nn k
    have s1 := sR_mono Q.nf.nn (show k + 1 ≤ n from hk)
    have e1 : sR (vL q) (k + 1) = sR (vL q) k + vL q k := rfl
    have hu := Q.up
    have k5 := mul_u (show k ≤ 5 by omega) (show (0 : Rat) ≤ 1 / 1048576 by grind)
    have r := rn_add f fw (top64_of (by rw [vw]; grind) (by rw [vw]; grind))
    obtain ⟨a, b, c⟩ := op64 (T := 1) r (by rw [vw]; grind) (by grind) (by rw [vw]; grind)
    rw [vw] at b c
    refine ⟨r.fin, a, ?_, ?_⟩
    · show fval .f64 (fadd .f64 (s64 q k) (wid (q.getD k 0))) ≤ _
      rw [nat_cast_succ, e1]; grind
    · show _ ≤ fval .f64 (fadd .f64 (s64 q k) (wid (q.getD k 0)))
      rw [nat_cast_succ, e1]; grind
theorem one64_v : finB .f64 4607182418800017408 = true ∧ fval .f64 4607182418800017408 = 1 := by
  have h : FloatKind.f64.decode 4607182418800017408 = .number false 4503599627370496 (-52) := by decide +kernel
  refine ⟨num_fin h, ?_⟩
  rw [fval_of h]; decide +kernel
theorem share_gap {q : List Nat} {n : Nat} (Q : Shr q n) (n5 : n ≤ 5) : fgt .f64 (gapD (s64 q n) 4607182418800017408) c001 = false := by
  obtain ⟨f, z, u, l⟩ := s64_ok Q n5 n (Nat.le_refl _)
  have hu := Q.up
  have hl := Q.lo
  have k5 := mul_u n5 (show (0 : Rat) ≤ 1 / 1048576 by grind)
  obtain ⟨fg, g0, g1⟩ := gap_le (d := 1 / 50000) f one64_v.1 (by rw [one64_v.2]; grind) (by rw [one64_v.2]; grind) (by grind)
  obtain ⟨k1, k2, k3⟩ := c001_v
  rw [fgt_val fg k1]
  exact decide_eq_false (by grind)
theorem im_gap {x : Nat} (f : finB .f32 x = true) (h : fval .f32 x = 0) : fgt .f64 (gapD (wid x) 0) c001 = false := by
  obtain ⟨fw, vw⟩ := wid_v f
  obtain ⟨fg, g⟩ := gap_zero fw (show finB .f64 0 = true by decide +kernel) (by rw [vw, h, fval_zero])
  obtain ⟨k1, k2, k3⟩ := c001_v
  rw [fgt_val fg k1, g]
  exact decide_eq_false (by grind)
end Go.Proofs.Ytemeaobpedfkmaa
