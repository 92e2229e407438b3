/- Peoples: renewal, in plain Lean. Printed by gen_peu.py. -/
import Derived.Test.YtemeaobpedfkmaaPeS
set_option maxRecDepth 10000
set_option maxHeartbeats 4000000
set_option linter.unusedSimpArgs false
set_option linter.unusedVariables false
namespace Go.Proofs.Ytemeaobpedfkmaa
open Go Go.Abs

def nokB (x : Nat) : Bool := finB .f64 x && fle .f64 x 4652218415073722368 && fle .f64 13875590451928498176 x
theorem big_v : finB .f64 4652218415073722368 = true ∧ fval .f64 4652218415073722368 = 1024 ∧ finB .f64 13875590451928498176 = true ∧ fval .f64 13875590451928498176 = -1024 := by
  have h : FloatKind.f64.decode 4652218415073722368 = .number false 4503599627370496 (-42) := by decide +kernel
  have g : FloatKind.f64.decode 13875590451928498176 = .number true 4503599627370496 (-42) := by decide +kernel
  refine ⟨num_fin h, ?_, num_fin g, ?_⟩
  · rw [fval_of h]; decide +kernel
  · rw [fval_of g]; decide +kernel
theorem p2_lt_of {a b : Int} (h : a < b) : p2 a < p2 b := by
  have e : p2 (a + 1) = p2 a * 2 := by rw [p2_add]; rfl
  have := p2_mono (show a + 1 ≤ b by omega)
  have := p2_pos a
  grind
theorem nok_of {x : Nat} (h : nokB x = true) : nok x := by
  unfold nokB at h
  simp only [Bool.and_eq_true] at h
  obtain ⟨⟨f, a⟩, b⟩ := h
  rw [fle_val f big_v.1, big_v.2.1] at a
  rw [fle_val big_v.2.2.1 f, big_v.2.2.2] at b
  have a := of_decide_eq_true a
  have b := of_decide_eq_true b
  refine (narrow_rn f ?_).1
  have e := p2_mono (show (10 : Int) ≤ 126 by decide)
  have e2 := p2_lt_of (show (126 : Int) < 127 by decide)
  have e10 : p2 10 = 1024 := p2_nat 10
  rw [e10] at e
  have := ab_le (B := 1024) a b
  grind

def wbB (x : Nat × Nat) : Bool := (finB .f32 x.1 && fle .f32 x.1 1065353216 && fle .f32 3212836864 x.1) && (finB .f32 x.2 && fle .f32 x.2 1065353216 && fle .f32 3212836864 x.2)
def z2 : Nat × Nat := (1073741824, 0)
def f2 : Nat × Nat := (1056964608, 0)
theorem quo2 : quoP (1065353216, 0) z2 = f2 := by decide +kernel
theorem quoOk2 : quoOk (1065353216, 0) z2 := ⟨nok_of (by decide +kernel), nok_of (by decide +kernel)⟩
theorem w2_0 : wP f2 0 = (1056964608, 0) := rfl
theorem w2_1 : wP f2 1 = (1048576000, 0) := by
  rw [show wP f2 1 = mulP (wP f2 0) f2 from rfl, w2_0]
  decide +kernel
theorem w2_2 : wP f2 2 = (1040187392, 0) := by
  rw [show wP f2 2 = mulP (wP f2 1) f2 from rfl, w2_1]
  decide +kernel
theorem w2_3 : wP f2 3 = (1031798784, 0) := by
  rw [show wP f2 3 = mulP (wP f2 2) f2 from rfl, w2_2]
  decide +kernel
theorem w2_4 : wP f2 4 = (1023410176, 0) := by
  rw [show wP f2 4 = mulP (wP f2 3) f2 from rfl, w2_3]
  decide +kernel
theorem muls2 : ∀ k, k < 4 → mulOk (wP f2 k) f2
  | 0, _ => by rw [w2_0]; exact ⟨nok_of (by decide +kernel), nok_of (by decide +kernel)⟩
  | 1, _ => by rw [w2_1]; exact ⟨nok_of (by decide +kernel), nok_of (by decide +kernel)⟩
  | 2, _ => by rw [w2_2]; exact ⟨nok_of (by decide +kernel), nok_of (by decide +kernel)⟩
  | 3, _ => by rw [w2_3]; exact ⟨nok_of (by decide +kernel), nok_of (by decide +kernel)⟩
  | k + 4, h => by omega
theorem wb2 : ∀ k, k < 5 → wbB (wP f2 k) = true
  | 0, _ => by rw [w2_0]; decide +kernel
  | 1, _ => by rw [w2_1]; decide +kernel
  | 2, _ => by rw [w2_2]; decide +kernel
  | 3, _ => by rw [w2_3]; decide +kernel
  | 4, _ => by rw [w2_4]; decide +kernel
  | k + 5, h => by omega
def z4 : Nat × Nat := (1082130432, 0)
def f4 : Nat × Nat := (1048576000, 0)
theorem quo4 : quoP (1065353216, 0) z4 = f4 := by decide +kernel
theorem quoOk4 : quoOk (1065353216, 0) z4 := ⟨nok_of (by decide +kernel), nok_of (by decide +kernel)⟩
theorem w4_0 : wP f4 0 = (1048576000, 0) := rfl
theorem w4_1 : wP f4 1 = (1031798784, 0) := by
  rw [show wP f4 1 = mulP (wP f4 0) f4 from rfl, w4_0]
  decide +kernel
theorem w4_2 : wP f4 2 = (1015021568, 0) := by
  rw [show wP f4 2 = mulP (wP f4 1) f4 from rfl, w4_1]
  decide +kernel
theorem w4_3 : wP f4 3 = (998244352, 0) := by
  rw [show wP f4 3 = mulP (wP f4 2) f4 from rfl, w4_2]
  decide +kernel
theorem w4_4 : wP f4 4 = (981467136, 0) := by
  rw [show wP f4 4 = mulP (wP f4 3) f4 from rfl, w4_3]
  decide +kernel
theorem muls4 : ∀ k, k < 4 → mulOk (wP f4 k) f4
  | 0, _ => by rw [w4_0]; exact ⟨nok_of (by decide +kernel), nok_of (by decide +kernel)⟩
  | 1, _ => by rw [w4_1]; exact ⟨nok_of (by decide +kernel), nok_of (by decide +kernel)⟩
  | 2, _ => by rw [w4_2]; exact ⟨nok_of (by decide +kernel), nok_of (by decide +kernel)⟩
  | 3, _ => by rw [w4_3]; exact ⟨nok_of (by decide +kernel), nok_of (by decide +kernel)⟩
  | k + 4, h => by omega
theorem wb4 : ∀ k, k < 5 → wbB (wP f4 k) = true
  | 0, _ => by rw [w4_0]; decide +kernel
  | 1, _ => by rw [w4_1]; decide +kernel
  | 2, _ => by rw [w4_2]; decide +kernel
  | 3, _ => by rw [w4_3]; decide +kernel
  | 4, _ => by rw [w4_4]; decide +kernel
  | k + 5, h => by omega
def zI : Nat × Nat := (1065353216, 1056964608)
def fI : Nat × Nat := (1061997773, 3201092813)
theorem quoI : quoP (1065353216, 0) zI = fI := by decide +kernel
theorem quoOkI : quoOk (1065353216, 0) zI := ⟨nok_of (by decide +kernel), nok_of (by decide +kernel)⟩
theorem quoSI : quoS (1065353216, 0) zI = fI := by decide +kernel
theorem quoSOkI : quoSOk (1065353216, 0) zI := ⟨nok_of (by decide +kernel), nok_of (by decide +kernel)⟩
theorem wI_0 : wP fI 0 = (1061997773, 3201092813) := rfl
theorem wI_1 : wP fI 1 = (1056293520, 3206797067) := by
  rw [show wP fI 1 = mulP (wP fI 0) fI from rfl, wI_0]
  decide +kernel
theorem wI_2 : wP fI 2 = (1040388719, 3207870809) := by
  rw [show wP fI 2 = mulP (wP fI 1) fI from rfl, wI_1]
  decide +kernel
theorem wI_3 : wP fI 3 = (3191308342, 3206367570) := by
  rw [show wP fI 3 = mulP (wP fI 2) fI from rfl, wI_2]
  decide +kernel
theorem wI_4 : wP fI 4 = (3200727742, 3201758533) := by
  rw [show wP fI 4 = mulP (wP fI 3) fI from rfl, wI_3]
  decide +kernel
theorem mulsI : ∀ k, k < 4 → mulOk (wP fI k) fI
  | 0, _ => by rw [wI_0]; exact ⟨nok_of (by decide +kernel), nok_of (by decide +kernel)⟩
  | 1, _ => by rw [wI_1]; exact ⟨nok_of (by decide +kernel), nok_of (by decide +kernel)⟩
  | 2, _ => by rw [wI_2]; exact ⟨nok_of (by decide +kernel), nok_of (by decide +kernel)⟩
  | 3, _ => by rw [wI_3]; exact ⟨nok_of (by decide +kernel), nok_of (by decide +kernel)⟩
  | k + 4, h => by omega
theorem wbI : ∀ k, k < 5 → wbB (wP fI k) = true
  | 0, _ => by rw [wI_0]; decide +kernel
  | 1, _ => by rw [wI_1]; decide +kernel
  | 2, _ => by rw [wI_2]; decide +kernel
  | 3, _ => by rw [wI_3]; decide +kernel
  | 4, _ => by rw [wI_4]; decide +kernel
  | k + 5, h => by omega
theorem le42 : ∀ k, k < 5 → (fle .f32 (wP f4 k).1 (wP f2 k).1 && fle .f32 0 (wP f4 k).1) = true
  | 0, _ => by rw [w4_0, w2_0]; decide +kernel
  | 1, _ => by rw [w4_1, w2_1]; decide +kernel
  | 2, _ => by rw [w4_2, w2_2]; decide +kernel
  | 3, _ => by rw [w4_3, w2_3]; decide +kernel
  | 4, _ => by rw [w4_4, w2_4]; decide +kernel
  | k + 5, h => by omega
theorem im2 : ∀ k, k < 5 → (wP f2 k).2 = 0
  | 0, _ => by rw [w2_0]
  | 1, _ => by rw [w2_1]
  | 2, _ => by rw [w2_2]
  | 3, _ => by rw [w2_3]
  | 4, _ => by rw [w2_4]
  | k + 5, h => by omega
theorem neg1_v : finB .f32 3212836864 = true ∧ fval .f32 3212836864 = -1 := by
  refine ⟨by decide +kernel, ?_⟩
  have h : FloatKind.f32.decode 3212836864 = .number true 8388608 (-23) := by decide +kernel
  rw [fval_of h]
  decide +kernel
theorem wb_ok {x : Nat × Nat} (h : wbB x = true) : (finB .f32 x.1 = true ∧ fval .f32 x.1 ≤ 1 ∧ -1 ≤ fval .f32 x.1) ∧ finB .f32 x.2 = true ∧ fval .f32 x.2 ≤ 1 ∧ -1 ≤ fval .f32 x.2 := by
  unfold wbB at h
  simp only [Bool.and_eq_true] at h
  obtain ⟨⟨⟨f, a⟩, b⟩, ⟨g, c⟩, d⟩ := h
  rw [fle_val f one_v.1, one_v.2] at a
  rw [fle_val neg1_v.1 f, neg1_v.2] at b
  rw [fle_val g one_v.1, one_v.2] at c
  rw [fle_val neg1_v.1 g, neg1_v.2] at d
  exact ⟨⟨f, of_decide_eq_true a, of_decide_eq_true b⟩, g, of_decide_eq_true c, of_decide_eq_true d⟩
theorem sv_ok {ss bs : List Nat} (P : Par ss bs) : ∀ k, finB .f32 (svP ss k) = true ∧ 0 ≤ fval .f32 (svP ss k) ∧ fval .f32 (svP ss k) ≤ 1
  | 0 => by show finB .f32 1065353216 = true ∧ 0 ≤ fval .f32 1065353216 ∧ fval .f32 1065353216 ≤ 1; rw [one_v.2]; exact ⟨one_v.1, by grind, by grind⟩
  | k + 1 => by
    obtain ⟨f, a, b⟩ := sv_ok P k
    have s0 := P.s.nn k
    have s1 := P.s1 k
    have m0 := Rat.mul_nonneg a s0
    have m1 := Rat.mul_le_mul_of_nonneg_right b s0
    have one : (1 : Rat) ≤ p2 60 := by have := p2_mono (show (0 : Int) ≤ 60 by decide); exact this
    have r := rn_mul f (P.s.fin k) (big60 (T := 1) m0 one (by change _ * vL ss k ≤ _; grind))
    exact ⟨r.fin, r.lo 0 (by have := rep_int .f32 (z := 0) (by decide); exact this) m0, r.up 1 (by have := rep_int .f32 (z := 1) (by decide); exact this) (by change _ * vL ss k ≤ _; grind)⟩
theorem bs_ok {ss bs : List Nat} (P : Par ss bs) (k : Nat) : finB .f32 (bsP ss bs k) = true ∧ 0 ≤ fval .f32 (bsP ss bs k) ∧ fval .f32 (bsP ss bs k) ≤ 2 := by
  obtain ⟨f, a, b⟩ := sv_ok P k
  have s0 := P.b.nn k
  have s1 := P.b1 k
  have m0 := Rat.mul_nonneg s0 a
  have m1 := Rat.mul_le_mul_of_nonneg_left b s0
  have one : (1 : Rat) ≤ p2 60 := by have := p2_mono (show (0 : Int) ≤ 60 by decide); exact this
  have r := rn_mul (P.b.fin k) f (big60 (T := 1) m0 one (by change vL bs k * _ ≤ _; grind))
  exact ⟨r.fin, r.lo 0 (by have := rep_int .f32 (z := 0) (by decide); exact this) m0, r.up 2 (by have := rep_int .f32 (z := 2) (by decide); exact this) (by change vL bs k * _ ≤ _; grind)⟩
theorem top_small {v : Rat} (h1 : v ≤ 1024) (h2 : -1024 ≤ v) : ab v < p2 (top .f32) := by
  refine lt_top32 (t := 10) ?_ (by decide)
  have e10 : p2 10 = 1024 := p2_nat 10
  rw [e10]
  exact ab_le h1 h2
theorem rep2k (k : Nat) (h : k ≤ 5) : Rep .f32 (2 * (k : Rat)) := by
  have := rep_int .f32 (z := 2 * (k : Int)) (by show (2 * (k : Int)).natAbs < 2 ^ 24; omega)
  have e : ((2 * (k : Int) : Int) : Rat) = 2 * (k : Rat) := by rw [Rat.intCast_mul]; rfl
  rw [e] at this
  exact this
theorem part_ok {s w x : Nat} {k : Nat} (hk : k < 5) (fs : finB .f32 s = true) (u : fval .f32 s ≤ 2 * (k : Rat)) (l : -(2 * (k : Rat)) ≤ fval .f32 s) (fw : finB .f32 w = true) (w1 : fval .f32 w ≤ 1) (w2 : -1 ≤ fval .f32 w) (fx : finB .f32 x = true) (x0 : 0 ≤ fval .f32 x) (x2 : fval .f32 x ≤ 2) :
    Rn .f32 (fval .f32 w * fval .f32 x) (fmul .f32 w x) ∧ Rn .f32 (fval .f32 s + fval .f32 (fmul .f32 w x)) (fadd .f32 s (fmul .f32 w x)) ∧ fval .f32 (fadd .f32 s (fmul .f32 w x)) ≤ 2 * ((k + 1 : Nat) : Rat) ∧ -(2 * ((k + 1 : Nat) : Rat)) ≤ fval .f32 (fadd .f32 s (fmul .f32 w x)) := by
  have m1 := Rat.mul_le_mul_of_nonneg_right w1 x0
  have m2 := Rat.mul_le_mul_of_nonneg_right w2 x0
  have k5 := cast5 (show k ≤ 5 by omega)
  have r := rn_mul fw fx (top_small (by grind) (by grind))
  have u1 := r.up 2 (by have := rep_int .f32 (z := 2) (by decide); exact this) (by grind)
  have l1 := r.lo (-2) (by have := rep_int .f32 (z := -2) (by decide); exact this) (by grind)
  have ra := rn_add fs r.fin (top_small (by grind) (by grind))
  refine ⟨r, ra, ?_, ?_⟩
  · refine ra.up _ (rep2k _ (by omega)) ?_
    rw [nat_cast_succ]; grind
  · refine ra.lo _ (rep2k _ (by omega)).neg ?_
    rw [nat_cast_succ]; grind
theorem rnP_ok {ss bs : List Nat} (P : Par ss bs) {f : Nat × Nat} (hw : ∀ k, k < 5 → wbB (wP f k) = true) : ∀ k, k ≤ 5 →
    (finB .f32 (rnP f ss bs k).1 = true ∧ fval .f32 (rnP f ss bs k).1 ≤ 2 * (k : Rat) ∧ -(2 * (k : Rat)) ≤ fval .f32 (rnP f ss bs k).1) ∧ finB .f32 (rnP f ss bs k).2 = true ∧ fval .f32 (rnP f ss bs k).2 ≤ 2 * (k : Rat) ∧ -(2 * (k : Rat)) ≤ fval .f32 (rnP f ss bs k).2
  | 0, _ => by
    show (finB .f32 0 = true ∧ fval .f32 0 ≤ 2 * ((0 : Nat) : Rat) ∧ -(2 * ((0 : Nat) : Rat)) ≤ fval .f32 0) ∧ finB .f32 0 = true ∧ fval .f32 0 ≤ 2 * ((0 : Nat) : Rat) ∧ -(2 * ((0 : Nat) : Rat)) ≤ fval .f32 0
    rw [fval_zero, show ((0 : Nat) : Rat) = 0 from rfl]
    have h : finB .f32 0 = true := by decide +kernel
    exact ⟨⟨h, by grind, by grind⟩, h, by grind, by grind⟩
  | k + 1, hk => by
    obtain ⟨⟨a1, a2, a3⟩, b1, b2, b3⟩ := rnP_ok P hw k (by omega)
    obtain ⟨⟨c1, c2, c3⟩, d1, d2, d3⟩ := wb_ok (hw k (by omega))
    obtain ⟨x1, x2, x3⟩ := bs_ok P k
    obtain ⟨_, p1, p2, p3⟩ := part_ok (by omega) a1 a2 a3 c1 c2 c3 x1 x2 x3
    obtain ⟨_, g1, g2, g3⟩ := part_ok (by omega) b1 b2 b3 d1 d2 d3 x1 x2 x3
    exact ⟨⟨p1.fin, p2, p3⟩, g1.fin, g2, g3⟩
theorem far_near {ss bs : List Nat} (P : Par ss bs) : ∀ k, k ≤ 5 → fval .f32 (rnP f4 ss bs k).1 ≤ fval .f32 (rnP f2 ss bs k).1
  | 0, _ => Rat.le_refl
  | k + 1, hk => by
    have ih := far_near P k (by omega)
    obtain ⟨⟨a1, a2, a3⟩, _⟩ := rnP_ok P wb4 k (by omega)
    obtain ⟨⟨b1, b2, b3⟩, _⟩ := rnP_ok P wb2 k (by omega)
    obtain ⟨⟨c1, c2, c3⟩, _⟩ := wb_ok (wb4 k (by omega))
    obtain ⟨⟨d1, d2, d3⟩, _⟩ := wb_ok (wb2 k (by omega))
    obtain ⟨x1, x2, x3⟩ := bs_ok P k
    obtain ⟨p0, p1, _⟩ := part_ok (by omega) a1 a2 a3 c1 c2 c3 x1 x2 x3
    obtain ⟨g0, g1, _⟩ := part_ok (by omega) b1 b2 b3 d1 d2 d3 x1 x2 x3
    have hl := le42 k (by omega)
    rw [Bool.and_eq_true, fle_val c1 d1] at hl
    have hl := of_decide_eq_true hl.1
    have m := p0.mono g0 (Rat.mul_le_mul_of_nonneg_right hl x2)
    exact p1.mono g1 (by grind)
theorem near_im {ss bs : List Nat} (P : Par ss bs) : ∀ k, k ≤ 5 → fval .f32 (rnP f2 ss bs k).2 = 0
  | 0, _ => fval_zero _
  | k + 1, hk => by
    have ih := near_im P k (by omega)
    obtain ⟨_, b1, b2, b3⟩ := rnP_ok P wb2 k (by omega)
    obtain ⟨_, d1, d2, d3⟩ := wb_ok (wb2 k (by omega))
    obtain ⟨x1, x2, x3⟩ := bs_ok P k
    obtain ⟨g0, g1, _⟩ := part_ok (by omega) b1 b2 b3 d1 d2 d3 x1 x2 x3
    have r0 : Rep .f32 0 := by have := rep_int .f32 (z := 0) (by decide); exact this
    rw [im2 k (by omega), fval_zero, Rat.zero_mul] at g0
    have e0 := g0.same r0
    rw [im2 k (by omega), ih, e0] at g1
    show fval .f32 (fadd .f32 (rnP f2 ss bs k).2 (fmul .f32 (wP f2 k).2 (bsP ss bs k))) = 0
    rw [im2 k (by omega)]
    rw [Rat.add_zero] at g1
    exact g1.same r0
theorem ren_ok {cs ss bs : List Nat} (P : Pop cs ss bs) {z f : Nat × Nat} (hw : ∀ k, k < 5 → wbB (wP f k) = true) (hm : ∀ k, k < 4 → mulOk (wP f k) f) (hf : (finB .f32 z.1 && finB .f32 z.2) = true) (hz : (feq .f32 z.1 0 && feq .f32 z.2 0) = false) : RenOk z f ss bs := by
  have lb := P.lb
  have n5 := P.p.n5
  refine ⟨hf, hz, by omega, hm, ?_⟩
  obtain ⟨⟨a, _⟩, b, _⟩ := rnP_ok P.p.par hw bs.length (by omega)
  rw [a, b]; rfl
theorem renOk2 {cs ss bs : List Nat} (P : Pop cs ss bs) : RenOk z2 f2 ss bs := ren_ok P wb2 muls2 (by decide +kernel) (by decide +kernel)
theorem renOk4 {cs ss bs : List Nat} (P : Pop cs ss bs) : RenOk z4 f4 ss bs := ren_ok P wb4 muls4 (by decide +kernel) (by decide +kernel)
theorem renOkI {cs ss bs : List Nat} (P : Pop cs ss bs) : RenOk zI fI ss bs := ren_ok P wbI mulsI (by decide +kernel) (by decide +kernel)
end Go.Proofs.Ytemeaobpedfkmaa
