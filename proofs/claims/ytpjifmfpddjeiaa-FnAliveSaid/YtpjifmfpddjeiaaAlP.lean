/- Lives and pays for life, nearly: plain laws. -/
import Derived.Test.YtpjifmfpddjeiaaAbsM4
set_option maxRecDepth 10000
set_option maxHeartbeats 2000000
set_option linter.unusedSimpArgs false
set_option linter.unusedVariables false
namespace Go.Proofs.Ytpjifmfpddjeiaa
open Go Go.Abs

theorem one_val : fval .f32 one32 = 1 := by
  have e : iF 1 = one32 := by decide +kernel
  rw [← e, iF_val (by decide)]; rfl
theorem fin_one : finB .f32 one32 = true := by decide +kernel
theorem fin_z : finB .f32 0 = true := by decide +kernel
def dlt : Rat := p2 (-19)
theorem dlt_ok : 0 < dlt ∧ dlt * 524288 = 1 := by
  refine ⟨p2_pos _, ?_⟩
  have : p2 19 = 524288 := p2_nat 19
  show p2 (-19) * 524288 = 1
  rw [← this, ← p2_add]; rfl
structure Ev (n X : Rat) (x : Nat) : Prop where
  fin : finB .f32 x = true
  up : fval .f32 x - X ≤ n * dlt
  lo : X - fval .f32 x ≤ n * dlt
theorem p2_16 : p2 4 = 16 := p2_nat 4
theorem ev_rn {v : Rat} {x : Nat} (r : Rn .f32 v x) (h : ab v ≤ 16) : Ev 1 v x := by
  have x1 := r.e1
  have x2 := r.e2
  have g1 : ((fb .f32 + 1 : Nat) : Int) = 24 := rfl
  have g2 : least .f32 - 1 = -150 := rfl
  rw [g1, g2] at x1 x2
  have m := Rat.mul_le_mul_of_nonneg_left h (Rat.le_of_lt (p2_pos (-24)))
  rw [← p2_16, ← p2_add] at m
  have e1 : p2 (-24 + 4) = p2 (-20) := rfl
  rw [e1] at m
  have t1 := p2_mono (show (-150 : Int) ≤ -20 by decide)
  have t2 : dlt = 2 * p2 (-20) := by
    have : p2 1 = 2 := rfl
    show p2 (-19) = _
    rw [← this, ← p2_add]; rfl
  have rf := r.fin
  clear r h g1 g2 e1
  generalize p2 (-24) * ab v = U at *
  generalize p2 (-20) = w at *
  generalize p2 (-150) = z at *
  refine ⟨rf, ?_, ?_⟩ <;> rw [t2] <;> grind
theorem ev_exact {x : Nat} (h : finB .f32 x = true) : Ev 0 (fval .f32 x) x := ⟨h, by grind, by grind⟩
theorem ev_more {a b X : Rat} {x : Nat} (h : Ev a X x) (hab : a ≤ b) : Ev b X x := by
  have m := Rat.mul_le_mul_of_nonneg_right hab (Rat.le_of_lt dlt_ok.1)
  have u := h.up
  have l := h.lo
  exact ⟨h.fin, by clear h; grind, by clear h; grind⟩
theorem top16 {v : Rat} (h : ab v ≤ 16) : ab v < p2 (top .f32) := lt_top32 (t := 4) (by rw [p2_16]; exact h) (by decide)
theorem ev_add {a b X Y : Rat} {x y : Nat} (hx : Ev a X x) (hy : Ev b Y y) (h : ab (fval .f32 x + fval .f32 y) ≤ 16) : Ev (a + b + 1) (X + Y) (fadd .f32 x y) := by
  have e := ev_rn (rn_add hx.fin hy.fin (top16 h)) h
  have u1 := hx.up
  have l1 := hx.lo
  have u2 := hy.up
  have l2 := hy.lo
  have u3 := e.up
  have l3 := e.lo
  have f := e.fin
  clear hx hy e h
  refine ⟨f, ?_, ?_⟩ <;> grind
theorem ev_sub {a b X Y : Rat} {x y : Nat} (hx : Ev a X x) (hy : Ev b Y y) (h : ab (fval .f32 x - fval .f32 y) ≤ 16) : Ev (a + b + 1) (X - Y) (fsub .f32 x y) := by
  have e := ev_rn (rn_sub hx.fin hy.fin (top16 h)) h
  have u1 := hx.up
  have l1 := hx.lo
  have u2 := hy.up
  have l2 := hy.lo
  have u3 := e.up
  have l3 := e.lo
  have f := e.fin
  clear hx hy e h
  refine ⟨f, ?_, ?_⟩ <;> grind
theorem ev_mul {a b X Y B : Rat} {x y : Nat} (hx : Ev a X x) (hy : Ev b Y y) (a0 : 0 ≤ a) (b0 : 0 ≤ b) (y0 : 0 ≤ fval .f32 y) (yB : fval .f32 y ≤ B) (X0 : 0 ≤ X) (X1 : X ≤ 1) (h : ab (fval .f32 x * fval .f32 y) ≤ 16) : Ev (a * B + b + 1) (X * Y) (fmul .f32 x y) := by
  have e := ev_rn (rn_mul hx.fin hy.fin (top16 h)) h
  have d0 := dlt_ok.1
  have u1 := Rat.mul_le_mul_of_nonneg_right hx.up y0
  have l1 := Rat.mul_le_mul_of_nonneg_right hx.lo y0
  have u2 := Rat.mul_le_mul_of_nonneg_left hy.up X0
  have l2 := Rat.mul_le_mul_of_nonneg_left hy.lo X0
  have bd := Rat.mul_nonneg b0 (Rat.le_of_lt d0)
  have ad := Rat.mul_nonneg a0 (Rat.le_of_lt d0)
  have m1 := Rat.mul_le_mul_of_nonneg_right X1 bd
  have m2 := Rat.mul_le_mul_of_nonneg_left yB ad
  have u3 := e.up
  have l3 := e.lo
  have f := e.fin
  have e1 : fval .f32 x * fval .f32 y - X * Y = (fval .f32 x - X) * fval .f32 y + X * (fval .f32 y - Y) := by clear hx hy e; grind
  have e2 : X * Y - fval .f32 x * fval .f32 y = (X - fval .f32 x) * fval .f32 y + X * (Y - fval .f32 y) := by clear hx hy e; grind
  have e3 : (a * B + b + 1) * dlt = a * dlt * B + b * dlt + 1 * dlt := by clear hx hy e; grind
  clear hx hy e h X1 yB
  refine ⟨f, ?_, ?_⟩ <;> rw [e3]
  · have k1 : fval .f32 x * fval .f32 y - X * Y ≤ a * dlt * B + b * dlt := by
      rw [e1]
      generalize (fval .f32 x - X) * fval .f32 y = p at *
      generalize X * (fval .f32 y - Y) = q at *
      clear e2 l1 l2 u3 l3 e1
      grind
    clear e1 e2 u1 u2 l1 l2 m1 m2
    grind
  · have k1 : X * Y - fval .f32 x * fval .f32 y ≤ a * dlt * B + b * dlt := by
      rw [e2]
      generalize (X - fval .f32 x) * fval .f32 y = p at *
      generalize X * (Y - fval .f32 y) = q at *
      clear e1 u1 u2 u3 l3 e2
      grind
    clear e1 e2 u1 u2 l1 l2 m1 m2
    grind
structure U01 (x : Nat) : Prop where
  fin : finB .f32 x = true
  lo : 0 ≤ fval .f32 x
  up : fval .f32 x ≤ 1
theorem rep0 : Rep .f32 0 := ⟨false, 0, 0, by decide, by decide, by simp⟩
theorem rep1 : Rep .f32 1 := ⟨false, 1, 0, by decide, by decide, by simp [sg, p2_zero]⟩
theorem mul01 {a b : Rat} (a0 : 0 ≤ a) (a1 : a ≤ 1) (b0 : 0 ≤ b) : 0 ≤ a * b ∧ a * b ≤ b := by
  have h1 := Rat.mul_nonneg a0 b0
  have h2 := Rat.mul_le_mul_of_nonneg_right a1 b0
  exact ⟨h1, by grind⟩
theorem u_mul {x y : Nat} (hx : U01 x) (hy : U01 y) : U01 (fmul .f32 x y) ∧ fval .f32 (fmul .f32 x y) ≤ fval .f32 x ∧ fval .f32 (fmul .f32 x y) ≤ fval .f32 y := by
  obtain ⟨m0, m1⟩ := mul01 hx.lo hx.up hy.lo
  obtain ⟨_, m2⟩ := mul01 hy.lo hy.up hx.lo
  rw [Rat.mul_comm] at m2
  have hy1 := hy.up
  have r := rn_mul hx.fin hy.fin (top16 (by rw [ab_of m0]; grind))
  have l := r.lo 0 rep0 m0
  have u1 := r.up _ (rep_val32 hy.fin) m1
  have u2 := r.up _ (rep_val32 hx.fin) m2
  exact ⟨⟨r.fin, l, by grind⟩, u2, u1⟩
theorem u_not {x : Nat} (hx : U01 x) : U01 (fsub .f32 one32 x) ∧ Ev 1 (1 - fval .f32 x) (fsub .f32 one32 x) := by
  have l := hx.lo
  have u := hx.up
  have hb : ab (fval .f32 one32 - fval .f32 x) ≤ 16 := by rw [one_val]; exact ab_le (by grind) (by grind)
  have r := rn_sub fin_one hx.fin (top16 hb)
  have e := ev_rn r hb
  rw [one_val] at r e
  exact ⟨⟨r.fin, r.lo 0 rep0 (by grind), r.up 1 rep1 (by grind)⟩, e⟩
theorem u_one : U01 one32 := ⟨fin_one, by rw [one_val]; decide, by rw [one_val]; decide⟩
def shF (q : List Nat) : Nat → Nat
  | 0 => one32
  | i + 1 => fmul .f32 (shF q i) (fsub .f32 one32 (q.getD i 0))
def sE (q : List Nat) : Nat → Rat
  | 0 => 1
  | i + 1 => sE q i * (1 - fval .f32 (q.getD i 0))
structure Tab (q : List Nat) : Prop where
  one : 1 ≤ q.length
  six : q.length ≤ 6
  u : ∀ i, i < q.length → U01 (q.getD i 0)
  last : q.getD (q.length - 1) 0 = one32
theorem sE_u {q : List Nat} (T : Tab q) : ∀ i, i ≤ q.length → 0 ≤ sE q i ∧ sE q i ≤ 1
  | 0, _ => by
    have e : sE q 0 = 1 := rfl
    rw [e]
    exact ⟨by grind, by grind⟩
  | i + 1, h => by
    obtain ⟨a, b⟩ := sE_u T i (by omega)
    have u := T.u i (by omega)
    have u1 := u.lo
    have u2 := u.up
    obtain ⟨m0, m1⟩ := mul01 a b (show 0 ≤ 1 - fval .f32 (q.getD i 0) by clear T u; grind)
    refine ⟨m0, ?_⟩
    show sE q i * (1 - fval .f32 (q.getD i 0)) ≤ 1
    clear T u
    grind
theorem sh_ok {q : List Nat} (T : Tab q) : ∀ i, i ≤ q.length → U01 (shF q i) ∧ Ev (2 * (i : Rat)) (sE q i) (shF q i)
  | 0, _ => by
    refine ⟨u_one, ?_⟩
    have e := ev_exact fin_one
    rw [one_val] at e
    have e0 : 2 * ((0 : Nat) : Rat) = 0 := by
      have : ((0 : Nat) : Rat) = 0 := rfl
      rw [this]; grind
    rw [e0]
    exact e
  | i + 1, h => by
    obtain ⟨a, b⟩ := sh_ok T i (by omega)
    obtain ⟨n, ne⟩ := u_not (T.u i (by omega))
    obtain ⟨s0, s1⟩ := sE_u T i (by omega)
    have i0 : (0 : Rat) ≤ (i : Rat) := by exact_mod_cast Nat.zero_le i
    obtain ⟨m, m1, _⟩ := u_mul a n
    obtain ⟨p0, p1⟩ := mul01 a.lo a.up n.lo
    have nu := n.up
    have e := ev_mul b ne (by grind) (by grind) n.lo n.up s0 s1 (by rw [ab_of p0]; grind)
    refine ⟨m, ?_⟩
    have ei : ((i + 1 : Nat) : Rat) = (i : Rat) + 1 := Rat.natCast_add _ _
    rw [ei]
    exact ev_more e (by grind)
def pF (f : Nat) : Nat → Nat
  | 0 => one32
  | i + 1 => fmul .f32 (pF f i) f
def pE (φ : Rat) : Nat → Rat
  | 0 => 1
  | i + 1 => pE φ i * φ
theorem pE_u {φ : Rat} (h0 : 0 ≤ φ) (h1 : φ ≤ 1) : ∀ i, 0 ≤ pE φ i ∧ pE φ i ≤ 1
  | 0 => by
    have e : pE φ 0 = 1 := rfl
    rw [e]
    exact ⟨by grind, by grind⟩
  | i + 1 => by
    obtain ⟨a, b⟩ := pE_u h0 h1 i
    obtain ⟨m0, m1⟩ := mul01 a b h0
    refine ⟨m0, ?_⟩
    show pE φ i * φ ≤ 1
    grind
theorem p_ok {f : Nat} (F : U01 f) : ∀ i, U01 (pF f i) ∧ Ev (i : Rat) (pE (fval .f32 f) i) (pF f i)
  | 0 => by
    refine ⟨u_one, ?_⟩
    have e := ev_exact fin_one
    rw [one_val] at e
    exact e
  | i + 1 => by
    obtain ⟨a, b⟩ := p_ok F i
    obtain ⟨s0, s1⟩ := pE_u F.lo F.up i
    obtain ⟨m, _, _⟩ := u_mul a F
    obtain ⟨p0, p1⟩ := mul01 a.lo a.up F.lo
    have i0 : (0 : Rat) ≤ (i : Rat) := by exact_mod_cast Nat.zero_le i
    have Fu := F.up
    have e := ev_mul b (ev_exact F.fin) i0 (by decide) F.lo F.up s0 s1 (by rw [ab_of p0]; clear b a m F; grind)
    refine ⟨m, ?_⟩
    have ei : ((i + 1 : Nat) : Rat) = (i : Rat) + 1 := Rat.natCast_add _ _
    rw [ei]
    exact ev_more e (by clear e b a m F; grind)
def prF (S : List Nat) (f w : Nat) : Nat → Nat
  | 0 => 0
  | i + 1 => if w ≤ i then fadd .f32 (prF S f w i) (fmul .f32 (S.getD i 0) (pF f i)) else prF S f w i
def prE (X : Nat → Rat) (φ : Rat) (w : Nat) : Nat → Rat
  | 0 => 0
  | i + 1 => if w ≤ i then prE X φ w i + X i * pE φ i else prE X φ w i
structure U02 (x : Nat) : Prop where
  fin : finB .f32 x = true
  lo : 0 ≤ fval .f32 x
  up : fval .f32 x ≤ 2
theorem U01.two {x : Nat} (h : U01 x) : U02 x := ⟨h.fin, h.lo, by have := h.up; clear h; grind⟩
structure Shs (S : List Nat) (X : Nat → Rat) (n : Nat) : Prop where
  u : ∀ i, i < n → U02 (S.getD i 0)
  x0 : ∀ i, i < n → 0 ≤ X i
  x1 : ∀ i, i < n → X i ≤ 1
  ev : ∀ i, i < n → Ev 3 (X i) (S.getD i 0)
theorem nat_rep (i : Nat) (h : i ≤ 100) : Rep .f32 (i : Rat) := ⟨false, i, 0, by show i < 2 ^ 24; omega, by decide, by simp [sg, p2_zero]⟩
theorem pr_ok {S : List Nat} {X : Nat → Rat} {n : Nat} (H : Shs S X n) (hn : n ≤ 6) {f : Nat} (F : U01 f) (w : Nat) : ∀ i, i ≤ n → finB .f32 (prF S f w i) = true ∧ 0 ≤ fval .f32 (prF S f w i) ∧ fval .f32 (prF S f w i) ≤ 2 * (i : Rat) ∧ Ev (10 * (i : Rat)) (prE X (fval .f32 f) w i) (prF S f w i) ∧ (1 ≤ i → w = 0 → S.getD 0 0 = one32 → 1 ≤ fval .f32 (prF S f w i))
  | 0, _ => by
    have e : prF S f w 0 = 0 := rfl
    have e2 : prE X (fval .f32 f) w 0 = 0 := rfl
    have e0 : ((0 : Nat) : Rat) = 0 := rfl
    have ev := ev_exact fin_z
    rw [fval_zero] at ev
    rw [e, e2, fval_zero, e0]
    exact ⟨fin_z, by grind, by grind, ev_more ev (by grind), fun h => by omega⟩
  | i + 1, h => by
    obtain ⟨a, b, c, d, g⟩ := pr_ok H hn F w i (by omega)
    have ei : ((i + 1 : Nat) : Rat) = (i : Rat) + 1 := Rat.natCast_add _ _
    have i0 : (0 : Rat) ≤ (i : Rat) := by exact_mod_cast Nat.zero_le i
    have i5 : (i : Rat) ≤ 5 := cast_le (show i ≤ 5 by omega)
    rw [prF, prE, ei]
    by_cases hw : w ≤ i
    · rw [if_pos hw, if_pos hw]
      obtain ⟨pu, pe⟩ := p_ok F i
      have su := H.u i (by omega)
      have s0 := su.lo
      have s2 := su.up
      obtain ⟨p0, p1⟩ := mul01 pu.lo pu.up s0
      rw [Rat.mul_comm] at p0 p1
      have tb : ab (fval .f32 (S.getD i 0) * fval .f32 (pF f i)) ≤ 16 := by rw [ab_of p0]; clear pe su H d F pu g; grind
      have te := ev_mul (H.ev i (by omega)) pe (by decide) i0 pu.lo pu.up (H.x0 i (by omega)) (H.x1 i (by omega)) tb
      have rm := rn_mul su.fin pu.fin (top16 tb)
      have ml := rm.lo 0 rep0 p0
      have mu := rm.up _ (rep_val32 su.fin) p1
      have mf := rm.fin
      have hb : ab (fval .f32 (prF S f w i) + fval .f32 (fmul .f32 (S.getD i 0) (pF f i))) ≤ 16 := by
        clear te pe su rm H d F pu g
        exact ab_le (by grind) (by grind)
      have se := ev_add d te hb
      have r := rn_add a mf (top16 hb)
      have l := r.lo 0 rep0 (by clear te pe su rm H d F pu se r g; grind)
      have two : ((2 * (i + 1) : Nat) : Rat) = 2 * ((i : Rat) + 1) := by rw [Rat.natCast_mul, ei]; rfl
      have u := r.up ((2 * (i + 1) : Nat) : Rat) (nat_rep (2 * (i + 1)) (by omega)) (by rw [two]; clear te pe su rm H d F pu se r g; grind)
      rw [two] at u
      refine ⟨r.fin, l, u, ev_more se (by clear te pe su rm H d F pu se r g; grind), fun _ w0 hS => ?_⟩
      by_cases h1 : 1 ≤ i
      · have g1 := g h1 w0 hS
        exact r.lo 1 rep1 (by clear te pe su rm H d F pu se r g; grind)
      · have hi0 : i = 0 := by omega
        subst hi0
        have e1 : prF S f w 0 = 0 := rfl
        have e2 : pF f 0 = one32 := rfl
        have e3 : fadd .f32 0 (fmul .f32 one32 one32) = one32 := by decide +kernel
        rw [e1, e2, hS, e3, one_val]
        decide
    · rw [if_neg hw, if_neg hw]
      exact ⟨a, b, by clear d H F g; grind, ev_more d (by clear d H F g; grind), fun _ w0 => by omega⟩
theorem prE_mono {X Y : Nat → Rat} {φ : Rat} (h0 : 0 ≤ φ) (h1 : φ ≤ 1) (w : Nat) {n : Nat} (h : ∀ i, i < n → X i ≤ Y i) : ∀ i, i ≤ n → prE X φ w i ≤ prE Y φ w i
  | 0, _ => Rat.le_refl
  | i + 1, hi => by
    have ih := prE_mono h0 h1 w h i (by omega)
    have m := Rat.mul_le_mul_of_nonneg_right (h i (by omega)) (pE_u h0 h1 i).1
    rw [prE, prE]
    split
    · clear h; grind
    · exact ih
theorem prE_add {X Y Z W : Nat → Rat} {φ : Rat} (w : Nat) {n : Nat} (h : ∀ i, i < n → X i + Y i = Z i + W i) : ∀ i, i ≤ n → prE X φ w i + prE Y φ w i = prE Z φ w i + prE W φ w i
  | 0, _ => rfl
  | i + 1, hi => by
    have ih := prE_add (φ := φ) w h i (by omega)
    have m : X i * pE φ i + Y i * pE φ i = Z i * pE φ i + W i * pE φ i := by rw [← Rat.add_mul, ← Rat.add_mul, h i (by omega)]
    rw [prE, prE, prE, prE]
    split
    · clear h
      generalize X i * pE φ i = a at *
      generalize Y i * pE φ i = b at *
      generalize Z i * pE φ i = c at *
      generalize W i * pE φ i = d at *
      grind
    · exact ih
theorem prE_wait {X : Nat → Rat} {φ : Rat} (h0 : 0 ≤ φ) (h1 : φ ≤ 1) (w : Nat) {n : Nat} (h : ∀ i, i < n → 0 ≤ X i) : ∀ i, i ≤ n → prE X φ w i ≤ prE X φ 0 i
  | 0, _ => Rat.le_refl
  | i + 1, hi => by
    have ih := prE_wait h0 h1 w h i (by omega)
    have m := Rat.mul_nonneg (h i (by omega)) (pE_u h0 h1 i).1
    rw [prE, prE, if_pos (Nat.zero_le i)]
    split <;> clear h <;> grind
theorem prE_flat {X : Nat → Rat} {φ : Rat} (h0 : 0 ≤ φ) (h1 : φ ≤ 1) (w : Nat) {n : Nat} (h : ∀ i, i < n → 0 ≤ X i) : ∀ i, i ≤ n → prE X φ w i ≤ prE X 1 w i
  | 0, _ => Rat.le_refl
  | i + 1, hi => by
    have ih := prE_flat h0 h1 w h i (by omega)
    have one : pE 1 i = 1 := by
      clear ih hi
      induction i with
      | zero => rfl
      | succ i ih => rw [pE, ih, Rat.mul_one]
    have m := Rat.mul_le_mul_of_nonneg_left (pE_u h0 h1 i).2 (h i (by omega))
    rw [prE, prE, one]
    split
    · clear h; grind
    · exact ih
end Go.Proofs.Ytpjifmfpddjeiaa
