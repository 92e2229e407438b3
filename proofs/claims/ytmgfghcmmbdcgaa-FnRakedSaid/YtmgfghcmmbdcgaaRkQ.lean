/- Raked weights, nearly: sums of groups, and one raking. -/
import Derived.Test.YtmgfghcmmbdcgaaRkP
set_option maxRecDepth 10000
set_option maxHeartbeats 2000000
set_option linter.unusedSimpArgs false
set_option linter.unusedVariables false
namespace Go.Proofs.Ytmgfghcmmbdcgaa
open Go Go.Abs

theorem rep_val32 {x : Nat} (h : finB .f32 x = true) : Rep .f32 (fval .f32 x) := by
  obtain ⟨s, m, e, hd⟩ := fin_num h
  obtain ⟨b1, b2, b3⟩ := read_single x s m e hd
  exact ⟨s, m, e, by show m < 2 ^ 24; omega, b2, fval_of hd⟩
structure Wts (n : Nat) (a b : Int) (W : List Nat) : Prop where
  len : W.length = n
  fin : ∀ j, j < n → finB .f32 (W.getD j 0) = true
  lo : ∀ j, j < n → p2 (-a) ≤ fval .f32 (W.getD j 0)
  up : ∀ j, j < n → fval .f32 (W.getD j 0) ≤ p2 b
def tG (W : List Nat) (gs : List Int) (k : Int) : Nat → Rat
  | 0 => 0
  | i + 1 => if gs.getD i 0 = k then tG W gs k i + fval .f32 (W.getD i 0) else tG W gs k i
theorem tG_nonneg {n : Nat} {a b : Int} {W : List Nat} (H : Wts n a b W) (gs : List Int) (k : Int) : ∀ i, i ≤ n → 0 ≤ tG W gs k i
  | 0, _ => Rat.le_refl
  | i + 1, h => by
    have ih := tG_nonneg H gs k i (by omega)
    have := H.lo i (by omega)
    have := p2_pos (-a)
    rw [tG]
    split <;> grind
structure SumOk (b : Int) (W : List Nat) (gs : List Int) (k : Int) (i : Nat) : Prop where
  fin : finB .f32 (sumG W gs k i) = true
  nn : 0 ≤ fval .f32 (sumG W gs k i)
  up : fval .f32 (sumG W gs k i) ≤ (i : Rat) * p2 b
  mem : ∀ j, j < i → gs.getD j 0 = k → fval .f32 (W.getD j 0) ≤ fval .f32 (sumG W gs k i)
  apx : Apx (2 * (i : Rat)) (tG W gs k i) (fval .f32 (sumG W gs k i))
theorem sum_ok {n : Nat} {a b : Int} {W : List Nat} (H : Wts n a b W) (hn : n ≤ 9) (ha : a ≤ 95) (b0 : 0 ≤ b) (b6 : b ≤ 6) (gs : List Int) (k : Int) : ∀ i, i ≤ n → SumOk b W gs k i
  | 0, _ => by
    have e : fval .f32 (sumG W gs k 0) = 0 := fval_zero _
    refine ⟨(by decide +kernel : finB .f32 0 = true), by rw [e]; exact Rat.le_refl, by rw [e]; exact mag_nonneg 0 b, fun j hj => absurd hj (by omega), ?_⟩
    rw [e]
    have e0 : tG W gs k 0 = 0 := rfl
    rw [e0]
    constructor <;> grind
  | i + 1, h => by
    have S := sum_ok H hn ha b0 b6 gs k i (by omega)
    have e1 : ((i + 1 : Nat) : Rat) = (i : Rat) + 1 := Rat.natCast_add _ _
    have p4 := p2_pos b
    have hi0 : (0 : Rat) ≤ (i : Rat) := by exact_mod_cast Nat.zero_le i
    have hi9 : (i : Rat) ≤ 9 := cast_le (show i ≤ 9 by omega)
    have tn := tG_nonneg H gs k i (by omega)
    have e0 := ep_pos
    by_cases c : gs.getD i 0 = k
    · have es : sumG W gs k (i + 1) = fadd .f32 (sumG W gs k i) (W.getD i 0) := by rw [sumG, if_pos c]
      have et : tG W gs k (i + 1) = tG W gs k i + fval .f32 (W.getD i 0) := by rw [tG, if_pos c]
      have wf := H.fin i (by omega)
      have wl := H.lo i (by omega)
      have wu := H.up i (by omega)
      have pa := p2_pos (-a)
      have hb : fval .f32 (sumG W gs k i) + fval .f32 (W.getD i 0) ≤ ((i + 1 : Nat) : Rat) * p2 b := by
        have := S.up
        rw [e1]
        grind
      have h0 : 0 ≤ fval .f32 (sumG W gs k i) + fval .f32 (W.getD i 0) := by have := S.nn; grind
      have ht : ((i + 1 : Nat) : Rat) * p2 b ≤ p2 10 := by
        have a1 := cast_le (show i + 1 ≤ 2 ^ 4 by omega)
        rw [← p2_nat] at a1
        have a2 := mul_le_r (Rat.le_of_lt p4) a1
        rw [← p2_add] at a2
        have a3 := p2_mono (show ((4 : Nat) : Int) + b ≤ 10 by omega)
        grind
      have r := rn_add S.fin wf (by rw [ab_of h0]; exact lt_top32 (t := 10) (by grind) (by decide))
      have u := r.up _ ⟨false, i + 1, b, by show i + 1 < 2 ^ 24; omega, by show (-149 : Int) ≤ b; omega, by simp [sg]⟩ hb
      have l1 := r.lo _ (rep_val32 wf) (by have := S.nn; grind)
      have l2 := r.lo _ (rep_val32 S.fin) (by grind)
      have pl : p2 (-100) ≤ p2 (-a) := p2_mono (by omega)
      have rl := rel32 r (by have := S.nn; grind)
      refine ⟨by rw [es]; exact r.fin, by rw [es]; have := S.nn; grind, by rw [es]; exact u, fun j hj hg => ?_, ?_⟩ <;> rw [es]
      · by_cases c2 : j = i
        · subst c2; exact l1
        · have := S.mem j (by omega) hg
          grind
      · have := apx_step (c := 2 * (i : Rat)) (by grind) (by grind) tn (by grind) S.nn S.apx rl.1 rl.2
        rw [e1, et]
        have ee : 2 * ((i : Rat) + 1) = 2 * (i : Rat) + 2 := by grind
        rw [ee]
        exact this
    · have es : sumG W gs k (i + 1) = sumG W gs k i := by rw [sumG, if_neg c]
      have et : tG W gs k (i + 1) = tG W gs k i := by rw [tG, if_neg c]
      refine ⟨by rw [es]; exact S.fin, by rw [es]; exact S.nn, ?_, fun j hj hg => ?_, ?_⟩ <;> rw [es]
      · have := S.up
        rw [e1]
        grind
      · by_cases c2 : j = i
        · subst c2; exact absurd hg c
        · exact S.mem j (by omega) hg
      · obtain ⟨b1, b2⟩ := S.apx
        have m := Rat.mul_nonneg (Rat.le_of_lt e0) tn
        rw [e1, et]
        constructor <;> grind
def rkE (W : List Nat) (gs : List Int) (aims : List Nat) (n j : Nat) : Nat := fmul .f32 (W.getD j 0) (fdiv .f32 (aims.getD (gs.getD j 0).toNat 0) (sumG W gs (gs.getD j 0) n))
theorem sumG_ext {W W' : List Nat} {gs : List Int} {k : Int} : ∀ i, (∀ j, j < i → gs.getD j 0 = k → W.getD j 0 = W'.getD j 0) → sumG W gs k i = sumG W' gs k i
  | 0, _ => rfl
  | i + 1, h => by
    rw [sumG, sumG, sumG_ext i fun j hj => h j (by omega)]
    split
    · rename_i c
      rw [h i (by omega) c]
    · rfl
theorem mulL_getD (ws : List Nat) (gs : List Int) (k : Int) (y : Nat) (j : Nat) (h : j < ws.length) : (mulL ws gs k y).getD j 0 = mulG ws gs k y j := by
  simp [mulL, h]
theorem rkG_get {W : List Nat} {gs : List Int} {aims : List Nat} {n : Nat} (hl : W.length = n) (hg : ∀ j, j < n → 0 ≤ gs.getD j 0) : ∀ g j, j < n → (rkG W gs aims g).getD j 0 = if gs.getD j 0 < (g : Int) then rkE W gs aims n j else W.getD j 0
  | 0, j, hj => by
    have := hg j hj
    rw [rkG, if_neg (by omega)]
  | g + 1, j, hj => by
    have ih := rkG_get (aims := aims) hl hg g
    have hlen := rkG_len W gs aims g
    rw [rkG, mulL_getD _ _ _ _ _ (by omega), mulG]
    have es : sumG (rkG W gs aims g) gs (g : Int) (rkG W gs aims g).length = sumG W gs (g : Int) n := by
      rw [hlen, hl]
      refine sumG_ext n fun i hi c => ?_
      rw [ih i hi, if_neg (by omega)]
    by_cases c : gs.getD j 0 = (g : Int)
    · rw [if_pos c, ih j hj, if_neg (by omega), if_pos (by omega), es, rkE, c, Int.toNat_natCast]
    · rw [if_neg c, ih j hj]
      have e : (gs.getD j 0 < (g : Int)) ↔ (gs.getD j 0 < ((g + 1 : Nat) : Int)) := by omega
      by_cases c2 : gs.getD j 0 < (g : Int)
      · rw [if_pos c2, if_pos (e.1 c2)]
      · rw [if_neg c2, if_neg (fun h => c2 (e.2 h))]
structure Aim (aims : List Nat) : Prop where
  fin : ∀ g, g < aims.length → finB .f32 (aims.getD g 0) = true
  lo : ∀ g, g < aims.length → p2 (-1) ≤ fval .f32 (aims.getD g 0)
  up : ∀ g, g < aims.length → fval .f32 (aims.getD g 0) ≤ 40
structure Grp (gs : List Int) (c n : Nat) : Prop where
  len : gs.length = n
  at_ : ∀ j, j < n → 0 ≤ gs.getD j 0 ∧ gs.getD j 0 < c
  all : ∀ g : Nat, g < c → ∃ j, j < n ∧ gs.getD j 0 = (g : Int)
theorem elem_ok {n : Nat} {a b : Int} {W : List Nat} (H : Wts n a b W) (hn : n ≤ 9) (ha0 : 0 ≤ a) (ha : a ≤ 80) (b0 : 0 ≤ b) (b6 : b ≤ 6) {gs : List Int} {aims : List Nat} (A : Aim aims) (G : Grp gs aims.length n) {j : Nat} (hj : j < n) :
    ∃ y, rkE W gs aims n j = fmul .f32 (W.getD j 0) y ∧ y = fdiv .f32 (aims.getD (gs.getD j 0).toNat 0) (sumG W gs (gs.getD j 0) n) ∧ finB .f32 y = true ∧ 0 < fval .f32 (sumG W gs (gs.getD j 0) n) ∧
      Apx 1 (fval .f32 (aims.getD (gs.getD j 0).toNat 0) / fval .f32 (sumG W gs (gs.getD j 0) n)) (fval .f32 y) ∧ 0 ≤ fval .f32 y ∧
      finB .f32 (rkE W gs aims n j) = true ∧ p2 (-(a + 11)) ≤ fval .f32 (rkE W gs aims n j) ∧ fval .f32 (rkE W gs aims n j) ≤ p2 6 ∧ Apx 1 (fval .f32 (W.getD j 0) * fval .f32 y) (fval .f32 (rkE W gs aims n j)) := by
  obtain ⟨g0, g1⟩ := G.at_ j hj
  have S := sum_ok H hn (by omega) b0 b6 gs (gs.getD j 0) n (Nat.le_refl _)
  have hg : (gs.getD j 0).toNat < aims.length := by omega
  have af := A.fin _ hg
  have al := A.lo _ hg
  have au := A.up _ hg
  have wf := H.fin j hj
  have wl := H.lo j hj
  have wm := S.mem j hj rfl
  have pa := p2_pos (-a)
  have su := S.up
  have sf := S.fin
  unfold rkE
  generalize aims.getD (gs.getD j 0).toNat 0 = o at *
  generalize sumG W gs (gs.getD j 0) n = s at *
  generalize W.getD j 0 = w at *
  have s0 : 0 < fval .f32 s := by grind
  have s8 : fval .f32 s ≤ p2 10 := by
    have a1 := cast_le (show n ≤ 2 ^ 4 by omega)
    rw [← p2_nat] at a1
    have a2 := mul_le_r (Rat.le_of_lt (p2_pos b)) a1
    rw [← p2_add] at a2
    have a3 := p2_mono (show ((4 : Nat) : Int) + b ≤ 10 by omega)
    grind
  have pm1 : p2 (-1) * 2 = 1 := by rw [show (2 : Rat) = p2 1 from rfl, ← p2_add]; rfl
  have hm : fval .f32 o / fval .f32 s * fval .f32 s = fval .f32 o := Rat.div_mul_cancel (by grind)
  have e0 := ep_pos
  have es := ep_small
  -- the quotient's bounds
  have q1 : p2 (-11) ≤ fval .f32 o / fval .f32 s := by
    apply Classical.byContradiction
    intro hh
    have h6 := Rat.mul_lt_mul_of_pos_right (show fval .f32 o / fval .f32 s < p2 (-11) by grind) s0
    have h7 := Rat.mul_le_mul_of_nonneg_left s8 (Rat.le_of_lt (p2_pos (-11)))
    rw [← p2_add] at h7
    have : p2 (-11 + 10) = p2 (-1) := rfl
    grind
  have pq := p2_pos (-11)
  have q2 : fval .f32 o / fval .f32 s * fval .f32 w ≤ fval .f32 o := by
    have := Rat.mul_le_mul_of_nonneg_left wm (show 0 ≤ fval .f32 o / fval .f32 s by grind)
    grind
  have q3 : fval .f32 o / fval .f32 s ≤ p2 (a + 6) := by
    apply Classical.byContradiction
    intro hh
    have h6 := Rat.mul_lt_mul_of_pos_right (show p2 (a + 6) < fval .f32 o / fval .f32 s by grind) s0
    have h7 := Rat.mul_le_mul_of_nonneg_left (show p2 (-a) ≤ fval .f32 s by grind) (Rat.le_of_lt (p2_pos (a + 6)))
    rw [← p2_add, show a + 6 + -a = 6 by omega] at h7
    have : p2 6 = 64 := p2_nat 6
    grind
  have ry := rn_div (k := .f32) af sf (by grind) (by rw [ab_of (by grind)]; exact lt_top32 q3 (by omega))
  generalize fval .f32 o / fval .f32 s = q at *
  have y1 := rel32 ry (by have := p2_mono (show (-100 : Int) ≤ -11 by decide); grind)
  have y2 := ry.lo _ (rep_p2 _ (by decide)) q1
  have y3 := ry.up _ (rep_p2 _ (by show (-149 : Int) ≤ _; omega)) q3
  have yf := ry.fin
  generalize fdiv .f32 o s = y at *
  have q0 : 0 ≤ q := by grind
  have w0 : 0 ≤ fval .f32 w := by grind
  -- the product's bounds
  have p4 : p2 6 = 64 := p2_nat 6
  have z1 : fval .f32 w * fval .f32 y ≤ p2 6 := by
    have h := Rat.mul_le_mul_of_nonneg_left y1.1 w0
    have h2 := Rat.mul_le_mul_of_nonneg_left q2 (Rat.le_of_lt e0)
    have h3 := Rat.mul_le_mul_of_nonneg_left au (Rat.le_of_lt e0)
    grind
  have z2 : p2 (-(a + 11)) ≤ fval .f32 w * fval .f32 y := by
    have h := Rat.mul_le_mul_of_nonneg_left y2 w0
    have h2 := Rat.mul_le_mul_of_nonneg_right wl (Rat.le_of_lt pq)
    rw [← p2_add, show -a + -11 = -(a + 11) by omega] at h2
    grind
  have pz := p2_pos (-(a + 11))
  have ro := rn_mul (k := .f32) (x := w) (y := y) wf yf (by rw [ab_of (by grind)]; exact lt_top32 z1 (by decide))
  have o1 := ro.lo _ (rep_p2 _ (by show (-149 : Int) ≤ _; omega)) z2
  have o2 := ro.up _ (rep_p2 _ (by decide)) z1
  have o3 := rel32 ro (by have := p2_mono (show (-100 : Int) ≤ -(a + 11) by omega); grind)
  refine ⟨y, rfl, rfl, yf, s0, ⟨by grind, by grind⟩, by grind, ro.fin, o1, o2, ⟨by grind, by grind⟩⟩
theorem rake_ok {n : Nat} {a b : Int} {W : List Nat} (H : Wts n a b W) (hn : n ≤ 9) (ha0 : 0 ≤ a) (ha : a ≤ 80) (b0 : 0 ≤ b) (b6 : b ≤ 6) {gs : List Int} {aims : List Nat} (A : Aim aims) (G : Grp gs aims.length n) : Wts n (a + 11) 6 (rkG W gs aims aims.length) ∧ ∀ j, j < n → (rkG W gs aims aims.length).getD j 0 = rkE W gs aims n j := by
  have hget : ∀ j, j < n → (rkG W gs aims aims.length).getD j 0 = rkE W gs aims n j := fun j hj => by
    rw [rkG_get H.len (fun j hj => (G.at_ j hj).1) aims.length j hj, if_pos (G.at_ j hj).2]
  refine ⟨⟨by rw [rkG_len, H.len], fun j hj => ?_, fun j hj => ?_, fun j hj => ?_⟩, hget⟩ <;> rw [hget j hj] <;> obtain ⟨y, _, _, _, _, _, _, h1, h2, h3, _⟩ := elem_ok H hn ha0 ha b0 b6 A G hj
  · exact h1
  · exact h2
  · exact h3

def sumD (W : List Nat) (gs : List Int) (k : Int) : Nat → Nat
  | 0 => 0
  | i + 1 => if gs.getD i 0 = k then fadd .f64 (sumD W gs k i) (fconv .f64 .f32 (W.getD i 0)) else sumD W gs k i
structure SumDOk (b : Int) (W : List Nat) (gs : List Int) (k : Int) (i : Nat) : Prop where
  fin : finB .f64 (sumD W gs k i) = true
  nn : 0 ≤ fval .f64 (sumD W gs k i)
  up : fval .f64 (sumD W gs k i) ≤ (i : Rat) * p2 b
  apx : Apx (2 * (i : Rat)) (tG W gs k i) (fval .f64 (sumD W gs k i))
theorem sumD_ok {n : Nat} {a b : Int} {W : List Nat} (H : Wts n a b W) (hn : n ≤ 9) (ha : a ≤ 95) (b0 : 0 ≤ b) (b6 : b ≤ 6) (gs : List Int) (k : Int) : ∀ i, i ≤ n → SumDOk b W gs k i
  | 0, _ => by
    have e : fval .f64 (sumD W gs k 0) = 0 := fval_zero _
    refine ⟨(by decide +kernel : finB .f64 0 = true), by rw [e]; exact Rat.le_refl, by rw [e]; exact mag_nonneg 0 b, ?_⟩
    rw [e]
    have e0 : tG W gs k 0 = 0 := rfl
    rw [e0]
    constructor <;> grind
  | i + 1, h => by
    have S := sumD_ok H hn ha b0 b6 gs k i (by omega)
    have e1 : ((i + 1 : Nat) : Rat) = (i : Rat) + 1 := Rat.natCast_add _ _
    have p4 := p2_pos b
    have hi0 : (0 : Rat) ≤ (i : Rat) := by exact_mod_cast Nat.zero_le i
    have hi9 : (i : Rat) ≤ 9 := cast_le (show i ≤ 9 by omega)
    have tn := tG_nonneg H gs k i (by omega)
    have e0 := ep_pos
    by_cases c : gs.getD i 0 = k
    · have es : sumD W gs k (i + 1) = fadd .f64 (sumD W gs k i) (fconv .f64 .f32 (W.getD i 0)) := by rw [sumD, if_pos c]
      have et : tG W gs k (i + 1) = tG W gs k i + fval .f32 (W.getD i 0) := by rw [tG, if_pos c]
      obtain ⟨wr, wv⟩ := wide_rn (H.fin i (by omega))
      have wf := wr.fin
      have wl := H.lo i (by omega)
      have wu := H.up i (by omega)
      rw [← wv] at wl wu et
      generalize fconv .f64 .f32 (W.getD i 0) = w at *
      have pa := p2_pos (-a)
      have hb : fval .f64 (sumD W gs k i) + fval .f64 w ≤ ((i + 1 : Nat) : Rat) * p2 b := by
        have := S.up
        rw [e1]
        grind
      have h0 : 0 ≤ fval .f64 (sumD W gs k i) + fval .f64 w := by have := S.nn; grind
      have ht : ((i + 1 : Nat) : Rat) * p2 b ≤ p2 10 := by
        have a1 := cast_le (show i + 1 ≤ 2 ^ 4 by omega)
        rw [← p2_nat] at a1
        have a2 := mul_le_r (Rat.le_of_lt p4) a1
        rw [← p2_add] at a2
        have a3 := p2_mono (show ((4 : Nat) : Int) + b ≤ 10 by omega)
        grind
      have r := rn_add S.fin wf (by rw [ab_of h0]; exact lt_top64 (t := 10) (by grind) (by decide))
      have u := r.up _ ⟨false, i + 1, b, by show i + 1 < 2 ^ 53; omega, by show (-1074 : Int) ≤ b; omega, by simp [sg]⟩ hb
      have l0 := r.lo 0 ⟨false, 0, 0, by decide, by decide, by simp⟩ h0
      have pl : p2 (-200) ≤ p2 (-a) := p2_mono (by omega)
      have rl := rel64 r (by have := S.nn; grind)
      refine ⟨by rw [es]; exact r.fin, by rw [es]; exact l0, by rw [es]; exact u, ?_⟩
      rw [es]
      have := apx_step (c := 2 * (i : Rat)) (by grind) (by grind) tn (by grind) S.nn S.apx rl.1 rl.2
      rw [e1, et]
      have ee : 2 * ((i : Rat) + 1) = 2 * (i : Rat) + 2 := by grind
      rw [ee]
      exact this
    · have es : sumD W gs k (i + 1) = sumD W gs k i := by rw [sumD, if_neg c]
      have et : tG W gs k (i + 1) = tG W gs k i := by rw [tG, if_neg c]
      refine ⟨by rw [es]; exact S.fin, by rw [es]; exact S.nn, ?_, ?_⟩ <;> rw [es]
      · have := S.up
        rw [e1]
        grind
      · obtain ⟨b1, b2⟩ := S.apx
        have m := Rat.mul_nonneg (Rat.le_of_lt e0) tn
        rw [e1, et]
        constructor <;> grind
theorem tG_raked {n : Nat} {W W' : List Nat} {gs : List Int} {k : Int} {y : Rat} (hw : ∀ j, j < n → gs.getD j 0 = k → 0 ≤ fval .f32 (W.getD j 0) ∧ Apx 1 (fval .f32 (W.getD j 0) * y) (fval .f32 (W'.getD j 0))) : ∀ i, i ≤ n → Apx 1 (tG W gs k i * y) (tG W' gs k i)
  | 0, _ => by
    have e0 : tG W gs k 0 = 0 := rfl
    have e1 : tG W' gs k 0 = 0 := rfl
    rw [e0, e1]
    constructor <;> grind
  | i + 1, h => by
    obtain ⟨a1, a2⟩ := tG_raked hw i (by omega)
    rw [tG, tG]
    by_cases c : gs.getD i 0 = k
    · rw [if_pos c, if_pos c]
      obtain ⟨_, b1, b2⟩ := hw i (by omega) c
      constructor <;> grind
    · rw [if_neg c, if_neg c]
      exact ⟨a1, a2⟩
theorem raked_near {n : Nat} {a b : Int} {W : List Nat} (H : Wts n a b W) (hn : n ≤ 9) (ha0 : 0 ≤ a) (ha : a ≤ 80) (b0 : 0 ≤ b) (b6 : b ≤ 6) {gs : List Int} {aims : List Nat} (A : Aim aims) (G : Grp gs aims.length n) {g : Nat} (hg : g < aims.length) (ou : fval .f32 (aims.getD g 0) ≤ 15) :
    finB .f64 (sumD (rkG W gs aims aims.length) gs (g : Int) n) = true ∧ fval .f64 (sumD (rkG W gs aims aims.length) gs (g : Int) n) ≤ fval .f32 (aims.getD g 0) + p2 (-12) ∧ fval .f32 (aims.getD g 0) - p2 (-12) ≤ fval .f64 (sumD (rkG W gs aims aims.length) gs (g : Int) n) := by
  obtain ⟨H', hget⟩ := rake_ok H hn ha0 ha b0 b6 A G
  have D := sumD_ok H' hn (by omega) (by omega) (by omega) gs (g : Int) n (Nat.le_refl _)
  have S := sum_ok H hn (by omega) b0 b6 gs (g : Int) n (Nat.le_refl _)
  obtain ⟨j0, hj0, hgj0⟩ := G.all g hg
  obtain ⟨y, _, hy, _, s0, ya, yn, _⟩ := elem_ok H hn ha0 ha b0 b6 A G hj0
  rw [hgj0, Int.toNat_natCast] at hy ya
  rw [hgj0] at s0
  have T := tG_raked (n := n) (W := W) (W' := rkG W gs aims aims.length) (gs := gs) (k := (g : Int)) (y := fval .f32 y) (fun j hj c => by
    have := H.lo j hj
    have := p2_pos (-a)
    refine ⟨by grind, ?_⟩
    rw [hget j hj]
    obtain ⟨y', _, hy', _, _, _, _, _, _, _, h⟩ := elem_ok H hn ha0 ha b0 b6 A G hj
    rw [c, Int.toNat_natCast] at hy'
    rw [hy]
    rw [hy'] at h
    exact h) n (Nat.le_refl _)
  have tn := tG_nonneg H gs (g : Int) n (Nat.le_refl _)
  have tn' := tG_nonneg H' gs (g : Int) n (Nat.le_refl _)
  have ol := A.lo g hg
  have Sa := S.apx
  have Da := D.apx
  refine ⟨D.fin, ?_⟩
  have n9 : (n : Rat) ≤ 9 := cast_le (show n ≤ 9 by omega)
  have n0 : (0 : Rat) ≤ (n : Rat) := by exact_mod_cast Nat.zero_le n
  generalize fval .f64 (sumD (rkG W gs aims aims.length) gs (g : Int) n) = F at *
  generalize fval .f32 (aims.getD g 0) = o at *
  generalize fval .f32 (sumG W gs (g : Int) n) = s at *
  generalize tG W gs (g : Int) n = t at *
  generalize tG (rkG W gs aims aims.length) gs (g : Int) n = t' at *
  generalize fval .f32 y = y at *
  have hm : o / s * s = o := Rat.div_mul_cancel (by grind)
  generalize o / s = q at *
  have e0 := ep_pos
  have es := ep_small
  have q0 : 0 ≤ q := by
    apply Classical.byContradiction
    intro hh
    have := Rat.mul_lt_mul_of_pos_right (show q < 0 by grind) s0
    have := p2_pos (-1)
    grind
  have p12 : p2 (-12) * 4096 = 1 := by
    have h1 : p2 12 = 4096 := p2_nat 12
    rw [← h1, ← p2_add]; rfl
  obtain ⟨S1, S2⟩ := Sa
  obtain ⟨Y1, Y2⟩ := ya
  obtain ⟨T1, T2⟩ := T
  obtain ⟨D1, D2⟩ := Da
  -- z = q t is o, nearly
  have z0 : 0 ≤ q * t := Rat.mul_nonneg q0 tn
  have ez0 : 0 ≤ ep * (q * t) := Rat.mul_nonneg (Rat.le_of_lt e0) z0
  have k1 := Rat.mul_le_mul_of_nonneg_left S1 q0
  have k2 := Rat.mul_le_mul_of_nonneg_left S2 q0
  have k3 := Rat.mul_le_mul_of_nonneg_right n9 ez0
  clear H A G H' hget D S
  have ez : ep * (q * t) * 8388608 = q * t := by rw [Rat.mul_comm ep, Rat.mul_assoc, es, Rat.mul_one]
  have z2 : q * t ≤ 16 := by grind
  have k4 := Rat.mul_le_mul_of_nonneg_left z2 (Rat.le_of_lt e0)
  -- y t is z, nearly
  have k5 := Rat.mul_le_mul_of_nonneg_right Y1 tn
  have k6 := Rat.mul_le_mul_of_nonneg_right Y2 tn
  have yt0 : 0 ≤ t * y := Rat.mul_nonneg tn yn
  have ey : ep * (t * y) * 8388608 = t * y := by rw [Rat.mul_comm ep, Rat.mul_assoc, es, Rat.mul_one]
  have ey' : ep * t' * 8388608 = t' := by rw [Rat.mul_comm ep, Rat.mul_assoc, es, Rat.mul_one]
  have yt : t * y ≤ 17 := by grind
  have k7 := Rat.mul_le_mul_of_nonneg_left yt (Rat.le_of_lt e0)
  have t17 : t' ≤ 18 := by grind
  have k8 := Rat.mul_le_mul_of_nonneg_left t17 (Rat.le_of_lt e0)
  have et0 : 0 ≤ ep * t' := Rat.mul_nonneg (Rat.le_of_lt e0) tn'
  have k9 := Rat.mul_le_mul_of_nonneg_right n9 et0
  constructor <;> grind
end Go.Proofs.Ytmgfghcmmbdcgaa
