/- Raked weights, nearly: what is drawn, and what it comes to. -/
import Derived.Test.YtmgfghcmmbdcgaaRkQ
import Derived.Test.YtmgfghcmmbdcgaaRakeE
set_option maxRecDepth 10000
set_option maxHeartbeats 2000000
set_option linter.unusedSimpArgs false
set_option linter.unusedVariables false
namespace Go.Proofs.Ytmgfghcmmbdcgaa
open Go Go.Abs

def iF (z : Int) : Nat := canon .f32 (FloatKind.nearest .f32 z)
theorem iF_rn {z : Int} (h : z.natAbs ≤ 1048576) : Rn .f32 (z : Rat) (iF z) := by
  refine int_rn ?_
  have h1 := int_cast_le (show z ≤ 1048576 by omega)
  have h2 := int_cast_le (show -1048576 ≤ z by omega)
  have e1 : (((1048576 : Int)) : Rat) = 1048576 := rfl
  have e2 : (((-1048576 : Int)) : Rat) = -1048576 := rfl
  rw [e1] at h1
  rw [e2] at h2
  have h3 : ab (z : Rat) ≤ 1048576 := ab_le h1 h2
  have h4 : p2 20 = 1048576 := p2_nat 20
  have h5 : p2 21 = p2 20 * 2 := p2_add 20 1
  have h6 := p2_mono (show (21 : Int) ≤ top .f32 by decide)
  grind
theorem iF_val {z : Int} (h : z.natAbs ≤ 1048576) : fval .f32 (iF z) = (z : Rat) := (iF_rn h).same (rep_int _ (by show z.natAbs < 2 ^ 24; omega))
def two32 : Nat := 1073741824
theorem two32_eF : iF 2 = two32 := by decide +kernel
theorem two32_val : fval .f32 two32 = 2 := by rw [← two32_eF, iF_val (by decide)]; rfl
theorem fin_two32 : finB .f32 two32 = true := by decide +kernel
def hF (v : Int) : Nat := fdiv .f32 (iF v) two32
theorem hF_lt : ∀ v : Nat, v < 9 → hF (v : Int) < 4294967296 := by decide +kernel
theorem hF_ok {v : Int} (h1 : 1 ≤ v) (h8 : v ≤ 8) : Pw (hF v) ∧ p2 (-1) ≤ fval .f32 (hF v) ∧ fval .f32 (hF v) ≤ p2 2 := by
  obtain ⟨n, rfl⟩ := Int.eq_ofNat_of_zero_le (show 0 ≤ v by omega)
  have l1 := int_cast_le h1
  have l8 := int_cast_le h8
  have e1 : ((1 : Int) : Rat) = 1 := rfl
  have e8 : ((8 : Int) : Rat) = 8 := rfl
  rw [e1] at l1
  rw [e8] at l8
  have iv := iF_val (z := (n : Int)) (by omega)
  have pm1 : p2 (-1) * 2 = 1 := by rw [show (2 : Rat) = p2 1 from rfl, ← p2_add]; rfl
  have p2e : p2 2 = 4 := p2_nat 2
  have q1 : p2 (-1) ≤ fval .f32 (iF (n : Int)) / fval .f32 two32 := by rw [iv, two32_val]; grind
  have q2 : fval .f32 (iF (n : Int)) / fval .f32 two32 ≤ p2 2 := by rw [iv, two32_val]; grind
  have p0 := p2_pos (-1)
  have r := rn_div (k := .f32) (iF_rn (z := (n : Int)) (by omega)).fin fin_two32 (by rw [two32_val]; decide) (by rw [ab_of (by grind)]; exact lt_top32 q2 (by decide))
  have a1 := r.lo _ (rep_p2 _ (by decide)) q1
  have a2 := r.up _ (rep_p2 _ (by decide)) q2
  exact ⟨⟨r.fin, hF_lt n (by omega), by show 0 < fval .f32 (fdiv .f32 _ _); grind⟩, a1, a2⟩
theorem word_lt (s : Bool) {r : Nat} (h : r ≤ 2139095040) : Ieee.single.word s r < 4294967296 := by
  have w0 : Ieee.single.word false r = r := rfl
  have w1 : Ieee.single.word true r = Ieee.single.signWeight + r := rfl
  have w2 : Ieee.single.signWeight = 2147483648 := by decide +kernel
  rw [w2] at w1
  cases s
  · rw [w0]; omega
  · rw [w1]; omega
theorem canon_lt {w : Nat} (h : w < 4294967296) : canon .f32 w < 4294967296 := by
  unfold canon
  rw [nan32]
  cases (FloatKind.f32.decode w).isNaN
  · exact h
  · rw [if_pos rfl]; omega
theorem write_lt (s : Bool) (m : Nat) (e : Int) : canon .f32 (FloatKind.f32.format.write (.number s m e)) < 4294967296 := by
  obtain ⟨r, h1, h2, _⟩ := nearest_word .f32 s m e
  show canon .f32 (FloatKind.f32.format.nearest s m e) < _
  rw [h1]
  exact canon_lt (word_lt s (by rw [show FloatKind.f32.format.infRung = Ieee.single.infRung from rfl, inf32] at h2; exact h2))
theorem add_lt {x y : Nat} (hx : finB .f32 x = true) (hy : finB .f32 y = true) : fadd .f32 x y < 4294967296 := by
  obtain ⟨s, m, i, h1⟩ := fin_num hx
  obtain ⟨t, n, j, h2⟩ := fin_num hy
  unfold fadd Ieee.Format.add
  rw [format_read, format_read, h1, h2]
  exact write_lt _ _ _
theorem sumG_lt {n : Nat} {a b : Int} {W : List Nat} (H : Wts n a b W) (hn : n ≤ 9) (ha : a ≤ 95) (b0 : 0 ≤ b) (b6 : b ≤ 6) (gs : List Int) (k : Int) : ∀ i, i ≤ n → sumG W gs k i < 4294967296
  | 0, _ => by show 0 < 4294967296; decide
  | i + 1, h => by
    rw [sumG]
    split
    · exact add_lt (sum_ok H hn ha b0 b6 gs k i (by omega)).fin (H.fin i (by omega))
    · exact sumG_lt H hn ha b0 b6 gs k i (by omega)
def amL (W : List Nat) (gs : List Int) (c i : Nat) : List Nat := (List.range c).map fun g : Nat => sumG W gs (g : Int) i
theorem amL_len (W : List Nat) (gs : List Int) (c i : Nat) : (amL W gs c i).length = c := by simp [amL]
theorem amL_get (W : List Nat) (gs : List Int) (c i g : Nat) (h : g < c) : (amL W gs c i).getD g 0 = sumG W gs (g : Int) i := by simp [amL, h]
theorem list_ext {W W' : List Nat} (hl : W.length = W'.length) (h : ∀ j, j < W.length → W.getD j 0 = W'.getD j 0) : W = W' := by
  refine List.ext_getElem hl fun j h1 h2 => ?_
  have := h j h1
  rw [getD_at W 0 j h1, getD_at W' 0 j h2] at this
  exact this
structure Fit (n : Nat) (W : List Nat) : Prop where
  w : Wts n 1 2 W
  p : ∀ j, j < n → Pw (W.getD j 0)
theorem sum_pw {n : Nat} {W : List Nat} (F : Fit n W) (hn : n ≤ 9) (gs : List Int) {j : Nat} (hj : j < n) : Pw (sumG W gs (gs.getD j 0) n) := by
  have S := sum_ok F.w hn (by decide) (by decide) (by decide) gs (gs.getD j 0) n (Nat.le_refl _)
  have := S.mem j hj rfl
  have := (F.p j hj).pos
  exact ⟨S.fin, sumG_lt F.w hn (by decide) (by decide) (by decide) gs _ n (Nat.le_refl _), by grind⟩
theorem rk_same {n c : Nat} {W : List Nat} (F : Fit n W) (hn : n ≤ 9) {gs : List Int} (G : Grp gs c n) (g : Nat) : rkG W gs (amL W gs c n) g = W := by
  refine list_ext (rkG_len _ _ _ _) fun j hj => ?_
  rw [rkG_len, F.w.len] at hj
  rw [rkG_get F.w.len (fun j hj => (G.at_ j hj).1) g j hj]
  obtain ⟨g0, g1⟩ := G.at_ j hj
  split
  · have e : (amL W gs c n).getD (gs.getD j 0).toNat 0 = sumG W gs (gs.getD j 0) n := by
      rw [amL_get _ _ _ _ _ (by omega), Int.toNat_of_nonneg g0]
    rw [rkE, e, div_self32 (sum_pw F hn gs hj), mul_one32 (F.p j hj)]
  · rfl
theorem rd_same {n k m : Nat} {W : List Nat} (F : Fit n W) (hn : n ≤ 9) {a b : List Int} (A : Grp a k n) (B : Grp b m n) : ∀ r, rdG W a b (amL W a k n) (amL W b m n) r = W
  | 0 => rfl
  | r + 1 => by rw [rdG, rd_same F hn A B r, rk_same F hn A, rk_same F hn B]
theorem dif_same {n k : Nat} {W : List Nat} (F : Fit n W) (hn : n ≤ 9) {a : List Int} (A : Grp a k n) {g : Nat} (hg : g < k) : difF W a (amL W a k n) g = 0 := by
  obtain ⟨j, hj, e⟩ := A.all g hg
  have S := sum_pw F hn a hj
  rw [e] at S
  rw [difF, amL_get _ _ _ _ _ hg, F.w.len]
  exact sub_self32 S.fin
theorem most_same {n k : Nat} {W : List Nat} (F : Fit n W) (hn : n ≤ 9) {a : List Int} (A : Grp a k n) : ∀ g, g ≤ k → mostI W a (amL W a k n) g = 0
  | 0, _ => rfl
  | g + 1, h => by
    rw [mostI, most_same F hn A g (by omega), dif_same F hn A (by omega)]
    decide +kernel
theorem grp_of {gs : List Int} {c n : Nat} (h : grpB gs c n = true) : Grp gs c n := by
  unfold grpB at h
  simp only [Bool.and_eq_true, decide_eq_true_eq, List.all_eq_true] at h
  obtain ⟨⟨⟨h1, h2⟩, h3⟩, h4⟩ := h
  refine ⟨h2, fun j hj => ?_, fun g hg => ?_⟩
  · have hj' : j < gs.length := by omega
    have := inR_iff.1 (h3 _ (List.getElem_mem hj'))
    rw [getD_at gs 0 j hj']
    omega
  · unfold pref at h4
    have h5 := List.all_eq_true.1 h4 g (List.mem_range.2 hg)
    have h6 : (g : Int) ∈ gs := of_decide_eq_true h5
    obtain ⟨j, hj, e⟩ := List.mem_iff_getElem.1 h6
    exact ⟨j, by omega, by rw [getD_at gs 0 j hj]; exact e⟩
def aL (k n : Nat) : List Int := (List.range n).map fun i => ((i % k : Nat) : Int)
def bL (k n : Nat) : List Int := (List.range n).map fun i => ((i / k : Nat) : Int)
theorem aL_grp : ∀ k, k < 3 → ∀ m, m < 3 → grpB (aL (k + 1) ((k + 1) * (m + 1))) (k + 1) ((k + 1) * (m + 1)) = true ∧ grpB (bL (k + 1) ((k + 1) * (m + 1))) (m + 1) ((k + 1) * (m + 1)) = true := by decide +kernel
theorem many_of {x : Nat} (hf : finB .f32 x = true) (h : 0 < fval .f32 x) : manyB x = true := by
  unfold manyB
  rw [hf, fgt_val hf (by decide +kernel), fval_zero, decide_eq_true h]
  rfl
theorem fit_many {n : Nat} {a b : Int} {W : List Nat} (H : Wts n a b W) : W.all manyB = true := by
  rw [List.all_eq_true]
  intro x hx
  obtain ⟨j, hj, rfl⟩ := List.mem_iff_getElem.1 hx
  have h1 := H.fin j (by rw [← H.len]; exact hj)
  have h2 := H.lo j (by rw [← H.len]; exact hj)
  rw [getD_at W 0 j hj] at h1 h2
  have := p2_pos (-a)
  exact many_of h1 (by grind)
theorem aim_many {A : List Nat} (H : Aim A) : A.all manyB = true := by
  rw [List.all_eq_true]
  intro x hx
  obtain ⟨j, hj, rfl⟩ := List.mem_iff_getElem.1 hx
  have h1 := H.fin j hj
  have h2 := H.lo j hj
  rw [getD_at A 0 j hj] at h1 h2
  have := p2_pos (-1)
  exact many_of h1 (by grind)
theorem wts_fin {n : Nat} {a b : Int} {W : List Nat} (H : Wts n a b W) : W.all (finB .f32) = true := by
  rw [List.all_eq_true]
  intro x hx
  obtain ⟨j, hj, rfl⟩ := List.mem_iff_getElem.1 hx
  have h1 := H.fin j (by rw [← H.len]; exact hj)
  rw [getD_at W 0 j hj] at h1
  exact h1
theorem am_aim {n c : Nat} {W : List Nat} (F : Fit n W) (hn : n ≤ 9) {gs : List Int} (G : Grp gs c n) : Aim (amL W gs c n) := by
  refine ⟨fun g hg => ?_, fun g hg => ?_, fun g hg => ?_⟩ <;> rw [amL_len] at hg <;> rw [amL_get _ _ _ _ _ hg] <;> have S := sum_ok F.w hn (by decide) (by decide) (by decide) gs (g : Int) n (Nat.le_refl _)
  · exact S.fin
  · obtain ⟨j, hj, e⟩ := G.all g hg
    have := S.mem j hj e
    have := F.w.lo j hj
    grind
  · have h1 := S.up
    have h2 : p2 2 = 4 := p2_nat 2
    have n9 : (n : Rat) ≤ 9 := cast_le (show n ≤ 9 by omega)
    rw [h2] at h1
    grind
theorem rake_checks {n : Nat} {a0 b0 : Int} {W : List Nat} (H : Wts n a0 b0 W) (n1 : 1 ≤ n) (hn : n ≤ 9) {a b : List Int} {A B : List Nat} (ga : grpB a A.length n = true) (gb : grpB b B.length n = true) (ha : Aim A) (hb : Aim B) {r : Int} (r1 : 1 ≤ r) (r2 : r ≤ 64) : rakeB W a b A B r = true := by
  unfold rakeB
  rw [H.len, ga, gb, fit_many H, aim_many ha, aim_many hb, inR_yes r1 r2, decide_eq_true (by omega)]
  rfl
theorem rd_ok {n : Nat} {W : List Nat} (H : Wts n 1 2 W) (hn : n ≤ 9) {a b : List Int} {A B : List Nat} (ha : Aim A) (hb : Aim B) (ga : Grp a A.length n) (gb : Grp b B.length n) : ∀ r : Nat, r ≤ 3 → ∃ c : Int, 0 ≤ c ∧ c ≤ 6 ∧ Wts n (1 + 22 * (r : Int)) c (rdG W a b A B r)
  | 0, _ => ⟨2, by decide, by decide, H⟩
  | r + 1, h => by
    obtain ⟨c, c0, c6, h1⟩ := rd_ok H hn ha hb ga gb r (by omega)
    have h2 := (rake_ok h1 hn (by omega) (by omega) c0 c6 ha ga).1
    have h3 := (rake_ok h2 hn (by omega) (by omega) (by decide) (by decide) hb gb).1
    refine ⟨6, by decide, by decide, ?_⟩
    rw [rdG]
    have e : 1 + 22 * ((r + 1 : Nat) : Int) = 1 + 22 * (r : Int) + 11 + 11 := by omega
    rw [e]
    exact h3
theorem first_rake {n k m : Nat} {W : List Nat} (F : Fit n W) (n1 : 1 ≤ n) (hn : n ≤ 9) {a b : List Int} (ga : grpB a k n = true) (gb : grpB b m n = true) :
    rakeA W a b (amL W a k n) (amL W b m n) 3 = .tup [.sl 0 0 n, .flt .f32 0, .bool true] ∧ rakeH W a b (amL W a k n) (amL W b m n) 3 = [fltB W] := by
  have A := grp_of ga
  have B := grp_of gb
  have ho : outR W a b (amL W a k n) (amL W b m n) 3 = W := rd_same F hn A B _
  have ok : okR W a b (amL W a k n) (amL W b m n) 3 = true := by
    unfold okR
    rw [ho, rake_checks F.w n1 hn (by rw [amL_len]; exact ga) (by rw [amL_len]; exact gb) (am_aim F hn A) (am_aim F hn B) (by decide) (by decide), wts_fin F.w, amL_len]
    rw [Bool.true_and, Bool.true_and]
    unfold pref
    rw [List.all_eq_true]
    intro g hg
    rw [dif_same F hn A (List.mem_range.1 hg)]
    decide +kernel
  unfold rakeA rakeH
  rw [ok, ho, amL_len, most_same F hn A k (Nat.le_refl _), F.w.len]
  exact ⟨rfl, rfl⟩
theorem most_plus {out : List Nat} {a : List Int} {aims : List Nat} : ∀ c, (∀ g, g < c → finB .f32 (difF out a aims g) = true) → Plus .f32 (mostI out a aims c)
  | 0, _ => plus0
  | c + 1, h => by
    rw [mostI]
    exact (gap_good (most_plus c fun g hg => h g (by omega)) (h c (by omega))).2.2.2
theorem second_rake {n : Nat} {W : List Nat} (F : Fit n W) (n1 : 1 ≤ n) (hn : n ≤ 9) {a b : List Int} {A O : List Nat} (ha : Aim A) (hO : Aim O) (ga : grpB a A.length n = true) (gb : grpB b O.length n = true) (o15 : ∀ g, g < O.length → fval .f32 (O.getD g 0) ≤ 15) :
    ∃ X y, X = outR W a b A O 4 ∧ rakeA W a b A O 4 = .tup [.sl 0 0 n, .flt .f32 y, .bool true] ∧ rakeH W a b A O 4 = [fltB X] ∧ Plus .f32 y ∧ Wts n 89 6 X ∧
      ∀ g, g < O.length → finB .f64 (sumD X b (g : Int) n) = true ∧ fval .f64 (sumD X b (g : Int) n) ≤ fval .f32 (O.getD g 0) + p2 (-12) ∧ fval .f32 (O.getD g 0) - p2 (-12) ≤ fval .f64 (sumD X b (g : Int) n) := by
  have GA := grp_of ga
  have GB := grp_of gb
  obtain ⟨c, c0, c6, h3⟩ := rd_ok F.w hn ha hO GA GB 3 (Nat.le_refl _)
  have h3 : Wts n 67 c (rdG W a b A O 3) := h3
  have h4 := (rake_ok h3 hn (by omega) (by omega) c0 c6 ha GA).1
  have h4 : Wts n 78 6 (rkG (rdG W a b A O 3) a A A.length) := h4
  have h5 := (rake_ok h4 hn (by omega) (by omega) (by decide) (by decide) hO GB).1
  have h5 : Wts n 89 6 (rdG W a b A O 4) := h5
  have hX : outR W a b A O 4 = rdG W a b A O 4 := rfl
  have hd : ∀ g, g < A.length → finB .f32 (difF (rdG W a b A O 4) a A g) = true := fun g hg => by
    have S := sum_ok h5 hn (by decide) (by decide) (by decide) a (g : Int) n (Nat.le_refl _)
    have al := ha.lo g hg
    have au := ha.up g hg
    have sn := S.nn
    have su := S.up
    have n9 : (n : Rat) ≤ 9 := cast_le (show n ≤ 9 by omega)
    have e6 : p2 6 = 64 := p2_nat 6
    have e10 : p2 10 = 1024 := p2_nat 10
    have pm := p2_pos (-1)
    rw [difF, h5.len]
    rw [e6] at su
    have hb : ab (fval .f32 (sumG (rdG W a b A O 4) a (g : Int) n) - fval .f32 (A.getD g 0)) ≤ p2 10 := by
      rw [e10]
      exact ab_le (by grind) (by grind)
    exact (rn_sub (k := .f32) S.fin (ha.fin g hg) (lt_top32 hb (by decide))).fin
  have ok : okR W a b A O 4 = true := by
    unfold okR
    rw [hX, rake_checks F.w n1 hn ga gb ha hO (by decide) (by decide), wts_fin h5]
    rw [Bool.true_and, Bool.true_and]
    unfold pref
    rw [List.all_eq_true]
    intro g hg
    exact hd g (List.mem_range.1 hg)
  refine ⟨_, _, hX.symm, ?_, ?_, most_plus A.length hd, h5, fun g hg => ?_⟩
  · unfold rakeA
    rw [ok, hX, F.w.len]
    rfl
  · unfold rakeH
    rw [ok, hX]
    rfl
  · exact raked_near h4 hn (by omega) (by omega) (by decide) (by decide) hO GB hg (o15 g hg)
def at10 (l : List Int) (k n : Int) : Int := if n ≤ 1 then 0 else if k < (l.length : Int) then l.getD k.toNat 0 % n else (k * 37 + 11) % n
theorem at10_low {l : List Int} {k n : Int} (hn : 1 ≤ n) : 0 ≤ at10 l k n ∧ at10 l k n < n := by
  unfold at10
  split
  · omega
  · split
    · exact ⟨Int.emod_nonneg _ (by omega), Int.emod_lt_of_pos _ (by omega)⟩
    · exact ⟨Int.emod_nonneg _ (by omega), Int.emod_lt_of_pos _ (by omega)⟩
def wF (c : List Int) (j : Nat) : Nat := hF (1 + at10 c (j : Int) 8)
def wL (c : List Int) (n : Nat) : List Nat := (List.range n).map (wF c)
theorem wL_len (c : List Int) (n : Nat) : (wL c n).length = n := by simp [wL]
theorem wL_get (c : List Int) (n j : Nat) (h : j < n) : (wL c n).getD j 0 = wF c j := by simp [wL, h]
theorem wL_fit (c : List Int) (n : Nat) : Fit n (wL c n) := by
  have k : ∀ j, Pw (wF c j) ∧ p2 (-1) ≤ fval .f32 (wF c j) ∧ fval .f32 (wF c j) ≤ p2 2 := fun j => by
    have := at10_low (l := c) (k := (j : Int)) (n := 8) (by decide)
    exact hF_ok (by omega) (by omega)
  exact ⟨⟨wL_len c n, fun j hj => by rw [wL_get c n j hj]; exact (k j).1.fin, fun j hj => by rw [wL_get c n j hj]; exact (k j).2.1, fun j hj => by rw [wL_get c n j hj]; exact (k j).2.2⟩, fun j hj => by rw [wL_get c n j hj]; exact (k j).1⟩
def oL (m : List Int) (i : Nat) : List Nat := (List.range i).map fun j : Nat => iF (1 + at10 m (2 + (j : Int)) 9)
theorem oL_len (m : List Int) (i : Nat) : (oL m i).length = i := by simp [oL]
theorem oL_get (m : List Int) (i j : Nat) (h : j < i) : (oL m i).getD j 0 = iF (1 + at10 m (2 + (j : Int)) 9) := by simp [oL, h]
theorem oL_val (m : List Int) (i j : Nat) (h : j < i) : finB .f32 ((oL m i).getD j 0) = true ∧ 1 ≤ fval .f32 ((oL m i).getD j 0) ∧ fval .f32 ((oL m i).getD j 0) ≤ 9 := by
  have a := at10_low (l := m) (k := 2 + (j : Int)) (n := 9) (by decide)
  rw [oL_get m i j h, iF_val (by omega)]
  have l1 := int_cast_le (show 1 ≤ 1 + at10 m (2 + (j : Int)) 9 by omega)
  have l9 := int_cast_le (show 1 + at10 m (2 + (j : Int)) 9 ≤ 9 by omega)
  exact ⟨(iF_rn (by omega)).fin, l1, l9⟩
theorem oL_aim (m : List Int) (i : Nat) : Aim (oL m i) := by
  have pm1 : p2 (-1) * 2 = 1 := by rw [show (2 : Rat) = p2 1 from rfl, ← p2_add]; rfl
  refine ⟨fun g hg => ?_, fun g hg => ?_, fun g hg => ?_⟩ <;> rw [oL_len] at hg <;> obtain ⟨h1, h2, h3⟩ := oL_val m i g hg
  · exact h1
  · grind
  · grind
end Go.Proofs.Ytmgfghcmmbdcgaa
