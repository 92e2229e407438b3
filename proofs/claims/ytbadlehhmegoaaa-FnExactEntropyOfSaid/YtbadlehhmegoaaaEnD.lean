/- The entropy of incomes: sums that are never minus nought, and both computations. -/
import Derived.Test.YtbadlehhmegoaaaEnC
set_option maxRecDepth 10000
set_option maxHeartbeats 4000000
set_option linter.unusedSimpArgs false
set_option linter.unusedVariables false
namespace Go.Proofs.Ytbadlehhmegoaaa
open Go Go.Abs

structure NN (x : Nat) : Prop where
  fin : finB .f32 x = true
  lt : x < 4294967296
  ne : x ≠ 2147483648
theorem word_of {x : Nat} (h : x < 4294967296) : ∃ s r, x = Ieee.single.word s r ∧ r < 2147483648 := by
  by_cases c : x < 2147483648
  · exact ⟨false, x, rfl, c⟩
  · refine ⟨true, x - 2147483648, ?_, by omega⟩
    show x = 2147483648 + (x - 2147483648)
    omega
theorem near_read (s : Bool) (r : Nat) (hr : r < 2139095040) (h0 : r ≠ 0) {m : Nat} {e : Int} (hd : Ieee.single.read (Ieee.single.word s r) = .number s m e) : Ieee.single.nearest s m e = Ieee.single.word s r := by
  have hd2 := read_rung .f32 s r hr
  rw [show FloatKind.f32.format = Ieee.single from rfl, hd] at hd2
  have cn : ∀ n : Nat, Ieee.Toward.even.cut s n 0 = n := fun n => cut_none .even _ _
  by_cases c : r < 2 ^ fb .f32
  · rw [if_pos c] at hd2
    obtain ⟨rfl, rfl⟩ : m = r ∧ e = least .f32 := by injection hd2 with _ a b; exact ⟨a, b⟩
    have hl : m.log2 ≤ 23 := by
      have := (Nat.log2_lt h0).2 c
      show m.log2 ≤ 23
      have e : fb .f32 = 23 := rfl
      omega
    unfold Ieee.Format.nearest
    rw [if_neg h0]
    have e1 : max (least .f32 + (m.log2 : Int) - (Ieee.single.fractionBits : Nat)) Ieee.single.leastPlace = -149 := by
      show max (-149 + (m.log2 : Int) - ((23 : Nat) : Int)) (-149) = -149
      omega
    simp only [e1]
    show Ieee.single.word s (min (((-149 : Int) - (-149)).toNat * Ieee.single.binade + Ieee.Toward.even.cut s (m <<< ((-149 : Int) - -149).toNat) ((-149 : Int) - -149).toNat) Ieee.single.infRung) = _
    rw [show ((-149 : Int) - -149).toNat = 0 from rfl, Nat.zero_mul, Nat.zero_add, Nat.shiftLeft_zero, cn, Nat.min_eq_left (by show m ≤ 2139095040; omega)]
  · rw [if_neg c] at hd2
    obtain ⟨rfl, rfl⟩ : m = 2 ^ fb .f32 + r % 2 ^ fb .f32 ∧ e = least .f32 + (r / 2 ^ fb .f32 - 1 : Nat) := by injection hd2 with _ a b; exact ⟨a, b⟩
    have eb : 2 ^ fb .f32 = 8388608 := rfl
    rw [eb] at c ⊢
    have hm : (8388608 + r % 8388608) ≠ 0 := by omega
    have hl : (8388608 + r % 8388608).log2 = 23 := (Nat.log2_eq_iff hm).2 (by omega)
    unfold Ieee.Format.nearest
    rw [if_neg hm, hl]
    have e1 : max (least .f32 + ((r / 8388608 - 1 : Nat) : Int) + ((23 : Nat) : Int) - (Ieee.single.fractionBits : Nat)) Ieee.single.leastPlace = least .f32 + ((r / 8388608 - 1 : Nat) : Int) := by
      show max (-149 + ((r / 8388608 - 1 : Nat) : Int) + ((23 : Nat) : Int) - ((23 : Nat) : Int)) (-149) = -149 + ((r / 8388608 - 1 : Nat) : Int)
      omega
    simp only [e1, Int.sub_self]
    rw [show (0 : Int).toNat = 0 from rfl, Nat.shiftLeft_zero, cn]
    have e2 : (least .f32 + ((r / 8388608 - 1 : Nat) : Int) - Ieee.single.leastPlace).toNat * Ieee.single.binade = (r / 8388608 - 1) * 8388608 := by
      show (-149 + ((r / 8388608 - 1 : Nat) : Int) - -149).toNat * 8388608 = _
      congr 1
      omega
    rw [e2]
    have e3 : (r / 8388608 - 1) * 8388608 + (8388608 + r % 8388608) = r := by omega
    rw [e3, Nat.min_eq_left (by show r ≤ 2139095040; omega)]
theorem add_zero {x : Nat} (h : NN x) : fadd .f32 x 0 = x := by
  obtain ⟨s, r, rfl, hr⟩ := word_of h.lt
  have hi : r < 2139095040 := by
    apply Classical.byContradiction
    intro hn
    have hf := h.fin
    obtain ⟨s', m, e, hd⟩ := fin_num hf
    have hrd : Ieee.single.read (Ieee.single.word s r) = .number s' m e := hd
    unfold Ieee.Format.read at hrd
    have e1 : Ieee.single.word s r % Ieee.single.signWeight = r := word_mod _ _ _ (by show r < 2147483648; exact hr)
    simp only [e1] at hrd
    rw [if_neg (by show ¬ r < 8388608; omega), if_neg (by show ¬ r < 2139095040; exact hn)] at hrd
    split at hrd <;> cases hrd
  have hd := read_rung .f32 s r hi
  have hz : FloatKind.f32.format.read 0 = .number false 0 (-149) := rfl
  have hc : canon .f32 (Ieee.single.word s r) = Ieee.single.word s r := fin_canon h.fin
  by_cases r0 : r = 0
  · subst r0
    cases s
    · rfl
    · exact absurd rfl h.ne
  · obtain ⟨m, e, hm, hd'⟩ : ∃ m e, m ≠ 0 ∧ Ieee.single.read (Ieee.single.word s r) = .number s m e ∧ -149 ≤ e := by
      rw [show FloatKind.f32.format = Ieee.single from rfl] at hd
      rw [hd]
      split
      · exact ⟨r, _, r0, rfl, Int.le_refl _⟩
      · exact ⟨_, _, by have := Nat.two_pow_pos (fb .f32); omega, rfl, by show (-149 : Int) ≤ -149 + _; omega⟩
    obtain ⟨hd', he⟩ := hd'
    have nr := near_read s r hi r0 hd'
    unfold fadd Ieee.Format.add
    rw [hz, show FloatKind.f32.format = Ieee.single from rfl, hd']
    show canon .f32 (Ieee.single.nearest (if Ieee.signed s m (e - min e (-149)).toNat + Ieee.signed false 0 (-149 - min e (-149)).toNat = 0 then s && false else decide (Ieee.signed s m (e - min e (-149)).toNat + Ieee.signed false 0 (-149 - min e (-149)).toNat < 0)) (Ieee.signed s m (e - min e (-149)).toNat + Ieee.signed false 0 (-149 - min e (-149)).toNat).natAbs (min e (-149))) = _
    have hb : min e (-149) = -149 := by omega
    have hz2 : Ieee.signed false 0 (-149 - min e (-149)).toNat = 0 := by simp [Ieee.signed]
    rw [hz2, hb, Int.add_zero]
    have hp : 0 < m * 2 ^ (e - -149).toNat := Nat.mul_pos (Nat.pos_of_ne_zero hm) (Nat.two_pow_pos _)
    have hv : Ieee.signed s m (e - -149).toNat = if s then -((m * 2 ^ (e - -149).toNat : Nat) : Int) else ((m * 2 ^ (e - -149).toNat : Nat) : Int) := by
      unfold Ieee.signed; rw [natShift]
    rw [hv]
    generalize hM : m * 2 ^ (e - -149).toNat = M at *
    have key : Ieee.single.nearest s M (-149) = Ieee.single.word s r := by
      rw [← hM, ← nr]
      have := nearest_scale Ieee.single s m (e - -149).toNat e
      rw [show e - ((e - -149).toNat : Int) = -149 by omega] at this
      exact this
    cases s
    · simp only [Bool.false_eq_true, if_false]
      rw [if_neg (by omega), decide_eq_false (by omega), Int.natAbs_natCast, key]
      exact hc
    · simp only [if_true]
      rw [if_neg (by omega), decide_eq_true (by omega), Int.natAbs_neg, Int.natAbs_natCast, key]
      exact hc
theorem least_le (x : Nat) {s : Bool} {m : Nat} {e : Int} (h : FloatKind.f32.decode x = .number s m e) : -149 ≤ e := (read_single x s m e h).2.1
theorem nan32 : nanOf .f32 = 2143289344 := rfl
theorem canon_low {w : Nat} (h : w < 4294967296 ∧ w ≠ 2147483648) : canon .f32 w < 4294967296 ∧ canon .f32 w ≠ 2147483648 := by
  unfold canon
  rw [nan32]
  cases (FloatKind.f32.decode w).isNaN
  · exact h
  · rw [if_pos rfl]; exact ⟨by omega, by omega⟩
theorem word_low (neg : Bool) {r : Nat} (h1 : 1 ≤ r) (h2 : r ≤ 2139095040) : Ieee.single.word neg r < 4294967296 ∧ Ieee.single.word neg r ≠ 2147483648 := by
  have w0 : Ieee.single.word false r = r := rfl
  have w1 : Ieee.single.word true r = Ieee.single.signWeight + r := rfl
  have w2 : Ieee.single.signWeight = 2147483648 := by decide +kernel
  rw [w2] at w1
  cases neg
  · rw [w0]; omega
  · rw [w1]; omega
theorem inf32 : Ieee.single.infRung = 2139095040 := by decide +kernel
theorem near_low (neg : Bool) {m : Nat} {e : Int} (hm : m ≠ 0) (he : -149 ≤ e) : canon .f32 (Ieee.single.nearest neg m e) < 4294967296 ∧ canon .f32 (Ieee.single.nearest neg m e) ≠ 2147483648 := by
  obtain ⟨last, kept, G, _, hw⟩ := near_grid .f32 neg m e hm
  rw [show FloatKind.f32.format = Ieee.single from rfl] at hw
  rw [hw]
  have hle : p2 (-149) ≤ (m : Rat) * p2 e := by
    have a1 := cast_le (show 1 ≤ m by omega)
    have a2 := mul_le_r (Rat.le_of_lt (p2_pos e)) a1
    have a3 := p2_mono he
    have e1 : ((1 : Nat) : Rat) = 1 := rfl
    rw [e1] at a2
    grind
  have e1 : ((1 : Nat) : Rat) = 1 := rfl
  have hk := G.lo (j := 1) (t := -149) (by decide) (by decide) (by rw [e1]; grind)
  have hkept : kept ≠ 0 := by
    intro hk0
    rw [hk0, e1] at hk
    have e0 : ((0 : Nat) : Rat) = 0 := rfl
    rw [e0] at hk
    have := p2_pos (-149)
    grind
  rw [inf32]
  generalize (last - least .f32).toNat * 2 ^ fb .f32 = Q
  exact canon_low (word_low neg (r := min (Q + kept) 2139095040) (by omega) (by omega))
theorem nn_add {x y : Nat} (hx : NN x) (hy : finB .f32 y = true) (h : ab (fval .f32 x + fval .f32 y) < p2 127) : NN (fadd .f32 x y) := by
  have rn := rn_add (k := .f32) hx.fin hy h
  obtain ⟨s, m, i, h1⟩ := fin_num hx.fin
  obtain ⟨t, n, j, h2⟩ := fin_num hy
  have hs : s = false ∨ m ≠ 0 := by
    by_cases c : m = 0
    · subst c
      left
      obtain ⟨s', r, e, hr⟩ := word_of hx.lt
      have e2 : FloatKind.f32.decode x = Ieee.single.read (Ieee.single.word s' r) := by rw [e]; rfl
      rw [h1] at e2
      have hi : r < 2139095040 := by
        apply Classical.byContradiction
        intro hn
        have e1 : Ieee.single.word s' r % Ieee.single.signWeight = r := word_mod _ _ _ (by show r < 2147483648; exact hr)
        unfold Ieee.Format.read at e2
        simp only [e1] at e2
        rw [if_neg (by show ¬ r < 8388608; omega), if_neg (by show ¬ r < 2139095040; exact hn)] at e2
        split at e2 <;> cases e2
      have hd := read_rung .f32 s' r hi
      rw [show FloatKind.f32.format = Ieee.single from rfl, ← e2] at hd
      have hb := Nat.two_pow_pos (fb .f32)
      split at hd
      · injection hd with a b _
        subst b
        cases s'
        · exact a
        · exact absurd (by rw [e]; rfl) hx.ne
      · injection hd with a b _
        omega
    · exact .inr c
  have hi := least_le x h1
  have hj := least_le y h2
  suffices hw : fadd .f32 x y < 4294967296 ∧ fadd .f32 x y ≠ 2147483648 from ⟨rn.fin, hw.1, hw.2⟩
  unfold fadd Ieee.Format.add
  rw [format_read, format_read, h1, h2]
  generalize hT : Ieee.signed s m (i - min i j).toNat + Ieee.signed t n (j - min i j).toNat = T
  have hsum : ((Ieee.Datum.number s m i).sum (.number t n j)) = some (.number (if T = 0 then s && t else decide (T < 0)) T.natAbs (min i j)) := by
    rw [← hT]; rfl
  rw [hsum]
  show canon .f32 (Ieee.single.nearest _ _ _) < _ ∧ canon .f32 (Ieee.single.nearest _ _ _) ≠ _
  by_cases c0 : T = 0
  · have hst : (s && t) = false := by
      cases s
      · rfl
      · cases t
        · rfl
        · exfalso
          rcases hs with h | h
          · cases h
          · have hp : 0 < m <<< (i - min i j).toNat := by rw [natShift]; exact Nat.mul_pos (Nat.pos_of_ne_zero h) (Nat.two_pow_pos _)
            have hv : Ieee.signed true m (i - min i j).toNat = -((m <<< (i - min i j).toNat : Nat) : Int) := rfl
            have hw : Ieee.signed true n (j - min i j).toNat = -((n <<< (j - min i j).toNat : Nat) : Int) := rfl
            rw [hv, hw, c0] at hT
            generalize m <<< (i - min i j).toNat = A at *
            generalize n <<< (j - min i j).toNat = B at *
            omega
    rw [if_pos c0, hst, c0]
    have e : Ieee.single.nearest false (Int.natAbs 0) (min i j) = 0 := rfl
    rw [e]
    exact ⟨by decide, by decide⟩
  · rw [if_neg c0]
    exact near_low _ (by omega) (by omega)

def iF (z : Int) : Nat := canon .f32 (FloatKind.nearest .f32 z)
def meanF (xs : List Int) : Nat := fdiv .f32 (iF (sumI xs)) (iF (xs.length : Int))
def ratF (xs : List Int) (z : Int) : Nat := fdiv .f32 (iF z) (meanF xs)
def ownF (xs : List Int) (z : Int) : Nat := if feq .f32 (ratF xs z) 0 then 0 else fmul .f32 (ratF xs z) (lnF (ratF xs z))
def entS (xs : List Int) (i : Nat) : Nat := ((xs.take i).map (ownF xs)).foldl (fadd .f32) 0
theorem entS_succ (xs : List Int) (i : Nat) (h : i < xs.length) : entS xs (i + 1) = fadd .f32 (entS xs i) (ownF xs xs[i]) := by
  unfold entS
  rw [take_snoc _ _ h, List.map_append, List.foldl_append]
  rfl
theorem int_le {a b : Int} (h : a ≤ b) : (a : Rat) ≤ (b : Rat) := int_cast_le h
theorem lt_top32 {v : Rat} {t : Int} (h : v ≤ p2 t) (ht : t < 127) : v < p2 (top .f32) := by
  have h1 := p2_mono (show t + 1 ≤ top .f32 by show t + 1 ≤ 127; omega)
  rw [p2_add, show p2 1 = 2 from rfl] at h1
  have := p2_pos t
  grind
structure Btw (x : Nat) (a b : Int) : Prop where
  fin : finB .f32 x = true
  lo : p2 a ≤ fval .f32 x
  up : fval .f32 x ≤ p2 b
theorem btw_rn {v : Rat} {x : Nat} {a b : Int} (r : Rn .f32 v x) (ha : -149 ≤ a) (hb : -149 ≤ b) (h1 : p2 a ≤ v) (h2 : v ≤ p2 b) : Btw x a b :=
  ⟨r.fin, r.lo _ (rep_p2 _ ha) h1, r.up _ (rep_p2 _ hb) h2⟩
theorem btw_int {z : Int} {b : Nat} (h1 : 1 ≤ z) (h2 : z ≤ 2 ^ b) (hb : b < 127) : Btw (iF z) 0 (b : Int) := by
  have l1 := int_le h1
  have l2 := int_le h2
  have e1 : ((1 : Int) : Rat) = p2 0 := rfl
  have e2 : (((2 : Int) ^ b : Int) : Rat) = p2 (b : Int) := by
    rw [p2_nat]
    have : (2 : Int) ^ b = ((2 ^ b : Nat) : Int) := by simp
    rw [this]; rfl
  rw [e1] at l1
  rw [e2] at l2
  have p0 := p2_pos 0
  exact btw_rn (int_rn (by rw [ab_of (by grind)]; exact lt_top32 l2 (by omega))) (by decide) (by omega) l1 l2
theorem btw_div {x y : Nat} {a b c d : Int} (hx : Btw x a b) (hy : Btw y c d) (h1 : -149 ≤ a - d) (h2 : -149 ≤ b - c) (h3 : b - c < 127) : Btw (fdiv .f32 x y) (a - d) (b - c) := by
  have pc := p2_pos c
  have pd := p2_pos d
  have pa := p2_pos a
  have hyl := hy.lo
  have hyu := hy.up
  have hxl := hx.lo
  have hxu := hx.up
  have hy0 : 0 < fval .f32 y := by grind
  have hm : fval .f32 x / fval .f32 y * fval .f32 y = fval .f32 x := Rat.div_mul_cancel (by grind)
  have e1 : p2 (a - d) * p2 d = p2 a := by rw [← p2_add]; congr 1; omega
  have e2 : p2 (b - c) * p2 c = p2 b := by rw [← p2_add]; congr 1; omega
  have q1 : p2 (a - d) ≤ fval .f32 x / fval .f32 y := by
    apply Classical.byContradiction
    intro hh
    have h6 := Rat.mul_lt_mul_of_pos_right (show fval .f32 x / fval .f32 y < p2 (a - d) by grind) hy0
    have h7 := Rat.mul_le_mul_of_nonneg_left hyu (Rat.le_of_lt (p2_pos (a - d)))
    grind
  have q2 : fval .f32 x / fval .f32 y ≤ p2 (b - c) := by
    apply Classical.byContradiction
    intro hh
    have h6 := Rat.mul_lt_mul_of_pos_right (show p2 (b - c) < fval .f32 x / fval .f32 y by grind) hy0
    have h7 := Rat.mul_le_mul_of_nonneg_left hyl (Rat.le_of_lt (p2_pos (b - c)))
    grind
  have p0 := p2_pos (a - d)
  exact btw_rn (rn_div hx.fin hy.fin (by grind) (by rw [ab_of (by grind)]; exact lt_top32 q2 h3)) h1 h2 q1 q2
theorem btw_wide {x : Nat} {a b c d : Int} (h : Btw x a b) (h1 : c ≤ a) (h2 : b ≤ d) : Btw x c d :=
  ⟨h.fin, by have := p2_mono h1; have := h.lo; grind, by have := p2_mono h2; have := h.up; grind⟩
theorem mean_btw {xs : List Int} (hi : Inc xs) (h1 : 1 ≤ xs.length) (hl : xs.length ≤ 64) (h0 : sumI xs ≠ 0) : Btw (meanF xs) (-6) 36 := by
  have s := hi.sum
  exact btw_wide (btw_div (btw_int (b := 36) (by omega) (by omega) (by decide)) (btw_int (b := 6) (by omega) (by omega) (by decide)) (by decide) (by decide) (by decide)) (by decide) (by decide)
theorem rat_zero {xs : List Int} (hm : Btw (meanF xs) (-6) 36) : ratF xs 0 = 0 := by
  obtain ⟨t, n, j, h2⟩ := fin_num hm.fin
  have hn : n ≠ 0 := by
    intro hn
    have hl := hm.lo
    rw [fval_of h2, hn] at hl
    have := p2_pos (-6)
    have e0 : ((0 : Nat) : Rat) = 0 := rfl
    rw [e0] at hl
    grind
  have ht : t = false := by
    cases t
    · rfl
    · have hl := hm.lo
      rw [fval_of h2] at hl
      have := p2_pos (-6)
      have := mag_nonneg n j
      simp only [sg, if_true] at hl
      grind
  have hz : FloatKind.f32.format.read (iF 0) = .number false 0 (-149) := by decide +kernel
  unfold ratF fdiv Ieee.Format.div
  rw [hz, format_read, h2, ht]
  simp only [Ieee.Datum.quotient, if_neg hn]
  have e : (0 : Nat) <<< (FloatKind.f32.format.fractionBits + 2 + n.log2 - Nat.log2 0) = 0 := Nat.zero_shiftLeft _
  rw [e, Nat.zero_div, Nat.zero_mod]
  rfl
theorem rat_pos {xs : List Int} (hm : Btw (meanF xs) (-6) 36) {z : Int} (h1 : 1 ≤ z) (h2 : z ≤ 1000000000) : Pos32 (ratF xs z) := by
  have b := btw_wide (c := -40) (d := 40) (btw_div (btw_int (b := 30) h1 (by omega) (by decide)) hm (by decide) (by decide) (by decide)) (by decide) (by decide)
  exact ⟨b.fin, b.lo, b.up⟩
theorem pos_ne {x : Nat} (h : Pos32 x) : feq .f32 x 0 = false ∧ fgt .f32 x 0 = true := by
  have := p2_pos (-40)
  have := h.lo
  have fz : finB .f32 0 = true := by decide +kernel
  rw [feq_val h.fin fz, fgt_val h.fin fz, fval_zero]
  exact ⟨decide_eq_false (by grind), decide_eq_true (by grind)⟩
theorem own_bd {xs : List Int} (hm : Btw (meanF xs) (-6) 36) {z : Int} (h1 : 0 ≤ z) (h2 : z ≤ 1000000000) : finB .f32 (ownF xs z) = true ∧ ab (fval .f32 (ownF xs z)) ≤ p2 47 := by
  unfold ownF
  rcases Int.lt_or_eq_of_le h1 with h | h
  · have hp := rat_pos hm (show 1 ≤ z by omega) h2
    rw [(pos_ne hp).1, if_neg (by decide)]
    obtain ⟨_, l2, _, l4⟩ := ln_ok hp
    have hb : ab (fval .f32 (ratF xs z) * fval .f32 (lnF (ratF xs z))) ≤ p2 47 := by
      rw [ab_mul, show p2 47 = p2 40 * p2 7 from p2_add 40 7]
      have p0 := p2_pos (-40)
      have a1 : ab (fval .f32 (ratF xs z)) ≤ p2 40 := by rw [ab_of (by have := hp.lo; grind)]; exact hp.up
      have h3 := Rat.mul_le_mul_of_nonneg_left l4 (ab_nonneg (fval .f32 (ratF xs z)))
      have h4 := Rat.mul_le_mul_of_nonneg_right a1 (Rat.le_of_lt (p2_pos 7))
      grind
    have r := rn_mul hp.fin l2 (lt_top32 hb (by decide))
    exact ⟨r.fin, r.bound (rep_p2 _ (by decide)) hb⟩
  · subst h
    rw [rat_zero hm]
    rw [if_pos (by decide +kernel)]
    refine ⟨by decide +kernel, ?_⟩
    rw [fval_zero, ab_of (by decide)]
    exact Rat.le_of_lt (p2_pos 47)
theorem ent_ok {xs : List Int} (hi : Inc xs) (hl : xs.length ≤ 64) (hm : Btw (meanF xs) (-6) 36) : ∀ i, i ≤ xs.length → NN (entS xs i) ∧ ab (fval .f32 (entS xs i)) ≤ (i : Rat) * p2 47
  | 0, _ => by
    have e : entS xs 0 = 0 := rfl
    rw [e]
    refine ⟨⟨by decide +kernel, by decide, by decide⟩, ?_⟩
    rw [fval_zero, ab_of (by decide)]
    exact mag_nonneg 0 47
  | i + 1, h => by
    obtain ⟨h1, h2⟩ := ent_ok hi hl hm i (by omega)
    have hx := hi _ (List.getElem_mem (show i < xs.length by omega))
    obtain ⟨o1, o2⟩ := own_bd hm hx.1 hx.2
    rw [entS_succ xs i (by omega)]
    have e1 : ((i + 1 : Nat) : Rat) = (i : Rat) + 1 := Rat.natCast_add _ _
    have hb : ab (fval .f32 (entS xs i) + fval .f32 (ownF xs xs[i])) ≤ ((i + 1 : Nat) : Rat) * p2 47 := by
      have := ab_add (fval .f32 (entS xs i)) (fval .f32 (ownF xs xs[i]))
      rw [e1]
      grind
    have ht : ((i + 1 : Nat) : Rat) * p2 47 ≤ p2 53 := by
      have a1 := cast_le (show i + 1 ≤ 2 ^ 6 by omega)
      rw [← p2_nat] at a1
      have a2 := mul_le_r (Rat.le_of_lt (p2_pos 47)) a1
      rw [← p2_add] at a2
      exact a2
    have hlt : ab (fval .f32 (entS xs i) + fval .f32 (ownF xs xs[i])) < p2 127 := lt_top32 (t := 53) (by grind) (by decide)
    refine ⟨nn_add h1 o1 hlt, ?_⟩
    have r := rn_add h1.fin o1 hlt
    exact r.bound ⟨false, i + 1, 47, by show i + 1 < 2 ^ 24; omega, by decide, by simp [sg]⟩ hb
end Go.Proofs.Ytbadlehhmegoaaa
