/- The abstract layer: parts ZN ZO ZP. -/
import Derived.Test.YtkjabkgmkkcpdaaGreatDoorAbsM4
/- The abstract layer, part ZN: floats as rational numbers: how far off what is rounded may be, and which bounds it keeps. Of no program. -/
set_option linter.unusedSimpArgs false
set_option linter.unusedVariables false
namespace Go.Abs
open Go

def p2 (e : Int) : Rat := (2 : Rat) ^ e
theorem p2_pos (e : Int) : 0 < p2 e := Rat.zpow_pos (by decide)
theorem p2_add (a b : Int) : p2 (a + b) = p2 a * p2 b := Rat.zpow_add (by decide) a b
theorem p2_nat (n : Nat) : p2 (n : Int) = ((2 ^ n : Nat) : Rat) := by
  unfold p2
  rw [Rat.zpow_natCast]
  induction n with
  | zero => rfl
  | succ n ih => rw [Rat.pow_succ, ih, Nat.pow_succ, Rat.natCast_mul]; rfl
theorem p2_zero : p2 0 = 1 := rfl
theorem p2_one_le (n : Nat) : 1 ≤ p2 (n : Int) := by
  rw [p2_nat]
  exact_mod_cast Nat.one_le_two_pow
theorem p2_mono {a b : Int} (h : a ≤ b) : p2 a ≤ p2 b := by
  have e : b = a + ((b - a).toNat : Int) := by omega
  rw [e, p2_add]
  have := p2_one_le (b - a).toNat
  have := p2_pos a
  have h2 := Rat.mul_le_mul_of_nonneg_left (c := p2 a) (p2_one_le (b - a).toNat) (Rat.le_of_lt (p2_pos a))
  grind
theorem p2_lt {a b : Int} (h : p2 a < p2 b) : a < b := by
  apply Classical.byContradiction
  intro hn
  have := p2_mono (show b ≤ a by omega)
  grind

def sg (s : Bool) : Rat := if s then -1 else 1
def fval (k : FloatKind) (x : Nat) : Rat := match k.decode x with
  | .number s m e => sg s * ((m : Rat) * p2 e)
  | _ => 0
theorem fval_of {k : FloatKind} {x : Nat} {s : Bool} {m : Nat} {e : Int} (h : k.decode x = .number s m e) : fval k x = sg s * ((m : Rat) * p2 e) := by
  unfold fval; rw [h]
theorem fin_num {k : FloatKind} {x : Nat} (h : finB k x = true) : ∃ s m e, k.decode x = .number s m e := by
  unfold finB at h
  cases hd : k.decode x with
  | number s m e => exact ⟨s, m, e, rfl⟩
  | infinity s => rw [hd] at h; cases h
  | nan s t => rw [hd] at h; cases h
theorem num_fin {k : FloatKind} {x : Nat} {s : Bool} {m : Nat} {e : Int} (h : k.decode x = .number s m e) : finB k x = true := by
  unfold finB; rw [h]
theorem fval_zero (k : FloatKind) : fval k 0 = 0 := by
  rw [fval_of (decode_zero k)]; grind

def least (k : FloatKind) : Int := match k with | .f32 => -149 | .f64 => -1074
def fb (k : FloatKind) : Nat := match k with | .f32 => 23 | .f64 => 52
def top (k : FloatKind) : Int := match k with | .f32 => 127 | .f64 => 1023
theorem least_eq (k : FloatKind) : k.format.leastPlace = least k := by cases k <;> rfl
theorem fb_eq (k : FloatKind) : k.format.fractionBits = fb k := by cases k <;> rfl
theorem binade_eq (k : FloatKind) : k.format.binade = 2 ^ fb k := by cases k <;> rfl
theorem inf_eq (k : FloatKind) : (k.format.infRung : Int) = (top k - fb k - least k + 2) * 2 ^ fb k := by cases k <;> rfl
theorem read_rung (k : FloatKind) (neg : Bool) (r : Nat) (h : r < k.format.infRung) : k.format.read (k.format.word neg r) =
    if r < 2 ^ fb k then .number neg r (least k) else .number neg (2 ^ fb k + r % 2 ^ fb k) (least k + (r / 2 ^ fb k - 1 : Nat)) := by
  have hlt := inf_lt k
  have hpos : 0 < k.format.signWeight := Nat.lt_of_le_of_lt (Nat.zero_le _) hlt
  have h1 : k.format.word neg r % k.format.signWeight = r := by
    unfold Ieee.Format.word
    split
    · rw [Nat.add_mod_left, Nat.mod_eq_of_lt (by omega)]
    · exact Nat.mod_eq_of_lt (by omega)
  have h2 : (k.format.word neg r / k.format.signWeight % 2 == 1) = neg := by
    unfold Ieee.Format.word
    cases neg
    · rw [if_neg (by decide), Nat.div_eq_of_lt (by omega)]; rfl
    · rw [if_pos rfl, Nat.add_div_left _ hpos, Nat.div_eq_of_lt (by omega)]; rfl
  unfold Ieee.Format.read
  simp only [h1, h2, binade_eq, least_eq]
  split
  · rfl
  · rfl
theorem rung_val (k : FloatKind) (neg : Bool) (j kept : Nat) (hk : kept ≤ 2 * 2 ^ fb k) (hj : j = 0 ∨ 2 ^ fb k ≤ kept) (hr : j * 2 ^ fb k + kept < k.format.infRung) :
    finB k (k.format.word neg (j * 2 ^ fb k + kept)) = true ∧ fval k (k.format.word neg (j * 2 ^ fb k + kept)) = sg neg * ((kept : Rat) * p2 (least k + j)) := by
  have hd : k.decode (k.format.word neg (j * 2 ^ fb k + kept)) = _ := read_rung k neg _ hr
  have hb : 0 < 2 ^ fb k := Nat.two_pow_pos _
  generalize hB : 2 ^ fb k = B at *
  by_cases c1 : kept < B
  · have hj0 : j = 0 := by omega
    subst hj0
    simp only [Nat.zero_mul, Nat.zero_add] at hd ⊢
    rw [if_pos c1] at hd
    refine ⟨num_fin hd, ?_⟩
    rw [fval_of hd]
    simp
  · have hn : ¬(j * B + kept < B) := by
      have : 0 ≤ j * B := Nat.zero_le _
      omega
    rw [if_neg hn] at hd
    refine ⟨num_fin hd, ?_⟩
    rw [fval_of hd]
    by_cases c2 : kept < 2 * B
    · have e1 : (j * B + kept) % B = kept - B := by
        rw [Nat.mul_comm, Nat.mul_add_mod, show kept = B + (kept - B) by omega, Nat.add_mod_left, Nat.mod_eq_of_lt (by omega)]
        omega
      have e2 : (j * B + kept) / B - 1 = j := by
        rw [Nat.mul_comm, Nat.mul_add_div hb, show kept = B + (kept - B) by omega, Nat.add_div_left _ hb, Nat.div_eq_of_lt (by omega)]
        omega
      rw [e1, e2, show B + (kept - B) = kept by omega]
    · have hk2 : kept = 2 * B := by omega
      subst hk2
      have e0 : j * B + 2 * B = B * (j + 2) := by rw [Nat.mul_comm B, Nat.add_mul]
      have e1 : (j * B + 2 * B) % B = 0 := by rw [e0, Nat.mul_mod_right]
      have e2 : (j * B + 2 * B) / B - 1 = j + 1 := by rw [e0, Nat.mul_div_cancel_left _ hb]; omega
      rw [e1, e2, Nat.add_zero]
      have e3 : least k + ((j + 1 : Nat) : Int) = (least k + (j : Int)) + 1 := by omega
      have e4 : p2 1 = 2 := rfl
      rw [e3, p2_add, e4, Rat.natCast_mul]
      grind
theorem cut_near (neg : Bool) (n d : Nat) : 2 * n ≤ (2 * Ieee.Toward.even.cut neg n d + 1) * 2 ^ d ∧ 2 * Ieee.Toward.even.cut neg n d * 2 ^ d ≤ 2 * n + 2 ^ d := by
  unfold Ieee.Toward.cut
  simp only [Nat.one_shiftLeft]
  by_cases hd : d ≤ n.log2 + 2
  · rw [Nat.min_eq_left hd]
    have h1 := Nat.div_add_mod n (2 ^ d)
    have h2 := Nat.mod_lt n (Nat.two_pow_pos d)
    generalize 2 ^ d = g at *
    generalize hlo : n / g = lo at *
    generalize hre : n % g = re at *
    have e : n = lo * g + re := by rw [Nat.mul_comm]; omega
    have hb : ∃ b : Bool, (decide (g < 2 * re) || g == 2 * re && lo % 2 == 1) = b ∧ (b = true → g ≤ 2 * re) ∧ (b = false → 2 * re ≤ g) := by
      refine ⟨_, rfl, fun h => ?_, fun h => ?_⟩
      · simp only [Bool.or_eq_true, Bool.and_eq_true, decide_eq_true_eq, beq_iff_eq] at h
        omega
      · simp only [Bool.or_eq_false_iff, decide_eq_false_iff_not] at h
        omega
    obtain ⟨b, hb, b1, b2⟩ := hb
    rw [hb, e]
    cases b
    · have := b2 rfl
      simp only [Bool.toNat_false, Nat.add_zero, Nat.add_mul, Nat.mul_add, Nat.mul_assoc, Nat.one_mul]
      generalize lo * g = P
      omega
    · have := b1 rfl
      simp only [Bool.toNat_true, Nat.add_mul, Nat.mul_add, Nat.mul_assoc, Nat.one_mul]
      generalize lo * g = P
      omega
  · rw [Nat.min_eq_right (by omega)]
    have h1 := @Nat.lt_log2_self n
    have h2 : 2 ^ (n.log2 + 2) = 2 * 2 ^ (n.log2 + 1) := by rw [Nat.pow_succ]; omega
    have h3 : 2 ^ (n.log2 + 2) ≤ 2 ^ d := Nat.pow_le_pow_right (by decide) (by omega)
    have e1 : n / 2 ^ (n.log2 + 2) = 0 := Nat.div_eq_of_lt (by omega)
    have e2 : n % 2 ^ (n.log2 + 2) = n := Nat.mod_eq_of_lt (by omega)
    rw [e1, e2]
    have e3 : (decide (2 ^ (n.log2 + 2) < 2 * n) || 2 ^ (n.log2 + 2) == 2 * n && 0 % 2 == 1) = false := by
      rw [decide_eq_false (by omega)]
      simp
    rw [e3]
    simp only [Bool.toNat_false, Nat.zero_add, Nat.mul_zero, Nat.zero_mul, Nat.one_mul]
    omega
theorem cut_even (neg : Bool) (n d : Nat) : (2 * n = (2 * Ieee.Toward.even.cut neg n d + 1) * 2 ^ d → Ieee.Toward.even.cut neg n d % 2 = 0) ∧ (2 * n + 2 ^ d = 2 * Ieee.Toward.even.cut neg n d * 2 ^ d → Ieee.Toward.even.cut neg n d % 2 = 0) := by
  unfold Ieee.Toward.cut
  simp only [Nat.one_shiftLeft]
  by_cases hd : d ≤ n.log2 + 2
  · rw [Nat.min_eq_left hd]
    have h1 := Nat.div_add_mod n (2 ^ d)
    have h2 := Nat.mod_lt n (Nat.two_pow_pos d)
    generalize 2 ^ d = g at *
    generalize hlo : n / g = lo at *
    generalize hre : n % g = re at *
    have e : n = lo * g + re := by rw [Nat.mul_comm]; omega
    have hb : ∃ b : Bool, (decide (g < 2 * re) || g == 2 * re && lo % 2 == 1) = b ∧ (b = true → g < 2 * re ∨ (g = 2 * re ∧ lo % 2 = 1)) ∧ (b = false → 2 * re < g ∨ (g = 2 * re → lo % 2 = 0)) := by
      refine ⟨_, rfl, fun h => ?_, fun h => ?_⟩
      · simp only [Bool.or_eq_true, Bool.and_eq_true, decide_eq_true_eq, beq_iff_eq] at h
        omega
      · simp only [Bool.or_eq_false_iff, decide_eq_false_iff_not, Bool.and_eq_false_iff, beq_eq_false_iff_ne] at h
        omega
    obtain ⟨b, hb, b1, b2⟩ := hb
    rw [hb, e]
    cases b
    · have := b2 rfl
      simp only [Bool.toNat_false, Nat.add_zero, Nat.add_mul, Nat.mul_add, Nat.mul_assoc, Nat.one_mul]
      generalize lo * g = P
      omega
    · have := b1 rfl
      simp only [Bool.toNat_true, Nat.add_mul, Nat.mul_add, Nat.mul_assoc, Nat.one_mul]
      generalize lo * g = P
      omega
  · rw [Nat.min_eq_right (by omega)]
    have h1 := @Nat.lt_log2_self n
    have h2 : 2 ^ (n.log2 + 2) = 2 * 2 ^ (n.log2 + 1) := by rw [Nat.pow_succ]; omega
    have e1 : n / 2 ^ (n.log2 + 2) = 0 := Nat.div_eq_of_lt (by omega)
    have e2 : n % 2 ^ (n.log2 + 2) = n := Nat.mod_eq_of_lt (by omega)
    rw [e1, e2]
    have e3 : (decide (2 ^ (n.log2 + 2) < 2 * n) || 2 ^ (n.log2 + 2) == 2 * n && 0 % 2 == 1) = false := by
      rw [decide_eq_false (by omega)]
      simp
    rw [e3]
    simp
structure Grid (k : FloatKind) (v : Rat) (last : Int) (kept : Nat) : Prop where
  low : least k ≤ last
  cap : kept ≤ 2 * 2 ^ fb k
  ge : (2 * (kept : Rat) - 1) * p2 last ≤ 2 * v
  le : 2 * v ≤ (2 * (kept : Rat) + 1) * p2 last
  big : last = least k ∨ (p2 (fb k + last) ≤ v ∧ 2 ^ fb k ≤ kept)
  evh : 2 * v = (2 * (kept : Rat) + 1) * p2 last → kept % 2 = 0
  evl : 2 * v = (2 * (kept : Rat) - 1) * p2 last → kept % 2 = 0
theorem natShift (m a : Nat) : m <<< a = m * 2 ^ a := Nat.shiftLeft_eq m a
theorem cut_le {neg : Bool} {n d N : Nat} (h : n ≤ N * 2 ^ d) : Ieee.Toward.even.cut neg n d ≤ N := by
  have hc := (cut_near neg n d).2
  have hg := Nat.two_pow_pos d
  generalize Ieee.Toward.even.cut neg n d = c at *
  generalize 2 ^ d = g at *
  apply Classical.byContradiction
  intro hn
  have h2 : (N + 1) * g ≤ c * g := Nat.mul_le_mul_right g (by omega)
  rw [Nat.add_mul, Nat.one_mul] at h2
  rw [Nat.mul_assoc] at hc
  generalize N * g = P at *
  generalize c * g = R at *
  omega
theorem cut_ge {neg : Bool} {n d N : Nat} (h : N * 2 ^ d ≤ n) : N ≤ Ieee.Toward.even.cut neg n d := by
  have hc := (cut_near neg n d).1
  have hg := Nat.two_pow_pos d
  generalize Ieee.Toward.even.cut neg n d = c at *
  generalize 2 ^ d = g at *
  apply Classical.byContradiction
  intro hn
  have h2 : (c + 1) * g ≤ N * g := Nat.mul_le_mul_right g (by omega)
  rw [Nat.add_mul, Nat.one_mul] at h2
  rw [Nat.add_mul, Nat.mul_assoc, Nat.one_mul] at hc
  generalize N * g = P at *
  generalize c * g = R at *
  omega
theorem cast_le {a b : Nat} (h : a ≤ b) : (a : Rat) ≤ (b : Rat) := by exact_mod_cast h
theorem mul_cancel {a b u : Rat} (hu : 0 < u) (h : a * u = b * u) : a = b := by
  have e1 : a * u / u = a := Rat.mul_div_cancel (by grind)
  have e2 : b * u / u = b := Rat.mul_div_cancel (by grind)
  rw [← e1, ← e2, h]
theorem near_grid (k : FloatKind) (neg : Bool) (m : Nat) (place : Int) (hm : m ≠ 0) : ∃ last kept, Grid k ((m : Rat) * p2 place) last kept ∧ place + m.log2 - fb k ≤ last ∧
    k.format.nearest neg m place = k.format.word neg (min ((last - least k).toNat * 2 ^ fb k + kept) k.format.infRung) := by
  refine ⟨max (place + m.log2 - fb k) (least k), Ieee.Toward.even.cut neg (m <<< (place - max (place + m.log2 - fb k) (least k)).toNat) (max (place + m.log2 - fb k) (least k) - place).toNat, ?_, by omega, ?_⟩
  · have l1 := Nat.log2_self_le hm
    have l2 := @Nat.lt_log2_self m
    generalize hL : m.log2 = L at *
    generalize hl : max (place + L - fb k) (least k) = last
    have hlow : least k ≤ last := by omega
    have hup : place + L - fb k ≤ last := by omega
    have hor : last = least k ∨ last = place + L - fb k := by omega
    rw [natShift]
    generalize ha : (place - last).toNat = a
    generalize hd : (last - place).toNat = d
    have had : (a : Int) - d = place - last := by omega
    have hz : a = 0 ∨ d = 0 := by omega
    have hc := cut_near neg (m * 2 ^ a) d
    have hev := cut_even neg (m * 2 ^ a) d
    have ev : (m : Rat) * p2 place = ((m * 2 ^ a : Nat) : Rat) * p2 (last - d) := by
      rw [Rat.natCast_mul, ← p2_nat, show place = (a : Int) + (last - d) by omega, p2_add]
      grind
    have eg : p2 last = ((2 ^ d : Nat) : Rat) * p2 (last - d) := by
      rw [← p2_nat, ← p2_add]
      congr 1
      omega
    have hu := p2_pos (last - d)
    have F1 : 2 ^ (fb k + 1) = 2 * 2 ^ fb k := by rw [Nat.pow_succ]; omega
    -- what is kept has a bound
    have cap : m * 2 ^ a ≤ (2 * 2 ^ fb k) * 2 ^ d := by
      rw [← F1, ← Nat.pow_add]
      have h1 : m * 2 ^ a ≤ 2 ^ (L + 1) * 2 ^ a := Nat.mul_le_mul_right _ (by omega)
      rw [← Nat.pow_add] at h1
      exact Nat.le_trans h1 (Nat.pow_le_pow_right (by decide) (by omega))
    have big : last = least k ∨ 2 ^ fb k * 2 ^ d ≤ m * 2 ^ a := by
      rcases hor with h | h
      · exact .inl h
      · right
        have h1 : 2 ^ L * 2 ^ a ≤ m * 2 ^ a := Nat.mul_le_mul_right _ l1
        rw [← Nat.pow_add] at h1 ⊢
        exact Nat.le_trans (Nat.pow_le_pow_right (by decide) (by omega)) h1
    have kc := cut_le (neg := neg) cap
    have kb : last = least k ∨ 2 ^ fb k ≤ Ieee.Toward.even.cut neg (m * 2 ^ a) d := big.imp id cut_ge
    have bigr : last = least k ∨ p2 (fb k + last) ≤ (m : Rat) * p2 place := by
      refine big.imp id fun h => ?_
      rw [ev, p2_add, p2_nat, eg, ← Rat.mul_assoc, ← Rat.natCast_mul]
      exact Rat.mul_le_mul_of_nonneg_right (cast_le h) (Rat.le_of_lt hu)
    generalize Ieee.Toward.even.cut neg (m * 2 ^ a) d = c at *
    generalize m * 2 ^ a = n at *
    generalize 2 ^ d = g at *
    refine ⟨hlow, kc, ?_, ?_, ?_, ?_, ?_⟩
    · rw [ev, eg]
      have h2 := cast_le hc.2
      simp only [Rat.natCast_add, Rat.natCast_mul] at h2
      have h3 := Rat.mul_le_mul_of_nonneg_right h2 (Rat.le_of_lt hu)
      have t : ((2 : Nat) : Rat) = 2 := rfl
      rw [t] at h3
      grind
    · rw [ev, eg]
      have h2 := cast_le hc.1
      simp only [Rat.natCast_add, Rat.natCast_mul] at h2
      have h3 := Rat.mul_le_mul_of_nonneg_right h2 (Rat.le_of_lt hu)
      have t : ((2 : Nat) : Rat) = 2 := rfl
      have t1 : ((1 : Nat) : Rat) = 1 := rfl
      rw [t, t1] at h3
      grind
    · rcases bigr with h | h
      · exact .inl h
      · rcases kb with h' | h'
        · exact .inl h'
        · exact .inr ⟨h, h'⟩
    · intro h2
      rw [ev, eg] at h2
      refine hev.1 ?_
      have h3 : ((2 * n : Nat) : Rat) = (((2 * c + 1) * g : Nat) : Rat) := by
        have t : ((2 : Nat) : Rat) = 2 := rfl
        have t1 : ((1 : Nat) : Rat) = 1 := rfl
        rw [Rat.natCast_mul, Rat.natCast_mul, Rat.natCast_add, Rat.natCast_mul, t, t1]
        exact mul_cancel hu (by grind)
      exact_mod_cast h3
    · intro h2
      rw [ev, eg] at h2
      refine hev.2 ?_
      have h3 : ((2 * n + g : Nat) : Rat) = ((2 * c * g : Nat) : Rat) := by
        have t : ((2 : Nat) : Rat) = 2 := rfl
        rw [Rat.natCast_add, Rat.natCast_mul, Rat.natCast_mul, Rat.natCast_mul, t]
        exact mul_cancel hu (by grind)
      exact_mod_cast h3
  · unfold Ieee.Format.nearest
    rw [if_neg hm]
    simp only [fb_eq, least_eq, binade_eq]

theorem nat_of_mul {a b : Nat} {u : Rat} (hu : 0 < u) (h : (2 * (a : Rat) - 1) * u ≤ 2 * (b : Rat) * u) : a ≤ b := by
  apply Classical.byContradiction
  intro hn
  have h1 := cast_le (show b + 1 ≤ a by omega)
  rw [Rat.natCast_add] at h1
  have t1 : ((1 : Nat) : Rat) = 1 := rfl
  rw [t1] at h1
  have h2 := Rat.mul_le_mul_of_nonneg_right (show 2 * (b : Rat) + 1 ≤ 2 * (a : Rat) - 1 by grind) (Rat.le_of_lt hu)
  grind
theorem mul_le_r {a b u : Rat} (hu : 0 ≤ u) (h : a ≤ b) : a * u ≤ b * u := Rat.mul_le_mul_of_nonneg_right h hu
theorem p2_shift (j : Nat) {t last : Int} (h : last ≤ t) : (j : Rat) * p2 t = ((j * 2 ^ (t - last).toNat : Nat) : Rat) * p2 last := by
  rw [Rat.natCast_mul, ← p2_nat, show t = last + ((t - last).toNat : Int) by omega, p2_add]
  rw [show last + ((t - last).toNat : Int) - last = ((t - last).toNat : Int) by omega, Int.toNat_natCast]
  grind
theorem small_lt (k : FloatKind) {j : Nat} {t last : Int} (hj : j < 2 ^ (fb k + 1)) (h : t < last) : (j : Rat) * p2 t + p2 t ≤ p2 (fb k + last) := by
  have h1 := cast_le (show j + 1 ≤ 2 ^ (fb k + 1) by omega)
  rw [← p2_nat, Rat.natCast_add] at h1
  have t1 : ((1 : Nat) : Rat) = 1 := rfl
  rw [t1] at h1
  have h2 := mul_le_r (Rat.le_of_lt (p2_pos t)) h1
  rw [← p2_add] at h2
  have h3 := p2_mono (show ((fb k + 1 : Nat) : Int) + t ≤ fb k + last by omega)
  grind
theorem Grid.up {k : FloatKind} {v : Rat} {last : Int} {kept : Nat} (G : Grid k v last kept) {j : Nat} {t : Int} (hj : j < 2 ^ (fb k + 1)) (ht : least k ≤ t) (h : v ≤ (j : Rat) * p2 t) : (kept : Rat) * p2 last ≤ (j : Rat) * p2 t := by
  have hu := p2_pos last
  by_cases c : last ≤ t
  · rw [p2_shift j c] at h ⊢
    have hg := G.ge
    have hk := nat_of_mul hu (a := kept) (b := j * 2 ^ (t - last).toNat) (by grind)
    exact mul_le_r (Rat.le_of_lt hu) (cast_le hk)
  · rcases G.big with hb | ⟨hb, _⟩
    · omega
    · have := small_lt k hj (show t < last by omega)
      have := p2_pos t
      grind
theorem Grid.lo {k : FloatKind} {v : Rat} {last : Int} {kept : Nat} (G : Grid k v last kept) {j : Nat} {t : Int} (hj : j < 2 ^ (fb k + 1)) (ht : least k ≤ t) (h : (j : Rat) * p2 t ≤ v) : (j : Rat) * p2 t ≤ (kept : Rat) * p2 last := by
  have hu := p2_pos last
  by_cases c : last ≤ t
  · rw [p2_shift j c] at h ⊢
    have hg := G.le
    have hk := nat_of_mul hu (a := j * 2 ^ (t - last).toNat) (b := kept) (by grind)
    exact mul_le_r (Rat.le_of_lt hu) (cast_le hk)
  · rcases G.big with hb | ⟨_, hb⟩
    · omega
    · have h1 := small_lt k hj (show t < last by omega)
      have h2 := mul_le_r (Rat.le_of_lt hu) (cast_le hb)
      rw [← p2_nat, ← p2_add] at h2
      have := p2_pos t
      grind
theorem Grid.err {k : FloatKind} {v : Rat} {last : Int} {kept : Nat} (G : Grid k v last kept) (hv : 0 ≤ v) : (kept : Rat) * p2 last - v ≤ p2 (-(fb k + 1 : Nat)) * v + p2 (least k - 1) ∧ v - (kept : Rat) * p2 last ≤ p2 (-(fb k + 1 : Nat)) * v + p2 (least k - 1) := by
  have hu : p2 last ≤ p2 (-(fb k : Int)) * v + p2 (least k) := by
    have p0 := p2_pos (-(fb k : Int))
    have p1 := p2_pos (least k)
    have q := Rat.mul_nonneg (Rat.le_of_lt p0) hv
    rcases G.big with h | ⟨h, _⟩
    · rw [h]; grind
    · have h2 := Rat.mul_le_mul_of_nonneg_left h (Rat.le_of_lt p0)
      rw [← p2_add, show -(fb k : Int) + (fb k + last) = last by omega] at h2
      grind
  have e1 : p2 (-(fb k : Int)) = 2 * p2 (-(fb k + 1 : Nat)) := by
    rw [show -(fb k : Int) = 1 + -((fb k + 1 : Nat) : Int) by omega, p2_add]; rfl
  have e2 : p2 (least k) = 2 * p2 (least k - 1) := by
    rw [show least k = 1 + (least k - 1) by omega, p2_add]
    rw [show 1 + (least k - 1) - 1 = least k - 1 by omega]; rfl
  have h1 := G.ge
  have h2 := G.le
  rw [e1, e2] at hu
  constructor <;> grind

def Rep (k : FloatKind) (B : Rat) : Prop := ∃ (s : Bool) (j : Nat) (t : Int), j < 2 ^ (fb k + 1) ∧ least k ≤ t ∧ B = sg s * ((j : Rat) * p2 t)
def ab (v : Rat) : Rat := if 0 ≤ v then v else -v
theorem ab_nonneg (v : Rat) : 0 ≤ ab v := by unfold ab; split <;> grind
theorem le_ab (v : Rat) : v ≤ ab v ∧ -v ≤ ab v := by unfold ab; split <;> grind
theorem ab_neg (v : Rat) : ab (-v) = ab v := by unfold ab; split <;> split <;> grind
theorem ab_of {v : Rat} (h : 0 ≤ v) : ab v = v := if_pos h
theorem ab_le {v B : Rat} (h1 : v ≤ B) (h2 : -B ≤ v) : ab v ≤ B := by unfold ab; split <;> grind
theorem Rep.neg {k : FloatKind} {B : Rat} (h : Rep k B) : Rep k (-B) := by
  obtain ⟨s, j, t, h1, h2, rfl⟩ := h
  refine ⟨!s, j, t, h1, h2, ?_⟩
  cases s <;> simp [sg] <;> grind
def Nr (k : FloatKind) (v y : Rat) : Prop := (v = 0 ∧ y = 0) ∨ ∃ (s : Bool) (w : Rat) (last : Int) (kept : Nat), 0 ≤ w ∧ v = sg s * w ∧ Grid k w last kept ∧ y = sg s * ((kept : Rat) * p2 last)
structure Rn (k : FloatKind) (v : Rat) (x : Nat) : Prop where
  nr : Nr k v (fval k x)
  fin : finB k x = true
  can : canon k x = x
  up : ∀ B, Rep k B → v ≤ B → fval k x ≤ B
  lo : ∀ B, Rep k B → B ≤ v → B ≤ fval k x
  e1 : fval k x - v ≤ p2 (-(fb k + 1 : Nat)) * ab v + p2 (least k - 1)
  e2 : v - fval k x ≤ p2 (-(fb k + 1 : Nat)) * ab v + p2 (least k - 1)
theorem fin_notnan {k : FloatKind} {x : Nat} (h : finB k x = true) : (k.decode x).isNaN = false := by
  obtain ⟨s, m, e, h⟩ := fin_num h
  rw [h]; rfl
theorem fin_canon {k : FloatKind} {x : Nat} (h : finB k x = true) : canon k x = x := by
  unfold canon
  rw [fin_notnan h]
  rfl
theorem mag_nonneg (j : Nat) (t : Int) : 0 ≤ (j : Rat) * p2 t := Rat.mul_nonneg (by exact_mod_cast Nat.zero_le j) (Rat.le_of_lt (p2_pos t))
theorem rung_ok {k : FloatKind} {v : Rat} {last : Int} {kept : Nat} (G : Grid k v last kept) (hv : v < p2 (top k)) : (last - least k).toNat * 2 ^ fb k + kept < k.format.infRung := by
  have hl : last - least k ≤ top k - fb k - least k - 1 := by
    rcases G.big with h | ⟨h, _⟩
    · have : (0 : Int) ≤ top k - fb k - least k - 1 := by cases k <;> decide
      omega
    · have := p2_lt (show p2 (fb k + last) < p2 (top k) by grind)
      omega
  have hi := inf_eq k
  have hc := G.cap
  have hlow := G.low
  have hb : 0 < 2 ^ fb k := Nat.two_pow_pos _
  have e : (2 : Int) ^ fb k = ((2 ^ fb k : Nat) : Int) := by simp
  rw [e] at hi
  generalize 2 ^ fb k = B at *
  have h1 : ((last - least k).toNat : Int) * (B : Int) ≤ (top k - fb k - least k - 1) * (B : Int) := Int.mul_le_mul_of_nonneg_right (by omega) (by omega)
  have h2 : (top k - fb k - least k + 2) * (B : Int) = (top k - fb k - least k - 1) * (B : Int) + 3 * B := by rw [← Int.add_mul]; congr 1; omega
  rw [h2] at hi
  have h3 : (((last - least k).toNat * B + kept : Nat) : Int) < (k.format.infRung : Int) := by
    rw [Int.natCast_add, Int.natCast_mul]
    omega
  exact_mod_cast h3
theorem rn_of_grid {k : FloatKind} {v : Rat} {last : Int} {kept : Nat} (neg : Bool) (G : Grid k v last kept) (h0 : 0 ≤ v) (hv : v < p2 (top k)) :
    Rn k (sg neg * v) (canon k (k.format.word neg (min ((last - least k).toNat * 2 ^ fb k + kept) k.format.infRung))) := by
  have hr := rung_ok G hv
  rw [Nat.min_eq_left (by omega)]
  have hj : (last - least k).toNat = 0 ∨ 2 ^ fb k ≤ kept := by
    rcases G.big with h | ⟨_, h⟩
    · left; omega
    · exact .inr h
  obtain ⟨hf, hval⟩ := rung_val k neg (last - least k).toNat kept G.cap hj hr
  have hlow := G.low
  rw [show least k + ((last - least k).toNat : Int) = last by omega] at hval
  rw [fin_canon hf]
  have he := G.err h0
  have mk := mag_nonneg kept last
  refine ⟨.inr ⟨neg, v, last, kept, h0, rfl, G, hval⟩, hf, fin_canon hf, ?_, ?_, ?_, ?_⟩
  · rintro B ⟨s, j, t, h1, h2, rfl⟩ hB
    rw [hval]
    have mj := mag_nonneg j t
    cases neg <;> cases s <;> simp only [sg, Bool.false_eq_true, if_false, if_true] at hB ⊢
    · have := G.up h1 h2 (by grind); grind
    · have hz : v = 0 := by grind
      have := G.up (j := 0) (t := least k) (Nat.two_pow_pos _) (Int.le_refl _) (by rw [hz]; simp)
      have e0 : ((0 : Nat) : Rat) * p2 (least k) = 0 := by simp
      rw [e0] at this
      grind
    · grind
    · have := G.lo h1 h2 (by grind); grind
  · rintro B ⟨s, j, t, h1, h2, rfl⟩ hB
    rw [hval]
    have mj := mag_nonneg j t
    cases neg <;> cases s <;> simp only [sg, Bool.false_eq_true, if_false, if_true] at hB ⊢
    · have := G.lo h1 h2 (by grind); grind
    · grind
    · have hz : v = 0 := by grind
      have := G.up (j := 0) (t := least k) (Nat.two_pow_pos _) (Int.le_refl _) (by rw [hz]; simp)
      have e0 : ((0 : Nat) : Rat) * p2 (least k) = 0 := by simp
      rw [e0] at this
      grind
    · have := G.up h1 h2 (by grind); grind
  · rw [hval]
    have : ab (sg neg * v) = v := by cases neg <;> simp only [sg, Bool.false_eq_true, if_false, if_true] <;> unfold ab <;> split <;> grind
    rw [this]
    cases neg <;> simp only [sg, Bool.false_eq_true, if_false, if_true] <;> grind
  · rw [hval]
    have : ab (sg neg * v) = v := by cases neg <;> simp only [sg, Bool.false_eq_true, if_false, if_true] <;> unfold ab <;> split <;> grind
    rw [this]
    cases neg <;> simp only [sg, Bool.false_eq_true, if_false, if_true] <;> grind

theorem rn_zero {k : FloatKind} {x : Nat} (hf : finB k x = true) (h : fval k x = 0) : Rn k 0 x := by
  have p0 := p2_pos (least k - 1)
  have p1 := p2_pos (-(fb k + 1 : Nat))
  have a0 : ab 0 = 0 := by unfold ab; simp
  refine ⟨.inl ⟨rfl, h⟩, hf, fin_canon hf, fun B _ hB => by rw [h]; exact hB, fun B _ hB => by rw [h]; exact hB, ?_, ?_⟩ <;> rw [h, a0] <;> grind
theorem inf_pos (k : FloatKind) : 0 < k.format.infRung := by cases k <;> decide
theorem rn_write (k : FloatKind) (s : Bool) (m : Nat) (e : Int) (h : (m : Rat) * p2 e < p2 (top k)) : Rn k (sg s * ((m : Rat) * p2 e)) (canon k (k.format.write (.number s m e))) := by
  by_cases hm : m = 0
  · subst hm
    have e0 : sg s * (((0 : Nat) : Rat) * p2 e) = 0 := by simp
    rw [e0]
    have hw : k.format.write (.number s 0 e) = k.format.word s 0 := by
      show k.format.nearest s 0 e = _
      unfold Ieee.Format.nearest
      rw [if_pos rfl]
    rw [hw]
    obtain ⟨hf, hv⟩ := rung_val k s 0 0 (Nat.zero_le _) (.inl rfl) (by rw [Nat.zero_mul]; exact inf_pos k)
    rw [Nat.zero_mul, Nat.zero_add] at hf hv
    rw [fin_canon hf]
    exact rn_zero hf (by rw [hv]; simp)
  · obtain ⟨last, kept, G, _, hw⟩ := near_grid k s m e hm
    have h0 := mag_nonneg m e
    have r := rn_of_grid s G h0 h
    rw [← hw] at r
    exact r
theorem int_cast_le {a b : Int} (h : a ≤ b) : (a : Rat) ≤ (b : Rat) := by exact_mod_cast h
theorem signed_cast (s : Bool) (m a : Nat) : ((Ieee.signed s m a : Int) : Rat) = sg s * ((m : Rat) * p2 (a : Int)) := by
  have e : (((m <<< a : Nat) : Int) : Rat) = (m : Rat) * p2 (a : Int) := by
    rw [natShift, p2_nat, ← Rat.natCast_mul]; rfl
  unfold Ieee.signed sg
  cases s
  · rw [if_neg (by decide), if_neg (by decide), e]; grind
  · rw [if_pos rfl, if_pos rfl, Rat.intCast_neg, e]; grind
theorem sg_abs (t : Int) (b : Bool) (h : t = 0 ∨ b = decide (t < 0)) : sg b * ((t.natAbs : Nat) : Rat) = (t : Rat) := by
  rcases h with rfl | rfl
  · simp
  · unfold sg
    by_cases c : t < 0
    · rw [if_pos (by simpa using c)]
      have : ((t.natAbs : Nat) : Rat) = ((t.natAbs : Int) : Rat) := rfl
      rw [this, show (t.natAbs : Int) = -t by omega]
      simp
      grind
    · rw [if_neg (by simpa using c)]
      have : ((t.natAbs : Nat) : Rat) = ((t.natAbs : Int) : Rat) := rfl
      rw [this, show (t.natAbs : Int) = t by omega]
      grind
theorem rn_sum (k : FloatKind) {s t : Bool} {m n : Nat} {i j : Int} (h : ab (sg s * ((m : Rat) * p2 i) + sg t * ((n : Rat) * p2 j)) < p2 (top k)) :
    Rn k (sg s * ((m : Rat) * p2 i) + sg t * ((n : Rat) * p2 j)) (fnum k (((Ieee.Datum.number s m i).sum (.number t n j)).map k.format.write)) := by
  have e1 := signed_cast s m (i - min i j).toNat
  have e2 := signed_cast t n (j - min i j).toNat
  show Rn k _ (canon k (k.format.write (.number _ (Ieee.signed s m (i - min i j).toNat + Ieee.signed t n (j - min i j).toNat).natAbs (min i j))))
  generalize hb : min i j = b at *
  generalize hT : Ieee.signed s m (i - b).toNat + Ieee.signed t n (j - b).toNat = T
  have hc : (T : Rat) * p2 b = sg s * ((m : Rat) * p2 i) + sg t * ((n : Rat) * p2 j) := by
    rw [← hT, Rat.intCast_add, e1, e2]
    have p1 : p2 i = p2 ((i - b).toNat : Int) * p2 b := by rw [← p2_add]; congr 1; omega
    have p3 : p2 j = p2 ((j - b).toNat : Int) * p2 b := by rw [← p2_add]; congr 1; omega
    rw [p1, p3]
    grind
  have hs := sg_abs T (if T = 0 then s && t else decide (T < 0)) (by
    by_cases c : T = 0
    · exact .inl c
    · right; rw [if_neg c])
  have w := rn_write k (if T = 0 then s && t else decide (T < 0)) T.natAbs b (by
    rw [← hc] at h
    have hp := p2_pos b
    have hn : 0 ≤ ((T.natAbs : Nat) : Rat) * p2 b := mag_nonneg _ _
    have ha := le_ab ((T : Rat) * p2 b)
    rw [← hs] at ha h
    cases hq : (if T = 0 then s && t else decide (T < 0)) <;> rw [hq] at ha h <;> simp only [sg, Bool.false_eq_true, if_false, if_true] at ha h <;> grind)
  have e3 : sg (if T = 0 then s && t else decide (T < 0)) * ((T.natAbs : Nat) * p2 b) = sg s * ((m : Rat) * p2 i) + sg t * ((n : Rat) * p2 j) := by
    rw [← hc, ← hs]
    grind
  rw [e3] at w
  exact w
theorem rn_add {k : FloatKind} {x y : Nat} (hx : finB k x = true) (hy : finB k y = true) (h : ab (fval k x + fval k y) < p2 (top k)) : Rn k (fval k x + fval k y) (fadd k x y) := by
  obtain ⟨s, m, i, h1⟩ := fin_num hx
  obtain ⟨t, n, j, h2⟩ := fin_num hy
  rw [fval_of h1, fval_of h2] at h ⊢
  unfold fadd Ieee.Format.add
  rw [format_read, format_read, h1, h2]
  exact rn_sum k h
theorem rn_sub {k : FloatKind} {x y : Nat} (hx : finB k x = true) (hy : finB k y = true) (h : ab (fval k x - fval k y) < p2 (top k)) : Rn k (fval k x - fval k y) (fsub k x y) := by
  obtain ⟨s, m, i, h1⟩ := fin_num hx
  obtain ⟨t, n, j, h2⟩ := fin_num hy
  have e : fval k x - fval k y = sg s * ((m : Rat) * p2 i) + sg (!t) * ((n : Rat) * p2 j) := by
    rw [fval_of h1, fval_of h2]
    cases t <;> simp [sg] <;> grind
  rw [e] at h ⊢
  unfold fsub Ieee.Format.sub
  rw [format_read, format_read, h1, h2]
  exact rn_sum k h
theorem sg_xor (s t : Bool) : sg (s ^^ t) = sg s * sg t := by cases s <;> cases t <;> simp [sg] <;> grind
theorem ab_sg (s : Bool) {v : Rat} (h : 0 ≤ v) : ab (sg s * v) = v := by
  cases s <;> simp only [sg, Bool.false_eq_true, if_false, if_true] <;> unfold ab <;> split <;> grind
theorem rn_mul {k : FloatKind} {x y : Nat} (hx : finB k x = true) (hy : finB k y = true) (h : ab (fval k x * fval k y) < p2 (top k)) : Rn k (fval k x * fval k y) (fmul k x y) := by
  obtain ⟨s, m, i, h1⟩ := fin_num hx
  obtain ⟨t, n, j, h2⟩ := fin_num hy
  have e : fval k x * fval k y = sg (s ^^ t) * (((m * n : Nat) : Rat) * p2 (i + j)) := by
    rw [fval_of h1, fval_of h2, sg_xor, p2_add, Rat.natCast_mul]
    grind
  rw [e] at h ⊢
  unfold fmul Ieee.Format.mul
  rw [format_read, format_read, h1, h2]
  rw [ab_sg _ (mag_nonneg _ _)] at h
  exact rn_write k _ _ _ h
theorem quo_grid (k : FloatKind) {d n : Nat} {P last : Int} {kept : Nat} (hn : 0 < n) (G : Grid k (((2 * (d / n) + (d % n != 0).toNat : Nat) : Rat) * p2 P) last kept) (hl : P + 2 ≤ last) : Grid k ((d : Rat) / (n : Rat) * 2 * p2 P) last kept := by
  have hnr : (0 : Rat) < (n : Rat) := by exact_mod_cast hn
  obtain ⟨c, hc⟩ : ∃ c : Nat, last = ((c + 2 : Nat) : Int) + P := ⟨(last - P - 2).toNat, by omega⟩
  have hu := p2_pos P
  have el : p2 last = 4 * ((2 ^ c : Nat) : Rat) * p2 P := by
    rw [hc, p2_add, p2_nat, Nat.pow_add, Rat.natCast_mul]
    have : ((2 ^ 2 : Nat) : Rat) = 4 := rfl
    rw [this]
    grind
  have e1 := Nat.div_add_mod d n
  have e2 := Nat.mod_lt d hn
  have lowX : ∀ X : Nat, X ≤ d / n → (X : Rat) ≤ (d : Rat) / (n : Rat) := fun X hX => by
    have h := Nat.mul_le_mul_right n hX
    have h3 : X * n ≤ d := by rw [Nat.mul_comm (d / n)] at h; omega
    have h4 := cast_le h3
    rw [Rat.natCast_mul] at h4
    have h5 : (d : Rat) / n * n = d := Rat.div_mul_cancel (by grind)
    apply Classical.byContradiction
    intro hh
    have h6 := Rat.mul_lt_mul_of_pos_right (show (d : Rat) / n < X by grind) hnr
    grind
  have upX : ∀ Y : Nat, 2 * (d / n) + (d % n != 0).toNat ≤ 2 * Y → (d : Rat) / (n : Rat) ≤ (Y : Rat) := fun Y hY => by
    have h3 : d ≤ Y * n := by
      by_cases c0 : d % n = 0
      · have := Nat.mul_le_mul_right n (show d / n ≤ Y by omega)
        rw [Nat.mul_comm (d / n)] at this
        omega
      · have e5 : (d % n != 0) = true := by simpa using c0
        rw [e5] at hY
        simp at hY
        have := Nat.mul_le_mul_right n (show d / n + 1 ≤ Y by omega)
        rw [Nat.add_mul, Nat.mul_comm (d / n)] at this
        omega
    have h4 := cast_le h3
    rw [Rat.natCast_mul] at h4
    have h5 : (d : Rat) / n * n = d := Rat.div_mul_cancel (by grind)
    apply Classical.byContradiction
    intro hh
    have h6 := Rat.mul_lt_mul_of_pos_right (show (Y : Rat) < (d : Rat) / n by grind) hnr
    grind
  have st : (d % n != 0).toNat ≤ 1 := by cases (d % n != 0) <;> simp
  generalize hD : 2 * (d / n) + (d % n != 0).toNat = D at *
  generalize hg : 2 ^ c = g at *
  generalize hq : (d : Rat) / (n : Rat) = q at *
  have gge := G.ge
  have gle := G.le
  have gbig := G.big
  have two : ((2 : Nat) : Rat) = 2 := rfl
  have one : ((1 : Nat) : Rat) = 1 := rfl
  have geh := G.evh
  have gel := G.evl
  have exact_q : ∀ X : Nat, q = (X : Rat) → D = 2 * X := fun X hX => by
    have h5 : (d : Rat) / n * n = d := Rat.div_mul_cancel (by grind)
    rw [hq, hX] at h5
    have h6 : X * n = d := by
      rw [← Rat.natCast_mul] at h5
      exact_mod_cast h5
    rw [← hD, ← h6, Nat.mul_div_cancel _ hn, Nat.mul_mod_left]
    rfl
  refine ⟨G.low, G.cap, ?_, ?_, ?_, ?_, ?_⟩
  · rw [el] at gge ⊢
    by_cases k0 : kept = 0
    · subst k0
      have h0 := lowX 0 (Nat.zero_le _)
      have e0 : ((0 : Nat) : Rat) = 0 := rfl
      have hgr : (0 : Rat) ≤ (g : Rat) := by exact_mod_cast Nat.zero_le g
      have m1 := Rat.mul_nonneg hgr (Rat.le_of_lt hu)
      have m2 := Rat.mul_nonneg (show (0 : Rat) ≤ q by grind) (Rat.le_of_lt hu)
      rw [e0]
      grind
    · have hn2 : (2 * kept - 1) * (2 * g) ≤ D := by
        have hr : ((((2 * kept - 1) * (2 * g) : Nat)) : Rat) ≤ ((D : Nat) : Rat) := by
          have ek : ((2 * kept - 1 : Nat) : Rat) = 2 * (kept : Rat) - 1 := by
            have : ((2 * kept - 1 + 1 : Nat) : Rat) = ((2 * kept : Nat) : Rat) := by congr 1; omega
            rw [Rat.natCast_add, Rat.natCast_mul, two, one] at this
            grind
          rw [Rat.natCast_mul, ek, Rat.natCast_mul, two]
          apply Classical.byContradiction
          intro hh
          have h6 := Rat.mul_lt_mul_of_pos_right (show ((D : Nat) : Rat) < (2 * (kept : Rat) - 1) * (2 * g) by grind) hu
          grind
        exact_mod_cast hr
      have hX : (2 * kept - 1) * g ≤ d / n := by
        have : (2 * kept - 1) * (2 * g) = 2 * ((2 * kept - 1) * g) := by rw [Nat.mul_left_comm]
        omega
      have h7 := lowX _ hX
      have ek : ((2 * kept - 1 : Nat) : Rat) = 2 * (kept : Rat) - 1 := by
        have : ((2 * kept - 1 + 1 : Nat) : Rat) = ((2 * kept : Nat) : Rat) := by congr 1; omega
        rw [Rat.natCast_add, Rat.natCast_mul, two, one] at this
        grind
      rw [Rat.natCast_mul, ek] at h7
      have h8 := mul_le_r (Rat.le_of_lt hu) h7
      grind
  · rw [el] at gle ⊢
    have hn2 : D ≤ 2 * ((2 * kept + 1) * g) := by
      have hr : ((D : Nat) : Rat) ≤ ((2 * ((2 * kept + 1) * g) : Nat) : Rat) := by
        rw [Rat.natCast_mul, Rat.natCast_mul, Rat.natCast_add, Rat.natCast_mul, two, one]
        apply Classical.byContradiction
        intro hh
        have h6 := Rat.mul_lt_mul_of_pos_right (show 2 * ((2 * (kept : Rat) + 1) * g) < (D : Nat) by grind) hu
        grind
      exact_mod_cast hr
    have h7 := upX _ hn2
    rw [Rat.natCast_mul, Rat.natCast_add, Rat.natCast_mul, two, one] at h7
    have h8 := mul_le_r (Rat.le_of_lt hu) h7
    grind
  · refine gbig.imp id fun ⟨h, h'⟩ => ⟨?_, h'⟩
    rw [p2_add, p2_nat, el] at h ⊢
    have hn2 : 2 ^ fb k * (2 * (2 * g)) ≤ D := by
      have hr : ((2 ^ fb k * (2 * (2 * g)) : Nat) : Rat) ≤ ((D : Nat) : Rat) := by
        rw [Rat.natCast_mul, Rat.natCast_mul, Rat.natCast_mul, two]
        apply Classical.byContradiction
        intro hh
        have h6 := Rat.mul_lt_mul_of_pos_right (show ((D : Nat) : Rat) < ((2 ^ fb k : Nat) : Rat) * (2 * (2 * g)) by grind) hu
        grind
      exact_mod_cast hr
    have hX : 2 ^ fb k * (2 * g) ≤ d / n := by
      have : 2 ^ fb k * (2 * (2 * g)) = 2 * (2 ^ fb k * (2 * g)) := by rw [Nat.mul_left_comm]
      omega
    have h7 := lowX _ hX
    rw [Rat.natCast_mul, Rat.natCast_mul, two] at h7
    have h8 := mul_le_r (Rat.le_of_lt hu) h7
    grind
  · intro h
    rw [el] at h geh
    have hX := exact_q ((2 * kept + 1) * g) (by
      rw [Rat.natCast_mul, Rat.natCast_add, Rat.natCast_mul, two, one]
      exact mul_cancel hu (by grind))
    refine geh ?_
    rw [hX, Rat.natCast_mul, Rat.natCast_mul, Rat.natCast_add, Rat.natCast_mul, two, one]
    grind
  · intro h
    by_cases k0 : kept = 0
    · rw [k0]
    rw [el] at h gel
    have ek : ((2 * kept - 1 : Nat) : Rat) = 2 * (kept : Rat) - 1 := by
      have : ((2 * kept - 1 + 1 : Nat) : Rat) = ((2 * kept : Nat) : Rat) := by congr 1; omega
      rw [Rat.natCast_add, Rat.natCast_mul, two, one] at this
      grind
    have hX := exact_q ((2 * kept - 1) * g) (by
      rw [Rat.natCast_mul, ek]
      exact mul_cancel hu (by grind))
    refine gel ?_
    rw [hX, Rat.natCast_mul, Rat.natCast_mul, ek, two]
    grind

theorem sg_ne (s : Bool) : sg s ≠ 0 := by cases s <;> simp [sg] <;> grind
theorem rn_div {k : FloatKind} {x y : Nat} (hx : finB k x = true) (hy : finB k y = true) (h0 : fval k y ≠ 0) (h : ab (fval k x / fval k y) < p2 (top k)) : Rn k (fval k x / fval k y) (fdiv k x y) := by
  obtain ⟨s, m, i, h1⟩ := fin_num hx
  obtain ⟨t, n, j, h2⟩ := fin_num hy
  have hn : n ≠ 0 := by
    intro hn
    apply h0
    rw [fval_of h2, hn]
    simp
  have hnr : (n : Rat) ≠ 0 := by
    have : (0 : Rat) < (n : Rat) := by exact_mod_cast Nat.pos_of_ne_zero hn
    grind
  unfold fdiv Ieee.Format.div
  rw [format_read, format_read, h1, h2]
  simp only [Ieee.Datum.quotient, if_neg hn, fb_eq]
  generalize hmore : fb k + 2 + n.log2 - m.log2 = more
  rw [natShift]
  have e : fval k x / fval k y = sg (s ^^ t) * (((m * 2 ^ more : Nat) : Rat) / (n : Rat) * 2 * p2 (i - j - more - 1)) := by
    rw [fval_of h1, fval_of h2, sg_xor, Rat.natCast_mul, ← p2_nat]
    have p1 : p2 i = p2 (more : Int) * 2 * p2 (i - j - more - 1) * p2 j := by
      have : (2 : Rat) = p2 1 := rfl
      rw [this, ← p2_add, ← p2_add, ← p2_add]
      congr 1
      omega
    rw [p1]
    have hj := p2_pos j
    have ht : sg t * sg t = 1 := by cases t <;> simp [sg] <;> grind
    have ht0 := sg_ne t
    have hj0 : p2 j ≠ 0 := by grind
    generalize p2 (more : Int) = a
    generalize p2 (i - j - more - 1) = b
    generalize p2 j = c at *
    generalize (m : Rat) = m'
    generalize (n : Rat) = n' at *
    have d0 : sg t * (n' * c) ≠ 0 := by grind
    have key : (sg s * sg t * (m' * a / n' * 2 * b)) * (sg t * (n' * c)) = sg s * (m' * (a * 2 * b * c)) := by
      have : m' * a / n' * n' = m' * a := Rat.div_mul_cancel hnr
      grind
    rw [← key]
    exact Rat.mul_div_cancel d0
  rw [e] at h ⊢
  have hQ : 0 ≤ ((m * 2 ^ more : Nat) : Rat) / (n : Rat) * 2 * p2 (i - j - more - 1) := by
    have a1 : (0 : Rat) ≤ ((m * 2 ^ more : Nat) : Rat) := by exact_mod_cast Nat.zero_le _
    have a2 : (0 : Rat) < (n : Rat) := by exact_mod_cast Nat.pos_of_ne_zero hn
    have a3 : 0 ≤ ((m * 2 ^ more : Nat) : Rat) / (n : Rat) := by
      have h5 : ((m * 2 ^ more : Nat) : Rat) / n * n = ((m * 2 ^ more : Nat) : Rat) := Rat.div_mul_cancel hnr
      apply Classical.byContradiction
      intro hh
      have h6 := Rat.mul_lt_mul_of_pos_right (show ((m * 2 ^ more : Nat) : Rat) / n < 0 by grind) a2
      grind
    exact Rat.mul_nonneg (Rat.mul_nonneg a3 (by decide)) (Rat.le_of_lt (p2_pos _))
  rw [ab_sg _ hQ] at h
  by_cases hm : m = 0
  · subst hm
    have z : (0 * 2 ^ more : Nat) = 0 := Nat.zero_mul _
    rw [z] at h ⊢
    have z2 : 2 * (0 / n) + (0 % n != 0).toNat = 0 := by simp
    rw [z2]
    have w := rn_write k (s ^^ t) 0 (i - j - more - 1) (by
      have := p2_pos (top k)
      simpa using this)
    have e0 : sg (s ^^ t) * (((0 : Nat) : Rat) / (n : Rat) * 2 * p2 (i - j - more - 1)) = sg (s ^^ t) * (((0 : Nat) : Rat) * p2 (i - j - more - 1)) := by
      have : ((0 : Nat) : Rat) = 0 := rfl
      rw [this]
      grind
    rw [e0]
    exact w
  · -- the quotient has enough digits
    have hnp := Nat.pos_of_ne_zero hn
    have l1 := Nat.log2_self_le hm
    have l2 := @Nat.lt_log2_self n
    have d1 : 2 ^ (fb k + 1) ≤ m * 2 ^ more / n := by
      rw [Nat.le_div_iff_mul_le hnp]
      have a1 : 2 ^ m.log2 * 2 ^ more ≤ m * 2 ^ more := Nat.mul_le_mul_right _ l1
      have a2 : 2 ^ (fb k + 1) * n ≤ 2 ^ (fb k + 1) * 2 ^ (n.log2 + 1) := Nat.mul_le_mul_left _ (by omega)
      rw [← Nat.pow_add] at a1 a2
      exact Nat.le_trans a2 (Nat.le_trans (Nat.pow_le_pow_right (by decide) (by omega)) a1)
    generalize hd : m * 2 ^ more = d at *
    have hD : 2 * (d / n) + (d % n != 0).toNat ≠ 0 := by
      have := Nat.two_pow_pos (fb k + 1)
      omega
    obtain ⟨last, kept, G, hl, hw⟩ := near_grid k (s ^^ t) (2 * (d / n) + (d % n != 0).toNat) (i - j - more - 1) hD
    have hlog : fb k + 2 ≤ (2 * (d / n) + (d % n != 0).toNat).log2 := by
      rw [Nat.le_log2 hD, Nat.pow_succ]
      omega
    have G' := quo_grid k hnp G (by omega)
    have r := rn_of_grid (s ^^ t) G' hQ h
    rw [← hw] at r
    exact r
theorem Rn.same {k : FloatKind} {v : Rat} {x : Nat} (h : Rn k v x) (hr : Rep k v) : fval k x = v := by
  have h1 := h.up v hr (by grind)
  have h2 := h.lo v hr (by grind)
  grind
theorem wide_rn {x : Nat} (h : finB .f32 x = true) : Rn .f64 (fval .f32 x) (fconv .f64 .f32 x) ∧ fval .f64 (fconv .f64 .f32 x) = fval .f32 x := by
  obtain ⟨s, m, e, hd⟩ := fin_num h
  obtain ⟨b1, b2, b3⟩ := read_single x s m e hd
  have hc : fconv .f64 .f32 x = canon .f64 (FloatKind.format .f64 |>.write (.number s m e)) := by
    unfold fconv
    rw [if_neg (by decide), hd]
    rfl
  have hlt : (m : Rat) * p2 e < p2 (top .f64) := by
    have h1 := cast_le (show m ≤ 2 ^ 24 by omega)
    rw [← p2_nat] at h1
    have h2 := mul_le_r (Rat.le_of_lt (p2_pos e)) h1
    rw [← p2_add] at h2
    have h3 := p2_mono (show ((24 : Nat) : Int) + e ≤ 128 by omega)
    have h4 : p2 128 < p2 (top .f64) := by
      have h5 := p2_mono (show (129 : Int) ≤ top .f64 by decide)
      have h6 : p2 129 = p2 128 * 2 := p2_add 128 1
      have := p2_pos 128
      grind
    grind
  have r := rn_write .f64 s m e hlt
  rw [← hc, ← fval_of hd] at r
  refine ⟨r, r.same ⟨s, m, e, by show m < 2 ^ 53; omega, by show (-1074 : Int) ≤ e; omega, fval_of hd⟩⟩
theorem narrow_rn {x : Nat} (h : finB .f64 x = true) (hb : ab (fval .f64 x) < p2 127) : fconvOk .f32 .f64 x ∧ Rn .f32 (fval .f64 x) (fconv .f32 .f64 x) := by
  obtain ⟨s, m, e, hd⟩ := fin_num h
  rw [fval_of hd] at hb ⊢
  rw [ab_sg _ (mag_nonneg _ _)] at hb
  have r := rn_write .f32 s m e hb
  have hc : fconv .f32 .f64 x = canon .f32 (FloatKind.format .f32 |>.write (.number s m e)) := by
    unfold fconv
    rw [if_neg (by decide), hd]
    rfl
  rw [← hc] at r
  refine ⟨?_, r⟩
  right
  rw [hd]
  have hf := r.fin
  rw [hc] at hf
  have hn := fin_notnan hf
  rw [canon_isNaN] at hn
  have hc2 := canon_of_not hn
  rw [hc2] at hf
  obtain ⟨s', m', e', h'⟩ := fin_num hf
  show (FloatKind.decode .f32 (FloatKind.format .f32 |>.write (.number s m e))).isInfinity = false
  rw [h']
  rfl
theorem int_rn {k : FloatKind} {z : Int} (h : ab (z : Rat) < p2 (top k)) : Rn k (z : Rat) (canon k (k.nearest z)) := by
  have hs := sg_abs z (decide (z < 0)) (.inr rfl)
  have w := rn_write k (decide (z < 0)) z.natAbs 0 (by
    rw [p2_zero]
    have ha := le_ab (z : Rat)
    rw [← hs] at ha h
    cases hq : decide (z < 0) <;> rw [hq] at ha h <;> simp only [sg, Bool.false_eq_true, if_false, if_true] at ha h <;> grind)
  have e : sg (decide (z < 0)) * (((z.natAbs : Nat) : Rat) * p2 0) = (z : Rat) := by rw [p2_zero, ← hs]; grind
  rw [e] at w
  exact w
theorem rep_int (k : FloatKind) {z : Int} (h : z.natAbs < 2 ^ (fb k + 1)) : Rep k (z : Rat) :=
  ⟨decide (z < 0), z.natAbs, 0, h, by cases k <;> decide, by rw [p2_zero, ← sg_abs z (decide (z < 0)) (.inr rfl)]; grind⟩
theorem rep_p2 (k : FloatKind) {t : Int} (h : least k ≤ t) : Rep k (p2 t) :=
  ⟨false, 1, t, by cases k <;> decide, h, by simp [sg]⟩

theorem order_val {k : FloatKind} {x y : Nat} (hx : finB k x = true) (hy : finB k y = true) : k.format.order x y = some (if fval k x < fval k y then .lt else if fval k x = fval k y then .eq else .gt) := by
  obtain ⟨s, m, i, h1⟩ := fin_num hx
  obtain ⟨t, n, j, h2⟩ := fin_num hy
  unfold Ieee.Format.order
  rw [format_read, format_read, h1, h2]
  have e1 := signed_cast s m (i - min i j).toNat
  have e2 := signed_cast t n (j - min i j).toNat
  simp only [Ieee.Datum.order]
  generalize hb : min i j = b at *
  generalize Ieee.signed s m (i - b).toNat = A at *
  generalize Ieee.signed t n (j - b).toNat = B at *
  have hp := p2_pos b
  have f1 : fval k x = (A : Rat) * p2 b := by
    rw [fval_of h1, e1, show p2 i = p2 ((i - b).toNat : Int) * p2 b by rw [← p2_add]; congr 1; omega]
    grind
  have f2 : fval k y = (B : Rat) * p2 b := by
    rw [fval_of h2, e2, show p2 j = p2 ((j - b).toNat : Int) * p2 b by rw [← p2_add]; congr 1; omega]
    grind
  rw [f1, f2]
  congr 1
  rcases Int.lt_trichotomy A B with h | h | h
  · rw [Int.compare_eq_lt.2 h]
    have hr : (A : Rat) < (B : Rat) := by exact_mod_cast h
    rw [if_pos (Rat.mul_lt_mul_of_pos_right hr hp)]
  · subst h
    rw [Int.compare_eq_eq.2 rfl, if_neg (by grind), if_pos rfl]
  · rw [Int.compare_eq_gt.2 h]
    have hr : (B : Rat) < (A : Rat) := by exact_mod_cast h
    have := Rat.mul_lt_mul_of_pos_right hr hp
    rw [if_neg (by grind), if_neg (by grind)]
theorem fge_val {k : FloatKind} {x y : Nat} (hx : finB k x = true) (hy : finB k y = true) : fge k x y = decide (fval k y ≤ fval k x) := by
  unfold fge
  rw [order_val hx hy]
  split
  · rw [decide_eq_false (by grind)]; rfl
  · split
    · rw [decide_eq_true (by grind)]; rfl
    · rw [decide_eq_true (by grind)]; rfl
theorem fgt_val {k : FloatKind} {x y : Nat} (hx : finB k x = true) (hy : finB k y = true) : fgt k x y = decide (fval k y < fval k x) := by
  unfold fgt
  rw [order_val hx hy]
  split
  · rw [decide_eq_false (by grind)]; rfl
  · split
    · rw [decide_eq_false (by grind)]; rfl
    · rw [decide_eq_true (by grind)]; rfl
theorem fle_val {k : FloatKind} {x y : Nat} (hx : finB k x = true) (hy : finB k y = true) : fle k x y = decide (fval k x ≤ fval k y) := by
  unfold fle
  rw [order_val hx hy]
  split
  · rw [decide_eq_true (by grind)]; rfl
  · split
    · rw [decide_eq_true (by grind)]; rfl
    · rw [decide_eq_false (by grind)]; rfl
theorem feq_val {k : FloatKind} {x y : Nat} (hx : finB k x = true) (hy : finB k y = true) : feq k x y = decide (fval k x = fval k y) := by
  unfold feq
  rw [order_val hx hy]
  split
  · rw [decide_eq_false (by grind)]; rfl
  · split
    · rename_i h; rw [decide_eq_true h]; rfl
    · rename_i h; rw [decide_eq_false h]; rfl
theorem Grid.mono {k : FloatKind} {v w : Rat} {l1 l2 : Int} {k1 k2 : Nat} (G : Grid k v l1 k1) (H : Grid k w l2 k2) (h : v ≤ w) : (k1 : Rat) * p2 l1 ≤ (k2 : Rat) * p2 l2 := by
  have u1 := p2_pos l1
  have u2 := p2_pos l2
  rcases Int.lt_trichotomy l1 l2 with hl | hl | hl
  · -- the finer grid ends where the coarser one begins
    rcases H.big with hb | ⟨_, hb⟩
    · have := G.low; omega
    · have a1 := mul_le_r (Rat.le_of_lt u1) (cast_le G.cap)
      have a2 := mul_le_r (Rat.le_of_lt u2) (cast_le hb)
      rw [← p2_nat, ← p2_add] at a2
      rw [show 2 * 2 ^ fb k = 2 ^ (fb k + 1) by rw [Nat.pow_succ]; omega, ← p2_nat, ← p2_add] at a1
      have := p2_mono (show ((fb k + 1 : Nat) : Int) + l1 ≤ fb k + l2 by omega)
      grind
  · subst hl
    by_cases c : k1 ≤ k2
    · exact mul_le_r (Rat.le_of_lt u1) (cast_le c)
    · exfalso
      have a1 := G.ge
      have a2 := H.le
      have c1 := mul_le_r (Rat.le_of_lt u1) (cast_le (show k2 + 1 ≤ k1 by omega))
      have one : ((1 : Nat) : Rat) = 1 := rfl
      rw [Rat.natCast_add, one] at c1
      have e1 : (k1 : Rat) * p2 l1 = ((k2 : Rat) + 1) * p2 l1 := by grind
      have e2 : (k1 : Rat) = ((k2 + 1 : Nat) : Rat) := by
        rw [Rat.natCast_add, one]
        exact mul_cancel u1 e1
      have e3 : k1 = k2 + 1 := by exact_mod_cast e2
      have p1 := G.evl (by grind)
      have p3 := H.evh (by grind)
      omega
  · -- the first lies at the end of the second's grid
    rcases G.big with hb | ⟨hb, hk⟩
    · have := H.low; omega
    · have B := p2_add (fb k : Int) l1
      rw [p2_nat] at B
      have x2 := H.lo (j := 2 ^ fb k) (t := l1) (Nat.pow_lt_pow_right (by decide) (by omega)) G.low (by grind)
      by_cases c : k1 ≤ 2 ^ fb k
      · have := mul_le_r (Rat.le_of_lt u1) (cast_le c)
        grind
      · exfalso
        have one : ((1 : Nat) : Rat) = 1 := rfl
        have two : ((2 : Nat) : Rat) = 2 := rfl
        have c1 := mul_le_r (Rat.le_of_lt u1) (cast_le (show 2 ^ fb k + 1 ≤ k1 by omega))
        rw [Rat.natCast_add, one] at c1
        have a1 := G.ge
        have a2 := H.le
        have b1 := mul_le_r (Rat.le_of_lt u2) (cast_le H.cap)
        rw [Rat.natCast_mul, two] at b1
        have hm := p2_mono (show 1 + l2 ≤ l1 by omega)
        rw [p2_add, show p2 1 = 2 from rfl] at hm
        have b2 := Rat.mul_le_mul_of_nonneg_left hm (show (0 : Rat) ≤ ((2 ^ fb k : Nat) : Rat) by exact_mod_cast Nat.zero_le _)
        grind
theorem Grid.zero {k : FloatKind} {v : Rat} {l : Int} {q : Nat} (G : Grid k v l q) (h : v ≤ 0) : (q : Rat) * p2 l = 0 := by
  have a := G.up (j := 0) (t := least k) (Nat.two_pow_pos _) (Int.le_refl _) (by
    have e0 : ((0 : Nat) : Rat) * p2 (least k) = 0 := by simp
    rw [e0]; exact h)
  have e0 : ((0 : Nat) : Rat) * p2 (least k) = 0 := by simp
  rw [e0] at a
  have := mag_nonneg q l
  grind
theorem Nr.mono {k : FloatKind} {v w x y : Rat} (G : Nr k v x) (H : Nr k w y) (h : v ≤ w) : x ≤ y := by
  rcases G with ⟨rfl, rfl⟩ | ⟨s, a, l1, k1, a0, rfl, G, rfl⟩ <;> rcases H with ⟨rfl, rfl⟩ | ⟨t, b, l2, k2, b0, rfl, H, rfl⟩
  · exact Rat.le_refl
  · have m := mag_nonneg k2 l2
    cases t <;> simp only [sg, Bool.false_eq_true, if_false, if_true] at h ⊢
    · grind
    · have := H.zero (by grind); grind
  · have m := mag_nonneg k1 l1
    cases s <;> simp only [sg, Bool.false_eq_true, if_false, if_true] at h ⊢
    · have := G.zero (by grind); grind
    · grind
  · have m := mag_nonneg k1 l1
    have m2 := mag_nonneg k2 l2
    cases s <;> cases t <;> simp only [sg, Bool.false_eq_true, if_false, if_true] at h ⊢
    · have := G.mono H (by grind); grind
    · have := G.zero (by grind); have := H.zero (by grind); grind
    · grind
    · have := H.mono G (by grind); grind
theorem Rn.mono {k : FloatKind} {v w : Rat} {x y : Nat} (r : Rn k v x) (t : Rn k w y) (h : v ≤ w) : fval k x ≤ fval k y := r.nr.mono t.nr h
theorem Rn.bound {k : FloatKind} {v : Rat} {x : Nat} (h : Rn k v x) {B : Rat} (hB : Rep k B) (hv : ab v ≤ B) : ab (fval k x) ≤ B := by
  have a := le_ab v
  have h1 := h.up B hB (by grind)
  have h2 := h.lo (-B) hB.neg (by grind)
  exact ab_le h1 h2
theorem ab_sub (a b : Rat) : ab (a - b) ≤ ab a + ab b := by
  have := le_ab a
  have := le_ab b
  exact ab_le (by grind) (by grind)
theorem ab_mul (a b : Rat) : ab (a * b) = ab a * ab b := by
  by_cases ha : 0 ≤ a <;> by_cases hb : 0 ≤ b
  · rw [ab_of ha, ab_of hb, ab_of (Rat.mul_nonneg ha hb)]
  · have h1 := Rat.mul_nonneg ha (show 0 ≤ -b by grind)
    have e1 : ab b = -b := if_neg hb
    rw [ab_of ha, e1, ← ab_neg, ab_of (by grind)]
    grind
  · have h1 := Rat.mul_nonneg (show 0 ≤ -a by grind) hb
    have e1 : ab a = -a := if_neg ha
    rw [ab_of hb, e1, ← ab_neg, ab_of (by grind)]
    grind
  · have h1 := Rat.mul_nonneg (show 0 ≤ -a by grind) (show 0 ≤ -b by grind)
    have e1 : ab a = -a := if_neg ha
    have e2 : ab b = -b := if_neg hb
    rw [e1, e2, ab_of (by grind)]
    grind
end Go.Abs
/- The abstract layer, part ZO: 32-bit words and their values; relative errors; small integers as floats. Of no program. -/
set_option maxRecDepth 10000
set_option maxHeartbeats 2000000
set_option linter.unusedSimpArgs false
set_option linter.unusedVariables false
namespace Go.Abs
open Go


structure NN (x : Nat) : Prop where
  fin : finB .f32 x = true
  lt : x < 4294967296
  ne : x ≠ 2147483648
theorem word_of {x : Nat} (h : x < 4294967296) : ∃ s r, x = Ieee.single.word s r ∧ r < 2147483648 := by
  by_cases c : x < 2147483648
  · exact ⟨false, x, rfl, c⟩
  · refine ⟨true, x - 2147483648, ?_, by omega⟩
    show x = 2147483648 + (x - 2147483648)
    omega
theorem near_read (s : Bool) (r : Nat) (hr : r < 2139095040) (h0 : r ≠ 0) {m : Nat} {e : Int} (hd : Ieee.single.read (Ieee.single.word s r) = .number s m e) : Ieee.single.nearest s m e = Ieee.single.word s r := by
  have hd2 := read_rung .f32 s r hr
  rw [show FloatKind.f32.format = Ieee.single from rfl, hd] at hd2
  have cn : ∀ n : Nat, Ieee.Toward.even.cut s n 0 = n := fun n => cut_none .even _ _
  by_cases c : r < 2 ^ fb .f32
  · rw [if_pos c] at hd2
    obtain ⟨rfl, rfl⟩ : m = r ∧ e = least .f32 := by injection hd2 with _ a b; exact ⟨a, b⟩
    have hl : m.log2 ≤ 23 := by
      have := (Nat.log2_lt h0).2 c
      show m.log2 ≤ 23
      have e : fb .f32 = 23 := rfl
      omega
    unfold Ieee.Format.nearest
    rw [if_neg h0]
    have e1 : max (least .f32 + (m.log2 : Int) - (Ieee.single.fractionBits : Nat)) Ieee.single.leastPlace = -149 := by
      show max (-149 + (m.log2 : Int) - ((23 : Nat) : Int)) (-149) = -149
      omega
    simp only [e1]
    show Ieee.single.word s (min (((-149 : Int) - (-149)).toNat * Ieee.single.binade + Ieee.Toward.even.cut s (m <<< ((-149 : Int) - -149).toNat) ((-149 : Int) - -149).toNat) Ieee.single.infRung) = _
    rw [show ((-149 : Int) - -149).toNat = 0 from rfl, Nat.zero_mul, Nat.zero_add, Nat.shiftLeft_zero, cn, Nat.min_eq_left (by show m ≤ 2139095040; omega)]
  · rw [if_neg c] at hd2
    obtain ⟨rfl, rfl⟩ : m = 2 ^ fb .f32 + r % 2 ^ fb .f32 ∧ e = least .f32 + (r / 2 ^ fb .f32 - 1 : Nat) := by injection hd2 with _ a b; exact ⟨a, b⟩
    have eb : 2 ^ fb .f32 = 8388608 := rfl
    rw [eb] at c ⊢
    have hm : (8388608 + r % 8388608) ≠ 0 := by omega
    have hl : (8388608 + r % 8388608).log2 = 23 := (Nat.log2_eq_iff hm).2 (by omega)
    unfold Ieee.Format.nearest
    rw [if_neg hm, hl]
    have e1 : max (least .f32 + ((r / 8388608 - 1 : Nat) : Int) + ((23 : Nat) : Int) - (Ieee.single.fractionBits : Nat)) Ieee.single.leastPlace = least .f32 + ((r / 8388608 - 1 : Nat) : Int) := by
      show max (-149 + ((r / 8388608 - 1 : Nat) : Int) + ((23 : Nat) : Int) - ((23 : Nat) : Int)) (-149) = -149 + ((r / 8388608 - 1 : Nat) : Int)
      omega
    simp only [e1, Int.sub_self]
    rw [show (0 : Int).toNat = 0 from rfl, Nat.shiftLeft_zero, cn]
    have e2 : (least .f32 + ((r / 8388608 - 1 : Nat) : Int) - Ieee.single.leastPlace).toNat * Ieee.single.binade = (r / 8388608 - 1) * 8388608 := by
      show (-149 + ((r / 8388608 - 1 : Nat) : Int) - -149).toNat * 8388608 = _
      congr 1
      omega
    rw [e2]
    have e3 : (r / 8388608 - 1) * 8388608 + (8388608 + r % 8388608) = r := by omega
    rw [e3, Nat.min_eq_left (by show r ≤ 2139095040; omega)]
theorem nan32 : nanOf .f32 = 2143289344 := rfl
theorem inf32 : Ieee.single.infRung = 2139095040 := by decide +kernel
theorem lt_top64 {v : Rat} {t : Int} (h : v ≤ p2 t) (ht : t < 1023) : v < p2 (top .f64) := by
  have h1 := p2_mono (show t + 1 ≤ top .f64 by show t + 1 ≤ 1023; omega)
  rw [p2_add, show p2 1 = 2 from rfl] at h1
  have := p2_pos t
  grind
structure Pw (x : Nat) : Prop where
  fin : finB .f32 x = true
  lt : x < 4294967296
  pos : 0 < fval .f32 x
def iF (z : Int) : Nat := canon .f32 (FloatKind.nearest .f32 z)
theorem iF_rn {z : Int} (h : z.natAbs ≤ 1048576) : Rn .f32 (z : Rat) (iF z) := by
  refine int_rn ?_
  have h1 := int_cast_le (show z ≤ 1048576 by omega)
  have h2 := int_cast_le (show -1048576 ≤ z by omega)
  have e1 : (((1048576 : Int)) : Rat) = 1048576 := rfl
  have e2 : (((-1048576 : Int)) : Rat) = -1048576 := rfl
  rw [e1] at h1
  rw [e2] at h2
  have h3 : ab (z : Rat) ≤ 1048576 := ab_le h1 h2
  have h4 : p2 20 = 1048576 := p2_nat 20
  have h5 : p2 21 = p2 20 * 2 := p2_add 20 1
  have h6 := p2_mono (show (21 : Int) ≤ top .f32 by decide)
  grind
theorem iF_val {z : Int} (h : z.natAbs ≤ 1048576) : fval .f32 (iF z) = (z : Rat) := (iF_rn h).same (rep_int _ (by show z.natAbs < 2 ^ 24; omega))
theorem word_lt (s : Bool) {r : Nat} (h : r ≤ 2139095040) : Ieee.single.word s r < 4294967296 := by
  have w0 : Ieee.single.word false r = r := rfl
  have w1 : Ieee.single.word true r = Ieee.single.signWeight + r := rfl
  have w2 : Ieee.single.signWeight = 2147483648 := by decide +kernel
  rw [w2] at w1
  cases s
  · rw [w0]; omega
  · rw [w1]; omega
theorem canon_lt {w : Nat} (h : w < 4294967296) : canon .f32 w < 4294967296 := by
  unfold canon
  rw [nan32]
  cases (FloatKind.f32.decode w).isNaN
  · exact h
  · rw [if_pos rfl]; omega
theorem write_lt (s : Bool) (m : Nat) (e : Int) : canon .f32 (FloatKind.f32.format.write (.number s m e)) < 4294967296 := by
  obtain ⟨r, h1, h2, _⟩ := nearest_word .f32 s m e
  show canon .f32 (FloatKind.f32.format.nearest s m e) < _
  rw [h1]
  exact canon_lt (word_lt s (by rw [show FloatKind.f32.format.infRung = Ieee.single.infRung from rfl, inf32] at h2; exact h2))
end Go.Abs
/- The abstract layer, part ZP: a lone array told cell by cell (so that it may be cut). -/
set_option linter.unusedSimpArgs false
set_option linter.unusedVariables false
namespace Go.Abs
open Go
def FlatV (a b : AV) : Prop := b = .any ∨ (∃ j, a = .ptr 0 0 j ∧ b = .ptr 0 j 0) ∨ (a = b ∧ below 0 a = true)
def FlatTm : List AV → List AV → Prop
  | [], [] => True
  | a :: l, b :: m => FlatV a b ∧ FlatTm l m
  | _, _ => False
theorem FlatTm.get : ∀ {l m : List AV}, FlatTm l m → l.length = m.length ∧ ∀ (i : Nat) b, m[i]? = some b → ∃ a, l[i]? = some a ∧ FlatV a b
  | [], [], _ => ⟨rfl, by simp⟩
  | a :: l, b :: m, h => by
    obtain ⟨h1, h2⟩ := FlatTm.get h.2
    refine ⟨by simp [h1], fun i b' hb => ?_⟩
    cases i with
    | zero => simp at hb; subst hb; exact ⟨a, rfl, h.1⟩
    | succ i => simpa using h2 i b' (by simpa using hb)
  | [], _ :: _, h => h.elim
  | _ :: _, [], h => h.elim
def Env.flat {P : Program} (E : Env P) : Env P := { E with wd := fun _ => 1 }
theorem RV.rewd {P : Program} {E : Env P} {a : AV} {v : Value} (hb : Abs.below 0 a = true) (h : RV E a v) : RV E.flat a v :=
  RV.mono (RV.bare hb h) ⟨fun _ h => h, fun _ _ => rfl, Nat.zero_le _, fun _ hb => absurd hb (Nat.not_lt_zero _), fun _ hb => absurd hb (Nat.not_lt_zero _), fun _ => Nat.le_refl _⟩
theorem one_cell {a : AV} (h : a.one = true) : a.cells = [a] := by cases a <;> first | rfl | cases h
theorem weak_flat {ty : TypeId} {W : Nat} {cs : List AV} {tm tm2 : List AV} (hW : 0 < W) (hc : cs.all (fun c => c.one && below 0 c) = true) (ht : FlatTm tm tm2) : Weak 0 ⟨tm, [{ ty := ty, w := W, els := [.agg cs] }]⟩ ⟨tm2, [{ ty := ty, w := 1, els := cs }]⟩ := by
  intro P E0 hp0 E a hn hs
  have H := hs.hr
  have F := hs.fr
  obtain rfl : hp0 = [] := List.eq_nil_of_length_eq_zero hn
  obtain ⟨tl, tg⟩ := ht.get
  have hw0 : E.wd 0 = W := H.wd 0 _ rfl
  have hb0 : ∀ (b : Nat) (q : Blk), ([{ ty := ty, w := 1, els := cs }] : List Blk)[b]? = some q → b = 0 ∧ q = { ty := ty, w := 1, els := cs } := fun b q h => by
    cases b with
    | zero => simp at h; exact ⟨rfl, h.symm⟩
    | succ b => simp at h
  refine ⟨E.flat, rfl, ⟨⟨H.N, ?_, ?_, ?_, ?_, H.old, H.laid⟩, ⟨F.size, F.os, F.tape, F.output, F.block, Nat.zero_le _, fun b hb => absurd hb (Nat.not_lt_zero _), fun b hb => absurd hb (Nat.not_lt_zero _), F.F, F.F', ?_, F.csz⟩, tl ▸ hs.len, ?_, hs.df⟩⟩
  · intro b q h
    obtain ⟨rfl, rfl⟩ := hb0 b q h
    rfl
  · intro b q h hl
    obtain ⟨rfl, rfl⟩ := hb0 b q h
    obtain ⟨A, hrow, hA⟩ := (H.holds 0 _ rfl rfl).cells hW
    refine Holds.of (by show 0 < 1; decide) ⟨A, hrow, fun i e he => ?_⟩
    obtain ⟨_, h2⟩ := hA 0 _ rfl
    have hm := List.all_eq_true.1 hc e (List.mem_of_getElem? he)
    rw [Bool.and_eq_true] at hm
    rw [one_cell hm.1]
    refine ⟨rfl, fun j x hj => ?_⟩
    cases j with
    | succ j => simp at hj
    | zero =>
      simp at hj
      subst hj
      obtain ⟨v, hv, hr⟩ := h2 i e he
      refine ⟨v, ?_, RV.rewd hm.2 hr⟩
      simpa using hv
  · intro b b' q q' h hl h' hl' _
    rw [(hb0 b q h).1, (hb0 b' q' h').1]
  · intro b q h hl
    obtain ⟨rfl, rfl⟩ := hb0 b q h
    exact H.apart 0 _ rfl rfl
  · rintro b ⟨q, h, hl⟩
    obtain ⟨rfl, rfl⟩ := hb0 b q h
    exact F.live 0 ⟨_, rfl, rfl⟩
  · intro i b u hb hu
    obtain ⟨x, hx, hv⟩ := tg i b hb
    have hr := hs.tm i x u hx hu
    rcases hv with rfl | ⟨j, rfl, rfl⟩ | ⟨rfl, hlow⟩
    · exact .any _
    · cases hr with
      | ptr b i j hbN hw =>
        have := RV.ptr (E := E.flat) 0 j 0 hbN (by show 0 < 1; decide)
        have e : 0 * E.wd 0 + j = j * 1 + 0 := by omega
        rw [e]
        exact this
    · exact RV.rewd hlow hr
end Go.Abs
