/- The abstract layer: parts ZN ZO ZP. -/
import Derived.Test.YteenpfegadlkfaaGreatDoorAbsM4
/- The abstract layer, part ZN: floats as rational numbers: how far off what is rounded may be, and which bounds it keeps. Of no program. -/
set_option linter.unusedSimpArgs false
set_option linter.unusedVariables false
namespace Go.Abs
open Go

def p2 (e : Int) : Rat := (2 : Rat) ^ e
theorem p2_pos (e : Int) : 0 < p2 e := Rat.zpow_pos (by decide)
theorem p2_add (a b : Int) : p2 (a + b) = p2 a * p2 b := Rat.zpow_add (by decide) a b
theorem p2_nat (n : Nat) : p2 (n : Int) = ((2 ^ n : Nat) : Rat) := by
  unfold p2
  rw [Rat.zpow_natCast]
  induction n with
  | zero => rfl
  | succ n ih => rw [Rat.pow_succ, ih, Nat.pow_succ, Rat.natCast_mul]; rfl
theorem p2_one_le (n : Nat) : 1 ≤ p2 (n : Int) := by
  rw [p2_nat]
  exact_mod_cast Nat.one_le_two_pow
theorem p2_mono {a b : Int} (h : a ≤ b) : p2 a ≤ p2 b := by
  have e : b = a + ((b - a).toNat : Int) := by omega
  rw [e, p2_add]
  have := p2_one_le (b - a).toNat
  have := p2_pos a
  have h2 := Rat.mul_le_mul_of_nonneg_left (c := p2 a) (p2_one_le (b - a).toNat) (Rat.le_of_lt (p2_pos a))
  grind
def sg (s : Bool) : Rat := if s then -1 else 1
def fval (k : FloatKind) (x : Nat) : Rat := match k.decode x with
  | .number s m e => sg s * ((m : Rat) * p2 e)
  | _ => 0
theorem fval_of {k : FloatKind} {x : Nat} {s : Bool} {m : Nat} {e : Int} (h : k.decode x = .number s m e) : fval k x = sg s * ((m : Rat) * p2 e) := by
  unfold fval; rw [h]
theorem fin_num {k : FloatKind} {x : Nat} (h : finB k x = true) : ∃ s m e, k.decode x = .number s m e := by
  unfold finB at h
  cases hd : k.decode x with
  | number s m e => exact ⟨s, m, e, rfl⟩
  | infinity s => rw [hd] at h; cases h
  | nan s t => rw [hd] at h; cases h
def least (k : FloatKind) : Int := match k with | .f32 => -149 | .f64 => -1074
def fb (k : FloatKind) : Nat := match k with | .f32 => 23 | .f64 => 52
def top (k : FloatKind) : Int := match k with | .f32 => 127 | .f64 => 1023
structure Grid (k : FloatKind) (v : Rat) (last : Int) (kept : Nat) : Prop where
  low : least k ≤ last
  cap : kept ≤ 2 * 2 ^ fb k
  ge : (2 * (kept : Rat) - 1) * p2 last ≤ 2 * v
  le : 2 * v ≤ (2 * (kept : Rat) + 1) * p2 last
  big : last = least k ∨ (p2 (fb k + last) ≤ v ∧ 2 ^ fb k ≤ kept)
  evh : 2 * v = (2 * (kept : Rat) + 1) * p2 last → kept % 2 = 0
  evl : 2 * v = (2 * (kept : Rat) - 1) * p2 last → kept % 2 = 0
theorem cast_le {a b : Nat} (h : a ≤ b) : (a : Rat) ≤ (b : Rat) := by exact_mod_cast h
theorem mul_cancel {a b u : Rat} (hu : 0 < u) (h : a * u = b * u) : a = b := by
  have e1 : a * u / u = a := Rat.mul_div_cancel (by grind)
  have e2 : b * u / u = b := Rat.mul_div_cancel (by grind)
  rw [← e1, ← e2, h]
theorem nat_of_mul {a b : Nat} {u : Rat} (hu : 0 < u) (h : (2 * (a : Rat) - 1) * u ≤ 2 * (b : Rat) * u) : a ≤ b := by
  apply Classical.byContradiction
  intro hn
  have h1 := cast_le (show b + 1 ≤ a by omega)
  rw [Rat.natCast_add] at h1
  have t1 : ((1 : Nat) : Rat) = 1 := rfl
  rw [t1] at h1
  have h2 := Rat.mul_le_mul_of_nonneg_right (show 2 * (b : Rat) + 1 ≤ 2 * (a : Rat) - 1 by grind) (Rat.le_of_lt hu)
  grind
theorem mul_le_r {a b u : Rat} (hu : 0 ≤ u) (h : a ≤ b) : a * u ≤ b * u := Rat.mul_le_mul_of_nonneg_right h hu
theorem p2_shift (j : Nat) {t last : Int} (h : last ≤ t) : (j : Rat) * p2 t = ((j * 2 ^ (t - last).toNat : Nat) : Rat) * p2 last := by
  rw [Rat.natCast_mul, ← p2_nat, show t = last + ((t - last).toNat : Int) by omega, p2_add]
  rw [show last + ((t - last).toNat : Int) - last = ((t - last).toNat : Int) by omega, Int.toNat_natCast]
  grind
theorem small_lt (k : FloatKind) {j : Nat} {t last : Int} (hj : j < 2 ^ (fb k + 1)) (h : t < last) : (j : Rat) * p2 t + p2 t ≤ p2 (fb k + last) := by
  have h1 := cast_le (show j + 1 ≤ 2 ^ (fb k + 1) by omega)
  rw [← p2_nat, Rat.natCast_add] at h1
  have t1 : ((1 : Nat) : Rat) = 1 := rfl
  rw [t1] at h1
  have h2 := mul_le_r (Rat.le_of_lt (p2_pos t)) h1
  rw [← p2_add] at h2
  have h3 := p2_mono (show ((fb k + 1 : Nat) : Int) + t ≤ fb k + last by omega)
  grind
theorem Grid.up {k : FloatKind} {v : Rat} {last : Int} {kept : Nat} (G : Grid k v last kept) {j : Nat} {t : Int} (hj : j < 2 ^ (fb k + 1)) (ht : least k ≤ t) (h : v ≤ (j : Rat) * p2 t) : (kept : Rat) * p2 last ≤ (j : Rat) * p2 t := by
  have hu := p2_pos last
  by_cases c : last ≤ t
  · rw [p2_shift j c] at h ⊢
    have hg := G.ge
    have hk := nat_of_mul hu (a := kept) (b := j * 2 ^ (t - last).toNat) (by grind)
    exact mul_le_r (Rat.le_of_lt hu) (cast_le hk)
  · rcases G.big with hb | ⟨hb, _⟩
    · omega
    · have := small_lt k hj (show t < last by omega)
      have := p2_pos t
      grind
theorem Grid.lo {k : FloatKind} {v : Rat} {last : Int} {kept : Nat} (G : Grid k v last kept) {j : Nat} {t : Int} (hj : j < 2 ^ (fb k + 1)) (ht : least k ≤ t) (h : (j : Rat) * p2 t ≤ v) : (j : Rat) * p2 t ≤ (kept : Rat) * p2 last := by
  have hu := p2_pos last
  by_cases c : last ≤ t
  · rw [p2_shift j c] at h ⊢
    have hg := G.le
    have hk := nat_of_mul hu (a := j * 2 ^ (t - last).toNat) (b := kept) (by grind)
    exact mul_le_r (Rat.le_of_lt hu) (cast_le hk)
  · rcases G.big with hb | ⟨_, hb⟩
    · omega
    · have h1 := small_lt k hj (show t < last by omega)
      have h2 := mul_le_r (Rat.le_of_lt hu) (cast_le hb)
      rw [← p2_nat, ← p2_add] at h2
      have := p2_pos t
      grind
theorem Grid.err {k : FloatKind} {v : Rat} {last : Int} {kept : Nat} (G : Grid k v last kept) (hv : 0 ≤ v) : (kept : Rat) * p2 last - v ≤ p2 (-(fb k + 1 : Nat)) * v + p2 (least k - 1) ∧ v - (kept : Rat) * p2 last ≤ p2 (-(fb k + 1 : Nat)) * v + p2 (least k - 1) := by
  have hu : p2 last ≤ p2 (-(fb k : Int)) * v + p2 (least k) := by
    have p0 := p2_pos (-(fb k : Int))
    have p1 := p2_pos (least k)
    have q := Rat.mul_nonneg (Rat.le_of_lt p0) hv
    rcases G.big with h | ⟨h, _⟩
    · rw [h]; grind
    · have h2 := Rat.mul_le_mul_of_nonneg_left h (Rat.le_of_lt p0)
      rw [← p2_add, show -(fb k : Int) + (fb k + last) = last by omega] at h2
      grind
  have e1 : p2 (-(fb k : Int)) = 2 * p2 (-(fb k + 1 : Nat)) := by
    rw [show -(fb k : Int) = 1 + -((fb k + 1 : Nat) : Int) by omega, p2_add]; rfl
  have e2 : p2 (least k) = 2 * p2 (least k - 1) := by
    rw [show least k = 1 + (least k - 1) by omega, p2_add]
    rw [show 1 + (least k - 1) - 1 = least k - 1 by omega]; rfl
  have h1 := G.ge
  have h2 := G.le
  rw [e1, e2] at hu
  constructor <;> grind

def Rep (k : FloatKind) (B : Rat) : Prop := ∃ (s : Bool) (j : Nat) (t : Int), j < 2 ^ (fb k + 1) ∧ least k ≤ t ∧ B = sg s * ((j : Rat) * p2 t)
def ab (v : Rat) : Rat := if 0 ≤ v then v else -v
theorem le_ab (v : Rat) : v ≤ ab v ∧ -v ≤ ab v := by unfold ab; split <;> grind
theorem ab_le {v B : Rat} (h1 : v ≤ B) (h2 : -B ≤ v) : ab v ≤ B := by unfold ab; split <;> grind
theorem Rep.neg {k : FloatKind} {B : Rat} (h : Rep k B) : Rep k (-B) := by
  obtain ⟨s, j, t, h1, h2, rfl⟩ := h
  refine ⟨!s, j, t, h1, h2, ?_⟩
  cases s <;> simp [sg] <;> grind
def Nr (k : FloatKind) (v y : Rat) : Prop := (v = 0 ∧ y = 0) ∨ ∃ (s : Bool) (w : Rat) (last : Int) (kept : Nat), 0 ≤ w ∧ v = sg s * w ∧ Grid k w last kept ∧ y = sg s * ((kept : Rat) * p2 last)
structure Rn (k : FloatKind) (v : Rat) (x : Nat) : Prop where
  nr : Nr k v (fval k x)
  fin : finB k x = true
  can : canon k x = x
  up : ∀ B, Rep k B → v ≤ B → fval k x ≤ B
  lo : ∀ B, Rep k B → B ≤ v → B ≤ fval k x
  e1 : fval k x - v ≤ p2 (-(fb k + 1 : Nat)) * ab v + p2 (least k - 1)
  e2 : v - fval k x ≤ p2 (-(fb k + 1 : Nat)) * ab v + p2 (least k - 1)
theorem mag_nonneg (j : Nat) (t : Int) : 0 ≤ (j : Rat) * p2 t := Rat.mul_nonneg (by exact_mod_cast Nat.zero_le j) (Rat.le_of_lt (p2_pos t))
theorem Rn.same {k : FloatKind} {v : Rat} {x : Nat} (h : Rn k v x) (hr : Rep k v) : fval k x = v := by
  have h1 := h.up v hr (by grind)
  have h2 := h.lo v hr (by grind)
  grind
theorem Grid.mono {k : FloatKind} {v w : Rat} {l1 l2 : Int} {k1 k2 : Nat} (G : Grid k v l1 k1) (H : Grid k w l2 k2) (h : v ≤ w) : (k1 : Rat) * p2 l1 ≤ (k2 : Rat) * p2 l2 := by
  have u1 := p2_pos l1
  have u2 := p2_pos l2
  rcases Int.lt_trichotomy l1 l2 with hl | hl | hl
  · -- the finer grid ends where the coarser one begins
    rcases H.big with hb | ⟨_, hb⟩
    · have := G.low; omega
    · have a1 := mul_le_r (Rat.le_of_lt u1) (cast_le G.cap)
      have a2 := mul_le_r (Rat.le_of_lt u2) (cast_le hb)
      rw [← p2_nat, ← p2_add] at a2
      rw [show 2 * 2 ^ fb k = 2 ^ (fb k + 1) by rw [Nat.pow_succ]; omega, ← p2_nat, ← p2_add] at a1
      have := p2_mono (show ((fb k + 1 : Nat) : Int) + l1 ≤ fb k + l2 by omega)
      grind
  · subst hl
    by_cases c : k1 ≤ k2
    · exact mul_le_r (Rat.le_of_lt u1) (cast_le c)
    · exfalso
      have a1 := G.ge
      have a2 := H.le
      have c1 := mul_le_r (Rat.le_of_lt u1) (cast_le (show k2 + 1 ≤ k1 by omega))
      have one : ((1 : Nat) : Rat) = 1 := rfl
      rw [Rat.natCast_add, one] at c1
      have e1 : (k1 : Rat) * p2 l1 = ((k2 : Rat) + 1) * p2 l1 := by grind
      have e2 : (k1 : Rat) = ((k2 + 1 : Nat) : Rat) := by
        rw [Rat.natCast_add, one]
        exact mul_cancel u1 e1
      have e3 : k1 = k2 + 1 := by exact_mod_cast e2
      have p1 := G.evl (by grind)
      have p3 := H.evh (by grind)
      omega
  · -- the first lies at the end of the second's grid
    rcases G.big with hb | ⟨hb, hk⟩
    · have := H.low; omega
    · have B := p2_add (fb k : Int) l1
      rw [p2_nat] at B
      have x2 := H.lo (j := 2 ^ fb k) (t := l1) (Nat.pow_lt_pow_right (by decide) (by omega)) G.low (by grind)
      by_cases c : k1 ≤ 2 ^ fb k
      · have := mul_le_r (Rat.le_of_lt u1) (cast_le c)
        grind
      · exfalso
        have one : ((1 : Nat) : Rat) = 1 := rfl
        have two : ((2 : Nat) : Rat) = 2 := rfl
        have c1 := mul_le_r (Rat.le_of_lt u1) (cast_le (show 2 ^ fb k + 1 ≤ k1 by omega))
        rw [Rat.natCast_add, one] at c1
        have a1 := G.ge
        have a2 := H.le
        have b1 := mul_le_r (Rat.le_of_lt u2) (cast_le H.cap)
        rw [Rat.natCast_mul, two] at b1
        have hm := p2_mono (show 1 + l2 ≤ l1 by omega)
        rw [p2_add, show p2 1 = 2 from rfl] at hm
        have b2 := Rat.mul_le_mul_of_nonneg_left hm (show (0 : Rat) ≤ ((2 ^ fb k : Nat) : Rat) by exact_mod_cast Nat.zero_le _)
        grind
theorem Grid.zero {k : FloatKind} {v : Rat} {l : Int} {q : Nat} (G : Grid k v l q) (h : v ≤ 0) : (q : Rat) * p2 l = 0 := by
  have a := G.up (j := 0) (t := least k) (Nat.two_pow_pos _) (Int.le_refl _) (by
    have e0 : ((0 : Nat) : Rat) * p2 (least k) = 0 := by simp
    rw [e0]; exact h)
  have e0 : ((0 : Nat) : Rat) * p2 (least k) = 0 := by simp
  rw [e0] at a
  have := mag_nonneg q l
  grind
theorem Nr.mono {k : FloatKind} {v w x y : Rat} (G : Nr k v x) (H : Nr k w y) (h : v ≤ w) : x ≤ y := by
  rcases G with ⟨rfl, rfl⟩ | ⟨s, a, l1, k1, a0, rfl, G, rfl⟩ <;> rcases H with ⟨rfl, rfl⟩ | ⟨t, b, l2, k2, b0, rfl, H, rfl⟩
  · exact Rat.le_refl
  · have m := mag_nonneg k2 l2
    cases t <;> simp only [sg, Bool.false_eq_true, if_false, if_true] at h ⊢
    · grind
    · have := H.zero (by grind); grind
  · have m := mag_nonneg k1 l1
    cases s <;> simp only [sg, Bool.false_eq_true, if_false, if_true] at h ⊢
    · have := G.zero (by grind); grind
    · grind
  · have m := mag_nonneg k1 l1
    have m2 := mag_nonneg k2 l2
    cases s <;> cases t <;> simp only [sg, Bool.false_eq_true, if_false, if_true] at h ⊢
    · have := G.mono H (by grind); grind
    · have := G.zero (by grind); have := H.zero (by grind); grind
    · grind
    · have := H.mono G (by grind); grind
theorem Rn.mono {k : FloatKind} {v w : Rat} {x y : Nat} (r : Rn k v x) (t : Rn k w y) (h : v ≤ w) : fval k x ≤ fval k y := r.nr.mono t.nr h
theorem Rn.bound {k : FloatKind} {v : Rat} {x : Nat} (h : Rn k v x) {B : Rat} (hB : Rep k B) (hv : ab v ≤ B) : ab (fval k x) ≤ B := by
  have a := le_ab v
  have h1 := h.up B hB (by grind)
  have h2 := h.lo (-B) hB.neg (by grind)
  exact ab_le h1 h2
end Go.Abs
/- The abstract layer, part ZO: 32-bit words and their values; relative errors; small integers as floats. Of no program. -/
set_option maxRecDepth 10000
set_option maxHeartbeats 2000000
set_option linter.unusedSimpArgs false
set_option linter.unusedVariables false
namespace Go.Abs
open Go


structure NN (x : Nat) : Prop where
  fin : finB .f32 x = true
  lt : x < 4294967296
  ne : x ≠ 2147483648
theorem nan32 : nanOf .f32 = 2143289344 := rfl
theorem inf32 : Ieee.single.infRung = 2139095040 := by decide +kernel
def one32 : Nat := 1065353216
structure Pw (x : Nat) : Prop where
  fin : finB .f32 x = true
  lt : x < 4294967296
  pos : 0 < fval .f32 x
theorem Pw.num {x : Nat} (h : Pw x) : ∃ m e, FloatKind.f32.decode x = .number false m e ∧ m ≠ 0 := by
  obtain ⟨s, m, e, hd⟩ := fin_num h.fin
  have hp := h.pos
  rw [fval_of hd] at hp
  have hm := mag_nonneg m e
  refine ⟨m, e, ?_, ?_⟩
  · cases s
    · exact hd
    · simp only [sg, if_true] at hp
      grind
  · intro h0
    subst h0
    have e0 : ((0 : Nat) : Rat) = 0 := rfl
    rw [e0] at hp
    grind
theorem word_lt (s : Bool) {r : Nat} (h : r ≤ 2139095040) : Ieee.single.word s r < 4294967296 := by
  have w0 : Ieee.single.word false r = r := rfl
  have w1 : Ieee.single.word true r = Ieee.single.signWeight + r := rfl
  have w2 : Ieee.single.signWeight = 2147483648 := by decide +kernel
  rw [w2] at w1
  cases s
  · rw [w0]; omega
  · rw [w1]; omega
theorem canon_lt {w : Nat} (h : w < 4294967296) : canon .f32 w < 4294967296 := by
  unfold canon
  rw [nan32]
  cases (FloatKind.f32.decode w).isNaN
  · exact h
  · rw [if_pos rfl]; omega
theorem write_lt (s : Bool) (m : Nat) (e : Int) : canon .f32 (FloatKind.f32.format.write (.number s m e)) < 4294967296 := by
  obtain ⟨r, h1, h2, _⟩ := nearest_word .f32 s m e
  show canon .f32 (FloatKind.f32.format.nearest s m e) < _
  rw [h1]
  exact canon_lt (word_lt s (by rw [show FloatKind.f32.format.infRung = Ieee.single.infRung from rfl, inf32] at h2; exact h2))
end Go.Abs
/- The abstract layer, part ZP: a lone array told cell by cell (so that it may be cut). -/
set_option linter.unusedSimpArgs false
set_option linter.unusedVariables false
namespace Go.Abs
open Go
def FlatV (a b : AV) : Prop := b = .any ∨ (∃ j, a = .ptr 0 0 j ∧ b = .ptr 0 j 0) ∨ (a = b ∧ below 0 a = true)
def FlatTm : List AV → List AV → Prop
  | [], [] => True
  | a :: l, b :: m => FlatV a b ∧ FlatTm l m
  | _, _ => False
theorem FlatTm.get : ∀ {l m : List AV}, FlatTm l m → l.length = m.length ∧ ∀ (i : Nat) b, m[i]? = some b → ∃ a, l[i]? = some a ∧ FlatV a b
  | [], [], _ => ⟨rfl, by simp⟩
  | a :: l, b :: m, h => by
    obtain ⟨h1, h2⟩ := FlatTm.get h.2
    refine ⟨by simp [h1], fun i b' hb => ?_⟩
    cases i with
    | zero => simp at hb; subst hb; exact ⟨a, rfl, h.1⟩
    | succ i => simpa using h2 i b' (by simpa using hb)
  | [], _ :: _, h => h.elim
  | _ :: _, [], h => h.elim
def Env.flat {P : Program} (E : Env P) : Env P := { E with wd := fun _ => 1 }
theorem RV.rewd {P : Program} {E : Env P} {a : AV} {v : Value} (hb : Abs.below 0 a = true) (h : RV E a v) : RV E.flat a v :=
  RV.mono (RV.bare hb h) ⟨fun _ h => h, fun _ _ => rfl, Nat.zero_le _, fun _ hb => absurd hb (Nat.not_lt_zero _), fun _ hb => absurd hb (Nat.not_lt_zero _), fun _ => Nat.le_refl _⟩
theorem one_cell {a : AV} (h : a.one = true) : a.cells = [a] := by cases a <;> first | rfl | cases h
theorem weak_flat {ty : TypeId} {W : Nat} {cs : List AV} {tm tm2 : List AV} (hW : 0 < W) (hc : cs.all (fun c => c.one && below 0 c) = true) (ht : FlatTm tm tm2) : Weak 0 ⟨tm, [{ ty := ty, w := W, els := [.agg cs] }]⟩ ⟨tm2, [{ ty := ty, w := 1, els := cs }]⟩ := by
  intro P E0 hp0 E a hn hs
  have H := hs.hr
  have F := hs.fr
  obtain rfl : hp0 = [] := List.eq_nil_of_length_eq_zero hn
  obtain ⟨tl, tg⟩ := ht.get
  have hw0 : E.wd 0 = W := H.wd 0 _ rfl
  have hb0 : ∀ (b : Nat) (q : Blk), ([{ ty := ty, w := 1, els := cs }] : List Blk)[b]? = some q → b = 0 ∧ q = { ty := ty, w := 1, els := cs } := fun b q h => by
    cases b with
    | zero => simp at h; exact ⟨rfl, h.symm⟩
    | succ b => simp at h
  refine ⟨E.flat, rfl, ⟨⟨H.N, ?_, ?_, ?_, ?_, H.old, H.laid⟩, ⟨F.size, F.os, F.tape, F.output, F.block, Nat.zero_le _, fun b hb => absurd hb (Nat.not_lt_zero _), fun b hb => absurd hb (Nat.not_lt_zero _), F.F, F.F', ?_, F.csz⟩, tl ▸ hs.len, ?_, hs.df⟩⟩
  · intro b q h
    obtain ⟨rfl, rfl⟩ := hb0 b q h
    rfl
  · intro b q h hl
    obtain ⟨rfl, rfl⟩ := hb0 b q h
    obtain ⟨A, hrow, hA⟩ := (H.holds 0 _ rfl rfl).cells hW
    refine Holds.of (by show 0 < 1; decide) ⟨A, hrow, fun i e he => ?_⟩
    obtain ⟨_, h2⟩ := hA 0 _ rfl
    have hm := List.all_eq_true.1 hc e (List.mem_of_getElem? he)
    rw [Bool.and_eq_true] at hm
    rw [one_cell hm.1]
    refine ⟨rfl, fun j x hj => ?_⟩
    cases j with
    | succ j => simp at hj
    | zero =>
      simp at hj
      subst hj
      obtain ⟨v, hv, hr⟩ := h2 i e he
      refine ⟨v, ?_, RV.rewd hm.2 hr⟩
      simpa using hv
  · intro b b' q q' h hl h' hl' _
    rw [(hb0 b q h).1, (hb0 b' q' h').1]
  · intro b q h hl
    obtain ⟨rfl, rfl⟩ := hb0 b q h
    exact H.apart 0 _ rfl rfl
  · rintro b ⟨q, h, hl⟩
    obtain ⟨rfl, rfl⟩ := hb0 b q h
    exact F.live 0 ⟨_, rfl, rfl⟩
  · intro i b u hb hu
    obtain ⟨x, hx, hv⟩ := tg i b hb
    have hr := hs.tm i x u hx hu
    rcases hv with rfl | ⟨j, rfl, rfl⟩ | ⟨rfl, hlow⟩
    · exact .any _
    · cases hr with
      | ptr b i j hbN hw =>
        have := RV.ptr (E := E.flat) 0 j 0 hbN (by show 0 < 1; decide)
        have e : 0 * E.wd 0 + j = j * 1 + 0 := by omega
        rw [e]
        exact this
    · exact RV.rewd hlow hr
end Go.Abs
