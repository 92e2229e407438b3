/- Peoples: the numbers, in plain Lean: a year, shares. -/
import Derived.Test.YtemeaobpedfkmaaPeF
set_option maxRecDepth 10000
set_option maxHeartbeats 4000000
set_option linter.unusedSimpArgs false
set_option linter.unusedVariables false
namespace Go.Proofs.Ytemeaobpedfkmaa
open Go Go.Abs

def vL (l : List Nat) (j : Nat) : Rat := fval .f32 (l.getD j 0)
def sR (f : Nat → Rat) : Nat → Rat
  | 0 => 0
  | k + 1 => sR f k + f k
theorem sR_nonneg {f : Nat → Rat} (h : ∀ j, 0 ≤ f j) : ∀ n, 0 ≤ sR f n
  | 0 => by show (0 : Rat) ≤ 0; decide
  | n + 1 => by have := sR_nonneg h n; have := h n; show 0 ≤ sR f n + f n; grind
theorem sR_mono {f : Nat → Rat} (h : ∀ j, 0 ≤ f j) {m n : Nat} (hm : m ≤ n) : sR f m ≤ sR f n := by
  obtain ⟨d, rfl⟩ : ∃ d, n = m + d := ⟨n - m, by omega⟩
  clear hm
  induction d with
  | zero => exact Rat.le_refl
  | succ d ih => have := h (m + d); show _ ≤ sR f (m + d) + f (m + d); grind
theorem sR_one (f : Nat → Rat) {n : Nat} (h : ∀ j, 0 ≤ f j) (hn : 1 ≤ n) : f 0 ≤ sR f n := by
  have := sR_mono h hn
  have e : sR f 1 = 0 + f 0 := rfl
  grind
structure NfL (c : List Nat) : Prop where
  fin : ∀ j, finB .f32 (c.getD j 0) = true
  nn : ∀ j, 0 ≤ vL c j
structure Par (ss bs : List Nat) : Prop where
  s : NfL ss
  b : NfL bs
  s1 : ∀ j, vL ss j ≤ 15 / 16
  b1 : ∀ j, vL bs j ≤ 5 / 4
  b0 : 1 / 4 ≤ vL bs 0
theorem big60 {v T : Rat} (h0 : 0 ≤ v) (hT : T ≤ p2 60) (h : v ≤ 4 * T) : ab v < p2 (top .f32) := by
  refine lt_top32 (t := 62) ?_ (by decide)
  rw [ab_of h0]
  have e : p2 62 = 4 * p2 60 := by
    rw [show (62 : Int) = 2 + 60 from rfl, p2_add, show p2 2 = 4 from p2_nat 2]
  rw [e]; grind
theorem tn_small : p2 (-150) ≤ 1 / 4194304 := by
  have := p2_mono (show (-150 : Int) ≤ -22 by decide)
  have e : p2 (-22) = 1 / 4194304 := by decide +kernel
  rw [e] at this; exact this
theorem p24 : p2 (-24) = 1 / 16777216 := by decide +kernel
theorem op_er {v T : Rat} {x : Nat} (r : Rn .f32 v x) (h0 : 0 ≤ v) (hT : 1 ≤ T) (h : v ≤ 4 * T) : 0 ≤ fval .f32 x ∧ fval .f32 x ≤ v + T / 1048576 ∧ v - T / 1048576 ≤ fval .f32 x := by
  have h1 := r.e1
  have h2 := r.e2
  rw [ab_of h0] at h1 h2
  have e1 : ((fb .f32 + 1 : Nat) : Int) = 24 := rfl
  have e2 : least .f32 - 1 = -150 := rfl
  rw [e1, e2, p24] at h1 h2
  have t := tn_small
  refine ⟨r.lo 0 (by have := rep_int .f32 (z := 0) (by decide); exact this) h0, ?_, ?_⟩ <;> grind
theorem add_er {x y : Nat} {T : Rat} (fx : finB .f32 x = true) (fy : finB .f32 y = true) (x0 : 0 ≤ fval .f32 x) (y0 : 0 ≤ fval .f32 y) (hT : 1 ≤ T) (hT2 : T ≤ p2 60) (h : fval .f32 x + fval .f32 y ≤ 4 * T) :
    Rn .f32 (fval .f32 x + fval .f32 y) (fadd .f32 x y) ∧ 0 ≤ fval .f32 (fadd .f32 x y) ∧ fval .f32 (fadd .f32 x y) ≤ fval .f32 x + fval .f32 y + T / 1048576 ∧ fval .f32 x + fval .f32 y - T / 1048576 ≤ fval .f32 (fadd .f32 x y) := by
  have r := rn_add fx fy (big60 (by grind) hT2 h)
  exact ⟨r, op_er r (by grind) hT h⟩
theorem mul_er {x y : Nat} {T : Rat} (fx : finB .f32 x = true) (fy : finB .f32 y = true) (x0 : 0 ≤ fval .f32 x) (y0 : 0 ≤ fval .f32 y) (hT : 1 ≤ T) (hT2 : T ≤ p2 60) (h : fval .f32 x * fval .f32 y ≤ 4 * T) :
    Rn .f32 (fval .f32 x * fval .f32 y) (fmul .f32 x y) ∧ 0 ≤ fval .f32 (fmul .f32 x y) ∧ fval .f32 (fmul .f32 x y) ≤ fval .f32 x * fval .f32 y + T / 1048576 ∧ fval .f32 x * fval .f32 y - T / 1048576 ≤ fval .f32 (fmul .f32 x y) := by
  have m := Rat.mul_nonneg x0 y0
  have r := rn_mul fx fy (big60 m hT2 h)
  exact ⟨r, op_er r m hT h⟩
theorem nat_cast_succ (i : Nat) : ((i + 1 : Nat) : Rat) = (i : Rat) + 1 := by
  rw [Rat.natCast_add]; rfl
theorem cast5 {i : Nat} (h : i ≤ 5) : (i : Rat) ≤ 5 := by
  have := cast_le h
  have e : ((5 : Nat) : Rat) = 5 := rfl
  rw [e] at this; exact this
theorem cast0 (i : Nat) : (0 : Rat) ≤ (i : Rat) := by exact_mod_cast Nat.zero_le i
theorem mul_u {i : Nat} {u : Rat} (h : i ≤ 5) (u0 : 0 ≤ u) : 0 ≤ (i : Rat) * u ∧ (i : Rat) * u ≤ 5 * u := by
  have a := Rat.mul_le_mul_of_nonneg_right (cast5 h) u0
  exact ⟨Rat.mul_nonneg (cast0 i) u0, a⟩
theorem dot_er {c ss bs : List Nat} {n : Nat} {T : Rat} (P : Par ss bs) (hc : NfL c) (hT : 1 ≤ T) (hT2 : T ≤ p2 60) (n5 : n ≤ 5) (hs : sR (vL c) n ≤ T) :
    ∀ i, i ≤ n → finB .f32 (dotF c bs i) = true ∧ 0 ≤ fval .f32 (dotF c bs i) ∧ fval .f32 (dotF c bs i) ≤ 5 / 4 * sR (vL c) i + (i : Rat) * (2 * (T / 1048576)) ∧
      (∀ B, Rep .f32 B → 1 ≤ i → B ≤ vL c 0 * vL bs 0 → B ≤ fval .f32 (dotF c bs i))
  | 0, _ => ⟨by show finB .f32 0 = true; decide +kernel, by show 0 ≤ fval .f32 0; rw [fval_zero]; exact Rat.le_refl, by
      show fval .f32 0 ≤ 5 / 4 * 0 + ((0 : Nat) : Rat) * _
      rw [fval_zero, show ((0 : Nat) : Rat) = 0 from rfl]; grind, fun B _ h => by omega⟩
  | i + 1, hi => by
    obtain ⟨f, z, u, l⟩ := dot_er P hc hT hT2 n5 hs i (by omega)
    have c0 := hc.nn i
    have b0 := P.b.nn i
    have b1 := P.b1 i
    have s1 := sR_mono hc.nn (show i + 1 ≤ n from hi)
    have e1 : sR (vL c) (i + 1) = sR (vL c) i + vL c i := rfl
    have m1 := Rat.mul_le_mul_of_nonneg_left b1 c0
    have m0 := Rat.mul_nonneg c0 b0
    have si := sR_nonneg hc.nn i
    have hu := mul_u (show i ≤ 5 by omega) (show 0 ≤ 2 * (T / 1048576) by grind)
    obtain ⟨rm, rm0, rm1, rm2⟩ := mul_er (hc.fin i) (P.b.fin i) c0 b0 hT hT2 (show vL c i * vL bs i ≤ 4 * T by grind)
    change fval .f32 _ ≤ vL c i * vL bs i + _ at rm1
    change vL c i * vL bs i - _ ≤ fval .f32 _ at rm2
    obtain ⟨ra, ra0, ra1, ra2⟩ := add_er f rm.fin z rm0 hT hT2 (by grind)
    refine ⟨ra.fin, ra0, ?_, ?_⟩
    · show fval .f32 (fadd .f32 (dotF c bs i) (fmul .f32 (c.getD i 0) (bs.getD i 0))) ≤ _
      rw [nat_cast_succ, e1]
      grind
    · intro B hB _ hb
      refine ra.lo B hB ?_
      rcases Nat.eq_zero_or_pos i with h0 | h0
      · subst h0
        have := rm.lo B hB hb
        grind
      · have := l B hB h0 hb
        grind
theorem next_zero (c ss bs : List Nat) : (nextL c ss bs).getD 0 0 = dotF c bs c.length := rfl
theorem next_succ (c ss bs : List Nat) {j : Nat} (h : j + 1 < c.length) : (nextL c ss bs).getD (j + 1) 0 = ageF c ss (j + 1) := by
  unfold nextL nextF
  simp [h]
  rw [List.getElem?_eq_getElem (by simp; omega)]
  simp
theorem next_out (c ss bs : List Nat) {j : Nat} (h0 : 1 ≤ c.length) (h : c.length ≤ j) : (nextL c ss bs).getD j 0 = 0 := by
  rw [List.getD_eq_getElem?_getD, List.getElem?_eq_none (by rw [nextL_len _ _ _ h0]; exact h)]
  rfl
end Go.Proofs.Ytemeaobpedfkmaa
