/- The abstract layer, part ZC: numbers that are not negative: sums, products and quotients keep it. Of no program. -/
import Derived.Test.YtedcleblhbncmaaAbsW
set_option linter.unusedSimpArgs false
set_option linter.unusedVariables false
namespace Go.Abs
open Go

/-- If it is a number, it is not negative. -/
def GeZ (k : FloatKind) (x : Nat) : Prop := ∀ s m e, k.decode x = .number s m e → s = false ∨ m = 0
theorem gez_of_notfin {k : FloatKind} {x : Nat} (h : finB k x = false) : GeZ k x := by
  intro s m e hd
  unfold finB at h
  rw [hd] at h
  cases h
theorem inf_lt (k : FloatKind) : k.format.infRung < k.format.signWeight := by cases k <;> decide
theorem read_word (k : FloatKind) (neg : Bool) (r : Nat) (h : r ≤ k.format.infRung) : (∃ m e, k.format.read (k.format.word neg r) = .number neg m e ∧ (r = 0 → m = 0)) ∨ k.format.read (k.format.word neg r) = .infinity neg := by
  have hlt := inf_lt k
  have hpos : 0 < k.format.signWeight := Nat.lt_of_le_of_lt (Nat.zero_le _) hlt
  have h1 : k.format.word neg r % k.format.signWeight = r := by
    unfold Ieee.Format.word
    split
    · rw [Nat.add_mod_left, Nat.mod_eq_of_lt (by omega)]
    · exact Nat.mod_eq_of_lt (by omega)
  have h2 : (k.format.word neg r / k.format.signWeight % 2 == 1) = neg := by
    unfold Ieee.Format.word
    cases neg
    · rw [if_neg (by decide), Nat.div_eq_of_lt (by omega)]; rfl
    · rw [if_pos rfl, Nat.add_div_left _ hpos, Nat.div_eq_of_lt (by omega)]; rfl
  unfold Ieee.Format.read
  simp only [h1, h2]
  have hb : 0 < k.format.binade := by cases k <;> decide
  split
  · exact .inl ⟨r, _, rfl, fun h => h⟩
  · rename_i hr
    split
    · exact .inl ⟨_, _, rfl, fun h => by omega⟩
    · split
      · exact .inr rfl
      · rename_i h3 h4
        exact absurd (Nat.le_antisymm h (by omega)) h4
theorem nearest_word (k : FloatKind) (neg : Bool) (m : Nat) (e : Int) : ∃ r, k.format.nearest neg m e = k.format.word neg r ∧ r ≤ k.format.infRung ∧ (m = 0 → r = 0) := by
  unfold Ieee.Format.nearest
  split
  · exact ⟨0, rfl, Nat.zero_le _, fun _ => rfl⟩
  · rename_i h
    exact ⟨_, rfl, Nat.min_le_right _ _, fun h0 => absurd h0 h⟩
theorem gez_write (k : FloatKind) {s : Bool} {m : Nat} {e : Int} (h : s = false ∨ m = 0) : GeZ k (canon k (k.format.write (.number s m e))) := by
  intro s' m' e' hd
  have hn : (k.decode (canon k (k.format.write (.number s m e)))).isNaN = false := by rw [hd]; rfl
  rw [decode_canon_not hn] at hd
  obtain ⟨r, h1, h2, h3⟩ := nearest_word k s m e
  have hd' : k.format.read (k.format.word s r) = .number s' m' e' := by rw [← h1]; exact hd
  rcases read_word k s r h2 with ⟨m2, e2, h4, h5⟩ | h4
  · rw [h4] at hd'
    cases hd'
    rcases h with h | h
    · exact .inl h
    · exact .inr (h5 (h3 h))
  · rw [h4] at hd'
    cases hd'
theorem gez_fnum {k : FloatKind} {d : Option Ieee.Datum} (h : ∀ s m e, d = some (.number s m e) → s = false ∨ m = 0) (hn : ∀ s t, d ≠ some (.nan s t)) : GeZ k (fnum k (d.map k.format.write)) := by
  cases d with
  | none => exact gez_of_notfin (fin_nan k)
  | some d =>
    cases d with
    | number s m e => exact gez_write k (h s m e rfl)
    | infinity s => exact gez_of_notfin (fin_inf k s)
    | nan s t => exact absurd rfl (hn s t)
theorem signed_ge {s : Bool} {m n : Nat} (h : s = false ∨ m = 0) : 0 ≤ Ieee.signed s m n := by
  unfold Ieee.signed
  rcases h with h | h
  · subst h; rw [if_neg (by decide)]; exact Int.natCast_nonneg _
  · subst h; simp
theorem gez_add {k : FloatKind} {x y : Nat} (hx : GeZ k x) (hy : GeZ k y) : GeZ k (fadd k x y) := by
  unfold fadd Ieee.Format.add
  rw [format_read, format_read]
  refine gez_fnum ?_ ?_
  · intro s m e hd
    cases h1 : k.decode x with
    | nan a b => rw [h1] at hd; cases h2 : k.decode y <;> rw [h2] at hd <;> cases hd
    | infinity a =>
      rw [h1] at hd
      cases h2 : k.decode y with
      | infinity b =>
        rw [h2] at hd
        simp only [Ieee.Datum.sum] at hd
        split at hd <;> cases hd
      | _ => rw [h2] at hd; cases hd
    | number a b c =>
      rw [h1] at hd
      cases h2 : k.decode y with
      | number a' b' c' =>
        rw [h2] at hd
        simp only [Ieee.Datum.sum, Option.some.injEq, Ieee.Datum.number.injEq] at hd
        obtain ⟨hs, hm, _⟩ := hd
        have g1 := signed_ge (n := (c - min c c').toNat) (hx a b c h1)
        have g2 := signed_ge (n := (c' - min c c').toNat) (hy a' b' c' h2)
        rw [← hs, ← hm]
        split
        · rename_i h0
          right
          rw [h0]; rfl
        · left
          exact decide_eq_false (by omega)
      | _ => rw [h2] at hd; cases hd
  · intro s t hd
    cases h1 : k.decode x <;> rw [h1] at hd <;> cases h2 : k.decode y <;> rw [h2] at hd <;> simp only [Ieee.Datum.sum] at hd <;> first | (cases hd; done) | (split at hd <;> cases hd)
theorem gez_mul {k : FloatKind} {x y : Nat} (hx : GeZ k x) (hy : GeZ k y) : GeZ k (fmul k x y) := by
  unfold fmul Ieee.Format.mul
  rw [format_read, format_read]
  refine gez_fnum ?_ ?_
  · intro s m e hd
    cases h1 : k.decode x with
    | nan a b => rw [h1] at hd; cases h2 : k.decode y <;> rw [h2] at hd <;> cases hd
    | infinity a =>
      rw [h1] at hd
      cases h2 : k.decode y with
      | number a' b' c' =>
        rw [h2] at hd
        simp only [Ieee.Datum.product] at hd
        split at hd <;> cases hd
      | _ => rw [h2] at hd; cases hd
    | number a b c =>
      rw [h1] at hd
      cases h2 : k.decode y with
      | number a' b' c' =>
        rw [h2] at hd
        simp only [Ieee.Datum.product, Option.some.injEq, Ieee.Datum.number.injEq] at hd
        obtain ⟨hs, hm, _⟩ := hd
        rcases hx a b c h1 with g1 | g1
        · rcases hy a' b' c' h2 with g2 | g2
          · left; rw [← hs, g1, g2]; rfl
          · right; rw [← hm, g2, Nat.mul_zero]
        · right; rw [← hm, g1, Nat.zero_mul]
      | infinity a' =>
        rw [h2] at hd
        simp only [Ieee.Datum.product] at hd
        split at hd <;> cases hd
      | nan a' b' => rw [h2] at hd; cases hd
  · intro s t hd
    cases h1 : k.decode x <;> rw [h1] at hd <;> cases h2 : k.decode y <;> rw [h2] at hd <;> simp only [Ieee.Datum.product] at hd <;> first | (cases hd; done) | (split at hd <;> cases hd)
theorem gez_div {k : FloatKind} {x y : Nat} (hx : GeZ k x) (hy : GeZ k y) : GeZ k (fdiv k x y) := by
  unfold fdiv Ieee.Format.div
  rw [format_read, format_read]
  refine gez_fnum ?_ ?_
  · intro s m e hd
    cases h1 : k.decode x with
    | nan a b => rw [h1] at hd; cases h2 : k.decode y <;> rw [h2] at hd <;> cases hd
    | infinity a =>
      rw [h1] at hd
      cases h2 : k.decode y <;> rw [h2] at hd <;> cases hd
    | number a b c =>
      rw [h1] at hd
      cases h2 : k.decode y with
      | number a' b' c' =>
        rw [h2] at hd
        simp only [Ieee.Datum.quotient] at hd
        split at hd
        · split at hd <;> cases hd
        · rename_i hn
          simp only [Option.some.injEq, Ieee.Datum.number.injEq] at hd
          obtain ⟨hs, hm, _⟩ := hd
          rcases hy a' b' c' h2 with g2 | g2
          · rcases hx a b c h1 with g1 | g1
            · left; rw [← hs, g1, g2]; rfl
            · right; rw [← hm, g1]; simp
          · exact absurd g2 hn
      | infinity a' =>
        rw [h2] at hd
        simp only [Ieee.Datum.quotient, Option.some.injEq, Ieee.Datum.number.injEq] at hd
        exact .inr hd.2.1.symm
      | nan a' b' => rw [h2] at hd; cases hd
  · intro s t hd
    cases h1 : k.decode x <;> rw [h1] at hd <;> cases h2 : k.decode y <;> rw [h2] at hd <;> simp only [Ieee.Datum.quotient] at hd <;> first | (cases hd; done) | (split at hd <;> first | (cases hd; done) | (split at hd <;> cases hd))
theorem gez_zero (k : FloatKind) : GeZ k 0 := by
  intro s m e h
  rw [decode_zero] at h
  cases h
  exact .inl rfl
/-- At least 0, as floats compare. -/
theorem fge_gez (k : FloatKind) {x : Nat} (h : fge k x 0 = true) : GeZ k x := by
  intro s m e hd
  unfold fge Ieee.Format.order at h
  rw [format_read, format_read, hd, decode_zero] at h
  simp only [Ieee.Datum.order] at h
  cases s with
  | false => exact .inl rfl
  | true =>
    right
    apply Classical.byContradiction
    intro hm
    have h0 : Ieee.signed false 0 (k.format.leastPlace - min e k.format.leastPlace).toNat = 0 := by simp [Ieee.signed]
    have hneg : Ieee.signed true m (e - min e k.format.leastPlace).toNat < 0 := by
      simp only [Ieee.signed, if_true]
      have : 0 < m <<< (e - min e k.format.leastPlace).toNat := by rw [Nat.shiftLeft_eq]; exact Nat.mul_pos (Nat.pos_of_ne_zero hm) (Nat.two_pow_pos _)
      omega
    rw [h0, (Int.compare_eq_lt).2 hneg] at h
    simp at h
theorem gez_fge (k : FloatKind) {x : Nat} (hf : finB k x = true) (h : GeZ k x) : fge k x 0 = true := by
  unfold finB at hf
  cases hd : k.decode x with
  | nan s t => rw [hd] at hf; cases hf
  | infinity s => rw [hd] at hf; cases hf
  | number s m e =>
    have hs := h s m e hd
    unfold fge Ieee.Format.order
    rw [format_read, format_read, hd, decode_zero]
    simp only [Ieee.Datum.order]
    have h0 : Ieee.signed false 0 (k.format.leastPlace - min e k.format.leastPlace).toNat = 0 := by simp [Ieee.signed]
    have hp := signed_ge (n := (e - min e k.format.leastPlace).toNat) hs
    rw [h0]
    rcases Int.lt_or_eq_of_le hp with hlt | heq
    · rw [(Int.compare_eq_gt).2 hlt]; rfl
    · rw [← heq]; rfl
theorem okN_iff (x : Nat) : okN x = true ↔ finB .f32 x = true ∧ GeZ .f32 x := by
  unfold okN
  rw [Bool.and_eq_true]
  exact ⟨fun ⟨a, b⟩ => ⟨a, fge_gez _ b⟩, fun ⟨a, b⟩ => ⟨a, gez_fge _ a b⟩⟩
theorem okS_gez {x : Nat} (h : okS x = true) : GeZ .f32 x := by
  unfold okS at h
  rw [Bool.and_eq_true] at h
  exact fge_gez _ h.1
/-- A sum that is finite has finite terms. -/
theorem sumF_fin : ∀ (xs : List Nat) (a : Nat), finB .f32 (xs.foldl (fadd .f32) a) = true → finB .f32 a = true ∧ ∀ x ∈ xs, finB .f32 x = true
  | [], a, h => ⟨h, by simp⟩
  | x :: xs, a, h => by
    obtain ⟨h1, h2⟩ := sumF_fin xs (fadd .f32 a x) h
    have ha : finB .f32 a = true := by
      cases hc : finB .f32 a with
      | true => rfl
      | false => rw [fin_add_left _ _ _ hc] at h1; cases h1
    have hx : finB .f32 x = true := by
      cases hc : finB .f32 x with
      | true => rfl
      | false => rw [fin_add_right _ _ _ hc] at h1; cases h1
    exact ⟨ha, fun y hy => by
      rcases List.mem_cons.1 hy with rfl | hy
      · exact hx
      · exact h2 y hy⟩
end Go.Abs
