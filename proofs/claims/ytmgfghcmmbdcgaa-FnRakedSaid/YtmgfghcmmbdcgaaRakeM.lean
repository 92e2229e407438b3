/- Raked weights, in plain Lean. -/
import Derived.Test.YtmgfghcmmbdcgaaRakeA
set_option maxRecDepth 10000
set_option linter.unusedSimpArgs false
set_option linter.unusedVariables false
namespace Go.Proofs.Ytmgfghcmmbdcgaa
open Go Go.Abs

def sumG (ws : List Nat) (gs : List Int) (k : Int) : Nat → Nat
  | 0 => 0
  | i + 1 => if gs.getD i 0 = k then fadd .f32 (sumG ws gs k i) (ws.getD i 0) else sumG ws gs k i
def mulG (ws : List Nat) (gs : List Int) (k : Int) (y : Nat) (j : Nat) : Nat := if gs.getD j 0 = k then fmul .f32 (ws.getD j 0) y else ws.getD j 0
def mulL (ws : List Nat) (gs : List Int) (k : Int) (y : Nat) : List Nat := (List.range ws.length).map (mulG ws gs k y)
theorem mulL_len (ws : List Nat) (gs : List Int) (k : Int) (y : Nat) : (mulL ws gs k y).length = ws.length := by simp [mulL]
def mulI (ws : List Nat) (gs : List Int) (k : Int) (y : Nat) (i : Nat) : List Nat := (mulL ws gs k y).take i ++ ws.drop i
theorem mulI_len (ws : List Nat) (gs : List Int) (k : Int) (y : Nat) (i : Nat) (h : i ≤ ws.length) : (mulI ws gs k y i).length = ws.length := by simp [mulI, mulL_len]; omega
theorem mulI_zero (ws : List Nat) (gs : List Int) (k : Int) (y : Nat) : mulI ws gs k y 0 = ws := by simp [mulI]
theorem mulI_all (ws : List Nat) (gs : List Int) (k : Int) (y : Nat) : mulI ws gs k y ws.length = mulL ws gs k y := by
  unfold mulI
  rw [List.drop_length, List.append_nil, ← mulL_len ws gs k y, List.take_length]
theorem mulL_get (ws : List Nat) (gs : List Int) (k : Int) (y : Nat) (i : Nat) (h : i < (mulL ws gs k y).length) : (mulL ws gs k y)[i] = mulG ws gs k y i := by simp [mulL]
theorem mulI_get (ws : List Nat) (gs : List Int) (k : Int) (y : Nat) (i : Nat) (h : i < ws.length) (h2 : i < (mulI ws gs k y i).length) : (mulI ws gs k y i)[i] = ws[i] := by
  have l : ((mulL ws gs k y).take i).length = i := by simp [mulL_len]; omega
  revert h2
  unfold mulI
  intro h2
  rw [List.getElem_append_right (by omega)]
  have lz : i - ((mulL ws gs k y).take i).length = 0 := by omega
  simp only [lz, List.getElem_drop, Nat.add_zero]
theorem mulI_set (ws : List Nat) (gs : List Int) (k : Int) (y : Nat) (i : Nat) (h : i < ws.length) : (mulI ws gs k y i).set i (mulG ws gs k y i) = mulI ws gs k y (i + 1) := by
  have l : ((mulL ws gs k y).take i).length = i := by simp [mulL_len]; omega
  unfold mulI
  rw [over_set _ ws i _ l h, take_snoc _ _ (by rw [mulL_len]; exact h), mulL_get]
theorem mulI_keep (ws : List Nat) (gs : List Int) (k : Int) (y : Nat) (i : Nat) (h : i < ws.length) (hg : mulG ws gs k y i = ws[i]) : mulI ws gs k y (i + 1) = mulI ws gs k y i := by
  unfold mulI
  rw [take_snoc _ _ (by rw [mulL_len]; exact h), mulL_get, hg, List.append_assoc]
  congr 1
  exact (List.drop_eq_getElem_cons h).symm
def rkG (ws : List Nat) (gs : List Int) (aims : List Nat) : Nat → List Nat
  | 0 => ws
  | g + 1 => mulL (rkG ws gs aims g) gs (g : Int) (fdiv .f32 (aims.getD g 0) (sumG (rkG ws gs aims g) gs (g : Int) (rkG ws gs aims g).length))
theorem rkG_len (ws : List Nat) (gs : List Int) (aims : List Nat) : ∀ g, (rkG ws gs aims g).length = ws.length
  | 0 => rfl
  | g + 1 => by rw [rkG, mulL_len, rkG_len]
def rdG (ws : List Nat) (a b : List Int) (aims goals : List Nat) : Nat → List Nat
  | 0 => ws
  | r + 1 => rkG (rkG (rdG ws a b aims goals r) a aims aims.length) b goals goals.length
theorem rdG_len (ws : List Nat) (a b : List Int) (aims goals : List Nat) : ∀ r, (rdG ws a b aims goals r).length = ws.length
  | 0 => rfl
  | r + 1 => by rw [rdG, rkG_len, rkG_len, rdG_len]
def grpB (gs : List Int) (c n : Nat) : Bool := decide (1 ≤ c ∧ c ≤ 8) && decide (gs.length = n) && gs.all (inR 0 ((c : Int) - 1)) && pref (fun g => decide ((g : Int) ∈ gs)) c
def manyB (x : Nat) : Bool := finB .f32 x && fgt .f32 x 0
def rakeB (ws : List Nat) (a b : List Int) (aims goals : List Nat) (r : Int) : Bool := decide (1 ≤ ws.length ∧ ws.length ≤ 64) && ws.all manyB && grpB a aims.length ws.length && grpB b goals.length ws.length && aims.all manyB && goals.all manyB && inR 1 64 r

def difF (out : List Nat) (a : List Int) (aims : List Nat) (g : Nat) : Nat := fsub .f32 (sumG out a (g : Int) out.length) (aims.getD g 0)
def absF (d : Nat) : Nat := if flt .f32 d 0 then fneg .f32 d else d
def gapS (m d : Nat) : Nat := if fgt .f32 (absF d) m || !feq .f32 (absF d) (absF d) then absF d else m
def mostI (out : List Nat) (a : List Int) (aims : List Nat) : Nat → Nat
  | 0 => 0
  | g + 1 => gapS (mostI out a aims g) (difF out a aims g)
theorem dec0 : FloatKind.f32.decode 0 = .number false 0 (-149) := by decide +kernel
theorem plus0 : Plus .f32 0 := ⟨0, -149, dec0⟩
theorem fin_number {x : Nat} (h : finB .f32 x = true) : ∃ s m e, FloatKind.f32.decode x = .number s m e := by
  unfold finB at h
  cases hd : FloatKind.f32.decode x <;> rw [hd] at h
  · exact ⟨_, _, _, rfl⟩
  · cases h
  · cases h
theorem plus_fin {x : Nat} (h : Plus .f32 x) : finB .f32 x = true := by
  obtain ⟨m, e, h⟩ := h
  unfold finB
  rw [h]
def Bad (w : Nat) : Prop := (FloatKind.f32.decode w).isNaN = true ∨ FloatKind.f32.decode w = .infinity false
theorem bad_fin {w : Nat} (h : Bad w) : finB .f32 w = false := by
  unfold finB
  rcases h with h | h
  · cases hd : FloatKind.f32.decode w <;> rw [hd] at h <;> first | rfl | cases h
  · rw [h]
theorem gap_good {w d : Nat} (hw : Plus .f32 w) (hd : finB .f32 d = true) : (FloatKind.f32.format.order w d).isSome = true ∧ (FloatKind.f32.format.order (fmax .f32 w d) (fneg .f32 d)).isSome = true ∧ fmax .f32 (fmax .f32 w d) (fneg .f32 d) = gapS w d ∧ Plus .f32 (gapS w d) := by
  obtain ⟨s, m, e, hd⟩ := fin_number hd
  obtain ⟨h1, h2, h3, h4⟩ := max_abs .f32 w d 0 (mz := 0) (ez := -149) dec0 hw hd
  have ha : FloatKind.f32.decode (absF d) = .number s m e ∨ FloatKind.f32.decode (absF d) = .number (!s) m e := by
    unfold absF
    split
    · exact .inr (decode_neg .f32 d hd)
    · exact .inl hd
  have hf : feq .f32 (absF d) (absF d) = true := by
    rw [feq_same]
    rcases ha with ha | ha <;> rw [ha] <;> rfl
  have e : gapS w d = fmax .f32 (fmax .f32 w d) (fneg .f32 d) := by
    rw [h3]
    unfold gapS
    rw [hf, Bool.not_true, Bool.or_false]
    rfl
  exact ⟨h1, h2, e.symm, by rw [e]; exact h4⟩
theorem abs_bad {d : Nat} (hd : finB .f32 d = false) : Bad (absF d) := by
  unfold finB at hd
  cases h : FloatKind.f32.decode d with
  | number s m e => rw [h] at hd; cases hd
  | nan s t =>
    have l : flt .f32 d 0 = false := by unfold flt; rw [fmt_order, h]; rfl
    left
    unfold absF
    rw [if_neg (by rw [l]; decide), h]
    rfl
  | infinity s =>
    have l : flt .f32 d 0 = s := by
      unfold flt
      rw [fmt_order, h, dec0]
      cases s <;> rfl
    right
    unfold absF
    rw [l]
    cases s with
    | false => exact h
    | true => exact decode_neg_inf .f32 d h
theorem not_above {x w : Nat} (hw : Bad w) : fgt .f32 x w = false := by
  unfold fgt
  rw [fmt_order]
  generalize FloatKind.f32.decode x = D
  rcases hw with hw | hw
  · cases hd : FloatKind.f32.decode w with
    | nan s t => cases D <;> rfl
    | infinity s => rw [hd] at hw; cases hw
    | number s m e => rw [hd] at hw; cases hw
  · rw [hw]
    cases D with
    | infinity s => cases s <;> rfl
    | _ => rfl
theorem gap_bad {w d : Nat} (h : Bad w ∨ (Plus .f32 w ∧ finB .f32 d = false)) : Bad (gapS w d) := by
  unfold gapS
  rcases h with h | ⟨h, hd⟩
  · rw [not_above h, Bool.false_or, feq_same, Bool.not_not]
    cases hn : (FloatKind.f32.decode (absF d)).isNaN with
    | true => exact .inl hn
    | false => exact h
  · have hb := abs_bad hd
    rcases hb with hb | hb
    · rw [feq_same, hb]
      simp only [Bool.not_true, Bool.not_false, Bool.or_true, if_true]
      exact .inl hb
    · obtain ⟨m, e, hw⟩ := h
      have g : fgt .f32 (absF d) w = true := by
        unfold fgt
        rw [fmt_order, hb, hw]
        rfl
      rw [g]
      simp only [Bool.true_or, if_true]
      exact .inr hb
theorem most_ok (out : List Nat) (a : List Int) (aims : List Nat) : ∀ g, pref (fun j => finB .f32 (difF out a aims j)) g = true → Plus .f32 (mostI out a aims g)
  | 0, _ => plus0
  | g + 1, h => by
    rw [pref_succ, Bool.and_eq_true] at h
    exact (gap_good (most_ok out a aims g h.1) h.2).2.2.2
theorem most_bad (out : List Nat) (a : List Int) (aims : List Nat) : ∀ g, pref (fun j => finB .f32 (difF out a aims j)) g = false → Bad (mostI out a aims g)
  | 0, h => by cases h
  | g + 1, h => by
    rw [pref_succ] at h
    cases hp : pref (fun j => finB .f32 (difF out a aims j)) g with
    | true =>
      rw [hp, Bool.true_and] at h
      exact gap_bad (.inr ⟨most_ok out a aims g hp, h⟩)
    | false => exact gap_bad (.inl (most_bad out a aims g hp))
end Go.Proofs.Ytmgfghcmmbdcgaa
