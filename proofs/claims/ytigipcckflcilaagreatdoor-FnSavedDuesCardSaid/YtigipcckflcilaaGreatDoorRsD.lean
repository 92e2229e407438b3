/- Texts of rules that are read: the reference's reading of many. -/
import Derived.Test.YtigipcckflcilaaGreatDoorRsC
import Derived.Test.YtigipcckflcilaaGreatDoorRrD
set_option maxRecDepth 10000
set_option maxHeartbeats 4000000
set_option linter.unusedSimpArgs false
set_option linter.unusedVariables false
namespace Go.Proofs.YtigipcckflcilaaGreatDoor
open Go Go.Abs

theorem first_line : ∀ {a b x y : List UInt8}, (10 : UInt8) ∉ a → (10 : UInt8) ∉ b → a ++ 10 :: x = b ++ 10 :: y → a = b ∧ x = y
  | [], [], x, y, _, _, h => ⟨rfl, by simpa using h⟩
  | [], c :: b, x, y, _, hb, h => by
    rw [List.nil_append, List.cons_append] at h
    injection h with h1 h2
    exact absurd (h1 ▸ List.mem_cons_self) hb
  | c :: a, [], x, y, ha, _, h => by
    rw [List.nil_append, List.cons_append] at h
    injection h with h1 h2
    exact absurd (h1 ▸ List.mem_cons_self) ha
  | c :: a, d :: b, x, y, ha, hb, h => by
    rw [List.cons_append, List.cons_append] at h
    injection h with h1 h2
    obtain ⟨h3, h4⟩ := first_line (fun m => ha (List.mem_cons_of_mem _ m)) (fun m => hb (List.mem_cons_of_mem _ m)) h2
    exact ⟨by rw [h1, h3], h4⟩
theorem rulesT_cons (r : Rul) (R : List Rul) : rulesT (r :: R) = ruleT r ++ 10 :: rulesT R := by
  show ruleT r ++ [10] ++ rulesT R = _
  rw [List.append_assoc]; rfl
theorem lines_prefix : ∀ {R R2 : List Rul} {t : List UInt8}, (∀ r ∈ R, ruleB r = true) → (∀ r ∈ R2, ruleB r = true) → rulesT R ++ t = rulesT R2 → ∃ R3, R2 = R ++ R3 ∧ rulesT R3 = t
  | [], R2, t, _, _, h => ⟨R2, rfl, h.symm⟩
  | r :: R, [], t, _, _, h => by
    rw [rulesT_cons] at h
    have := congrArg List.length h
    simp [rulesT] at this
  | r :: R, q :: R2, t, h1, h2, h => by
    rw [rulesT_cons, rulesT_cons, List.append_assoc, List.cons_append] at h
    obtain ⟨h3, h4⟩ := first_line (ruleT_no10 r) (ruleT_no10 q) h
    have e := ruleT_inj (h1 r List.mem_cons_self) (h2 q List.mem_cons_self) h3
    obtain ⟨R3, h5, h6⟩ := lines_prefix (fun x hx => h1 x (List.mem_cons_of_mem _ hx)) (fun x hx => h2 x (List.mem_cons_of_mem _ hx)) h4
    exact ⟨R3, by rw [e, h5]; rfl, h6⟩
structure Read (s : List UInt8) (i a : Nat) (R : List Rul) : Prop where
  ia : a ≤ i
  il : i ≤ s.length
  no : (10 : UInt8) ∉ (s.take i).drop a
  tx : rulesT R = s.take a
  ok : ∀ r ∈ R, ruleB r = true
  le : R.length ≤ 24
theorem Read.rest {s : List UInt8} {i a : Nat} {R R2 : List Rul} (h : Read s i a R) (g : rulesOf s = some R2) : ∃ R3, R2 = R ++ R3 ∧ rulesT R3 = s.drop a := by
  obtain ⟨h1, h2⟩ := rulesOf_iff.1 g
  exact lines_prefix h.ok (rulesB_all h1) (by rw [h.tx, List.take_append_drop, h2])
theorem Read.next {s : List UInt8} {i a : Nat} {R : List Rul} {r : Rul} (h : Read s i a R) (hi : i < s.length) (hc : s[i] = 10) (hr : ruleOf ((s.take i).drop a) = some r) (hl : R.length < 24) : Read s (i + 1) (i + 1) (R ++ [r]) := by
  obtain ⟨h1, h2⟩ := ruleOf_some hr
  refine ⟨Nat.le_refl _, hi, ?_, ?_, ?_, ?_⟩
  · rw [List.drop_of_length_le (by rw [List.length_take]; omega)]; simp
  · rw [rulesT_snoc, h.tx, h2, take_snoc _ _ hi, hc, ← List.append_assoc]
    congr 1
    conv => rhs; rw [← List.take_append_drop a (s.take i), List.take_take, Nat.min_eq_left h.ia]
  · intro x hx
    rcases List.mem_append.1 hx with m | m
    · exact h.ok x m
    · rw [List.mem_singleton.1 m]; exact h1
  · rw [List.length_append]; simp; omega
theorem Read.skip {s : List UInt8} {i a : Nat} {R : List Rul} (h : Read s i a R) (hi : i < s.length) (hc : s[i] ≠ 10) : Read s (i + 1) a R := by
  refine ⟨by have := h.ia; omega, hi, ?_, h.tx, h.ok, h.le⟩
  rw [take_snoc _ _ hi, List.drop_append_of_le_length (by rw [List.length_take]; have := h.ia; omega)]
  intro m
  rcases List.mem_append.1 m with m | m
  · exact h.no m
  · exact hc (List.mem_singleton.1 m).symm
theorem Read.none {s : List UInt8} {a : Nat} {R : List Rul} (h : Read s s.length a R) (ha : a ≠ s.length) : rulesOf s = none := by
  cases hr : rulesOf s with
  | none => rfl
  | some R2 =>
    obtain ⟨R3, h1, h2⟩ := h.rest hr
    have no := h.no
    rw [List.take_length, ← h2] at no
    cases R3 with
    | nil =>
      have := congrArg List.length h2
      rw [List.length_drop] at this
      have := h.ia
      simp [rulesT] at *
      omega
    | cons r R3 =>
      rw [rulesT_cons] at no
      exact absurd (List.mem_append_right _ List.mem_cons_self) no
theorem Read.some {s : List UInt8} {R : List Rul} (h : Read s s.length s.length R) : rulesOf s = .some R := by
  refine rulesOf_iff.2 ⟨?_, by rw [h.tx, List.take_length]⟩
  unfold rulesB
  simp only [Bool.and_eq_true, List.all_eq_true, decide_eq_true_eq]
  exact ⟨h.ok, h.le⟩
end Go.Proofs.YtigipcckflcilaaGreatDoor
