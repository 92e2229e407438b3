/- The order of taking: what each taken rule stands on. -/
import Derived.Test.YthcfklkpabfkbaaGreatQrZ
set_option maxRecDepth 10000
set_option linter.unusedSimpArgs false
set_option linter.unusedVariables false
namespace Go.Proofs.YthcfklkpabfkbaaGreat
open Go Go.Abs

section
variable {L : List Nat} {ru : Nat → Rul} {F : Int → Bool}
theorem tkS_congr {Y Y' : Int → Bool} (h : ∀ i ∈ L, Y (ru i).1 = Y' (ru i).1) (O : List Nat) (kn : Int → Bool) : tkS L ru Y F O kn = tkS L ru Y' F O kn := by
  unfold tkS
  apply List.filter_congr
  intro i hi
  unfold tkP
  rw [h i hi]
theorem tkN_congr {Y Y' : Int → Bool} (h : ∀ i ∈ L, Y (ru i).1 = Y' (ru i).1) : ∀ n, tkN L ru Y F n = tkN L ru Y' F n
  | 0 => rfl
  | n + 1 => by
    unfold tkN
    rw [tkN_congr h n, tkS_congr h]
theorem tkN_kn {Y : Int → Bool} : ∀ n, (∀ w, (tkN L ru Y F n).2 w = true → ∃ k ∈ (tkN L ru Y F n).1, (ru k).1 = w) ∧ (∀ a e b, (tkN L ru Y F n).1 = a ++ e :: b → ∀ v ∈ (ru e).2.1, F v = false → ∃ k ∈ a, (ru k).1 = v)
  | 0 => ⟨fun w h => (by cases h), fun a e b h => absurd (show ([] : List Nat) = a ++ e :: b from h) (by simp)⟩
  | n + 1 => by
    obtain ⟨h1, h2⟩ := tkN_kn (Y := Y) n
    have h3 : ∀ e ∈ tkS L ru Y F (tkN L ru Y F n).1 (tkN L ru Y F n).2, ∀ v ∈ (ru e).2.1, F v = false → ∃ k ∈ (tkN L ru Y F n).1, (ru k).1 = v := fun e he v hv hF => by
      have hp := (List.mem_filter.1 he).2
      unfold tkP at hp
      simp only [Bool.and_eq_true] at hp
      have := List.all_eq_true.1 hp.2.2.2 v hv
      rw [hF, Bool.false_or] at this
      exact h1 v this
    show (∀ w, knU ru (tkN L ru Y F n).2 (tkS L ru Y F (tkN L ru Y F n).1 (tkN L ru Y F n).2) w = true → ∃ k ∈ (tkN L ru Y F n).1 ++ tkS L ru Y F (tkN L ru Y F n).1 (tkN L ru Y F n).2, (ru k).1 = w) ∧ (∀ a e b, (tkN L ru Y F n).1 ++ tkS L ru Y F (tkN L ru Y F n).1 (tkN L ru Y F n).2 = a ++ e :: b → ∀ v ∈ (ru e).2.1, F v = false → ∃ k ∈ a, (ru k).1 = v)
    generalize tkS L ru Y F (tkN L ru Y F n).1 (tkN L ru Y F n).2 = N at *
    generalize (tkN L ru Y F n).1 = O at *
    refine ⟨fun w hw => ?_, fun a e b he v hv hF => ?_⟩
    · unfold knU at hw
      rw [Bool.or_eq_true, List.any_eq_true] at hw
      rcases hw with hw | ⟨k, hk, e⟩
      · obtain ⟨k, hk, e⟩ := h1 w hw
        exact ⟨k, List.mem_append.2 (.inl hk), e⟩
      · exact ⟨k, List.mem_append.2 (.inr hk), eq_of_beq e⟩
    · rcases List.append_eq_append_iff.1 he with ⟨c, h4, h5⟩ | ⟨c, h4, h5⟩
      · obtain ⟨k, hk, e2⟩ := h3 e (by rw [h5]; simp) v hv hF
        exact ⟨k, by rw [h4]; exact List.mem_append.2 (.inl hk), e2⟩
      · cases c with
        | nil =>
          rw [List.nil_append] at h5
          rw [List.append_nil] at h4
          obtain ⟨k, hk, e2⟩ := h3 e (by rw [← h5]; simp) v hv hF
          exact ⟨k, h4 ▸ hk, e2⟩
        | cons q c =>
          rw [List.cons_append, List.cons.injEq] at h5
          obtain ⟨rfl, h5⟩ := h5
          exact h2 a e c h4 v hv hF
end
end Go.Proofs.YthcfklkpabfkbaaGreat
