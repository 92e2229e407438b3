/- The proof that both give is one. -/
import Derived.Test.YthcfklkpabfkbaaGreatQrZb
set_option maxRecDepth 10000
set_option linter.unusedSimpArgs false
set_option linter.unusedVariables false
namespace Go.Proofs.YthcfklkpabfkbaaGreat
open Go Go.Abs

theorem okL_all {R : List Rul} {day : Int} {Y F : Int → Bool} : ∀ (l : List Nat) (K : Int → Bool), (∀ a e b, l = a ++ e :: b → onB day (rkR R e) = true ∧ Y (rkR R e).1 = true ∧ ∀ v ∈ (rkR R e).2.1, F v = true ∨ K v = true ∨ ∃ k ∈ a, (rkR R k).1 = v) → okL R day Y F (nI l) K = true
  | [], _, _ => rfl
  | e :: l, K, h => by
    have h0 := h [] e l rfl
    show (okS R day Y F K (e : Int) && okL R day Y F (nI l) (upY K (rkR R (e : Int).toNat).1)) = true
    rw [Int.toNat_natCast]
    have hs : okS R day Y F K (e : Int) = true := by
      unfold okS
      rw [Int.toNat_natCast, h0.1, h0.2.1, Bool.true_and, Bool.true_and, List.all_eq_true]
      intro v hv
      rcases h0.2.2 v hv with h1 | h1 | ⟨k, hk, _⟩
      · rw [h1, Bool.true_or]
      · rw [h1, Bool.or_true]
      · cases hk
    rw [hs, Bool.true_and]
    refine okL_all l _ fun a e' b hl => ?_
    have h1 := h (e :: a) e' b (by rw [hl]; rfl)
    refine ⟨h1.1, h1.2.1, fun v hv => ?_⟩
    rcases h1.2.2 v hv with h2 | h2 | ⟨k, hk, h2⟩
    · exact .inl h2
    · exact .inr (.inl (by unfold upY; split; rfl; exact h2))
    · rcases List.mem_cons.1 hk with rfl | hk
      · exact .inr (.inl (by unfold upY; rw [if_pos h2.symm]))
      · exact .inr (.inr ⟨k, hk, h2⟩)
theorem bk_last {ru : Nat → Rul} {F : Int → Bool} {x : Int} : ∀ pre : List Nat, bk ru F pre (wan0 F x) [] = [] ∨ ∃ sub i, bk ru F pre (wan0 F x) [] = sub ++ [i] ∧ (ru i).1 = x
  | [] => .inl rfl
  | i :: pre => by
    rw [bk_cons]
    split
    · rename_i hg
      rw [Bool.and_eq_true] at hg
      have := hg.1
      unfold wan0 at this
      rw [Bool.and_eq_true] at this
      obtain ⟨sub, h1, _⟩ := bk_sub (ru := ru) (F := F) pre (fun w => wan0 F x w || ((ru i).2.1.any (fun v => v == w) && !F w)) [i]
      exact .inr ⟨sub, i, h1, eq_of_beq this.1⟩
    · exact bk_last pre
end Go.Proofs.YthcfklkpabfkbaaGreat
