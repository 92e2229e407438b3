/- Sums of some numbers of a list are no more than that of its greatest. -/
import Derived.Test.YtadbddlekinkpaaAbsM3
set_option maxRecDepth 10000
set_option maxHeartbeats 2000000
set_option linter.unusedSimpArgs false
set_option linter.unusedVariables false
namespace Go.Proofs.Ytadbddlekinkpaa
open Go Go.Abs

def sumZ : List Int → Int
  | [] => 0
  | x :: l => x + sumZ l
theorem sumZ_perm {l m : List Int} (h : l.Perm m) : sumZ l = sumZ m := by
  induction h with
  | nil => rfl
  | cons x _ ih => simp only [sumZ, ih]
  | swap x y l => simp only [sumZ]; omega
  | trans _ _ h1 h2 => exact h1.trans h2
theorem top_sub : ∀ {s t : List Int}, s.Pairwise (· ≤ ·) → t.Sublist s → sumZ t ≤ sumZ (s.drop (s.length - t.length))
  | [], t, _, h => by rw [List.sublist_nil.1 h]; exact Int.le_refl _
  | a :: s, t, hs, h => by
    obtain ⟨h1, h2⟩ := List.pairwise_cons.1 hs
    cases h with
    | cons _ h =>
      have hl := h.length_le
      have ih := top_sub h2 h
      rw [List.length_cons, show s.length + 1 - t.length = (s.length - t.length) + 1 by omega, List.drop_succ_cons]
      exact ih
    | cons_cons _ h =>
      rename_i t
      have hl := h.length_le
      have ih := top_sub h2 h
      rw [List.length_cons, List.length_cons, show s.length + 1 - (t.length + 1) = s.length - t.length by omega]
      by_cases e : t.length = s.length
      · rw [e, Nat.sub_self, List.drop_zero] at ih ⊢
        simp only [sumZ]
        omega
      · obtain ⟨d, hd⟩ : ∃ d, s.length - t.length = d + 1 := ⟨s.length - t.length - 1, by omega⟩
        rw [hd] at ih ⊢
        rw [List.drop_succ_cons, List.drop_eq_getElem_cons (by omega)]
        simp only [sumZ]
        have := h1 s[d] (List.getElem_mem _)
        omega
theorem sortI_sorted (l : List Int) : (sortI l).Pairwise (· ≤ ·) := by
  have := List.pairwise_mergeSort (le := fun x y : Int => decide (x ≤ y)) (by intro a b c h1 h2; simp only [decide_eq_true_eq] at *; omega) (by intro a b; simp only [Bool.or_eq_true, decide_eq_true_eq]; omega) l
  exact this.imp (by intro a b h; exact of_decide_eq_true h)
theorem top_win (l : List Int) (i c : Nat) (h : i + c ≤ l.length) : sumZ ((l.drop i).take c) ≤ sumZ ((sortI l).drop (l.length - c)) := by
  have hw : ((l.drop i).take c).Sublist l := (List.take_sublist _ _).trans (List.drop_sublist _ _)
  have hp : l.Perm (sortI l) := (List.mergeSort_perm l _).symm
  obtain ⟨t, ht, hs⟩ := List.exists_perm_sublist hw hp
  have e : t.length = c := by rw [ht.length_eq, List.length_take, List.length_drop]; omega
  have := top_sub (sortI_sorted l) hs
  rw [sumZ_perm ht, sortI_len, e] at this
  exact this
end Go.Proofs.Ytadbddlekinkpaa
