/- What laws are given: rules, what is saved. -/
import Derived.Test.YtdopcmefegknbaaDoorSavA
set_option maxRecDepth 10000
set_option linter.unusedSimpArgs false
set_option linter.unusedVariables false
namespace Go.Proofs.YtdopcmefegknbaaDoor
open Go Go.Abs

theorem ofT_list {α : Type} (f : α → AV) (p : α → Prop) : ∀ els : List AV, (∀ a ∈ els, ∃ x, a = f x ∧ p x) → ∃ xs : List α, els = xs.map f ∧ ∀ x ∈ xs, p x
  | [], _ => ⟨[], rfl, by simp⟩
  | a :: els, h => by
    obtain ⟨x, e, hx⟩ := h a (by simp)
    obtain ⟨xs, e2, hxs⟩ := ofT_list f p els fun b hb => h b (by simp [hb])
    refine ⟨x :: xs, by rw [e, e2]; rfl, ?_⟩
    intro y hy
    rcases List.mem_cons.1 hy with hy | hy
    · subst hy; exact hx
    · exact hxs y hy
theorem len5 {α : Type} {l : List α} (h : l.length = 5) : ∃ a b c d e, l = [a, b, c, d, e] := by
  match l, h with
  | [a, b, c, d, e], _ => exact ⟨a, b, c, d, e, rfl⟩
theorem ofT_str {m : Nat} {t : TypeId} {l : List AV} (ht : Tryd.prog.underlying t = some .string) (h : OfT Tryd.prog (m + 1) t l) : ∃ s, l = [.str s] ∧ s.length ≤ maxLen := by
  unfold OfT at h
  rw [ht] at h
  exact h
theorem ofT_rule {m : Nat} {l : List AV} (h : OfT Tryd.prog (m + 3) 55 l) : ∃ r : Rul, AV.agg l = rulA r ∧ r.2.1.length ≤ 9223372036854775807 := by
  obtain ⟨hl, hf⟩ := ofT_struct Tryd.underlying55 h
  rw [cells55] at hl
  obtain ⟨a, b, c, d, e, rfl⟩ := len5 hl
  have h0 := hf _ (List.mem_cons_self)
  have h1 := hf _ (List.mem_cons_of_mem _ List.mem_cons_self)
  have h2 := hf _ (List.mem_cons_of_mem _ (List.mem_cons_of_mem _ List.mem_cons_self))
  have h3 := hf _ (List.mem_cons_of_mem _ (List.mem_cons_of_mem _ (List.mem_cons_of_mem _ List.mem_cons_self)))
  have h4 := hf _ (List.mem_cons_of_mem _ (List.mem_cons_of_mem _ (List.mem_cons_of_mem _ (List.mem_cons_of_mem _ List.mem_cons_self))))
  simp only [cells2, cells23, List.drop_zero, List.drop_succ_cons, List.take_succ_cons, List.take_zero] at h0 h1 h2 h3 h4
  obtain ⟨x0, e0, _⟩ := ofT_int Tryd.underlying2 h0
  obtain ⟨xs, e1, l1, _⟩ := ofT_ints Tryd.underlying23 Tryd.underlying2 h1
  obtain ⟨x2, e2, _⟩ := ofT_int Tryd.underlying2 h2
  obtain ⟨x3, e3, _⟩ := ofT_int Tryd.underlying2 h3
  obtain ⟨x4, e4, _⟩ := ofT_int Tryd.underlying2 h4
  simp only [List.cons.injEq, and_true] at e1
  subst e0 e1 e2 e3 e4
  exact ⟨(x0, xs, x2, x3, x4), rfl, maxLen_le l1⟩
theorem ofT_rules {m : Nat} {l : List AV} (h : OfT Tryd.prog (m + 4) 22 l) : ∃ R : List Rul, l = [.ro (R.map rulA)] ∧ R.length ≤ 9223372036854775807 ∧ ∀ r ∈ R, r.2.1.length ≤ 9223372036854775807 := by
  unfold OfT at h
  rw [Tryd.underlying22] at h
  obtain ⟨els, rfl, hl, h⟩ := h
  obtain ⟨R, rfl, hR⟩ := ofT_list rulA (fun r => r.2.1.length ≤ 9223372036854775807) els (fun a ha => by
    obtain ⟨h1, h2, _⟩ := h a ha
    obtain ⟨c, rfl⟩ := h2 ⟨_, Tryd.underlying55⟩
    exact ofT_rule h1)
  rw [List.length_map] at hl
  exact ⟨R, rfl, maxLen_le hl, hR⟩
theorem ofT_saved {m : Nat} {l : List AV} (h : OfT Tryd.prog (m + 5) 25 l) : ∃ s : Sav, AV.agg l = savA s ∧ SavL s := by
  obtain ⟨hl, hf⟩ := ofT_struct Tryd.underlying25 h
  rw [cells25] at hl
  obtain ⟨a, b, c, rfl⟩ := len3 hl
  have h0 := hf _ (List.mem_cons_self)
  have h1 := hf _ (List.mem_cons_of_mem _ List.mem_cons_self)
  have h2 := hf _ (List.mem_cons_of_mem _ (List.mem_cons_of_mem _ List.mem_cons_self))
  simp only [cells9, cells22, cells23, List.drop_zero, List.drop_succ_cons, List.take_succ_cons, List.take_zero] at h0 h1 h2
  obtain ⟨n, e0, l0⟩ := ofT_str Tryd.underlying9 h0
  obtain ⟨R, e1, l1, hR⟩ := ofT_rules h1
  obtain ⟨xs, e2, l2, _⟩ := ofT_ints Tryd.underlying23 Tryd.underlying2 h2
  simp only [List.cons.injEq, and_true] at e0 e1 e2
  subst e0 e1 e2
  exact ⟨(n, R, xs), rfl, ⟨maxLen_le l0, l1, hR, maxLen_le l2⟩⟩
theorem ofT_saveds {m : Nat} {a : AV} (h : OfT Tryd.prog (m + 6) 35 [a]) : ∃ A : List Sav, a = .ro (A.map savA) ∧ A.length ≤ 9223372036854775807 ∧ ∀ s ∈ A, SavL s := by
  unfold OfT at h
  rw [Tryd.underlying35] at h
  obtain ⟨els, e, hl, h⟩ := h
  obtain ⟨A, rfl, hA⟩ := ofT_list savA SavL els (fun a ha => by
    obtain ⟨h1, h2, _⟩ := h a ha
    obtain ⟨c, rfl⟩ := h2 ⟨_, Tryd.underlying25⟩
    exact ofT_saved h1)
  rw [List.length_map] at hl
  simp only [List.cons.injEq, and_true] at e
  exact ⟨A, e, maxLen_le hl, hA⟩
end Go.Proofs.YtdopcmefegknbaaDoor
