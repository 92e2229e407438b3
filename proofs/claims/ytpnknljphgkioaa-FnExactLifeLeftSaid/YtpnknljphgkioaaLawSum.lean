/- The law FnExactSumPeople, for all arguments. -/
import Derived.Test.YtpnknljphgkioaaLibR
set_option maxRecDepth 10000
set_option linter.unusedSimpArgs false
set_option linter.unusedVariables false
namespace Go.Proofs.Ytpnknljphgkioaa
open Go Go.Abs

theorem ofT_people {l : List AV} (h : OfT Try.prog 8 41 l) : ∃ cs ss bs : List Nat, l = [.ro (flts cs), .ro (flts ss), .ro (flts bs)] ∧ cs.length ≤ 9223372036854775807 ∧ ss.length ≤ 9223372036854775807 ∧ bs.length ≤ 9223372036854775807 := by
  obtain ⟨hl, hf⟩ := ofT_struct Try.underlying41 h
  rw [cells41] at hl
  obtain ⟨a, b, c, rfl⟩ := len3 hl
  have h0 := hf _ (List.mem_cons_self)
  have h1 := hf _ (List.mem_cons_of_mem _ List.mem_cons_self)
  have h2 := hf _ (List.mem_cons_of_mem _ (List.mem_cons_of_mem _ List.mem_cons_self))
  simp only [cells25, List.drop_zero, List.drop_succ_cons, List.take_succ_cons, List.take_zero] at h0 h1 h2
  obtain ⟨cs, e0, l0, _⟩ := ofT_flts Try.underlying25 Try.underlying32 h0
  obtain ⟨ss, e1, l1, _⟩ := ofT_flts Try.underlying25 Try.underlying32 h1
  obtain ⟨bs, e2, l2, _⟩ := ofT_flts Try.underlying25 Try.underlying32 h2
  simp only [List.cons.injEq, and_true] at e0 e1 e2
  subst e0 e1 e2
  exact ⟨cs, ss, bs, rfl, maxLen_le l0, maxLen_le l1, maxLen_le l2⟩

theorem exactSumPeople (l0 : List AV) (l1 l2 : AV) (of0 : OfT Try.prog 8 41 l0) (of1 : OfT Try.prog 8 2 [l1]) (of2 : OfT Try.prog 8 2 [l2]) : CallA Try.prog 5 [.agg l0, l1, l2] [] (Ret (.bool true) []) := by
  obtain ⟨cs, ss, bs, rfl, h1, h2, h3⟩ := ofT_people of0
  obtain ⟨a, rfl, _⟩ := ofT_int Try.underlying2 of1
  obtain ⟨b, rfl, _⟩ := ofT_int Try.underlying2 of2
  exact exactSumPeople_lists cs ss bs a b h1 h2 h3
end Go.Proofs.Ytpnknljphgkioaa
