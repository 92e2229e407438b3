/- Plain facts for the law. -/
import Derived.Test.YtmllengggncmkaaGreatAmG
set_option maxRecDepth 10000
set_option linter.unusedSimpArgs false
set_option linter.unusedVariables false
namespace Go.Proofs.YtmllengggncmkaaGreat
open Go Go.Abs

theorem mem_idxD {R : List Rul} {day : Int} {i : Nat} : (i : Int) ∈ idxD R day R.length ↔ i < R.length ∧ onB day (rkR R i) = true := by
  unfold idxD
  rw [List.mem_map]
  constructor
  · rintro ⟨n, hn, e⟩
    obtain rfl : n = i := by omega
    have := List.mem_filter.1 hn
    exact ⟨List.mem_range.1 this.1, this.2⟩
  · rintro ⟨h1, h2⟩
    exact ⟨i, List.mem_filter.2 ⟨List.mem_range.2 h1, h2⟩, rfl⟩
theorem idxD_congr {R S : List Rul} {a b : Int} {n : Nat} (h : ∀ i, i < n → onB a (rkR R i) = onB b (rkR S i)) : idxD R a n = idxD S b n := by
  unfold idxD
  congr 1
  apply List.filter_congr
  intro i hi
  exact h i (List.mem_range.1 hi)
theorem idx_changes {R : List Rul} {C : List Int} (rb : rulesB R = true) (hC : Chs R C) {d : Int} (h1 : 1 ≤ d) (h2 : d ≤ 100000) : (idxD R d R.length == idxD R (d - 1) R.length) = !decide (d ∈ C) := by
  have od := okDays rb
  by_cases hd : d ∈ C
  · rw [decide_eq_true hd, Bool.not_true, beq_eq_false_iff_ne]
    intro e
    obtain ⟨_, _, r, hr, hx⟩ := (hC.mem d).1 hd
    have ho := od r hr
    obtain ⟨i, hi, rfl⟩ := List.mem_iff_getElem.1 hr
    have m1 := mem_idxD (R := R) (day := d) (i := i)
    rw [e, mem_idxD] at m1
    rw [rkR_at R i hi] at m1
    unfold onB at m1
    simp only [Bool.and_eq_true, decide_eq_true_eq] at m1
    omega
  · rw [decide_eq_false hd, Bool.not_false, beq_iff_eq]
    refine idxD_congr fun i hi => ?_
    have hr : R[i] ∈ R := List.getElem_mem hi
    rw [rkR_at R i hi]
    have n1 : ¬ d = R[i].2.2.1 := fun e => hd ((hC.mem d).2 ⟨h1, h2, _, hr, .inl e⟩)
    have n2 : ¬ d = R[i].2.2.2.1 + 1 := fun e => hd ((hC.mem d).2 ⟨h1, h2, _, hr, .inr e⟩)
    unfold onB
    rw [show decide (R[i].2.2.1 ≤ d) = decide (R[i].2.2.1 ≤ d - 1) from decide_eq_decide.2 (by omega), show decide (d ≤ R[i].2.2.2.1) = decide (d - 1 ≤ R[i].2.2.2.1) from decide_eq_decide.2 (by omega)]
def rul0 : Rul := (2, [1], 0, 30, 1)
theorem rul0_ok {day : Int} (h0 : 0 ≤ day) (h1 : day ≤ 15) : ruleB (onR rul0 day) = true := by
  unfold ruleB onR rul0 inR
  simp only [decide_eq_true (show 0 ≤ day from h0), decide_eq_true (show day ≤ 100000 by omega), decide_eq_true (show day ≤ 30 by omega)]
  rfl
section
variable {R : List Rul} {i : Nat} {day : Int} {r : Rul}
theorem rkR_cut (hi : i < R.length) (k : Nat) : rkR (cutR R i (day - 1) ++ [onR r day]) k = if k < R.length then (if k = i then ((rkR R i).1, (rkR R i).2.1, (rkR R i).2.2.1, day - 1, (rkR R i).2.2.2.2) else rkR R k) else rkR [onR r day] (k - R.length) := by
  have cl := cutR_len R i (day - 1)
  unfold rkR
  rw [List.getD_eq_getElem?_getD]
  split
  · rename_i h
    rw [List.getElem?_append_left (by omega)]
    unfold cutR
    rw [List.getElem?_set]
    by_cases e : k = i
    · subst e
      rw [if_pos rfl, if_pos h, if_pos rfl]; rfl
    · rw [if_neg (fun x => e x.symm), if_neg e, List.getD_eq_getElem?_getD]
  · rename_i h
    rw [List.getElem?_append_right (by omega), cl, List.getD_eq_getElem?_getD]
theorem amended_ok (rb : rulesB R = true) (h23 : R.length < 24) (hi : i < R.length) (he : endB R i day = true) (hv : ruleB (onR r day) = true) : rulesB (cutR R i (day - 1) ++ [onR r day]) = true := by
  have cl := cutR_len R i (day - 1)
  have od := okDays rb
  unfold rulesB at rb ⊢
  rw [Bool.and_eq_true] at rb
  rw [decide_eq_true (by rw [List.length_append, cl]; simp; omega), Bool.and_true, List.all_eq_true]
  intro x hx
  rcases List.mem_append.1 hx with h | h
  · unfold cutR at h
    rcases List.mem_or_eq_of_mem_set h with h | h
    · exact List.all_eq_true.1 rb.1 x h
    · have h1 := List.all_eq_true.1 rb.1 _ (List.getElem_mem hi)
      have h2 := od _ (List.getElem_mem hi)
      rw [h]
      unfold endB at he
      rw [rkR_at R i hi] at he ⊢
      rw [Bool.and_eq_true, decide_eq_true_eq, decide_eq_true_eq] at he
      unfold ruleB inR at h1 ⊢
      simp only [Bool.and_eq_true, decide_eq_true_eq] at h1 ⊢
      refine ⟨⟨⟨⟨h1.1.1.1.1, h1.1.1.1.2⟩, ?_⟩, ?_⟩, h1.2⟩ <;> omega
  · rw [List.mem_singleton.1 h]; exact hv
theorem amended_same (hi : i < R.length) (he : endB R i day = true) : idxD (cutR R i (day - 1) ++ [onR r day]) (day - 1) (cutR R i (day - 1) ++ [onR r day]).length = idxD R (day - 1) R.length := by
  have cl := cutR_len R i (day - 1)
  have hl : (cutR R i (day - 1) ++ [onR r day]).length = R.length + 1 := by rw [List.length_append, cl]; rfl
  rw [hl, idxD_succ _ _ _ (by omega)]
  have e1 : (cutR R i (day - 1) ++ [onR r day])[R.length]'(by omega) = onR r day := by
    rw [List.getElem_append_right (by omega)]
    simp
  rw [e1, if_neg (by
    unfold onB onR
    rw [decide_eq_false (show ¬ day ≤ day - 1 by omega), Bool.false_and]
    exact Bool.false_ne_true), List.append_nil]
  refine idxD_congr fun k hk => ?_
  rw [rkR_cut hi, if_pos hk]
  split
  · rename_i e
    subst e
    unfold endB at he
    rw [Bool.and_eq_true, decide_eq_true_eq, decide_eq_true_eq] at he
    unfold onB
    rw [decide_eq_true (show day - 1 ≤ day - 1 by omega), decide_eq_true (show day - 1 ≤ (rkR R k).2.2.2.1 by omega)]
  · rfl
end
end Go.Proofs.YtmllengggncmkaaGreat
