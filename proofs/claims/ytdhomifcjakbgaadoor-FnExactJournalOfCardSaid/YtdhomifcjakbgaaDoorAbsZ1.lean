/- The abstract layer, part Z1: drawn regions by an invariant. -/
import Derived.Test.YtdhomifcjakbgaaDoorAbsZ
set_option linter.unusedSimpArgs false
set_option linter.unusedVariables false
namespace Go.Abs
open Go
variable {P : Program}

theorem count_set : ∀ (l : List Bool) (i : Nat), l[i]? = some false → (l.set i true).count true = l.count true + 1
  | [], i, h => by simp at h
  | b :: l, 0, h => by
    simp at h
    subst h
    simp [List.count_cons]
  | b :: l, i + 1, h => by
    have := count_set l i (by simpa using h)
    simp only [List.set_cons_succ, List.count_cons, this]
    omega
theorem count_lt : ∀ (l : List Bool) (i : Nat), l[i]? = some false → l.count true < l.length
  | [], i, h => by simp at h
  | b :: l, 0, h => by
    simp at h
    subst h
    have := List.count_le_length (a := true) (l := l)
    simp [List.count_cons]
    omega
  | b :: l, i + 1, h => by
    have := count_lt l i (by simpa using h)
    simp only [List.count_cons, List.length_cons]
    split <;> omega

section
variable {P : Program} {n0 : Nat}
theorem stepA_mono {ops : List Oper} {ms : List Bool} {K1 K2 : St → Prop} {i : Nat} {st : St} (hk : ∀ st, K1 st → K2 st) (h : stepA P n0 ops ms i K1 st) : stepA P n0 ops ms i K2 st := by
  unfold stepA at h ⊢
  cases ho : ops[i]? with
  | none => rw [ho] at h; exact hk _ h
  | some o =>
    rw [ho] at h
    simp only [] at h ⊢
    by_cases hm : ms.getD i true = true
    · rw [if_pos hm] at h ⊢
      rcases h with ⟨h1, k, h2, h3⟩ | ⟨h1, h2⟩
      · exact .inl ⟨h1, k, h2, fun v hp' kb hv => hk _ (h3 v hp' kb hv)⟩
      · exact .inr ⟨h1, hk _ h2⟩
    · rw [if_neg hm] at h ⊢
      obtain ⟨v, h1, h2⟩ := h
      exact ⟨v, h1, hk _ h2⟩

theorem ready_false {ops : List Oper} {listed : Array Bool} (hs : listed.size = ops.length) {i : Nat} (h : i ∈ Region.ready .any ops.toArray listed) : listed.toList[i]? = some false := by
  obtain ⟨h1, oj, hoj, _⟩ := mem_ready.1 h
  have hi : i < listed.size := by
    rw [hs]
    have : ops[i]? = some oj := by simpa using hoj
    exact (List.getElem?_eq_some_iff.1 this).1
  simp [Array.getD, hi] at h1
  simp [hi, h1]

/-- What holds at each step of any order holds at its end. -/
theorem any_by {ops : List Oper} {K : St → Prop} (I : Array Bool → St → Prop)
    (step : ∀ listed st i, listed.size = ops.length → I listed st → i ∈ Region.ready .any ops.toArray listed → stepA P n0 ops [] i (fun st' => I (listed.setIfInBounds i true) st') st)
    (fin : ∀ listed st, listed.size = ops.length → I listed st → Region.ready .any ops.toArray listed = [] → K st) : ∀ (fuel : Nat) (listed : Array Bool) (st : St), listed.size = ops.length → ops.length ≤ fuel + listed.toList.count true → I listed st → anyA P n0 ops [] K fuel listed st
  | 0, listed, st, hs, hf, hI => by
    have h0 : Region.ready .any ops.toArray listed = [] := by
      cases hr : Region.ready .any ops.toArray listed with
      | nil => rfl
      | cons i l =>
        exfalso
        have := count_lt _ i (ready_false hs (by rw [hr]; exact List.mem_cons_self))
        simp at this hf
        omega
    exact ⟨h0, fin listed st hs hI h0⟩
  | fuel + 1, listed, st, hs, hf, hI => ⟨fun h0 => fin listed st hs hI h0, fun i hi =>
      stepA_mono (fun st' hI' => any_by I step fin fuel _ st' (by simpa using hs) (by
        have := count_set _ i (ready_false hs hi)
        rw [show (listed.setIfInBounds i true).toList = listed.toList.set i true from by simp, this]
        omega) hI') (step listed st i hs hI hi)⟩
end
end Go.Abs
