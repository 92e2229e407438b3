/- Chains, lines and rests in plain numbers; a list put in order by insertions. -/
import Derived.Test.YtimnfechlomkpaaMathS
set_option linter.unusedSimpArgs false
set_option linter.unusedVariables false
namespace Go.Proofs.Ytimnfechlomkpaa

def swpG (l : List Int) (k : Nat) : List Int := (l.set (k + 1) (l.getD k 0)).set k (l.getD (k + 1) 0)
def insG (lt : Int → Int → Bool) : Nat → List Int → List Int
  | 0, l => l
  | k + 1, l => if lt (l.getD (k + 1) 0) (l.getD k 0) then insG lt k (swpG l k) else l
def isG (lt : Int → Int → Bool) (l : List Int) : Nat → List Int
  | 0 => l
  | i + 1 => insG lt i (isG lt l i)
theorem swpG_len (l : List Int) (k : Nat) : (swpG l k).length = l.length := by simp [swpG]
theorem insG_len (lt : Int → Int → Bool) : ∀ (k : Nat) (l : List Int), (insG lt k l).length = l.length
  | 0, l => rfl
  | k + 1, l => by
    unfold insG
    split
    · rw [insG_len, swpG_len]
    · rfl
theorem isG_len (lt : Int → Int → Bool) (l : List Int) : ∀ i, (isG lt l i).length = l.length
  | 0 => rfl
  | i + 1 => by rw [isG, insG_len, isG_len]
theorem insG_spec (lt : Int → Int → Bool) : ∀ (n : Nat) (A : List Int) (x : Int) (B : List Int), A.length = n → ∃ A1 A2, A = A1 ++ A2 ∧ insG lt n (A ++ x :: B) = A1 ++ x :: (A2 ++ B) ∧ (∀ a ∈ A2, lt x a = true) ∧ ∀ y, A1.getLast? = some y → lt x y = false
  | 0, A, x, B, h => by
    have : A = [] := List.length_eq_zero_iff.1 h
    subst this
    exact ⟨[], [], rfl, rfl, by simp, by simp⟩
  | n + 1, A, x, B, h => by
    obtain ⟨A', y, rfl⟩ : ∃ A' y, A = A' ++ [y] := ⟨A.dropLast, A.getLast (by intro e; simp [e] at h), (List.dropLast_concat_getLast _).symm⟩
    have hl : A'.length = n := by simpa using h
    have g1 : (A' ++ [y] ++ x :: B).getD (n + 1) 0 = x := by simp [List.getD_eq_getElem?_getD, ← hl]
    have g0 : (A' ++ [y] ++ x :: B).getD n 0 = y := by simp [List.getD_eq_getElem?_getD, ← hl]
    unfold insG
    rw [g1, g0]
    by_cases hxy : lt x y = true
    · rw [if_pos hxy]
      have e : swpG (A' ++ [y] ++ x :: B) n = A' ++ x :: (y :: B) := by
        unfold swpG
        rw [g1, g0]
        subst hl
        simp [List.set_append]
      rw [e]
      obtain ⟨A1, A2, h1, h2, h3, h4⟩ := insG_spec lt n A' x (y :: B) hl
      refine ⟨A1, A2 ++ [y], by rw [h1]; simp, by rw [h2]; simp, fun a ha => ?_, h4⟩
      rcases List.mem_append.1 ha with ha | ha
      · exact h3 a ha
      · simp at ha; subst ha; exact hxy
    · rw [if_neg hxy]
      exact ⟨A' ++ [y], [], by simp, by simp, by simp, fun z hz => by simp at hz; subst hz; simpa using hxy⟩
def Ahead (lt : Int → Int → Bool) (x y : Int) : Prop := lt y x = false ∧ (lt x y = true ∨ x < y)
theorem gdrop_at (l : List Int) (i : Nat) (h : i < l.length) : l.drop i = l[i] :: l.drop (i + 1) := List.drop_eq_getElem_cons h
theorem gtake_snoc (l : List Int) (i : Nat) (h : i < l.length) : l.take (i + 1) = l.take i ++ [l[i]] := by rw [List.take_add_one, List.getElem?_eq_getElem h]; rfl
theorem isG_spec (lt : Int → Int → Bool) (asym : ∀ x y, lt x y = true → lt y x = false) (tr : ∀ x y z, lt y x = false → lt z y = false → lt z x = false) (l : List Int) (hs : l.Pairwise (· < ·)) :
    ∀ i, i ≤ l.length → ∃ S, isG lt l i = S ++ l.drop i ∧ S.Perm (l.take i) ∧ S.Pairwise (Ahead lt) ∧ S.length = i
  | 0, _ => ⟨[], by simp [isG], by simp, .nil, rfl⟩
  | i + 1, hi => by
    obtain ⟨S, h1, h2, h3, h4⟩ := isG_spec lt asym tr l hs i (by omega)
    have hd : l.drop i = l[i] :: l.drop (i + 1) := gdrop_at l i (by omega)
    have ht : l.take (i + 1) = l.take i ++ [l[i]] := gtake_snoc l i (by omega)
    have low : ∀ a ∈ S, a < l[i] := by
      intro a ha
      have hp : (l.take i ++ l.drop i).Pairwise (· < ·) := by rw [List.take_append_drop]; exact hs
      rw [hd] at hp
      exact (List.pairwise_append.1 hp).2.2 a (h2.mem_iff.1 ha) _ List.mem_cons_self
    generalize l[i] = x at hd ht low
    obtain ⟨A1, A2, g1, g2, g3, g4⟩ := insG_spec lt i S x (l.drop (i + 1)) h4
    refine ⟨A1 ++ x :: A2, ?_, ?_, ?_, ?_⟩
    · rw [isG, h1, hd, g2]; simp
    · rw [ht]
      refine List.Perm.trans List.perm_middle ?_
      rw [← g1]
      exact (List.Perm.cons _ h2).trans (List.perm_append_singleton _ _).symm
    · rw [g1] at h3 low
      rw [List.pairwise_append] at h3 ⊢
      obtain ⟨p1, p2, p3⟩ := h3
      have le1 : ∀ a ∈ A1, lt x a = false := by
        intro a ha
        have hne : A1 ≠ [] := by intro e; rw [e] at ha; cases ha
        have hlast := g4 _ (List.getLast?_eq_some_getLast hne)
        have e := List.dropLast_concat_getLast hne
        rw [← e, List.pairwise_append] at p1
        rw [← e] at ha
        rcases List.mem_append.1 ha with h | h
        · exact tr a (A1.getLast hne) _ (p1.2.2 a h _ (by simp)).1 hlast
        · simp at h; rw [h]; exact hlast
      refine ⟨p1, ?_, ?_⟩
      · rw [List.pairwise_cons]
        exact ⟨fun a ha => ⟨asym _ _ (g3 a ha), .inl (g3 a ha)⟩, p2⟩
      · intro a ha b hb
        rcases List.mem_cons.1 hb with rfl | hb
        · exact ⟨le1 a ha, .inr (low a (by simp [ha]))⟩
        · exact p3 a ha b hb
    · rw [← h4, g1]; simp; omega
theorem isG_sort (lt : Int → Int → Bool) (asym : ∀ x y, lt x y = true → lt y x = false) (tr : ∀ x y z, lt y x = false → lt z y = false → lt z x = false) (l : List Int) (hs : l.Pairwise (· < ·)) :
    (isG lt l l.length).Perm l ∧ (isG lt l l.length).Pairwise (Ahead lt) := by
  obtain ⟨S, h1, h2, h3, h4⟩ := isG_spec lt asym tr l hs l.length (Nat.le_refl _)
  rw [List.drop_length, List.append_nil] at h1
  rw [List.take_length] at h2
  rw [h1]
  exact ⟨h2, h3⟩

def sumK (k : Int) : List Int → List Int → Int
  | c :: ks, x :: xs => (if c = k then x else 0) + sumK k ks xs
  | _, _ => 0
def cntK (ks re : List Int) (k : Int) (O : List Nat) : Nat := O.countP fun j => decide (ks.getD j 0 = k) && decide (0 < re.getD j 0)
structure SprI (ks fl re : List Int) (T : Int → Int) (O : List Nat) (s : List Int × List Int) : Prop where
  l1 : s.1.length = ks.length
  l2 : s.2.length = 3
  todo : ∀ i ∈ O, s.1.getD i 0 = fl.getD i 0
  done : ∀ i, i < ks.length → s.1.getD i 0 = fl.getD i 0 ∨ (s.1.getD i 0 = fl.getD i 0 + 1 ∧ 0 < re.getD i 0)
  some : ∀ k : Int, 0 ≤ k → k < 3 → 0 ≤ s.2.getD k.toNat 0 ∧ s.2.getD k.toNat 0 ≤ cntK ks re k O
  all : ∀ k : Int, 0 ≤ k → k < 3 → s.2.getD k.toNat 0 + sumK k ks s.1 = T k
theorem getD_set_ne {l : List Int} {i j : Nat} {v : Int} (h : i ≠ j) : (l.set i v).getD j 0 = l.getD j 0 := by
  simp only [List.getD_eq_getElem?_getD]; rw [List.getElem?_set_ne h]
end Go.Proofs.Ytimnfechlomkpaa
