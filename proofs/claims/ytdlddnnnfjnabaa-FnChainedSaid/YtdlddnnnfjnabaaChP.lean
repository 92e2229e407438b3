/- Chains, lines and rests in plain numbers; a list put in order by insertions. -/
import Derived.Test.YtdlddnnnfjnabaaMathS
set_option linter.unusedSimpArgs false
set_option linter.unusedVariables false
namespace Go.Proofs.Ytdlddnnnfjnabaa

def swpG (l : List Int) (k : Nat) : List Int := (l.set (k + 1) (l.getD k 0)).set k (l.getD (k + 1) 0)
def insG (lt : Int → Int → Bool) : Nat → List Int → List Int
  | 0, l => l
  | k + 1, l => if lt (l.getD (k + 1) 0) (l.getD k 0) then insG lt k (swpG l k) else l
def isG (lt : Int → Int → Bool) (l : List Int) : Nat → List Int
  | 0 => l
  | i + 1 => insG lt i (isG lt l i)
theorem swpG_len (l : List Int) (k : Nat) : (swpG l k).length = l.length := by simp [swpG]
theorem insG_len (lt : Int → Int → Bool) : ∀ (k : Nat) (l : List Int), (insG lt k l).length = l.length
  | 0, l => rfl
  | k + 1, l => by
    unfold insG
    split
    · rw [insG_len, swpG_len]
    · rfl
theorem isG_len (lt : Int → Int → Bool) (l : List Int) : ∀ i, (isG lt l i).length = l.length
  | 0 => rfl
  | i + 1 => by rw [isG, insG_len, isG_len]
theorem insG_spec (lt : Int → Int → Bool) : ∀ (n : Nat) (A : List Int) (x : Int) (B : List Int), A.length = n → ∃ A1 A2, A = A1 ++ A2 ∧ insG lt n (A ++ x :: B) = A1 ++ x :: (A2 ++ B) ∧ (∀ a ∈ A2, lt x a = true) ∧ ∀ y, A1.getLast? = some y → lt x y = false
  | 0, A, x, B, h => by
    have : A = [] := List.length_eq_zero_iff.1 h
    subst this
    exact ⟨[], [], rfl, rfl, by simp, by simp⟩
  | n + 1, A, x, B, h => by
    obtain ⟨A', y, rfl⟩ : ∃ A' y, A = A' ++ [y] := ⟨A.dropLast, A.getLast (by intro e; simp [e] at h), (List.dropLast_concat_getLast _).symm⟩
    have hl : A'.length = n := by simpa using h
    have g1 : (A' ++ [y] ++ x :: B).getD (n + 1) 0 = x := by simp [List.getD_eq_getElem?_getD, ← hl]
    have g0 : (A' ++ [y] ++ x :: B).getD n 0 = y := by simp [List.getD_eq_getElem?_getD, ← hl]
    unfold insG
    rw [g1, g0]
    by_cases hxy : lt x y = true
    · rw [if_pos hxy]
      have e : swpG (A' ++ [y] ++ x :: B) n = A' ++ x :: (y :: B) := by
        unfold swpG
        rw [g1, g0]
        subst hl
        simp [List.set_append]
      rw [e]
      obtain ⟨A1, A2, h1, h2, h3, h4⟩ := insG_spec lt n A' x (y :: B) hl
      refine ⟨A1, A2 ++ [y], by rw [h1]; simp, by rw [h2]; simp, fun a ha => ?_, h4⟩
      rcases List.mem_append.1 ha with ha | ha
      · exact h3 a ha
      · simp at ha; subst ha; exact hxy
    · rw [if_neg hxy]
      exact ⟨A' ++ [y], [], by simp, by simp, by simp, fun z hz => by simp at hz; subst hz; simpa using hxy⟩
def Ahead (lt : Int → Int → Bool) (x y : Int) : Prop := lt y x = false ∧ (lt x y = true ∨ x < y)
theorem gdrop_at (l : List Int) (i : Nat) (h : i < l.length) : l.drop i = l[i] :: l.drop (i + 1) := List.drop_eq_getElem_cons h
theorem gtake_snoc (l : List Int) (i : Nat) (h : i < l.length) : l.take (i + 1) = l.take i ++ [l[i]] := by rw [List.take_add_one, List.getElem?_eq_getElem h]; rfl
theorem isG_spec (lt : Int → Int → Bool) (asym : ∀ x y, lt x y = true → lt y x = false) (tr : ∀ x y z, lt y x = false → lt z y = false → lt z x = false) (l : List Int) (hs : l.Pairwise (· < ·)) :
    ∀ i, i ≤ l.length → ∃ S, isG lt l i = S ++ l.drop i ∧ S.Perm (l.take i) ∧ S.Pairwise (Ahead lt) ∧ S.length = i
  | 0, _ => ⟨[], by simp [isG], by simp, .nil, rfl⟩
  | i + 1, hi => by
    obtain ⟨S, h1, h2, h3, h4⟩ := isG_spec lt asym tr l hs i (by omega)
    have hd : l.drop i = l[i] :: l.drop (i + 1) := gdrop_at l i (by omega)
    have ht : l.take (i + 1) = l.take i ++ [l[i]] := gtake_snoc l i (by omega)
    have low : ∀ a ∈ S, a < l[i] := by
      intro a ha
      have hp : (l.take i ++ l.drop i).Pairwise (· < ·) := by rw [List.take_append_drop]; exact hs
      rw [hd] at hp
      exact (List.pairwise_append.1 hp).2.2 a (h2.mem_iff.1 ha) _ List.mem_cons_self
    generalize l[i] = x at hd ht low
    obtain ⟨A1, A2, g1, g2, g3, g4⟩ := insG_spec lt i S x (l.drop (i + 1)) h4
    refine ⟨A1 ++ x :: A2, ?_, ?_, ?_, ?_⟩
    · rw [isG, h1, hd, g2]; simp
    · rw [ht]
      refine List.Perm.trans List.perm_middle ?_
      rw [← g1]
      exact (List.Perm.cons _ h2).trans (List.perm_append_singleton _ _).symm
    · rw [g1] at h3 low
      rw [List.pairwise_append] at h3 ⊢
      obtain ⟨p1, p2, p3⟩ := h3
      have le1 : ∀ a ∈ A1, lt x a = false := by
        intro a ha
        have hne : A1 ≠ [] := by intro e; rw [e] at ha; cases ha
        have hlast := g4 _ (List.getLast?_eq_some_getLast hne)
        have e := List.dropLast_concat_getLast hne
        rw [← e, List.pairwise_append] at p1
        rw [← e] at ha
        rcases List.mem_append.1 ha with h | h
        · exact tr a (A1.getLast hne) _ (p1.2.2 a h _ (by simp)).1 hlast
        · simp at h; rw [h]; exact hlast
      refine ⟨p1, ?_, ?_⟩
      · rw [List.pairwise_cons]
        exact ⟨fun a ha => ⟨asym _ _ (g3 a ha), .inl (g3 a ha)⟩, p2⟩
      · intro a ha b hb
        rcases List.mem_cons.1 hb with rfl | hb
        · exact ⟨le1 a ha, .inr (low a (by simp [ha]))⟩
        · exact p3 a ha b hb
    · rw [← h4, g1]; simp; omega
theorem isG_sort (lt : Int → Int → Bool) (asym : ∀ x y, lt x y = true → lt y x = false) (tr : ∀ x y z, lt y x = false → lt z y = false → lt z x = false) (l : List Int) (hs : l.Pairwise (· < ·)) :
    (isG lt l l.length).Perm l ∧ (isG lt l l.length).Pairwise (Ahead lt) := by
  obtain ⟨S, h1, h2, h3, h4⟩ := isG_spec lt asym tr l hs l.length (Nat.le_refl _)
  rw [List.drop_length, List.append_nil] at h1
  rw [List.take_length] at h2
  rw [h1]
  exact ⟨h2, h3⟩

def sumK (k : Int) : List Int → List Int → Int
  | c :: ks, x :: xs => (if c = k then x else 0) + sumK k ks xs
  | _, _ => 0
theorem sumK_set (k : Int) : ∀ (ks xs : List Int) (i : Nat) (v : Int), i < xs.length → i < ks.length → sumK k ks (xs.set i v) = sumK k ks xs + (if ks.getD i 0 = k then v - xs.getD i 0 else 0)
  | c :: ks, x :: xs, 0, v, _, _ => by
    simp only [List.set_cons_zero, sumK, List.getD_cons_zero]
    split <;> omega
  | c :: ks, x :: xs, i + 1, v, h1, h2 => by
    have ih := sumK_set k ks xs i v (by simpa using h1) (by simpa using h2)
    simp only [List.set_cons_succ, sumK, List.getD_cons_succ, ih]
    omega
  | [], _, _, _, _, h => by simp at h
  | _ :: _, [], _, _, h, _ => by simp at h
theorem sumK_snoc (k : Int) : ∀ (ks xs : List Int) (c x : Int), xs.length = ks.length → sumK k (ks ++ [c]) (xs ++ [x]) = sumK k ks xs + (if c = k then x else 0)
  | [], [], c, x, _ => by simp [sumK]
  | a :: ks, b :: xs, c, x, h => by
    have ih := sumK_snoc k ks xs c x (by simpa using h)
    simp only [List.cons_append, sumK, ih]
    omega
  | [], _ :: _, _, _, h => by simp at h
  | _ :: _, [], _, _, h => by simp at h

def cntK (ks re : List Int) (k : Int) (O : List Nat) : Nat := O.countP fun j => decide (ks.getD j 0 = k) && decide (0 < re.getD j 0)
def sprG (ks : List Int) : List Nat → List Int × List Int → List Int × List Int
  | [], s => s
  | i :: O, s => sprG ks O (if 0 < s.2.getD (ks.getD i 0).toNat 0 then (s.1.set i (s.1.getD i 0 + 1), s.2.set (ks.getD i 0).toNat (s.2.getD (ks.getD i 0).toNat 0 - 1)) else s)
structure SprI (ks fl re : List Int) (T : Int → Int) (O : List Nat) (s : List Int × List Int) : Prop where
  l1 : s.1.length = ks.length
  l2 : s.2.length = 3
  todo : ∀ i ∈ O, s.1.getD i 0 = fl.getD i 0
  done : ∀ i, i < ks.length → s.1.getD i 0 = fl.getD i 0 ∨ (s.1.getD i 0 = fl.getD i 0 + 1 ∧ 0 < re.getD i 0)
  some : ∀ k : Int, 0 ≤ k → k < 3 → 0 ≤ s.2.getD k.toNat 0 ∧ s.2.getD k.toNat 0 ≤ cntK ks re k O
  all : ∀ k : Int, 0 ≤ k → k < 3 → s.2.getD k.toNat 0 + sumK k ks s.1 = T k
theorem getD_set_ne {l : List Int} {i j : Nat} {v : Int} (h : i ≠ j) : (l.set i v).getD j 0 = l.getD j 0 := by
  simp only [List.getD_eq_getElem?_getD]; rw [List.getElem?_set_ne h]
theorem getD_set_eq {l : List Int} {i : Nat} {v : Int} (h : i < l.length) : (l.set i v).getD i 0 = v := by
  simp [List.getD_eq_getElem?_getD, h]
theorem spr_law (ks fl re : List Int) (T : Int → Int) (hk : ∀ c ∈ ks, 0 ≤ c ∧ c < 3) : ∀ (O : List Nat) (s : List Int × List Int), (∀ i ∈ O, i < ks.length) → O.Nodup → O.Pairwise (fun i j => re.getD j 0 ≤ re.getD i 0) → SprI ks fl re T O s →
    SprI ks fl re T [] (sprG ks O s)
  | [], s, _, _, _, h => h
  | i :: O, s, hO, hn, hp, h => by
    have hi := hO i (by simp)
    have hn' := List.nodup_cons.1 hn
    have hp' := List.pairwise_cons.1 hp
    refine spr_law ks fl re T hk O _ (fun j hj => hO j (by simp [hj])) hn'.2 hp'.2 ?_
    have kk := hk (ks.getD i 0) (by simp [List.getD_eq_getElem?_getD, hi])
    have cnt : ∀ k : Int, cntK ks re k (i :: O) = cntK ks re k O + if (decide (ks.getD i 0 = k) && decide (0 < re.getD i 0)) = true then 1 else 0 := fun k => by
      unfold cntK
      rw [List.countP_cons]
    generalize hkk : ks.getD i 0 = c at kk cnt ⊢
    split
    · rename_i hpos
      have hre : 0 < re.getD i 0 := by
        have h1 := (h.some c kk.1 kk.2).2
        have h2 : 0 < cntK ks re c (i :: O) := by omega
        obtain ⟨j, hj, hj2⟩ := List.countP_pos_iff.1 h2
        simp only [Bool.and_eq_true, decide_eq_true_eq] at hj2
        rcases List.mem_cons.1 hj with rfl | hj
        · exact hj2.2
        · have := hp'.1 j hj; omega
      have hl2 := h.l2
      refine ⟨by simp [h.l1], by simp [h.l2], fun j hj => ?_, fun j hj => ?_, fun k k0 k3 => ?_, fun k k0 k3 => ?_⟩
      · have : i ≠ j := by intro e; subst e; exact hn'.1 hj
        rw [getD_set_ne this]
        exact h.todo j (by simp [hj])
      · by_cases e : i = j
        · subst e
          rw [getD_set_eq (by rw [h.l1]; exact hi)]
          right
          exact ⟨by rw [h.todo i (by simp)], hre⟩
        · rw [getD_set_ne e]
          exact h.done j hj
      · have h1 := h.some k k0 k3
        rw [cnt k] at h1
        by_cases e : c = k
        · subst e
          rw [getD_set_eq (by rw [hl2]; omega)]
          rw [if_pos (by rw [decide_eq_true rfl, decide_eq_true hre]; rfl)] at h1
          omega
        · rw [getD_set_ne (by omega)]
          rw [if_neg (by simp [e])] at h1
          omega
      · have h1 := h.all k k0 k3
        rw [sumK_set k ks s.1 i _ (by rw [h.l1]; exact hi) hi, hkk]
        by_cases e : c = k
        · subst e
          rw [getD_set_eq (by rw [hl2]; omega), if_pos rfl]
          omega
        · rw [getD_set_ne (by omega), if_neg e]
          omega
    · rename_i hz
      refine ⟨h.l1, h.l2, fun j hj => h.todo j (by simp [hj]), h.done, fun k k0 k3 => ?_, h.all⟩
      have h1 := h.some k k0 k3
      rw [cnt k] at h1
      by_cases e : c = k
      · subst e
        omega
      · rw [if_neg (by simp [e])] at h1
        omega
theorem rest_bounds (a F R : Int) (c : Nat) (w : Int) (ha : a = 10000 * F + R) (hF : 0 ≤ F) (h0 : 0 ≤ R) (h1 : R ≤ 9999 * c) : 0 ≤ rnd a 10000 w - F ∧ rnd a 10000 w - F ≤ c := by
  have h := rnd_near a 10000 w (by omega) (by omega)
  by_cases hz : a % 10000 = 0
  · have := h.2.2 hz
    omega
  · omega
theorem sumK_parts (k : Int) : ∀ (ks es : List Int), es.length = ks.length → (∀ e ∈ es, 0 ≤ e) →
    sumK k ks es = 10000 * sumK k ks (es.map (· / 10000)) + sumK k ks (es.map (· % 10000)) ∧ 0 ≤ sumK k ks (es.map (· / 10000)) ∧ 0 ≤ sumK k ks (es.map (· % 10000)) ∧
      sumK k ks (es.map (· % 10000)) ≤ 9999 * ((cntK ks (es.map (· % 10000)) k (List.range ks.length) : Nat) : Int)
  | [], [], _, _ => by simp [sumK, cntK]
  | c :: ks, e :: es, hl, h0 => by
    obtain ⟨h1, h2, h3, h4⟩ := sumK_parts k ks es (by simpa using hl) (fun x hx => h0 x (by simp [hx]))
    have he := h0 e (by simp)
    have hcnt : cntK (c :: ks) ((e :: es).map (· % 10000)) k (List.range (c :: ks).length) = (if (decide (c = k) && decide (0 < e % 10000)) = true then 1 else 0) + cntK ks (es.map (· % 10000)) k (List.range ks.length) := by
      unfold cntK
      rw [List.length_cons, List.range_succ_eq_map, List.countP_cons, List.countP_map, Nat.add_comm]
      rfl
    rw [hcnt]
    simp only [List.map_cons, sumK]
    by_cases hc : c = k
    · simp only [hc, if_true, decide_true, Bool.true_and]
      by_cases hp : 0 < e % 10000
      · simp only [hp, decide_true, if_true]
        omega
      · simp only [hp, decide_false, Bool.false_eq_true, if_false]
        omega
    · simp only [hc, if_false, decide_false, Bool.false_and, Bool.false_eq_true]
      omega
  | [], _ :: _, h, _ => by simp at h
  | _ :: _, [], h, _ => by simp at h

end Go.Proofs.Ytdlddnnnfjnabaa
