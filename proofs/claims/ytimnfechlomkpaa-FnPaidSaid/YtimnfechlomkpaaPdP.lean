/- What is paid, in plain numbers: an order by keys, told in two ways. -/
import Derived.Test.YtimnfechlomkpaaPdA
set_option maxRecDepth 10000
set_option maxHeartbeats 2000000
set_option linter.unusedSimpArgs false
set_option linter.unusedVariables false
namespace Go.Proofs.Ytimnfechlomkpaa
open Go Go.Abs

def lk (K : Nat → Int) (x y : Int) : Bool := decide (K x.toNat < K y.toNat)
def idL (n : Nat) : List Int := rngL (fun i => (i : Int)) n
def ordK (K : Nat → Int) (n : Nat) : List Int := isG (lk K) (idL n) n
theorem ordK_sort (K : Nat → Int) (n : Nat) : (ordK K n).Perm (idL n) ∧ (ordK K n).Pairwise (Ahead (lk K)) := by
  have h := isG_sort (lk K) (fun x y h => by
    unfold lk at h ⊢
    simp only [decide_eq_true_eq, decide_eq_false_iff_not] at h ⊢
    omega) (fun x y z h1 h2 => by
    unfold lk at h1 h2 ⊢
    simp only [decide_eq_false_iff_not] at h1 h2 ⊢
    omega) (idL n) (by
    unfold idL rngL
    rw [List.pairwise_map]
    exact (List.pairwise_lt_range).imp fun h => by omega)
  have e : (idL n).length = n := rngL_len _ _
  rw [e] at h
  exact h
theorem ordK_len (K : Nat → Int) (n : Nat) : (ordK K n).length = n := by
  rw [(ordK_sort K n).1.length_eq]; exact rngL_len _ _
theorem idL_mem {n : Nat} {x : Int} : x ∈ idL n ↔ 0 ≤ x ∧ x < n := by
  unfold idL rngL
  rw [List.mem_map]
  constructor
  · rintro ⟨i, hi, rfl⟩
    have := List.mem_range.1 hi
    omega
  · rintro ⟨h1, h2⟩
    exact ⟨x.toNat, List.mem_range.2 (by omega), by omega⟩
theorem ordK_mem {K : Nat → Int} {n : Nat} {x : Int} : x ∈ ordK K n ↔ 0 ≤ x ∧ x < n := by
  rw [(ordK_sort K n).1.mem_iff]; exact idL_mem
def ordN (K : Nat → Int) (n : Nat) : List Nat := (ordK K n).map Int.toNat
theorem ordN_len (K : Nat → Int) (n : Nat) : (ordN K n).length = n := by simp [ordN, ordK_len]
theorem ordN_mem {K : Nat → Int} {n i : Nat} : i ∈ ordN K n ↔ i < n := by
  unfold ordN
  rw [List.mem_map]
  constructor
  · rintro ⟨x, hx, rfl⟩
    have := ordK_mem.1 hx
    omega
  · intro h
    exact ⟨(i : Int), ordK_mem.2 (by omega), by omega⟩
def Bef (K : Nat → Int) (i j : Nat) : Prop := K i < K j ∨ (K i = K j ∧ i < j)
theorem ordN_pair (K : Nat → Int) (n : Nat) : (ordN K n).Pairwise (Bef K) := by
  unfold ordN
  rw [List.pairwise_map]
  refine (ordK_sort K n).2.imp_of_mem ?_
  intro a b ha hb h
  have h1 := ordK_mem.1 ha
  have h2 := ordK_mem.1 hb
  obtain ⟨p, q⟩ := h
  unfold lk at p q
  simp only [decide_eq_true_eq, decide_eq_false_iff_not] at p q
  unfold Bef
  omega
theorem bef_irrefl {K : Nat → Int} {i : Nat} : ¬ Bef K i i := by unfold Bef; omega
theorem bef_asymm {K : Nat → Int} {i j : Nat} (h : Bef K i j) : ¬ Bef K j i := by unfold Bef at *; omega
theorem ordN_nodup (K : Nat → Int) (n : Nat) : (ordN K n).Nodup := by
  refine (ordN_pair K n).imp ?_
  intro a b h e
  exact bef_irrefl (K := K) (by rw [← e] at h; exact h)
theorem ordN_first (K : Nat → Int) (n j : Nat) (hj : j < n) (i : Nat) (hi : i < n) (hl : i ∉ (ordN K n).take j) : i = (ordN K n)[j]'(by rw [ordN_len]; exact hj) ∨ Bef K ((ordN K n)[j]'(by rw [ordN_len]; exact hj)) i := by
  have hlen := ordN_len K n
  have hm := (ordN_mem (K := K)).2 hi
  have hd : i ∈ (ordN K n).drop j := by
    rw [← List.take_append_drop j (ordN K n)] at hm
    rcases List.mem_append.1 hm with h | h
    · exact absurd h hl
    · exact h
  have hp := ordN_pair K n
  rw [← List.take_append_drop j (ordN K n), List.pairwise_append] at hp
  rw [List.drop_eq_getElem_cons (by omega)] at hd
  have h2 := hp.2.1
  rw [List.drop_eq_getElem_cons (show j < (ordN K n).length by omega), List.pairwise_cons] at h2
  rcases List.mem_cons.1 hd with h | h
  · exact .inl h
  · exact .inr (h2.1 _ h)
theorem ordN_fresh (K : Nat → Int) (n j : Nat) (hj : j < n) : (ordN K n)[j]'(by rw [ordN_len]; exact hj) ∉ (ordN K n).take j := by
  have hlen := ordN_len K n
  have hn := ordN_nodup K n
  rw [← List.take_append_drop j (ordN K n), List.nodup_append] at hn
  intro h
  refine hn.2.2 _ h _ ?_ rfl
  rw [List.drop_eq_getElem_cons (by omega)]
  exact List.mem_cons_self
def selK (K : Nat → Int) (tk : Nat → Bool) : Nat → Int
  | 0 => -1
  | i + 1 => if tk i = false ∧ (selK K tk i < 0 ∨ K i < K (selK K tk i).toNat) then i else selK K tk i
theorem selK_ok (K : Nat → Int) (tk : Nat → Bool) (i : Nat) : (selK K tk i = -1 ∧ ∀ a, a < i → tk a = true) ∨ ∃ s : Nat, selK K tk i = (s : Int) ∧ s < i ∧ tk s = false ∧ ∀ a, a < i → tk a = false → a = s ∨ Bef K s a := by
  induction i with
  | zero => exact .inl ⟨rfl, fun a ha => by omega⟩
  | succ i ih =>
    unfold selK
    rcases ih with ⟨h1, h2⟩ | ⟨s, h1, h2, h3, h4⟩
    · rw [h1]
      by_cases c : tk i = false
      · rw [if_pos ⟨c, .inl (by decide)⟩]
        refine .inr ⟨i, rfl, by omega, c, fun a ha ht => ?_⟩
        by_cases e : a = i
        · exact .inl e
        · rw [h2 a (by omega)] at ht; cases ht
      · rw [if_neg (fun h => c h.1)]
        refine .inl ⟨rfl, fun a ha => ?_⟩
        by_cases e : a = i
        · subst e; simpa using c
        · exact h2 a (by omega)
    · rw [h1, Int.toNat_natCast]
      by_cases c : tk i = false ∧ ((s : Int) < 0 ∨ K i < K s)
      · rw [if_pos c]
        have hk : K i < K s := by rcases c.2 with h | h; omega; exact h
        refine .inr ⟨i, rfl, by omega, c.1, fun a ha ht => ?_⟩
        by_cases e : a = i
        · exact .inl e
        · right
          rcases h4 a (by omega) ht with e2 | b
          · subst e2; exact .inl hk
          · unfold Bef at b ⊢; omega
      · rw [if_neg c]
        refine .inr ⟨s, rfl, by omega, h3, fun a ha ht => ?_⟩
        by_cases e : a = i
        · subst e
          right
          have : ¬ K a < K s := fun hk => c ⟨ht, .inr hk⟩
          unfold Bef; omega
        · exact h4 a (by omega) ht
theorem selK_ord (K : Nat → Int) (n j : Nat) (hj : j < n) (tk : Nat → Bool) (ht : ∀ a, a < n → (tk a = true ↔ a ∈ (ordN K n).take j)) : selK K tk n = (((ordN K n)[j]'(by rw [ordN_len]; exact hj) : Nat) : Int) := by
  have hlen := ordN_len K n
  have hm : (ordN K n)[j]'(by omega) < n := ordN_mem.1 (List.getElem_mem _)
  have hf : tk ((ordN K n)[j]'(by omega)) = false := by
    cases c : tk ((ordN K n)[j]'(by omega))
    · rfl
    · exact absurd ((ht _ hm).1 c) (ordN_fresh K n j hj)
  rcases selK_ok K tk n with ⟨_, h2⟩ | ⟨s, h1, h2, h3, h4⟩
  · rw [h2 _ hm] at hf; cases hf
  · rw [h1]
    have e1 := h4 _ hm hf
    have e2 := ordN_first K n j hj s h2 (fun h => by rw [(ht s h2).2 h] at h3; cases h3)
    rcases e1 with e | b
    · rw [e]
    · rcases e2 with e | b2
      · exact congrArg _ e
      · exact absurd b2 (bef_asymm b)
def bstR (R : Nat → Int) : Nat → Nat
  | 0 => 0
  | i + 1 => if R (bstR R i) < R i then i else bstR R i
theorem bstR_ok (R : Nat → Int) (i : Nat) : (i = 0 ∧ bstR R i = 0) ∨ (bstR R i < i ∧ ∀ a, a < i → a = bstR R i ∨ Bef (fun x => -R x) (bstR R i) a) := by
  induction i with
  | zero => exact .inl ⟨rfl, rfl⟩
  | succ i ih =>
    right
    unfold bstR
    rcases ih with ⟨rfl, h⟩ | ⟨h1, h2⟩
    · rw [h, if_neg (by omega)]
      exact ⟨by omega, fun a ha => .inl (by omega)⟩
    · by_cases c : R (bstR R i) < R i
      · rw [if_pos c]
        refine ⟨by omega, fun a ha => ?_⟩
        by_cases e : a = i
        · exact .inl e
        · right
          rcases h2 a (by omega) with e2 | b
          · rw [e2]; left; show -R i < -R _; omega
          · unfold Bef at b ⊢
            simp only at b ⊢
            omega
      · rw [if_neg c]
        refine ⟨by omega, fun a ha => ?_⟩
        by_cases e : a = i
        · subst e
          right
          unfold Bef
          simp only
          omega
        · exact h2 a (by omega)
def mrk (R : Nat → Int) (l : List Nat) (i : Nat) : Int := if i ∈ l then -1 else R i
theorem bstR_ord (R : Nat → Int) (h0 : ∀ i, 0 ≤ R i) (n j : Nat) (hj : j < n) : bstR (mrk R ((ordN (fun x => -R x) n).take j)) n = (ordN (fun x => -R x) n)[j]'(by rw [ordN_len]; exact hj) := by
  have hlen := ordN_len (fun x => -R x) n
  generalize hL : (ordN (fun x => -R x) n).take j = L
  have hm : (ordN (fun x => -R x) n)[j]'(by omega) < n := ordN_mem.1 (List.getElem_mem _)
  have hf : (ordN (fun x => -R x) n)[j]'(by omega) ∉ L := hL ▸ ordN_fresh (fun x => -R x) n j hj
  have hfirst := fun i hi (h : i ∉ L) => ordN_first (fun x => -R x) n j hj i hi (hL ▸ h)
  generalize (ordN (fun x => -R x) n)[j]'(by omega) = o at *
  rcases bstR_ok (mrk R L) n with ⟨h, _⟩ | ⟨h1, h2⟩
  · omega
  · generalize bstR (mrk R L) n = s at *
    have mo : mrk R L o = R o := if_neg hf
    rcases h2 o hm with e | b
    · exact e.symm
    · unfold Bef at b
      simp only at b
      rw [mo] at b
      have hs : s ∉ L := fun hs => by
        have : mrk R L s = -1 := if_pos hs
        have := h0 o
        omega
      have ms : mrk R L s = R s := if_neg hs
      rw [ms] at b
      rcases hfirst s h1 hs with e | b2
      · exact e
      · unfold Bef at b2
        simp only at b2
        omega
def sumF (f : Nat → Int) (l : List Nat) : Int := sumI (l.map f)
theorem sumI_perm {l m : List Int} (h : l.Perm m) : sumI l = sumI m := by
  unfold sumI
  exact h.foldr_eq' (fun a _ b _ c => by omega) 0
theorem ordN_perm (K : Nat → Int) (n : Nat) : (ordN K n).Perm (List.range n) := by
  have h := ((ordK_sort K n).1).map Int.toNat
  have e : (idL n).map Int.toNat = List.range n := by
    unfold idL rngL
    rw [List.map_map]
    exact List.map_id' _
  rw [e] at h
  exact h
theorem sumF_ord (f : Nat → Int) (K : Nat → Int) (n : Nat) : sumF f (ordN K n) = sumF f (List.range n) := sumI_perm ((ordN_perm K n).map f)
end Go.Proofs.Ytimnfechlomkpaa
