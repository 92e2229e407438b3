/- Lists of numerals that are read: the plain law. -/
import Derived.Test.YtigipcckflcilaaDoorRdP
set_option maxRecDepth 10000
set_option maxHeartbeats 2000000
set_option linter.unusedSimpArgs false
set_option linter.unusedVariables false
namespace Go.Proofs.YtigipcckflcilaaDoor
open Go Go.Abs

def decs : List (List UInt8) → Option (List Int)
  | [] => some []
  | p :: P => match decOf p, decs P with
    | some x, some xs => some (x :: xs)
    | _, _ => none
theorem decs_cons {p : List UInt8} {P : List (List UInt8)} {xs : List Int} (h : decs (p :: P) = some xs) : ∃ x ys, xs = x :: ys ∧ decOf p = some x ∧ decs P = some ys := by
  unfold decs at h
  split at h
  · rename_i x ys h1 h2
    exact ⟨x, ys, (Option.some.inj h).symm, h1, h2⟩
  · cases h
theorem decs_map : ∀ {P : List (List UInt8)} {xs : List Int}, decs P = some xs → xs.map Lib.itoa = P ∧ (∀ x ∈ xs, inR (-1000000000000000) 1000000000000000 x = true) ∧ ∀ p ∈ P, p.length ≤ 17
  | [], xs, h => by cases h; exact ⟨rfl, by simp, by simp⟩
  | p :: P, xs, h => by
    obtain ⟨x, ys, rfl, h1, h2⟩ := decs_cons h
    obtain ⟨h3, h4, h5⟩ := decs_map h2
    obtain ⟨h6, h7, h8⟩ := decOf_some h1
    refine ⟨by rw [List.map_cons, h3, h6], fun y hy => ?_, fun q hq => ?_⟩
    · rcases List.mem_cons.1 hy with rfl | m
      · exact h7
      · exact h4 y m
    · rcases List.mem_cons.1 hq with rfl | m
      · exact h8
      · exact h5 q m
theorem decs_len {P : List (List UInt8)} {xs : List Int} (h : decs P = some xs) : xs.length = P.length := by rw [← (decs_map h).1, List.length_map]
theorem decs_snoc : ∀ {P : List (List UInt8)} {xs : List Int} {p : List UInt8} {x : Int}, decs P = some xs → decOf p = some x → decs (P ++ [p]) = some (xs ++ [x])
  | [], xs, p, x, h, hx => by
    cases h
    show (match decOf p, decs [] with | some x, some xs => some (x :: xs) | _, _ => none) = _
    rw [hx]; rfl
  | q :: P, xs, p, x, h, hx => by
    obtain ⟨y, ys, rfl, h1, h2⟩ := decs_cons h
    rw [List.cons_append]
    show (match decOf q, decs (P ++ [p]) with | some x, some xs => some (x :: xs) | _, _ => none) = _
    rw [h1, decs_snoc h2 hx]; rfl
theorem decs_bad : ∀ {P : List (List UInt8)} {i : Nat} (hi : i < P.length), decOf P[i] = none → decs P = none
  | p :: P, 0, _, h => by
    have h : decOf p = none := h
    show (match decOf p, decs P with | some x, some xs => some (x :: xs) | _, _ => none) = _
    rw [h]
  | p :: P, i + 1, hi, h => by
    have := decs_bad (P := P) (i := i) (by simpa using hi) h
    show (match decOf p, decs P with | some x, some xs => some (x :: xs) | _, _ => none) = _
    rw [this]
    cases decOf p <;> rfl

/-! ### Cutting and joining -/
theorem join_cutA (c : UInt8) : ∀ (s acc : List UInt8), Lib.join (cutA c acc s) [c] = acc ++ s
  | [], acc => by rw [cutA_nil, Lib.join_one, List.append_nil]
  | x :: s, acc => by
    rw [cutA_cons]
    split
    · rename_i e
      have ih := join_cutA c s []
      cases hc : cutA c [] s with
      | nil => rw [cutA_first] at hc; split at hc <;> cases hc
      | cons p P =>
        rw [hc, Lib.join_cons] at ih
        rw [Lib.join_cons, e]
        simp only [Lib.joinTail, List.map_cons, List.flatten_cons] at ih ⊢
        rw [List.nil_append] at ih
        rw [← ih]
        simp
    · rw [join_cutA c s (acc ++ [x])]
      simp
theorem cutA_ne (c : UInt8) (s acc : List UInt8) : cutA c acc s ≠ [] := by
  intro h
  rw [cutA_first] at h
  split at h <;> cases h
theorem cut_mem_acc (c : UInt8) : ∀ (s acc p : List UInt8), p ∈ cutA c acc s → p.length ≤ acc.length + s.length
  | [], acc, p, h => by
    rw [cutA_nil] at h
    rw [List.mem_singleton.1 h]; simp
  | x :: s, acc, p, h => by
    rw [cutA_cons] at h
    split at h
    · rcases List.mem_cons.1 h with rfl | m
      · simp
      · have := cut_mem_acc c s [] p m
        simp at this ⊢; omega
    · have := cut_mem_acc c s _ p h
      simp at this ⊢; omega
theorem cut_mem_len (c : UInt8) (s p : List UInt8) (h : p ∈ cutA c [] s) : p.length ≤ s.length := by
  have := cut_mem_acc c s [] p h
  simpa using this
def noneT : List UInt8 := [110, 111, 110, 101]
def listOf (s : List UInt8) : Option (List Int) := if s = noneT then some [] else if (cutA 44 [] s).length ≤ 64 then decs (cutA 44 [] s) else none
theorem listOf_none : listOf noneT = some [] := by unfold listOf; rw [if_pos rfl]
theorem listOf_txt {s : List UInt8} {xs : List Int} (h : listOf s = some xs) (hx : xs ≠ []) : txt [44] xs = s ∧ xs.length ≤ 64 := by
  unfold listOf at h
  split at h
  · cases h; exact absurd rfl hx
  · split at h
    · rename_i hl
      have := decs_len h
      refine ⟨?_, by omega⟩
      unfold txt
      rw [(decs_map h).1, join_cutA]
      rfl
    · cases h
theorem listOf_in {s : List UInt8} {xs : List Int} (h : listOf s = some xs) : ∀ x ∈ xs, inR (-1000000000000000) 1000000000000000 x = true := by
  unfold listOf at h
  split at h
  · cases h; simp
  · split at h
    · exact (decs_map h).2.1
    · cases h
theorem listOf_le {s : List UInt8} {xs : List Int} (h : listOf s = some xs) : xs.length ≤ 64 := by
  by_cases hx : xs = []
  · subst hx; simp
  · exact (listOf_txt h hx).2
theorem txt_len17 : ∀ (xs : List Int), (∀ x ∈ xs, inR (-1000000000000000) 1000000000000000 x = true) → (txt [44] xs).length ≤ xs.length * 18
  | [], _ => by rw [txt_zero]; simp
  | [x], h => by
    have := itoa_17 (h x List.mem_cons_self)
    unfold txt
    rw [List.map_cons, List.map_nil, Lib.join_one]
    simp; omega
  | x :: y :: r, h => by
    have h1 := itoa_17 (h x List.mem_cons_self)
    have h2 := txt_len17 (y :: r) (fun z hz => h z (List.mem_cons_of_mem _ hz))
    unfold txt at h2 ⊢
    simp only [List.map_cons, Lib.join_cons, Lib.joinTail, List.flatten_cons, List.length_append, List.length_cons, List.length_nil] at h2 ⊢
    omega
theorem listOf_long {s : List UInt8} (h : 1280 < s.length) : listOf s = none := by
  cases hl : listOf s with
  | none => rfl
  | some xs =>
    by_cases hx : xs = []
    · subst hx
      unfold listOf at hl
      split at hl
      · rename_i e; rw [e] at h; exact absurd h (by decide)
      · split at hl
        · have := decs_len hl
          have h2 := cutA_ne 44 s []
          exact absurd (List.length_eq_zero_iff.1 (by simpa using this.symm)) h2
        · cases hl
    · obtain ⟨h1, h2⟩ := listOf_txt hl hx
      have h3 := txt_len17 xs (listOf_in hl)
      rw [h1] at h3
      omega
theorem itoa_mem {n : Int} {c : UInt8} (h : c ∈ Lib.itoa n) : c = 45 ∨ dig c = true := by
  rw [itoa_abs] at h
  split at h
  · rcases List.mem_cons.1 h with e | m
    · exact .inl e
    · exact .inr (dec_digits (n.natAbs + 1) _ (by omega) c m)
  · exact .inr (dec_digits (n.natAbs + 1) _ (by omega) c h)
theorem txt_mem {c : UInt8} : ∀ {xs : List Int}, c ∈ txt [44] xs → c = 44 ∨ c = 45 ∨ dig c = true
  | [], h => by rw [txt_zero] at h; cases h
  | [x], h => by
    unfold txt at h
    rw [List.map_cons, List.map_nil, Lib.join_one] at h
    exact .inr (itoa_mem h)
  | x :: y :: r, h => by
    have ih := fun h => txt_mem (c := c) (xs := y :: r) h
    unfold txt at h ih
    rw [List.map_cons, List.map_cons, Lib.join_cons] at h
    rw [List.map_cons, Lib.join_cons] at ih
    simp only [Lib.joinTail, List.map_cons, List.flatten_cons, List.mem_append, List.mem_singleton] at h ih
    rcases h with h | (h | h) | h
    · exact .inr (itoa_mem h)
    · exact .inl h
    · exact ih (.inl h)
    · exact ih (.inr h)
/-- A list's text has no semicolon. -/
theorem listOf_semi {s : List UInt8} {xs : List Int} (h : listOf s = some xs) : (59 : UInt8) ∉ s := by
  intro hm
  by_cases hx : xs = []
  · subst hx
    unfold listOf at h
    split at h
    · rename_i e; rw [e] at hm; revert hm; decide
    · split at h
      · have := decs_len h
        exact absurd (List.length_eq_zero_iff.1 (by simpa using this.symm)) (cutA_ne 44 s [])
      · cases h
  · rw [← (listOf_txt h hx).1] at hm
    rcases txt_mem hm with e | e | e
    · revert e; decide
    · revert e; decide
    · revert e; decide
end Go.Proofs.YtigipcckflcilaaDoor
