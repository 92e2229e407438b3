/- Days on which rules change: plain. -/
import Derived.Test.YtmllengggncmkaaGreatAmA
set_option maxRecDepth 10000
set_option linter.unusedSimpArgs false
set_option linter.unusedVariables false
namespace Go.Proofs.YtmllengggncmkaaGreat
open Go Go.Abs

def dayP (R : List Rul) (d : Int) : Prop := 1 ≤ d ∧ d ≤ 100000 ∧ ∃ r ∈ R, d = r.2.2.1 ∨ d = r.2.2.2.1 + 1
structure Chs (R : List Rul) (C : List Int) : Prop where
  asc : C.Pairwise (· < ·)
  mem : ∀ d, d ∈ C ↔ dayP R d
theorem asc_same : ∀ {C D : List Int}, C.Pairwise (· < ·) → D.Pairwise (· < ·) → (∀ d, d ∈ C ↔ d ∈ D) → C = D
  | [], [], _, _, _ => rfl
  | [], y :: D, _, _, h => absurd ((h y).2 (by simp)) (by simp)
  | x :: C, [], _, _, h => absurd ((h x).1 (by simp)) (by simp)
  | x :: C, y :: D, h1, h2, h => by
    have c1 := List.pairwise_cons.1 h1
    have c2 := List.pairwise_cons.1 h2
    have hxy : x = y := by
      have a := (h x).1 (by simp)
      have b := (h y).2 (by simp)
      rcases List.mem_cons.1 a with a | a
      · exact a
      · rcases List.mem_cons.1 b with b | b
        · exact b.symm
        · have := c1.1 y b; have := c2.1 x a; omega
    subst hxy
    rw [asc_same c1.2 c2.2 fun d => ?_]
    have hd := h d
    rw [List.mem_cons, List.mem_cons] at hd
    constructor
    · intro hc
      rcases hd.1 (.inr hc) with e | e
      · have := c1.1 d hc; omega
      · exact e
    · intro hc
      rcases hd.2 (.inr hc) with e | e
      · have := c2.1 d hc; omega
      · exact e
theorem Chs.same {R : List Rul} {C D : List Int} (h : Chs R C) (g : Chs R D) : C = D := asc_same h.asc g.asc fun d => (h.mem d).trans (g.mem d).symm
theorem mem_cmpI (d : Int) : ∀ l : List Int, d ∈ cmpI l ↔ d ∈ l
  | [] => Iff.rfl
  | [_] => Iff.rfl
  | x :: y :: l => by
    have ih := mem_cmpI d (y :: l)
    show d ∈ (if x = y then cmpI (y :: l) else x :: cmpI (y :: l)) ↔ _
    split
    · rename_i h
      subst h
      rw [ih]; simp
    · rw [List.mem_cons, ih, ← List.mem_cons]
theorem asc_cmpI : ∀ l : List Int, l.Pairwise (· ≤ ·) → (cmpI l).Pairwise (· < ·)
  | [], _ => List.Pairwise.nil
  | [x], _ => List.pairwise_singleton _ _
  | x :: y :: l, h => by
    have h1 := List.pairwise_cons.1 h
    have ih := asc_cmpI (y :: l) h1.2
    show (if x = y then cmpI (y :: l) else x :: cmpI (y :: l)).Pairwise (· < ·)
    split
    · exact ih
    · rename_i hne
      refine List.pairwise_cons.2 ⟨fun d hd => ?_, ih⟩
      have hd2 := (mem_cmpI d (y :: l)).1 hd
      have a := h1.1 y (by simp)
      rcases List.mem_cons.1 hd2 with e | e
      · omega
      · have := (List.pairwise_cons.1 h1.2).1 d e; omega
theorem sortI_sorted (xs : List Int) : (sortI xs).Pairwise (· ≤ ·) := by
  have := List.pairwise_mergeSort (le := fun a b : Int => decide (a ≤ b)) (fun a b c h1 h2 => by simp at *; omega) (fun a b => by simp; omega) xs
  exact this.imp fun h => by simpa using h
theorem mem_sortI (xs : List Int) (d : Int) : d ∈ sortI xs ↔ d ∈ xs := (List.mergeSort_perm xs _).mem_iff
def dsR (R : List Rul) : List Int := R.flatMap fun r => [r.2.2.1, r.2.2.2.1 + 1].filter (inR 1 100000)
theorem dsR_snoc (R : List Rul) (r : Rul) : dsR (R ++ [r]) = dsR R ++ [r.2.2.1, r.2.2.2.1 + 1].filter (inR 1 100000) := by simp [dsR]
theorem dsR_len : ∀ R : List Rul, (dsR R).length ≤ 2 * R.length
  | [] => by simp [dsR]
  | r :: R => by
    have := dsR_len R
    have h2 := List.length_filter_le (inR 1 100000) [r.2.2.1, r.2.2.2.1 + 1]
    unfold dsR at this ⊢
    rw [List.flatMap_cons, List.length_append, List.length_cons]
    simp only [List.length_cons, List.length_nil] at h2
    omega
theorem chs_dsR (R : List Rul) : Chs R (cmpI (sortI (dsR R))) := by
  refine ⟨asc_cmpI _ (sortI_sorted _), fun d => ?_⟩
  rw [mem_cmpI, mem_sortI]
  unfold dsR dayP
  rw [List.mem_flatMap]
  constructor
  · rintro ⟨r, hr, hd⟩
    obtain ⟨h1, h2⟩ := List.mem_filter.1 hd
    unfold inR at h2
    rw [Bool.and_eq_true, decide_eq_true_eq, decide_eq_true_eq] at h2
    simp only [List.mem_cons, List.not_mem_nil, or_false] at h1
    exact ⟨h2.1, h2.2, r, hr, h1⟩
  · rintro ⟨h1, h2, r, hr, h3⟩
    refine ⟨r, hr, List.mem_filter.2 ⟨by simpa using h3, ?_⟩⟩
    unfold inR
    rw [decide_eq_true h1, decide_eq_true h2]; rfl
def daR (R : List Rul) : List Int := R.flatMap fun r => [r.2.2.1, r.2.2.2.1 + 1]
theorem daR_snoc (R : List Rul) (r : Rul) : daR (R ++ [r]) = daR R ++ [r.2.2.1, r.2.2.2.1 + 1] := by simp [daR]
theorem daR_len : ∀ R : List Rul, (daR R).length = 2 * R.length
  | [] => by simp [daR]
  | r :: R => by
    have := daR_len R
    unfold daR at this ⊢
    rw [List.flatMap_cons, List.length_append, List.length_cons, this]
    simp only [List.length_cons, List.length_nil]
    omega
theorem mem_daR {R : List Rul} {d : Int} : d ∈ daR R ↔ ∃ r ∈ R, d = r.2.2.1 ∨ d = r.2.2.2.1 + 1 := by
  unfold daR
  rw [List.mem_flatMap]
  simp
def minI (a b : Int) : Int := if a < b then a else b
def mnD (last : Int) (l : List Int) : Int := l.foldl (fun nx d => if last < d then minI nx d else nx) 100001
theorem mnD_snoc (last : Int) (l : List Int) (d : Int) : mnD last (l ++ [d]) = if last < d then minI (mnD last l) d else mnD last l := by
  unfold mnD
  rw [List.foldl_append]
  rfl
structure MnD (last : Int) (l : List Int) (m : Int) : Prop where
  top : m ≤ 100001
  low : ∀ d ∈ l, last < d → m ≤ d
  one : m = 100001 ∨ m ∈ l ∧ last < m
theorem mnD_ok (last : Int) (l : List Int) : MnD last l (mnD last l) := by
  suffices h : ∀ (l2 l1 : List Int), MnD last l1 (mnD last l1) → MnD last (l1 ++ l2) (mnD last (l1 ++ l2)) by
    simpa using h l [] ⟨Int.le_refl _, fun d hd => (by cases hd), .inl rfl⟩
  intro l2
  induction l2 with
  | nil => intro l1 h; simpa using h
  | cons d l2 ih =>
    intro l1 h
    have := ih (l1 ++ [d]) ?_
    · simpa using this
    rw [mnD_snoc]
    obtain ⟨h1, h2, h3⟩ := h
    generalize mnD last l1 = m at *
    split
    · rename_i hd
      unfold minI
      refine ⟨by split <;> omega, fun e he hl => ?_, ?_⟩
      · rcases List.mem_append.1 he with he | he
        · have := h2 e he hl; split <;> omega
        · rw [List.mem_singleton.1 he]; split <;> omega
      · split
        · rcases h3 with h3 | h3
          · exact .inl h3
          · exact .inr ⟨List.mem_append_left _ h3.1, h3.2⟩
        · exact .inr ⟨by simp, hd⟩
    · rename_i hd
      refine ⟨h1, fun e he hl => ?_, ?_⟩
      · rcases List.mem_append.1 he with he | he
        · exact h2 e he hl
        · rw [List.mem_singleton.1 he] at hl; omega
      · rcases h3 with h3 | h3
        · exact .inl h3
        · exact .inr ⟨List.mem_append_left _ h3.1, h3.2⟩
structure RcI (R : List Rul) (out : List Int) (last : Int) : Prop where
  asc : out.Pairwise (· < ·)
  mem : ∀ d, d ∈ out ↔ dayP R d ∧ d ≤ last
  lo : 0 ≤ last
  hi : last ≤ 100000
  len : (out.length : Int) ≤ last
theorem rcI_start (R : List Rul) : RcI R [] 0 := ⟨List.Pairwise.nil, fun d => by unfold dayP; simp; omega, by omega, by omega, by simp⟩
theorem RcI.next {R : List Rul} {out : List Int} {last : Int} (h : RcI R out last) (hm : mnD last (daR R) ≤ 100000) : RcI R (out ++ [mnD last (daR R)]) (mnD last (daR R)) ∧ last < mnD last (daR R) := by
  have M := mnD_ok last (daR R)
  generalize mnD last (daR R) = m at *
  have hin : m ∈ daR R ∧ last < m := by
    rcases M.one with e | e
    · omega
    · exact e
  have hlo := h.lo
  have hl := h.len
  refine ⟨⟨?_, fun d => ?_, by omega, hm, by simp; omega⟩, hin.2⟩
  · refine List.pairwise_append.2 ⟨h.asc, List.pairwise_singleton _ _, fun a ha b hb => ?_⟩
    rw [List.mem_singleton.1 hb]
    have := ((h.mem a).1 ha).2
    omega
  · rw [List.mem_append, List.mem_singleton, h.mem]
    constructor
    · rintro (⟨h1, h2⟩ | rfl)
      · exact ⟨h1, by omega⟩
      · exact ⟨⟨by omega, hm, mem_daR.1 hin.1⟩, Int.le_refl _⟩
    · rintro ⟨h1, h2⟩
      by_cases e : d ≤ last
      · exact .inl ⟨h1, e⟩
      · have := M.low d (mem_daR.2 h1.2.2) (by omega)
        exact .inr (by omega)
theorem RcI.stop {R : List Rul} {out : List Int} {last : Int} (h : RcI R out last) (hm : 100000 < mnD last (daR R)) : Chs R out := by
  have M := mnD_ok last (daR R)
  refine ⟨h.asc, fun d => ?_⟩
  rw [h.mem]
  constructor
  · exact fun x => x.1
  · intro h1
    refine ⟨h1, ?_⟩
    by_cases e : d ≤ last
    · exact e
    · have := M.low d (mem_daR.2 h1.2.2) (by omega)
      have := h1.2.1
      omega
def cntP (p : Int → Bool) (a : Int) : Nat → Int
  | 0 => 0
  | n + 1 => cntP p a n + if p (a + n) = true then 1 else 0
theorem cntP_add (p : Int → Bool) (a : Int) (n : Nat) : ∀ m, cntP p a (n + m) = cntP p a n + cntP p (a + n) m
  | 0 => by simp [cntP]
  | m + 1 => by
    show cntP p a (n + m) + (if p (a + ((n + m : Nat) : Int)) = true then 1 else 0) = cntP p a n + (cntP p (a + n) m + _)
    rw [cntP_add p a n m, show a + ((n + m : Nat) : Int) = a + (n : Int) + (m : Int) by omega]
    omega
theorem cntP_const (p : Int → Bool) (a : Int) : ∀ n : Nat, (∀ i : Nat, i < n → p (a + i) = p a) → cntP p a n = if p a = true then (n : Int) else 0
  | 0, _ => by simp [cntP]
  | n + 1, h => by
    show cntP p a n + _ = _
    rw [cntP_const p a n fun i hi => h i (by omega), h n (by omega)]
    split <;> omega
theorem cntP_le (p : Int → Bool) (a : Int) : ∀ n : Nat, 0 ≤ cntP p a n ∧ cntP p a n ≤ n
  | 0 => by simp [cntP]
  | n + 1 => by
    have := cntP_le p a n
    show 0 ≤ cntP p a n + _ ∧ cntP p a n + _ ≤ _
    split <;> omega
theorem on_same {R : List Rul} {C : List Int} (hC : Chs R C) {a b : Int} (h0 : 0 ≤ a) (hab : a ≤ b) (hb : b ≤ 100000) (hn : ∀ d ∈ C, ¬ (a < d ∧ d ≤ b)) : R.filter (onB b) = R.filter (onB a) := by
  apply List.filter_congr
  intro r hr
  have h1 : ¬ (a < r.2.2.1 ∧ r.2.2.1 ≤ b) := fun h => hn _ ((hC.mem _).2 ⟨by omega, by omega, r, hr, .inl rfl⟩) h
  have h2 : ¬ (a < r.2.2.2.1 + 1 ∧ r.2.2.2.1 + 1 ≤ b) := fun h => hn _ ((hC.mem _).2 ⟨by omega, by omega, r, hr, .inr rfl⟩) h
  unfold onB
  rw [show decide (r.2.2.1 ≤ b) = decide (r.2.2.1 ≤ a) from decide_eq_decide.2 (by omega), show decide (b ≤ r.2.2.2.1) = decide (a ≤ r.2.2.2.1) from decide_eq_decide.2 (by omega)]
theorem days_told (R : List Rul) (fs : List Int) (x : Int) (hx : wordB x = true) : ∃ p : Int → Bool, ∀ d Y N, Least (R.filter (onB d)) fs Y N → Y x = p d := by
  have h : ∀ d, ∃ b : Bool, ∀ Y N, Least (R.filter (onB d)) fs Y N → Y x = b := fun d => by
    by_cases e : ∃ Y N, Least (R.filter (onB d)) fs Y N
    · obtain ⟨Y, N, L⟩ := e
      exact ⟨Y x, fun Y' N' L' => (L'.same L x hx).1⟩
    · exact ⟨true, fun Y N L => absurd ⟨Y, N, L⟩ e⟩
  exact ⟨fun d => Classical.choose (h d), fun d => Classical.choose_spec (h d)⟩
end Go.Proofs.YtmllengggncmkaaGreat
