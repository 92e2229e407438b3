/- Plain facts for the law: facts and rules that are drawn, pairs that clash, places of a proof. -/
import Derived.Test.YthcfklkpabfkbaaGreatQrZe
set_option maxRecDepth 10000
set_option linter.unusedSimpArgs false
set_option linter.unusedVariables false
namespace Go.Proofs.YthcfklkpabfkbaaGreat
open Go Go.Abs

theorem wordsB_at {xs : List Int} (h : wordsB xs = true) (j : Nat) (hj : j < xs.length) : wordB xs[j] = true ∧ (0 < j → ∀ h2 : j - 1 < xs.length, atomF xs[j - 1] < atomF xs[j]) := by
  unfold wordsB pref at h
  have := List.all_eq_true.1 h j (List.mem_range.2 hj)
  unfold wordP at this
  rw [Bool.and_eq_true, Bool.or_eq_true] at this
  have e : xs.getD j 0 = xs[j] := by simp [List.getD_eq_getElem?_getD, hj]
  rw [e] at this
  refine ⟨this.1, fun h0 h2 => ?_⟩
  have e2 : xs.getD (j - 1) 0 = xs[j - 1] := by simp [List.getD_eq_getElem?_getD, h2]
  rw [e2] at this
  rcases this.2 with h3 | h3
  · have := eq_of_beq h3; omega
  · exact of_decide_eq_true h3
theorem wordsB_lt {xs : List Int} (h : wordsB xs = true) (i : Nat) : ∀ j, (_ : i < j) → (hj : j < xs.length) → atomF (xs[i]'(by omega)) < atomF xs[j]
  | 0, h1, _ => by omega
  | j + 1, h1, hj => by
    have h2 := (wordsB_at h (j + 1) hj).2 (by omega) (by omega)
    simp only [Nat.add_sub_cancel] at h2
    by_cases e : i = j
    · subst e; exact h2
    · exact Int.lt_trans (wordsB_lt h i j (by omega) (by omega)) h2
theorem wordsB_all {xs : List Int} (h : wordsB xs = true) : ∀ w ∈ xs, wordB w = true := fun w hw => by
  obtain ⟨i, hi, rfl⟩ := List.mem_iff_getElem.1 hw
  exact (wordsB_at h i hi).1
theorem fcs_of {fs : List Int} (W : WfOk fs 7) : Fcs fs := by
  refine ⟨by have := W.len; omega, wordsB_all W.ok, fun w hw hn => ?_⟩
  obtain ⟨i, hi, rfl⟩ := List.mem_iff_getElem.1 hw
  obtain ⟨j, hj, e⟩ := List.mem_iff_getElem.1 hn
  have h0 := (wordsB_at W.ok i hi).1
  have hz : fs[i] ≠ 0 := by unfold wordB at h0; simp at h0; exact h0.1
  have ea : atomF fs[j] = atomF fs[i] := by rw [e]; unfold atomF; split <;> split <;> omega
  rcases Nat.lt_trichotomy i j with h | h | h
  · have := wordsB_lt W.ok i j h hj; omega
  · subst h; omega
  · have := wordsB_lt W.ok j i h hi; omega
theorem rls_of {L : List Rul} (h : ∀ q ∈ L, ruleB q = true) (h8 : L.length ≤ 8) : Rls L := by
  refine ⟨by omega, fun r hr => ?_⟩
  have := h r hr
  unfold ruleB at this
  simp only [Bool.and_eq_true, decide_eq_true_eq] at this
  obtain ⟨⟨⟨⟨⟨h1, h2, h3⟩, _⟩, _⟩, _⟩, h5⟩ := this
  unfold inR at h5
  simp only [Bool.and_eq_true, decide_eq_true_eq] at h5
  exact ⟨h1, ⟨h2, wordsB_all h3⟩, h5.1, h5.2⟩
theorem ask_of {L : List Rul} (h : ∀ q ∈ L, ruleB q = true) (h8 : L.length ≤ 8) {fs : List Int} (W : WfOk fs 7) {day : Int} (h0 : 0 ≤ day) (h1 : day < 14) : Ask L fs day := by
  refine ⟨rls_of h h8, ?_, fcs_of W, W.ok, ?_⟩
  · unfold rulesB
    rw [decide_eq_true (by omega), Bool.and_true, List.all_eq_true]
    exact h
  · unfold inR
    rw [decide_eq_true h0, decide_eq_true (by omega)]; rfl
theorem no16 {fs : List Int} (W : WfOk fs 7) : decide ((16 : Int) ∈ fs) = false := by
  rw [decide_eq_false_iff_not]
  intro h
  have := (W.low _ h).2
  revert this
  decide
theorem side_word : ∀ j, j < 6 → ∀ k, k < 2 → wordB (IntKind.i64.wrap ((-1 + 2 * ((k : Nat) : Int)) * (1 + ((j : Nat) : Int)))) = true := by decide
def PairsOk (P : Int → Int → Prop) : List Int → Prop
  | [] => True
  | [_] => False
  | a :: b :: l => P a b ∧ PairsOk P l
theorem PairsOk.append {P : Int → Int → Prop} : ∀ {a b : List Int}, PairsOk P a → PairsOk P b → PairsOk P (a ++ b)
  | [], _, _, h => h
  | [_], _, h, _ => h.elim
  | _ :: _ :: l, _, h, h2 => ⟨h.1, PairsOk.append (a := l) h.2 h2⟩
theorem PairsOk.flat {P : Int → Int → Prop} {f : Int → List Int} : ∀ {l : List Int}, (∀ k ∈ l, PairsOk P (f k)) → PairsOk P (l.flatMap f)
  | [], _ => trivial
  | k :: l, h => by
    rw [List.flatMap_cons]
    exact PairsOk.append (h k (by simp)) (PairsOk.flat fun q hq => h q (by simp [hq]))
theorem PairsOk.prs {P : Int → Int → Prop} {f : Int → Int → List Int} : ∀ {l : List Int}, l.Pairwise (· < ·) → (∀ i ∈ l, ∀ k ∈ l, i < k → PairsOk P (f i k)) → PairsOk P (prs f l)
  | [], _, _ => trivial
  | i :: l, hp, h => by
    rw [prs_cons]
    have h1 := List.pairwise_cons.1 hp
    refine PairsOk.append (PairsOk.flat fun k hk => h i (by simp) k (by simp [hk]) (h1.1 k hk)) (PairsOk.prs h1.2 fun a ha b hb => h a (by simp [ha]) b (by simp [hb]))
theorem PairsOk.even {P : Int → Int → Prop} : ∀ {l : List Int}, PairsOk P l → l.length % 2 = 0
  | [], _ => rfl
  | [_], h => h.elim
  | _ :: _ :: l, h => by have := PairsOk.even (l := l) h.2; simp only [List.length_cons]; omega
theorem PairsOk.at_ {P : Int → Int → Prop} : ∀ {l : List Int}, PairsOk P l → ∀ j, (h : 2 * j + 1 < l.length) → P (l[2 * j]'(by omega)) l[2 * j + 1]
  | [], _, j, h => absurd h (by simp)
  | [_], h, _, _ => h.elim
  | _ :: _ :: l, h, 0, _ => h.1
  | _ :: _ :: l, h, j + 1, hj => by
    have := PairsOk.at_ (l := l) h.2 j (by simp only [List.length_cons] at hj; omega)
    simpa [Nat.mul_add] using this
def ClP (R : List Rul) (i k : Int) : Prop := 0 ≤ i ∧ i < k ∧ k < (R.length : Int) ∧ (rkR R i.toNat).1 = -(rkR R k.toNat).1 ∧ (rkR R i.toNat).2.2.2.2 = (rkR R k.toNat).2.2.2.2
theorem idxD_mem {R : List Rul} {day : Int} : ∀ i ∈ idxD R day R.length, 0 ≤ i ∧ i < (R.length : Int) := fun i hi => by
  obtain ⟨n, hn, rfl⟩ := List.mem_map.1 hi
  have := List.mem_range.1 (List.mem_filter.1 hn).1
  omega
theorem idxD_asc (R : List Rul) (day : Int) : (idxD R day R.length).Pairwise (· < ·) := by
  unfold idxD
  rw [List.pairwise_map]
  refine (List.Pairwise.filter _ List.pairwise_lt_range).imp ?_
  intro a b h
  omega
theorem clashes_ok (R : List Rul) (day : Int) : PairsOk (ClP R) (prs (clP R) (idxD R day R.length)) := by
  refine PairsOk.prs (idxD_asc R day) fun i hi k hk hlt => ?_
  unfold clP
  split
  · rename_i h
    refine ⟨⟨(idxD_mem i hi).1, hlt, (idxD_mem k hk).2, ?_⟩, trivial⟩
    unfold clB at h
    simp only [Bool.and_eq_true] at h
    exact ⟨eq_of_beq h.1.1, eq_of_beq h.1.2⟩
  · trivial
theorem prs_le2 {f : Int → Int → List Int} (hf : ∀ a b, (f a b).length ≤ 2) : ∀ l : List Int, (prs f l).length ≤ 2 * (l.length * l.length)
  | [] => by simp [prs_nil]
  | x :: l => by
    rw [prs_cons, List.length_append]
    have h1 := prs_le2 hf l
    have h2 : (l.flatMap (f x)).length ≤ 2 * l.length := by
      clear h1
      induction l with
      | nil => simp
      | cons a l ih =>
        rw [List.flatMap_cons, List.length_append, List.length_cons]
        have := hf x a
        omega
    rw [List.length_cons]
    have : (l.length + 1) * (l.length + 1) = l.length * l.length + 2 * l.length + 1 := by grind
    omega
theorem clashes_len {R : List Rul} (h : R.length ≤ 8) (day : Int) : (prs (clP R) (idxD R day R.length)).length ≤ 128 := by
  have h1 := prs_le2 (f := clP R) (fun a b => by unfold clP; split <;> simp) (idxD R day R.length)
  have h2 := idxD_len R day R.length (Nat.le_refl _)
  have h3 : ((R.take R.length).filter (onB day)).length ≤ R.length := Nat.le_trans (List.length_filter_le _ _) (by simp)
  rw [h2] at h1
  have h4 : ((R.take R.length).filter (onB day)).length ≤ 8 := by omega
  generalize ((R.take R.length).filter (onB day)).length = n at *
  have : n * n ≤ 8 * 8 := Nat.mul_le_mul h4 h4
  omega
theorem proof_rng {R : List Rul} {day : Int} {fs : List Int} {Y : Int → Bool} {x : Int} {m : Nat} : (∀ i ∈ nI (bk (rkR R) (fB fs) (tkN (actL R day) (rkR R) Y (fB fs) m).1.reverse (wan0 (fB fs) x) []), inR 0 ((R.length : Int) - 1) i = true) ∧ (bk (rkR R) (fB fs) (tkN (actL R day) (rkR R) Y (fB fs) m).1.reverse (wan0 (fB fs) x) []).length ≤ R.length := by
  have tn := tkN_nodup (ru := rkR R) (Y := Y) (F := fB fs) (actL_nodup R day) m
  have tl := tkN_len (ru := rkR R) (Y := Y) (F := fB fs) (actL_nodup R day) m
  have al := actL_len R day
  generalize (tkN (actL R day) (rkR R) Y (fB fs) m).1 = T at *
  obtain ⟨sub, s1, s2⟩ := bk_sub (ru := rkR R) (F := fB fs) T.reverse (wan0 (fB fs) x) []
  rw [List.append_nil] at s1
  rw [List.reverse_reverse] at s2
  rw [s1]
  refine ⟨fun i hi => ?_, Nat.le_trans s2.length_le (by omega)⟩
  obtain ⟨n, hn, rfl⟩ := List.mem_map.1 hi
  have hlt : n < R.length := List.mem_range.1 (List.mem_filter.1 (tn.2 n (s2.subset hn))).1
  unfold inR
  rw [decide_eq_true (by omega), decide_eq_true (by omega)]; rfl
end Go.Proofs.YthcfklkpabfkbaaGreat
