/- The order in which rules are taken: plain. -/
import Derived.Test.YthcfklkpabfkbaaGreatQrK
set_option maxRecDepth 10000
set_option maxHeartbeats 8000000
set_option linter.unusedSimpArgs false
set_option linter.unusedVariables false
namespace Go.Proofs.YthcfklkpabfkbaaGreat
open Go Go.Abs

def nI (l : List Nat) : List Int := l.map fun n : Nat => (n : Int)
theorem nI_append (a b : List Nat) : nI (a ++ b) = nI a ++ nI b := by simp [nI]
theorem nI_len (a : List Nat) : (nI a).length = a.length := by simp [nI]
theorem nI_mem (a : List Nat) (n : Nat) : (n : Int) ∈ nI a ↔ n ∈ a := by
  unfold nI
  rw [List.mem_map]
  constructor
  · rintro ⟨m, hm, e⟩
    have : m = n := by omega
    exact this ▸ hm
  · intro h; exact ⟨n, h, rfl⟩
def tkP (ru : Nat → Rul) (Y F : Int → Bool) (out : List Nat) (kn : Int → Bool) (i : Nat) : Bool :=
  !decide (i ∈ out) && (Y (ru i).1 && (!F (ru i).1 && (ru i).2.1.all fun w => F w || kn w))
def tkS (L : List Nat) (ru : Nat → Rul) (Y F : Int → Bool) (out : List Nat) (kn : Int → Bool) : List Nat := L.filter (tkP ru Y F out kn)
def knU (ru : Nat → Rul) (kn : Int → Bool) (new : List Nat) : Int → Bool := fun w => kn w || new.any fun i => (ru i).1 == w
def tkN (L : List Nat) (ru : Nat → Rul) (Y F : Int → Bool) : Nat → List Nat × (Int → Bool)
  | 0 => ([], fun _ => false)
  | n + 1 => ((tkN L ru Y F n).1 ++ tkS L ru Y F (tkN L ru Y F n).1 (tkN L ru Y F n).2, knU ru (tkN L ru Y F n).2 (tkS L ru Y F (tkN L ru Y F n).1 (tkN L ru Y F n).2))
section
variable {L : List Nat} {ru : Nat → Rul} {Y F : Int → Bool}
theorem tkN_stop {n : Nat} (h : tkS L ru Y F (tkN L ru Y F n).1 (tkN L ru Y F n).2 = []) : tkN L ru Y F (n + 1) = tkN L ru Y F n := by
  show ((tkN L ru Y F n).1 ++ _, knU ru (tkN L ru Y F n).2 _) = _
  rw [h, List.append_nil]
  have : knU ru (tkN L ru Y F n).2 [] = (tkN L ru Y F n).2 := by funext w; simp [knU]
  rw [this]
theorem tkN_stays {n : Nat} (h : tkS L ru Y F (tkN L ru Y F n).1 (tkN L ru Y F n).2 = []) : ∀ k, tkN L ru Y F (n + k) = tkN L ru Y F n
  | 0 => rfl
  | k + 1 => by
    have ih := tkN_stays h k
    have h2 : tkS L ru Y F (tkN L ru Y F (n + k)).1 (tkN L ru Y F (n + k)).2 = [] := by rw [ih]; exact h
    rw [← Nat.add_assoc, tkN_stop h2, ih]
theorem tkN_same {n m : Nat} (h : tkS L ru Y F (tkN L ru Y F n).1 (tkN L ru Y F n).2 = []) (g : tkS L ru Y F (tkN L ru Y F m).1 (tkN L ru Y F m).2 = []) : tkN L ru Y F n = tkN L ru Y F m := by
  rcases Nat.le_total n m with hle | hle
  · obtain ⟨k, rfl⟩ := Nat.exists_eq_add_of_le hle
    exact (tkN_stays h k).symm
  · obtain ⟨k, rfl⟩ := Nat.exists_eq_add_of_le hle
    exact tkN_stays g k
theorem tkN_nodup (hL : L.Nodup) : ∀ n, (tkN L ru Y F n).1.Nodup ∧ ∀ i ∈ (tkN L ru Y F n).1, i ∈ L
  | 0 => ⟨List.nodup_nil, fun i h => by cases h⟩
  | n + 1 => by
    obtain ⟨h1, h2⟩ := tkN_nodup hL n
    refine ⟨List.nodup_append.2 ⟨h1, hL.filter _, fun a ha b hb e => ?_⟩, fun i hi => ?_⟩
    · subst e
      have := (List.mem_filter.1 hb).2
      unfold tkP at this
      simp [ha] at this
    · rcases List.mem_append.1 hi with h | h
      · exact h2 i h
      · exact (List.mem_filter.1 h).1
theorem nodup_sub_len {a b : List Nat} (ha : a.Nodup) (h : ∀ i ∈ a, i ∈ b) : a.length ≤ b.length := by
  induction a generalizing b with
  | nil => simp
  | cons x a ih =>
    have hx := h x (by simp)
    have h2 : ∀ i ∈ a, i ∈ b.erase x := fun i hi => by
      have hne : i ≠ x := fun e => by subst e; exact (List.nodup_cons.1 ha).1 hi
      exact (List.mem_erase_of_ne hne).2 (h i (by simp [hi]))
    have := ih (List.nodup_cons.1 ha).2 h2
    rw [List.length_erase_of_mem hx] at this
    have := List.length_pos_of_mem hx
    simp only [List.length_cons]
    omega
theorem tkN_len (hL : L.Nodup) (n : Nat) : (tkN L ru Y F n).1.length ≤ L.length := nodup_sub_len (tkN_nodup hL n).1 (tkN_nodup hL n).2
end
theorem tkN_map {L : List Nat} {ru ru' : Nat → Rul} {Y F : Int → Bool} (d : Nat → Nat) (hinj : ∀ i ∈ L, ∀ j ∈ L, d i = d j → i = j) (hru : ∀ i ∈ L, ru' (d i) = ru i) :
    ∀ n, (tkN (L.map d) ru' Y F n).1 = (tkN L ru Y F n).1.map d ∧ (tkN (L.map d) ru' Y F n).2 = (tkN L ru Y F n).2 ∧ ∀ i ∈ (tkN L ru Y F n).1, i ∈ L
  | 0 => ⟨rfl, rfl, fun i h => by cases h⟩
  | n + 1 => by
    obtain ⟨h1, h2, h3⟩ := tkN_map d hinj hru n
    have hs : tkS (L.map d) ru' Y F (tkN (L.map d) ru' Y F n).1 (tkN (L.map d) ru' Y F n).2 = (tkS L ru Y F (tkN L ru Y F n).1 (tkN L ru Y F n).2).map d := by
      rw [h1, h2]
      unfold tkS
      rw [List.filter_map]
      congr 1
      apply List.filter_congr
      intro i hi
      show tkP ru' Y F _ _ (d i) = _
      unfold tkP
      rw [hru i hi]
      congr 2
      rw [decide_eq_decide]
      constructor
      · intro h
        obtain ⟨j, hj, e⟩ := List.mem_map.1 h
        exact (hinj j (h3 j hj) i hi e) ▸ hj
      · intro h; exact List.mem_map.2 ⟨i, h, rfl⟩
    refine ⟨?_, ?_, fun i hi => ?_⟩
    · show _ ++ _ = _
      rw [hs, h1, ← List.map_append]; rfl
    · show knU ru' _ _ = _
      rw [hs, h2]
      funext w
      show _ = knU ru (tkN L ru Y F n).2 _ w
      unfold knU
      rw [List.any_map]
      congr 1
      have hsub : ∀ i ∈ tkS L ru Y F (tkN L ru Y F n).1 (tkN L ru Y F n).2, i ∈ L := fun i hi => (List.mem_filter.1 hi).1
      generalize tkS L ru Y F (tkN L ru Y F n).1 (tkN L ru Y F n).2 = N at hsub
      induction N with
      | nil => rfl
      | cons x N ih =>
        simp only [List.any_cons, Function.comp]
        rw [hru x (hsub x (by simp)), ih (fun i hi => hsub i (by simp [hi]))]
    · rcases List.mem_append.1 hi with h | h
      · exact h3 i h
      · exact (List.mem_filter.1 h).1
end Go.Proofs.YthcfklkpabfkbaaGreat
