/- What the months of spans come to: the plain law. -/
import Derived.Test.YtadbddlekinkpaaCaH
set_option maxRecDepth 10000
set_option maxHeartbeats 8000000
set_option linter.unusedSimpArgs false
set_option linter.unusedVariables false
namespace Go.Proofs.Ytadbddlekinkpaa
open Go Go.Abs

structure LoHi (P : List (Int × Int)) (lo hi : Int) : Prop where
  ge : ∀ p ∈ P, lo ≤ p.1 ∧ p.2 ≤ hi
  lo_ : (P = [] ∧ lo = 1500) ∨ ∃ p ∈ P, p.1 = lo
  hi_ : (P = [] ∧ hi = 0) ∨ ∃ p ∈ P, p.2 = hi
theorem loHi_nil : LoHi [] 1500 0 := ⟨by simp, .inl ⟨rfl, rfl⟩, .inl ⟨rfl, rfl⟩⟩
theorem LoHi.next {P : List (Int × Int)} {lo hi : Int} (H : LoHi P lo hi) {p : Int × Int} (h1 : p.1 < 1500) (h2 : 0 < p.2) : LoHi (P ++ [p]) (mn lo p.1) (mx hi p.2) := by
  obtain ⟨g, l, k⟩ := H
  refine ⟨fun q hq => ?_, .inr ?_, .inr ?_⟩
  · rcases List.mem_append.1 hq with h | h
    · have := g q h
      unfold mn mx
      constructor <;> split <;> omega
    · rw [List.mem_singleton.1 h]
      unfold mn mx
      constructor <;> split <;> omega
  · unfold mn
    split
    · exact ⟨p, by simp, rfl⟩
    · rename_i hc
      rcases l with ⟨rfl, rfl⟩ | ⟨q, hq, e⟩
      · exact absurd h1 hc
      · exact ⟨q, by simp [hq], e⟩
  · unfold mx
    split
    · exact ⟨p, by simp, rfl⟩
    · rename_i hc
      rcases k with ⟨rfl, rfl⟩ | ⟨q, hq, e⟩
      · exact absurd h2 (by omega)
      · exact ⟨q, by simp [hq], e⟩
structure MonIs (B : List Bool) (a z : Nat) : Prop where
  az : a < z
  z1 : z ≤ 1500
  low : ∀ m, m < a → ∀ h, B[m]'h = false
  fst : ∀ h, B[a]'h = true
  lst : ∀ h, B[z - 1]'h = true
  top : ∀ m, z ≤ m → ∀ h, B[m]'h = false
theorem mon_is {P : List (Int × Int)} (S : Spans P) {lo hi : Int} (H : LoHi P lo hi) : ∃ a z : Nat, lo = (a : Int) ∧ hi = (z : Int) ∧ MonIs (mon P 1500) a z := by
  have ne : P ≠ [] := fun e => by have := S.one; rw [e] at this; simp at this
  obtain ⟨p, hp, e1⟩ : ∃ p ∈ P, p.1 = lo := by
    rcases H.lo_ with ⟨e, _⟩ | h
    · exact absurd e ne
    · exact h
  obtain ⟨q, hq, e2⟩ : ∃ p ∈ P, p.2 = hi := by
    rcases H.hi_ with ⟨e, _⟩ | h
    · exact absurd e ne
    · exact h
  obtain ⟨p1, p2, p3⟩ := S.ok p hp
  obtain ⟨q1, q2, q3⟩ := S.ok q hq
  have hp2 := (H.ge p hp).2
  have hq1 := (H.ge q hq).1
  have yes : ∀ (m : Nat) (r : Int × Int), r ∈ P → r.1 ≤ (m : Int) → (m : Int) < r.2 → inS P m = true := fun m r hr h1 h2 => by
    unfold inS
    rw [List.any_eq_true]
    exact ⟨r, hr, by rw [decide_eq_true h1, decide_eq_true h2]; rfl⟩
  have no : ∀ m : Nat, ((m : Int) < lo ∨ hi ≤ (m : Int)) → inS P m = false := fun m h => by
    unfold inS
    rw [List.any_eq_false]
    intro r hr
    have := H.ge r hr
    rw [Bool.and_eq_true, decide_eq_true_eq, decide_eq_true_eq]
    omega
  refine ⟨lo.toNat, hi.toNat, by omega, by omega, by omega, by omega, fun m hm h => ?_, fun h => ?_, fun h => ?_, fun m hm h => ?_⟩
  · rw [mon_get]; exact no m (.inl (by omega))
  · rw [mon_get]; exact yes _ p hp (by omega) (by omega)
  · rw [mon_get]; exact yes _ q hq (by omega) (by omega)
  · rw [mon_get]; exact no m (.inr (by omega))
theorem MonIs.wait {B : List Bool} {a z : Nat} (M : MonIs B a z) (hl : B.length = 1500) : 1 ≤ cntB B 1500 ∧ cntB B 1500 ≤ z - a ∧ WaitIs B (cntB B 1500) (some (z - 1)) ∧ WaitIs B (cntB B 1500 + 1) none := by
  have az := M.az
  have z1 := M.z1
  have t1 := cntB_same B (i := z) (1500 - z) (by omega) (fun m h1 h2 h => M.top m h1 h)
  rw [show z + (1500 - z) = 1500 by omega] at t1
  have t2 := cntB_succ B (z - 1) (by omega)
  rw [M.lst (by omega), if_pos rfl, show z - 1 + 1 = z by omega] at t2
  have t3 := cntB_same B (i := 0) a (by omega) (fun m h1 h2 h => M.low m (by omega) h)
  rw [Nat.zero_add, cntB_zero] at t3
  have up : ∀ d, a + d ≤ 1500 → cntB B (a + d) ≤ cntB B a + d := by
    intro d
    induction d with
    | zero => intro _; exact Nat.le_refl _
    | succ d ih =>
      intro hd
      have := cntB_succ B (a + d) (by omega)
      rw [← Nat.add_assoc, this]
      have := ih (by omega)
      split <;> omega
  have u := up (z - a) (by omega)
  rw [show a + (z - a) = z by omega] at u
  refine ⟨by omega, by omega, ⟨by omega, by rw [show z - 1 + 1 = z by omega]; omega, fun m hm => ?_⟩, fun m hm => ?_⟩
  · have := cntB_mono B (show m + 1 ≤ z - 1 by omega)
    omega
  · have := cntB_mono B (show m + 1 ≤ 1500 by omega)
    omega
theorem MonIs.gap {B : List Bool} {a z z' : Nat} {G : List (Int × Int)} (M : MonIs B a z) (hl : B.length = 1500) (Q : GapQ B a G z') : (cntB B 1500 : Int) + freeG G = (z : Int) - a := by
  have az := M.az
  have z1 := M.z1
  obtain ⟨q1, q2, q3⟩ := Q.last
  have e : z' = z := by
    rcases Nat.lt_trichotomy z' z with h | h | h
    · have := Q.rest (z - 1) (by omega) (by omega)
      rw [M.lst (by omega)] at this; cases this
    · exact h
    · have := M.top (z' - 1) (by omega) (by omega)
      rw [q3 (by omega)] at this; cases this
  rw [← e]
  exact Q.bal
end Go.Proofs.Ytadbddlekinkpaa
