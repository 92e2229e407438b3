/- Months that spans have, their count, the gaps between them: plain. -/
import Derived.Test.YtadbddlekinkpaaAbsM3
set_option maxRecDepth 10000
set_option maxHeartbeats 2000000
set_option linter.unusedSimpArgs false
set_option linter.unusedVariables false
namespace Go.Proofs.Ytadbddlekinkpaa
open Go Go.Abs

def inS (P : List (Int × Int)) (m : Nat) : Bool := P.any fun p => decide (p.1 ≤ (m : Int)) && decide ((m : Int) < p.2)
def mon (P : List (Int × Int)) (n : Nat) : List Bool := (List.range n).map (inS P)
theorem mon_len (P : List (Int × Int)) (n : Nat) : (mon P n).length = n := by simp [mon]
theorem mon_get (P : List (Int × Int)) (n m : Nat) (h : m < (mon P n).length) : (mon P n)[m] = inS P m := by simp [mon]
theorem inS_snoc (P : List (Int × Int)) (p : Int × Int) (m : Nat) : inS (P ++ [p]) m = (inS P m || (decide (p.1 ≤ (m : Int)) && decide ((m : Int) < p.2))) := by simp [inS, List.any_append]
theorem mon_none (P : List (Int × Int)) (n : Nat) (f : Int) : mon (P ++ [(f, f)]) n = mon P n := by
  unfold mon
  refine List.map_congr_left fun m _ => ?_
  rw [inS_snoc]
  have : (decide (f ≤ (m : Int)) && decide ((m : Int) < f)) = false := by
    rw [Bool.and_eq_false_iff, decide_eq_false_iff_not, decide_eq_false_iff_not]; omega
  rw [this, Bool.or_false]
theorem mon_set (P : List (Int × Int)) (n : Nat) (f : Int) (m : Nat) (h : f ≤ (m : Int)) : (mon (P ++ [(f, (m : Int))]) n).set m true = mon (P ++ [(f, (m : Int) + 1)]) n := by
  refine List.ext_getElem (by simp [mon_len]) fun j h1 h2 => ?_
  rw [List.getElem_set, mon_get, mon_get, inS_snoc, inS_snoc]
  dsimp only
  by_cases e : m = j
  · subst e
    rw [if_pos rfl, decide_eq_true h, decide_eq_true (by omega)]
    simp
  · rw [if_neg e]
    have : decide ((j : Int) < (m : Int)) = decide ((j : Int) < (m : Int) + 1) := decide_eq_decide.2 (by omega)
    rw [this]
def cntB (B : List Bool) (k : Nat) : Nat := (B.take k).count true
theorem cntB_zero (B : List Bool) : cntB B 0 = 0 := by simp [cntB]
theorem cntB_succ (B : List Bool) (k : Nat) (h : k < B.length) : cntB B (k + 1) = cntB B k + if B[k] = true then 1 else 0 := by
  unfold cntB
  rw [List.take_succ_eq_append_getElem h, List.count_append, List.count_singleton]
  cases B[k] <;> simp
theorem cntB_mono (B : List Bool) {i j : Nat} (h : i ≤ j) : cntB B i ≤ cntB B j := by
  unfold cntB
  have : B.take i = (B.take j).take i := by rw [List.take_take, Nat.min_eq_left h]
  rw [this]
  exact List.Sublist.count_le _ (List.take_sublist _ _)
theorem cntB_same (B : List Bool) : ∀ {i : Nat} (d : Nat), i + d ≤ B.length → (∀ m, i ≤ m → (h : m < i + d) → ∀ h2, B[m]'h2 = false) → cntB B (i + d) = cntB B i
  | i, 0, _, _ => rfl
  | i, d + 1, hl, h => by
    rw [← Nat.add_assoc, cntB_succ B (i + d) (by omega), cntB_same B d (by omega) (fun m h1 h2 h3 => h m h1 (by omega) h3), h (i + d) (by omega) (by omega) (by omega)]
    simp
theorem cntB_run (B : List Bool) : ∀ {i : Nat} (d : Nat), i + d ≤ B.length → (∀ m, i ≤ m → (h : m < i + d) → ∀ h2, B[m]'h2 = true) → cntB B (i + d) = cntB B i + d
  | i, 0, _, _ => rfl
  | i, d + 1, hl, h => by
    rw [← Nat.add_assoc, cntB_succ B (i + d) (by omega), cntB_run B d (by omega) (fun m h1 h2 h3 => h m h1 (by omega) h3), h (i + d) (by omega) (by omega) (by omega)]
    simp; omega
def idxB : List Bool → Option Nat
  | [] => none
  | true :: _ => some 0
  | false :: B => (idxB B).map (· + 1)
theorem idxB_some : ∀ {B : List Bool} {k : Nat}, idxB B = some k → ∃ h : k < B.length, B[k] = true ∧ ∀ m, m < k → ∀ h2, B[m]'h2 = false
  | [], _, h => by cases h
  | true :: B, k, h => by cases h; exact ⟨by simp, rfl, fun m hm => absurd hm (by omega)⟩
  | false :: B, k, h => by
    simp only [idxB, Option.map_eq_some_iff] at h
    obtain ⟨j, hj, rfl⟩ := h
    obtain ⟨h1, h2, h3⟩ := idxB_some hj
    refine ⟨by simp; exact h1, by simpa using h2, fun m hm hl => ?_⟩
    cases m with
    | zero => rfl
    | succ m => simpa using h3 m (by omega) (by simpa using hl)
theorem idxB_none : ∀ {B : List Bool}, idxB B = none → ∀ (m : Nat) (h : m < B.length), B[m] = false
  | [], _, m, h => absurd h (by simp)
  | true :: B, h, _, _ => by cases h
  | false :: B, h, m, hm => by
    simp only [idxB, Option.map_eq_none_iff] at h
    cases m with
    | zero => rfl
    | succ m => simpa using idxB_none h m (by simpa using hm)
def gapsOk : Int → List (Int × Int) → Prop
  | _, [] => True
  | a, p :: G => a < p.1 ∧ p.1 < p.2 ∧ gapsOk p.2 G
def freeG : List (Int × Int) → Int
  | [] => 0
  | p :: G => (p.2 - p.1) + freeG G
def lastG (a : Int) : List (Int × Int) → Int
  | [] => a
  | p :: G => lastG p.2 G
def flatP : List (Int × Int) → List Int
  | [] => []
  | p :: G => p.1 :: p.2 :: flatP G
theorem flatP_snoc (p : Int × Int) : ∀ G, flatP (G ++ [p]) = flatP G ++ [p.1, p.2]
  | [] => rfl
  | q :: G => by simp only [List.cons_append, flatP, flatP_snoc p G]
theorem flatP_len : ∀ G, (flatP G).length = 2 * G.length
  | [] => rfl
  | q :: G => by simp only [flatP, List.length_cons, flatP_len G]; omega
theorem flatP_get : ∀ (G : List (Int × Int)) (i : Nat) (h : i < G.length), (flatP G)[2 * i]? = some G[i].1 ∧ (flatP G)[2 * i + 1]? = some G[i].2
  | q :: G, 0, _ => ⟨rfl, rfl⟩
  | q :: G, i + 1, h => by
    have := flatP_get G i (by simpa using h)
    rw [show 2 * (i + 1) = 2 * i + 1 + 1 by omega]
    simp only [flatP, List.getElem?_cons_succ, List.getElem_cons_succ]
    exact this
theorem freeG_snoc (p : Int × Int) : ∀ G, freeG (G ++ [p]) = freeG G + (p.2 - p.1)
  | [] => by simp [freeG]
  | q :: G => by simp only [List.cons_append, freeG, freeG_snoc p G]; omega
theorem lastG_snoc (p : Int × Int) : ∀ (G : List (Int × Int)) a, lastG a (G ++ [p]) = p.2
  | [], _ => rfl
  | q :: G, a => by simp only [List.cons_append, lastG, lastG_snoc p G]
theorem gapsOk_snoc {p : Int × Int} : ∀ {G : List (Int × Int)} {a : Int}, gapsOk a G → lastG a G < p.1 → p.1 < p.2 → gapsOk a (G ++ [p])
  | [], a, _, h1, h2 => ⟨h1, h2, trivial⟩
  | q :: G, a, h, h1, h2 => ⟨h.1, h.2.1, gapsOk_snoc (G := G) h.2.2 h1 h2⟩
structure GapB (B : List Bool) (G : List (Int × Int)) (a : Nat) (m : Nat) : Prop where
  ok : gapsOk a G
  last : lastG a G = (m : Int)
  bal : (cntB B m : Int) + freeG G = (m : Int) - a
end Go.Proofs.Ytadbddlekinkpaa
