/- Saved ones in memory, one after the other: a block of them, and behind it the blocks of each. What is recovered, in plain terms. -/
import Derived.Test.YtigipcckflcilaaGreatDoorLdH
set_option maxRecDepth 10000
set_option maxHeartbeats 4000000
set_option linter.unusedSimpArgs false
set_option linter.unusedVariables false
namespace Go.Proofs.YtigipcckflcilaaGreatDoor
open Go Go.Abs

def widS (x : Sav) : Nat := x.2.1.length + 2
def offS : List Sav → Nat
  | [] => 0
  | x :: L => widS x + offS L
def elsS (b : Nat) : List Sav → List AV
  | [] => []
  | x :: L => savN b x :: elsS (b + widS x) L
def blkS (b : Nat) : List Sav → List Blk
  | [] => []
  | x :: L => (encR b x.2.1 ++ [intB x.2.2]) ++ blkS (b + widS x) L
def encS (b : Nat) (L : List Sav) : List Blk := savB (elsS (b + 1) L) :: blkS (b + 1) L
theorem one_len (b : Nat) (x : Sav) : (encR b x.2.1 ++ [intB x.2.2]).length = widS x := by
  rw [List.length_append, encR_len]; rfl
theorem blkS_len (L : List Sav) : ∀ b, (blkS b L).length = offS L := by
  induction L with
  | nil => intro b; rfl
  | cons x L ih =>
    intro b
    simp only [blkS, offS]
    rw [List.length_append, one_len, ih]
theorem elsS_len (L : List Sav) : ∀ b, (elsS b L).length = L.length := by
  induction L with
  | nil => intro b; rfl
  | cons x L ih => intro b; simp only [elsS, List.length_cons, ih]
theorem encS_len (b : Nat) (L : List Sav) : (encS b L).length = 1 + offS L := by
  unfold encS
  rw [List.length_cons, blkS_len]; omega
theorem elsS_snoc (x : Sav) (L : List Sav) : ∀ b, elsS b (L ++ [x]) = elsS b L ++ [savN (b + offS L) x] := by
  induction L with
  | nil => intro b; rfl
  | cons y L ih =>
    intro b
    simp only [List.cons_append, elsS, offS, ih]
    rw [show b + widS y + offS L = b + (widS y + offS L) by omega]
theorem blkS_snoc (x : Sav) (L : List Sav) : ∀ b, blkS b (L ++ [x]) = blkS b L ++ (encR (b + offS L) x.2.1 ++ [intB x.2.2]) := by
  induction L with
  | nil => intro b; simp [blkS, offS]
  | cons y L ih =>
    intro b
    simp only [List.cons_append, blkS, offS, ih]
    rw [show b + widS y + offS L = b + (widS y + offS L) by omega]
    simp only [List.append_assoc]
theorem savN_kill {c b : Nat} (h : c < b) (x : Sav) : kill c (savN b x) = savN b x := by
  show AV.agg (List.map (killL c) _) = _
  simp only [List.map_cons, List.map_nil]
  rw [show killL c (.sl b 0 x.2.1.length) = .sl b 0 x.2.1.length by simp [killL]; omega, show killL c (.sl (b + 1 + x.2.1.length) 0 x.2.2.length) = .sl (b + 1 + x.2.1.length) 0 x.2.2.length by simp [killL]; omega]
  rfl
theorem elsS_kill (c : Nat) (L : List Sav) : ∀ b, c < b → (elsS b L).map (kill c) = elsS b L := by
  induction L with
  | nil => intro b h; rfl
  | cons x L ih =>
    intro b h
    simp only [elsS, List.map_cons]
    rw [savN_kill h, ih _ (by omega)]
theorem encR_kill1 (c b : Nat) (R : List Rul) (h : c < b) : (encR b R).map (fun q => { q with els := q.els.map (kill c) }) = encR b R := by
  unfold encR
  rw [List.map_cons, ifsBs_kill]
  unfold rulB
  simp only
  rw [elsR_kill c _ R (by omega)]
theorem intB_kill (c : Nat) (xs : List Int) : [intB xs].map (fun q => { q with els := q.els.map (kill c) }) = [intB xs] := by
  have e : (ints xs).map (kill c) = ints xs := by
    unfold ints
    rw [List.map_map]
    exact List.map_congr_left fun _ _ => rfl
  show [Blk.mk _ _ ((ints xs).map (kill c)) _] = _
  rw [e]; rfl
theorem blkS_kill (c : Nat) (L : List Sav) : ∀ b, c < b → (blkS b L).map (fun q => { q with els := q.els.map (kill c) }) = blkS b L := by
  induction L with
  | nil => intro b h; rfl
  | cons x L ih =>
    intro b h
    simp only [blkS]
    rw [List.map_append, List.map_append, encR_kill1 c b _ h, intB_kill, ih _ (by omega)]
theorem savN_below {N b : Nat} (x : Sav) (h : b + widS x ≤ N) : below N (savN b x) = true ∧ belowM N (savN b x) = true := by
  have h1 : b < N := by unfold widS at h; omega
  have h2 : b + 1 + x.2.1.length < N := by unfold widS at h; omega
  constructor <;> simp [savN, below, belowM, belowL, h1, h2]
theorem elsS_below (N : Nat) (L : List Sav) : ∀ b, b + offS L ≤ N → allBelow N (elsS b L) = true := by
  induction L with
  | nil => intro b h; rfl
  | cons x L ih =>
    intro b h
    simp only [offS] at h
    show (below N (savN b x) && allBelow N (elsS (b + widS x) L)) = true
    rw [(savN_below x (by omega)).1, ih _ (by omega)]
    rfl
theorem blkS_flat (N : Nat) (L : List Sav) : ∀ b, b + offS L ≤ N → ∀ q ∈ blkS b L, allBelow N q.els = true := by
  induction L with
  | nil => intro b h q hq; cases hq
  | cons x L ih =>
    intro b h q hq
    simp only [offS] at h
    have hw : widS x = x.2.1.length + 2 := rfl
    rcases List.mem_append.1 hq with hq | hq
    · rcases List.mem_append.1 hq with hq | hq
      · exact encR_flat (by omega) q hq
      · rw [List.mem_singleton.1 hq]; exact ints_below _ _
    · exact ih _ (by omega) q hq
def recOf : Nat → List UInt8 → List Sav × Nat
  | 0, _ => ([], 0)
  | k + 1, s => match beginOf s with
    | none => ([], 0)
    | some (x, n) => (x :: (recOf k (s.drop n)).1, n + (recOf k (s.drop n)).2)
structure AtS (s : List UInt8) (L : List Sav) (a : Nat) : Prop where
  le8 : L.length ≤ 8
  le : a ≤ s.length
  is : recOf 8 s = (L ++ (recOf (8 - L.length) (s.drop a)).1, a + (recOf (8 - L.length) (s.drop a)).2)
  val : ∀ x ∈ L, validB x = true ∧ sizS x ≤ 1048576
theorem atS_0 (s : List UInt8) : AtS s [] 0 := ⟨by simp, Nat.zero_le _, by simp, by simp⟩
theorem begin_size {s : List UInt8} {x : Sav} {n : Nat} (hs : s.length ≤ 1048576) (h : beginOf s = some (x, n)) : validB x = true ∧ sizS x ≤ 1048576 ∧ n ≤ s.length ∧ 1 ≤ n := by
  obtain ⟨h1, h2, h3, h4⟩ := begin_valid h
  refine ⟨h1, ?_, h3, by rw [h4]; unfold size; omega⟩
  unfold beginOf at h
  split at h
  · split at h
    · cases h
    · rename_i R hr
      split at h
      · cases h
        exact sizS_small hs (pA_le s) hr
      · cases h
  · cases h
theorem AtS.next {s : List UInt8} {L : List Sav} {a n : Nat} {x : Sav} (h : AtS s L a) (hs : s.length ≤ 1048576) (hl : L.length < 8) (hb : beginOf (s.drop a) = some (x, n)) : AtS s (L ++ [x]) (a + n) ∧ 1 ≤ n := by
  obtain ⟨v1, v2, v3, v4⟩ := begin_size (by rw [List.length_drop]; omega) hb
  rw [List.length_drop] at v3
  have := h.le
  refine ⟨⟨by rw [List.length_append]; simp; omega, by omega, ?_, fun y hy => ?_⟩, v4⟩
  · rw [h.is, show 8 - L.length = (8 - (L ++ [x]).length) + 1 by rw [List.length_append]; simp; omega]
    simp only [recOf, hb, List.drop_drop, List.append_assoc, List.cons_append, List.nil_append, Nat.add_assoc]
  · rcases List.mem_append.1 hy with hy | hy
    · exact h.val y hy
    · rw [List.mem_singleton.1 hy]; exact ⟨v1, v2⟩
theorem AtS.stop {s : List UInt8} {L : List Sav} {a : Nat} (h : AtS s L a) (hb : beginOf (s.drop a) = none) : recOf 8 s = (L, a) := by
  rw [h.is]
  cases 8 - L.length with
  | zero => simp [recOf]
  | succ k => simp [recOf, hb]
theorem AtS.full {s : List UInt8} {L : List Sav} {a : Nat} (h : AtS s L a) (hb : ¬ L.length < 8) : recOf 8 s = (L, a) := by
  rw [h.is, show 8 - L.length = 0 by omega]
  simp [recOf]
end Go.Proofs.YtigipcckflcilaaGreatDoor
