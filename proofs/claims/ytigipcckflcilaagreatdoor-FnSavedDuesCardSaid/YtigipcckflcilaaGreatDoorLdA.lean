/- What is saved, as bytes that are read: the plain law. -/
import Derived.Test.YtigipcckflcilaaGreatDoorRsD
import Derived.Test.YtigipcckflcilaaGreatDoorStJ
set_option maxRecDepth 10000
set_option maxHeartbeats 2000000
set_option linter.unusedSimpArgs false
set_option linter.unusedVariables false
namespace Go.Proofs.YtigipcckflcilaaGreatDoor
open Go Go.Abs

def num : List UInt8 → Nat
  | [] => 0
  | c :: l => c.toNat + 256 * num l
theorem num_lt : ∀ l : List UInt8, num l < 256 ^ l.length
  | [] => by simp [num]
  | c :: l => by
    have h1 := num_lt l
    have h2 := c.toNat_lt
    unfold num
    rw [List.length_cons, Nat.pow_succ]
    omega
theorem num_snoc (c : UInt8) : ∀ l : List UInt8, num (l ++ [c]) = num l + 256 ^ l.length * c.toNat
  | [] => by simp [num]
  | d :: l => by
    rw [List.cons_append]
    unfold num
    rw [num_snoc c l, List.length_cons, Nat.pow_succ, Nat.mul_add, Nat.mul_comm (256 ^ l.length) 256, ← Nat.mul_assoc, Nat.add_assoc]
def at1 (s : List UInt8) (p : Nat) : Nat := num ((s.drop p).take 1)
def at2 (s : List UInt8) (p : Nat) : Nat := num ((s.drop p).take 2)
def at4 (s : List UInt8) (p : Nat) : Nat := num ((s.drop p).take 4)
theorem at1_lt (s : List UInt8) (p : Nat) : at1 s p < 256 := by
  have h1 := num_lt ((s.drop p).take 1)
  have h2 : (256 : Nat) ^ ((s.drop p).take 1).length ≤ 256 ^ 1 := Nat.pow_le_pow_right (by decide) (by rw [List.length_take]; omega)
  unfold at1
  omega
theorem at2_lt (s : List UInt8) (p : Nat) : at2 s p < 65536 := by
  have h1 := num_lt ((s.drop p).take 2)
  have h2 : (256 : Nat) ^ ((s.drop p).take 2).length ≤ 256 ^ 2 := Nat.pow_le_pow_right (by decide) (by rw [List.length_take]; omega)
  unfold at2
  omega
def pA (s : List UInt8) : Nat := 5 + at1 s 4
def pB (s : List UInt8) : Nat := pA s + 2 + at2 s (pA s)
def cN (s : List UInt8) : Nat := at1 s (pB s)
def size (s : List UInt8) : Nat := pB s + 1 + 4 * cN s + 2
def nameOf (s : List UInt8) : List UInt8 := (s.take (pA s)).drop 5
def textOf (s : List UInt8) : List UInt8 := (s.take (pB s)).drop (pA s + 2)
def incsOf (s : List UInt8) (n : Nat) : List Int := (List.range n).map fun i => (at4 s (pB s + 1 + 4 * i) : Int)
theorem incsOf_len (s : List UInt8) (n : Nat) : (incsOf s n).length = n := by simp [incsOf]
theorem incsOf_succ (s : List UInt8) (n : Nat) : incsOf s (n + 1) = incsOf s n ++ [(at4 s (pB s + 1 + 4 * n) : Int)] := by simp [incsOf, List.range_succ]
def savedOf (s : List UInt8) (R : List Rul) : Sav := (nameOf s, R, incsOf s (cN s))
def beginOf (s : List UInt8) : Option (Sav × Nat) :=
  if size s ≤ s.length then match rulesOf (textOf s) with
    | none => none
    | some R => if validB (savedOf s R) = true ∧ storeT (savedOf s R) = s.take (size s) then some (savedOf s R, size s) else none
  else none
theorem begin_short {s : List UInt8} (h : s.length < size s) : beginOf s = none := if_neg (by omega)
theorem begin_none {s : List UInt8} (h : rulesOf (textOf s) = none) : beginOf s = none := by
  unfold beginOf
  split
  · rw [h]
  · rfl
theorem begin_some {s : List UInt8} {R : List Rul} (hl : size s ≤ s.length) (h : rulesOf (textOf s) = some R) : beginOf s = if validB (savedOf s R) = true ∧ storeT (savedOf s R) = s.take (size s) then some (savedOf s R, size s) else none := by
  unfold beginOf
  rw [if_pos hl, h]
theorem begin_valid {s : List UInt8} {x : Sav} {n : Nat} (h : beginOf s = some (x, n)) : validB x = true ∧ storeT x = s.take n ∧ n ≤ s.length ∧ n = size s := by
  unfold beginOf at h
  split at h
  · rename_i hl
    split at h
    · cases h
    · split at h
      · rename_i hc; cases h; exact ⟨hc.1, hc.2, hl, rfl⟩
      · cases h
  · cases h
theorem sumL_six : ∀ {R : List Rul}, (∀ r ∈ R, r.2.1.length ≤ 6) → sumL R ≤ 6 * R.length
  | [], _ => by simp [sumL]
  | r :: R, h => by
    have h1 := h r List.mem_cons_self
    have h2 := sumL_six fun x hx => h x (List.mem_cons_of_mem _ hx)
    simp only [sumL, List.length_cons]
    omega
theorem sizS_small {s : List UInt8} {R : List Rul} (hs : s.length ≤ 1048576) (hA : pA s ≤ 260) (h : rulesOf (textOf s) = some R) : sizS (savedOf s R) ≤ 1048576 := by
  obtain ⟨h1, _⟩ := rulesOf_iff.1 h
  have h2 := rulesB_le h1
  have h3 := sumL_six (R := R) fun r hr => (okV_of (rulesB_all h1 r hr)).n
  have h4 := at1_lt s (pB s)
  have h5 : (nameOf s).length ≤ 260 := by unfold nameOf; rw [List.length_drop, List.length_take]; omega
  unfold sizS sizR savedOf
  dsimp only
  rw [incsOf_len]
  unfold cN
  omega
theorem pA_le (s : List UInt8) : pA s ≤ 260 := by
  have := at1_lt s 4
  unfold pA
  omega
end Go.Proofs.YtigipcckflcilaaGreatDoor
