/- Bits of integers; rows of a table, in plain Lean. -/
import Derived.Test.YtmngfcklmikbfaaAbsZ4
import Derived.Test.YtmngfcklmikbfaaAbsW
import Derived.IntWalk
set_option maxRecDepth 10000
set_option linter.unusedSimpArgs false
set_option linter.unusedVariables false
namespace Go.Proofs.Ytmngfcklmikbfaa
open Go Go.Abs

def bv (a : Int) : BitVec 64 := BitVec.ofInt 64 a
theorem wrap_bits (x : BitVec 64) : IntKind.i64.wrap ((x.toNat : Nat) : Int) = x.toInt := by
  have := x.isLt
  rw [IntKind.wrap_i64, BitVec.toInt_eq_toNat_cond]
  split <;> omega
def andI (a b : Int) : Int := IntKind.i64.wrap (((BitVec.ofInt IntKind.i64.bits a &&& BitVec.ofInt IntKind.i64.bits b).toNat : Nat) : Int)
def xorI (a b : Int) : Int := IntKind.i64.wrap (((BitVec.ofInt IntKind.i64.bits a ^^^ BitVec.ofInt IntKind.i64.bits b).toNat : Nat) : Int)
def andNI (a b : Int) : Int := IntKind.i64.wrap (((BitVec.ofInt IntKind.i64.bits a &&& ~~~BitVec.ofInt IntKind.i64.bits b).toNat : Nat) : Int)
theorem fold_and (a b : Int) : IntKind.i64.wrap (((BitVec.ofInt IntKind.i64.bits a &&& BitVec.ofInt IntKind.i64.bits b).toNat : Nat) : Int) = andI a b := rfl
theorem fold_xor (a b : Int) : IntKind.i64.wrap (((BitVec.ofInt IntKind.i64.bits a ^^^ BitVec.ofInt IntKind.i64.bits b).toNat : Nat) : Int) = xorI a b := rfl
theorem fold_andn (a b : Int) : IntKind.i64.wrap (((BitVec.ofInt IntKind.i64.bits a &&& ~~~BitVec.ofInt IntKind.i64.bits b).toNat : Nat) : Int) = andNI a b := rfl
theorem andI_eq (a b : Int) : andI a b = (bv a &&& bv b).toInt := wrap_bits _
theorem xorI_eq (a b : Int) : xorI a b = (bv a ^^^ bv b).toInt := wrap_bits _
theorem andNI_eq (a b : Int) : andNI a b = (bv a &&& ~~~bv b).toInt := wrap_bits _
theorem bv_int (x : BitVec 64) : bv x.toInt = x := by unfold bv; exact BitVec.ofInt_toInt
theorem bv_nat {a : Int} (h0 : 0 ≤ a) (h1 : a < 9223372036854775808) : ((bv a).toNat : Int) = a := by
  unfold bv
  rw [BitVec.toNat_ofInt]
  omega
theorem andI_low {a b : Int} (h0 : 0 ≤ a) (h1 : a < 9223372036854775808) : 0 ≤ andI a b ∧ andI a b ≤ a := by
  have e := bv_nat h0 h1
  have h : (bv a &&& bv b).toNat ≤ (bv a).toNat := by
    rw [BitVec.toNat_and]
    exact Nat.and_le_left
  rw [andI_eq, BitVec.toInt_eq_toNat_cond]
  split <;> omega
theorem andN_and (c p : Int) : andNI (andI c p) c = 0 := by
  rw [andNI_eq, andI_eq, bv_int]
  have : bv c &&& bv p &&& ~~~bv c = BitVec.ofNat 64 0 := by
    ext k hk
    simp
    cases (bv c)[k] <;> simp
  rw [this]
  rfl
theorem toInt_inj {x y : BitVec 64} : x.toInt = y.toInt ↔ x = y := BitVec.toInt_inj
theorem clash_eq (i j a b : Int) : (andI (andI (xorI i j) a) b == 0) = (andI i (andI a b) == andI j (andI a b)) := by
  apply Bool.eq_iff_iff.2
  simp only [beq_iff_eq, andI_eq, xorI_eq, bv_int, toInt_inj]
  rw [show (0 : Int) = (BitVec.ofNat 64 0 : BitVec 64).toInt from rfl, toInt_inj]
  generalize bv i = i
  generalize bv j = j
  generalize bv a = a
  generalize bv b = b
  have : (i ^^^ j) &&& a &&& b = (i &&& (a &&& b)) ^^^ (j &&& (a &&& b)) := by
    ext k hk
    simp
    cases i[k] <;> cases j[k] <;> cases a[k] <;> cases b[k] <;> rfl
  rw [this, BitVec.xor_eq_zero_iff]

/-! Rows: the cases they care for, what these are, the result. -/
abbrev Rw := Int × Int × Int
def rw0 : Rw := (0, 0, 0)
def fitR (x : Int) (r : Rw) : Bool := andI x r.1 == r.2.1
/-- The first of the first i rows that fits, -1 if none does. -/
def ffi (R : List Rw) (x : Int) : Nat → Int
  | 0 => -1
  | i + 1 => if ffi R x i < 0 ∧ fitR x (R.getD i rw0) = true then (i : Int) else ffi R x i
theorem ffi_low (R : List Rw) (x : Int) : ∀ i, -1 ≤ ffi R x i ∧ ffi R x i < i
  | 0 => by simp [ffi]
  | i + 1 => by
    have := ffi_low R x i
    rw [ffi]
    split <;> omega
theorem ffi_stay {R : List Rw} {x : Int} {i : Nat} (h : 0 ≤ ffi R x i) : ∀ k, ffi R x (i + k) = ffi R x i
  | 0 => rfl
  | k + 1 => by
    have := ffi_stay h k
    rw [show i + (k + 1) = (i + k) + 1 from rfl, ffi, this, if_neg (by omega)]
theorem ffi_at {R : List Rw} {x : Int} {i n : Nat} (hi : i < n) (h : ffi R x i < 0) (hf : fitR x (R.getD i rw0) = true) : ffi R x n = i := by
  have e : ffi R x (i + 1) = i := by rw [ffi, if_pos ⟨h, hf⟩]
  have := ffi_stay (R := R) (x := x) (i := i + 1) (by omega) (n - (i + 1))
  rw [show i + 1 + (n - (i + 1)) = n from by omega, e] at this
  exact this
theorem ffi_next {R : List Rw} {x : Int} {i : Nat} (h : ffi R x i < 0) (hf : fitR x (R.getD i rw0) = false) : ffi R x (i + 1) = ffi R x i := by
  rw [ffi, if_neg (by rw [hf]; simp)]

theorem ffi_find (R : List Rw) (x : Int) : ∀ (k i : Nat), i + k = R.length → ffi R x i < 0 → ffi R x R.length = findI (fitR x) (R.drop i) i
  | 0, i, h, hf => by
    have hi : i = R.length := by omega
    subst hi
    have := ffi_low R x R.length
    rw [List.drop_length, findI]
    omega
  | k + 1, i, h, hf => by
    have hi : i < R.length := by omega
    have e : R.getD i rw0 = R[i] := by simp [List.getD_eq_getElem?_getD, hi]
    rw [List.drop_eq_getElem_cons hi, findI]
    by_cases hq : fitR x R[i] = true
    · rw [if_pos hq]
      exact ffi_at hi hf (by rw [e]; exact hq)
    · rw [if_neg hq]
      have hq' : fitR x R[i] = false := by simpa using hq
      exact ffi_find R x k (i + 1) (by omega) (by rw [ffi_next hf (by rw [e]; exact hq')]; exact hf)
theorem ffi_eq (R : List Rw) (x : Int) : findI (fitR x) R 0 = ffi R x R.length := by
  have := ffi_find R x R.length 0 (by omega) (by simp [ffi])
  rw [this, List.drop_zero]

/-- How often each row is the first one to fit, of the first x cases. -/
def tolds (R : List Rw) : Nat → List Int
  | 0 => List.replicate R.length 0
  | x + 1 => if 0 ≤ ffi R x R.length then (tolds R x).set (ffi R x R.length).toNat ((tolds R x).getD (ffi R x R.length).toNat 0 + 1) else tolds R x
theorem tolds_len (R : List Rw) : ∀ x, (tolds R x).length = R.length
  | 0 => by simp [tolds]
  | x + 1 => by rw [tolds]; split <;> simp [tolds_len R x]
def gapsR (R : List Rw) : Nat → List Int
  | 0 => []
  | x + 1 => if ffi R x R.length < 0 then gapsR R x ++ [(x : Int)] else gapsR R x
theorem gapsR_len (R : List Rw) : ∀ x, (gapsR R x).length ≤ x
  | 0 => by simp [gapsR]
  | x + 1 => by have := gapsR_len R x; rw [gapsR]; split <;> simp <;> omega
def sumI : List Int → Int
  | [] => 0
  | a :: l => a + sumI l
theorem sumI_set (v : Int) : ∀ (l : List Int) (i : Nat), i < l.length → sumI (l.set i (l.getD i 0 + v)) = sumI l + v
  | a :: l, 0, _ => by simp [sumI]; omega
  | a :: l, i + 1, h => by
    have := sumI_set v l i (by simpa using h)
    simp only [List.set_cons_succ, List.getD_cons_succ, sumI]
    omega
theorem sumI_zero : ∀ n, sumI (List.replicate n 0) = 0
  | 0 => rfl
  | n + 1 => by simp [List.replicate_succ, sumI, sumI_zero n]
theorem tolds_sum (R : List Rw) : ∀ x, sumI (tolds R x) + (gapsR R x).length = x
  | 0 => by simp [tolds, gapsR, sumI_zero]
  | x + 1 => by
    have ih := tolds_sum R x
    have low := ffi_low R x R.length
    have tl := tolds_len R x
    rw [tolds, gapsR]
    by_cases h : 0 ≤ ffi R x R.length
    · rw [if_pos h, if_neg (by omega), sumI_set 1 _ _ (by omega)]
      omega
    · rw [if_neg h, if_pos (by omega)]
      simp
      omega
theorem tolds_low (R : List Rw) : ∀ x, ∀ a ∈ tolds R x, 0 ≤ a ∧ a ≤ x
  | 0 => by intro a ha; simp [tolds] at ha; omega
  | x + 1 => by
    have ih := tolds_low R x
    intro a ha
    rw [tolds] at ha
    split at ha
    · rcases List.mem_or_eq_of_mem_set ha with h | h
      · have := ih a h; omega
      · have low := ffi_low R x R.length
        have tl := tolds_len R x
        have hlt : (ffi R x R.length).toNat < (tolds R x).length := by omega
        rw [List.getD_eq_getElem?_getD, List.getElem?_eq_getElem hlt, Option.getD_some] at h
        have := ih _ (List.getElem_mem hlt)
        omega
    · have := ih a ha; omega
theorem gaps_mem (R : List Rw) (n : Nat) (x : Nat) (hx : x < n) : (x : Int) ∈ gapsR R n ↔ ffi R x R.length < 0 := by
  have key : ∀ n, ∀ a ∈ gapsR R n, ∃ k : Nat, a = k ∧ k < n ∧ ffi R k R.length < 0 := by
    intro n
    induction n with
    | zero => simp [gapsR]
    | succ n ih =>
      intro a ha
      rw [gapsR] at ha
      split at ha
      · rcases List.mem_append.1 ha with h | h
        · obtain ⟨k, h1, h2, h3⟩ := ih a h
          exact ⟨k, h1, by omega, h3⟩
        · simp at h
          exact ⟨n, h, by omega, by assumption⟩
      · obtain ⟨k, h1, h2, h3⟩ := ih a ha
        exact ⟨k, h1, by omega, h3⟩
  constructor
  · intro h
    obtain ⟨k, h1, _, h3⟩ := key n _ h
    have : x = k := by omega
    subst this
    exact h3
  · intro h
    induction n with
    | zero => omega
    | succ n ih =>
      rw [gapsR]
      by_cases hn : x = n
      · subst hn
        rw [if_pos h]
        simp
      · have := ih (by omega)
        split
        · exact List.mem_append.2 (.inl this)
        · exact this
/-- The rows that are the first ones to fit some case. -/
def firstsR (C : List Int) : Nat → List Int
  | 0 => []
  | i + 1 => if 0 < C.getD i 0 then firstsR C i ++ [(i : Int)] else firstsR C i
theorem firstsR_len (C : List Int) : ∀ x, (firstsR C x).length ≤ x
  | 0 => by simp [firstsR]
  | x + 1 => by have := firstsR_len C x; rw [firstsR]; split <;> simp <;> omega
theorem firsts_mem (C : List Int) (n i : Nat) (hi : i < n) : (i : Int) ∈ firstsR C n ↔ 0 < C.getD i 0 := by
  have key : ∀ n, ∀ a ∈ firstsR C n, ∃ k : Nat, a = k ∧ k < n ∧ 0 < C.getD k 0 := by
    intro n
    induction n with
    | zero => simp [firstsR]
    | succ n ih =>
      intro a ha
      rw [firstsR] at ha
      split at ha
      · rcases List.mem_append.1 ha with h | h
        · obtain ⟨k, h1, h2, h3⟩ := ih a h
          exact ⟨k, h1, by omega, h3⟩
        · simp at h
          exact ⟨n, h, by omega, by assumption⟩
      · obtain ⟨k, h1, h2, h3⟩ := ih a ha
        exact ⟨k, h1, by omega, h3⟩
  constructor
  · intro h
    obtain ⟨k, h1, _, h3⟩ := key n _ h
    have : i = k := by omega
    subst this
    exact h3
  · intro h
    induction n with
    | zero => omega
    | succ n ih =>
      rw [firstsR]
      by_cases hn : i = n
      · subst hn
        rw [if_pos h]
        simp
      · have := ih (by omega)
        split
        · exact List.mem_append.2 (.inl this)
        · exact this
/-- Two rows that tell different results for some case. -/
def clashB (R : List Rw) (i k : Nat) : Bool := (R.getD i rw0).2.2 != (R.getD k rw0).2.2 && andI (R.getD i rw0).2.1 (andI (R.getD i rw0).1 (R.getD k rw0).1) == andI (R.getD k rw0).2.1 (andI (R.getD i rw0).1 (R.getD k rw0).1)
def clI (R : List Rw) (i : Nat) (l : List Int) : Nat → List Int
  | 0 => l
  | k + 1 => if clashB R i (i + 1 + k) then clI R i l k ++ [(i : Int), ((i + 1 + k : Nat) : Int)] else clI R i l k
def clO (R : List Rw) : Nat → List Int
  | 0 => []
  | i + 1 => clI R i (clO R i) (R.length - (i + 1))
theorem clI_len (R : List Rw) (i : Nat) (l : List Int) : ∀ k, (clI R i l k).length ≤ l.length + 2 * k
  | 0 => by simp [clI]
  | k + 1 => by have := clI_len R i l k; rw [clI]; split <;> simp <;> omega
theorem clO_len (R : List Rw) : ∀ i, (clO R i).length ≤ 2 * R.length * i
  | 0 => by simp [clO]
  | i + 1 => by
    have := clO_len R i
    have := clI_len R i (clO R i) (R.length - (i + 1))
    rw [clO, Nat.mul_add]
    omega
end Go.Proofs.Ytmngfcklmikbfaa
