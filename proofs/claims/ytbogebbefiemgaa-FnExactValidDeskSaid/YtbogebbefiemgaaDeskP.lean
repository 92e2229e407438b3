/- Desks: what is asked of them, in plain words. -/
import Derived.Test.YtbogebbefiemgaaDeskA
set_option maxRecDepth 10000
set_option linter.unusedSimpArgs false
set_option linter.unusedVariables false
namespace Go.Proofs.Ytbogebbefiemgaa
open Go Go.Abs

theorem getD_at {α : Type} (xs : List α) (z : α) (i : Nat) (h : i < xs.length) : xs.getD i z = xs[i] := by
  simp [List.getD_eq_getElem?_getD, List.getElem?_eq_getElem h]
/-- All places ahead of one. -/
def pref (p : Nat → Bool) (n : Nat) : Bool := (List.range n).all p
theorem pref_zero (p : Nat → Bool) : pref p 0 = true := rfl
theorem pref_succ (p : Nat → Bool) (n : Nat) : pref p (n + 1) = (pref p n && p n) := by
  simp [pref, List.range_succ]
theorem pref_no {p : Nat → Bool} {n : Nat} (i : Nat) (hi : i < n) (h : p i = false) : pref p n = false := by
  rw [pref, List.all_eq_false]
  exact ⟨i, by simpa using hi, by simp [h]⟩
theorem pref_go {p : Nat → Bool} {n : Nat} (h1 : pref p n = true) (h2 : p n = true) : pref p (n + 1) = true := by rw [pref_succ, h1, h2]; rfl
theorem pref_and (p q : Nat → Bool) (n : Nat) : pref (fun j => p j && q j) n = (pref p n && pref q n) := by
  induction n with
  | zero => rfl
  | succ n ih => rw [pref_succ, pref_succ, pref_succ, ih]; cases pref p n <;> cases pref q n <;> cases p n <;> cases q n <;> rfl
theorem all_pref {α : Type} (p : α → Bool) (z : α) (xs : List α) : xs.all p = pref (fun j => p (xs.getD j z)) xs.length := by
  rw [Bool.eq_iff_iff, pref, List.all_eq_true, List.all_eq_true]
  constructor
  · intro h j hj
    have hj' : j < xs.length := by simpa using hj
    rw [getD_at xs z j hj']
    exact h _ (List.getElem_mem hj')
  · intro h x hx
    obtain ⟨j, hj, rfl⟩ := List.getElem_of_mem hx
    have := h j (by simpa using hj)
    rwa [getD_at xs z j hj] at this

/-- A number from one to another. -/
def inR (lo hi n : Int) : Bool := decide (lo ≤ n) && decide (n ≤ hi)
/-- The bits of a float32, one for all that are none. -/
def bitsI (x : Nat) : Int := if (FloatKind.f32.decode x).isNaN then 2143289344 else IntKind.i64.wrap x
def sameAll (xs ys : List Nat) : Bool := decide (xs.length = ys.length) && pref (fun j => bitsI (xs.getD j 0) == bitsI (ys.getD j 0)) xs.length

def scaleB (bk rt : List Int) : Bool := decide (1 ≤ bk.length ∧ bk.length ≤ 8 ∧ rt.length = bk.length) && (bk.getD 0 0 == 0) && pref (fun j => (inR 0 1000000000000 (bk.getD j 0) && (j == 0 || decide (bk.getD (j - 1) 0 < bk.getD j 0))) && inR 0 10000 (rt.getD j 0)) bk.length
def ascB (xs : List Int) : Bool := pref (fun j => j == 0 || decide (xs.getD (j - 1) 0 < xs.getD j 0)) xs.length
def scaleQ (bk rt : List Int) : Bool := (decide (1 ≤ bk.length ∧ bk.length ≤ 8) && bk.all (inR 0 1000000000000)) && (bk.getD 0 0 == 0) && ascB bk && decide (rt.length = bk.length) && rt.all (inR 0 10000)
theorem scaleQ_eq (bk rt : List Int) : scaleQ bk rt = scaleB bk rt := by
  unfold scaleQ scaleB ascB
  rw [pref_and, pref_and, all_pref (inR 0 1000000000000) 0 bk]
  by_cases h : rt.length = bk.length
  · rw [all_pref (inR 0 10000) 0 rt, h]
    generalize pref _ bk.length = x
    generalize pref _ bk.length = y
    generalize pref _ bk.length = z
    generalize (bk.getD 0 0 == 0) = w
    by_cases h2 : 1 ≤ bk.length ∧ bk.length ≤ 8
    · cases x <;> cases y <;> cases z <;> cases w <;> simp [h2]
    · have h3 : ¬ (1 ≤ bk.length ∧ bk.length ≤ 8 ∧ True) := by simpa using h2
      simp only [h2, h3, decide_false, Bool.false_and]
  · simp [h]
def amountsB (xs : List Int) (most : Nat) : Bool := decide (1 ≤ xs.length ∧ xs.length ≤ most) && xs.all (inR 0 1000000000000)
def ratesB (xs : List Int) : Bool := decide (1 ≤ xs.length ∧ xs.length ≤ 60) && xs.all (inR (-9999) 10000)
def tableB (q : List Nat) : Bool := q.all okS && (decide (1 ≤ q.length ∧ q.length ≤ 120) && feq .f32 (q.getD (q.length - 1) 0) 1065353216)
def validD (a b c d : List Int) (f : List Nat) : Bool := scaleB a b && amountsB c 60 && ratesB d && tableB f
def sameD (a b c d : List Int) (f : List Nat) (a' b' c' d' : List Int) (f' : List Nat) : Bool := (a == a' && b == b') && c == c' && d == d' && sameAll f f'
end Go.Proofs.Ytbogebbefiemgaa
