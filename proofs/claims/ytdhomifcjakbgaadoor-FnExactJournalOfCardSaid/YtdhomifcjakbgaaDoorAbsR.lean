/- The abstract layer, part R: plain facts on integers, floats and lists that the walks use. -/
import Derived.Test.YtdhomifcjakbgaaDoorAbsP
import Derived.Test.YtdhomifcjakbgaaDoorAbsQ
set_option linter.unusedSimpArgs false
set_option linter.unusedVariables false
namespace Go.Abs
open Go
variable {P : Program}

theorem w64 {n : Int} (h1 : -9223372036854775808 ≤ n) (h2 : n ≤ 9223372036854775807) : IntKind.i64.wrap n = n := IntWalk.i64_in n ⟨h1, h2⟩
theorem w64_succ (k : Nat) (h : k < 9223372036854775807) : IntKind.i64.wrap ((k : Int) + 1) = ((k + 1 : Nat) : Int) := by rw [w64 (by omega) (by omega)]; rfl

theorem nearest_not_nan (k : FloatKind) (n : Int) : (k.decode (k.nearest n)).isNaN = false := by
  cases h : (k.decode (k.nearest n)).isNaN with
  | false => rfl
  | true =>
    exfalso
    rw [isNaN_iff] at h
    have hw : ∀ (s : Bool) (r : Nat), r ≤ k.format.infRung → k.format.word s r % k.format.signWeight = r := by
      intro s r hr
      have hlt : k.format.infRung < k.format.signWeight := by cases k <;> decide
      unfold Ieee.Format.word
      cases s
      · simp only [Bool.false_eq_true, if_false]; exact Nat.mod_eq_of_lt (by omega)
      · simp only [if_true, Nat.add_mod_left]; exact Nat.mod_eq_of_lt (by omega)
    have hn : ∃ s r, k.nearest n = k.format.word s r ∧ r ≤ k.format.infRung := by
      have e : k.nearest n = k.format.nearest (decide (n < 0)) n.natAbs 0 := rfl
      rw [e]
      unfold Ieee.Format.nearest
      by_cases hm : n.natAbs = 0
      · rw [if_pos hm]; exact ⟨_, _, rfl, Nat.zero_le _⟩
      · rw [if_neg hm]; exact ⟨_, _, rfl, Nat.min_le_right _ _⟩
    obtain ⟨s, r, e, hr⟩ := hn
    rw [e, hw s r hr] at h
    omega

theorem order_self {d : Ieee.Datum} (h : d.isNaN = false) : d.order d = some .eq := by
  cases d with
  | nan s t => cases h
  | infinity s => cases s <;> rfl
  | number s m p =>
    simp only [Ieee.Datum.order]
    congr 1
    generalize Ieee.signed s m (p - min p p).toNat = z
    simp [compare, compareOfLessAndEq]

theorem feq_self {k : FloatKind} {x : Nat} (h : (k.decode x).isNaN = false) : feq k x x = true := by
  have : k.format.order x x = some .eq := order_self h
  simp [feq, this]
theorem feq_near (k : FloatKind) (n : Int) : feq k (canon k (k.nearest n)) (canon k (k.nearest n)) = true := by
  rw [canon_of_not (nearest_not_nan k n)]
  exact feq_self (nearest_not_nan k n)

theorem take_snoc {α : Type} (l : List α) (k : Nat) (h : k < l.length) : l.take (k + 1) = l.take k ++ [l[k]] := by simp
/-- The integers from k on. -/
def marks (k : Int) (n : Nat) : List Int := (List.range n).map fun i => k + (i : Nat)
theorem marks_len (k : Int) (n : Nat) : (marks k n).length = n := by simp [marks]
theorem marks_succ (k : Int) (n : Nat) : marks k (n + 1) = marks k n ++ [k + (n : Int)] := by simp [marks, List.range_succ]
/-- What a list holds whose first i values have been replaced by the next ones of another. -/
theorem over_set {α : Type} (f : List α) (xs : List α) (i : Nat) (v : α) (hf : f.length = i) (hi : i < xs.length) : (f ++ xs.drop i).set i v = (f ++ [v]) ++ xs.drop (i + 1) := by
  rw [List.set_append_right _ _ (by omega), hf, Nat.sub_self, List.drop_eq_getElem_cons hi, List.set_cons_zero]
  simp
theorem over_len {α : Type} (f : List α) (xs : List α) (i : Nat) (hf : f.length = i) (hi : i ≤ xs.length) : (f ++ xs.drop i).length = xs.length := by simp; omega
def fmarks (k : Int) (n : Nat) : List Nat := (marks k n).map fun z => canon .f32 (FloatKind.nearest .f32 z)
theorem fmarks_len (k : Int) (n : Nat) : (fmarks k n).length = n := by simp [fmarks, marks_len]
theorem fmarks_succ (k : Int) (n : Nat) : fmarks k (n + 1) = fmarks k n ++ [canon .f32 (FloatKind.nearest .f32 (k + (n : Int)))] := by simp [fmarks, marks_succ]
end Go.Abs
