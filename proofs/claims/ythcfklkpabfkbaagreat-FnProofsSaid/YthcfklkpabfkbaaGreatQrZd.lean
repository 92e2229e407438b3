/- Whatever is proved and no fact has a taken rule. -/
import Derived.Test.YthcfklkpabfkbaaGreatQrZc
set_option maxRecDepth 10000
set_option linter.unusedSimpArgs false
set_option linter.unusedVariables false
namespace Go.Proofs.YthcfklkpabfkbaaGreat
open Go Go.Abs

theorem tkN_heads {L : List Nat} {ru : Nat → Rul} {Y F : Int → Bool} : ∀ n, ∀ k ∈ (tkN L ru Y F n).1, (tkN L ru Y F n).2 (ru k).1 = true
  | 0, k, h => by cases h
  | n + 1, k, h => by
    show knU ru (tkN L ru Y F n).2 (tkS L ru Y F (tkN L ru Y F n).1 (tkN L ru Y F n).2) (ru k).1 = true
    unfold knU
    rw [Bool.or_eq_true, List.any_eq_true]
    rcases List.mem_append.1 h with h | h
    · exact .inl (tkN_heads n k h)
    · exact .inr ⟨k, h, by simp⟩
theorem taken_all {RA : List Rul} {fs : List Int} {Y N : Int → Bool} (hR : Rls RA) (Lt : Least RA fs Y N) {n : Nat} (h0 : tkS (List.range RA.length) (rkR RA) Y (fB fs) (tkN (List.range RA.length) (rkR RA) Y (fB fs) n).1 (tkN (List.range RA.length) (rkR RA) Y (fB fs) n).2 = []) {w : Int} (hw : wordB w = true) (hy : Y w = true) : w ∈ fs ∨ ∃ k ∈ (tkN (List.range RA.length) (rkR RA) Y (fB fs) n).1, (rkR RA k).1 = w := by
  have hh := tkN_heads (L := List.range RA.length) (ru := rkR RA) (Y := Y) (F := fB fs) n
  generalize (tkN (List.range RA.length) (rkR RA) Y (fB fs) n).2 = kn at *
  generalize (tkN (List.range RA.length) (rkR RA) Y (fB fs) n).1 = T at *
  have hle : LeS (fun w => Y w && (decide (w ∈ fs) || T.any fun k => (rkR RA k).1 == w)) N Y N := fun v hv => ⟨fun h => by
    rw [Bool.and_eq_true] at h; exact h.1, id⟩
  have C : Clo RA fs (fun w => Y w && (decide (w ∈ fs) || T.any fun k => (rkR RA k).1 == w)) N := by
    refine ⟨fun v hv => ?_, Lt.clo.fn, fun v hv h1 h2 hp => ?_, fun v hv h1 h2 hp => Lt.clo.pn v hv h1 h2 (hle.dsG hR hp)⟩
    · show (Y v && _) = true
      rw [Lt.clo.fy v hv, Bool.true_and, Bool.or_eq_true]
      exact .inl (decide_eq_true hv)
    · have hyv := Lt.clo.py v hv h1 h2 (hle.prG hR hp)
      show (Y v && _) = true
      rw [hyv, Bool.true_and, Bool.or_eq_true]
      right
      unfold prG at hp
      rw [Bool.and_eq_true, List.any_eq_true] at hp
      obtain ⟨⟨r, hr, h3⟩, _⟩ := hp
      rw [Bool.and_eq_true] at h3
      obtain ⟨i, hi, rfl⟩ := List.mem_iff_getElem.1 hr
      have hru := rkR_at RA i hi
      have e1 : RA[i].1 = v := eq_of_beq h3.1
      rw [List.any_eq_true]
      refine ⟨i, ?_, by rw [hru, e1]; simp⟩
      by_cases hin : i ∈ T
      · exact hin
      · exfalso
        have : i ∈ tkS (List.range RA.length) (rkR RA) Y (fB fs) T kn := by
          refine List.mem_filter.2 ⟨List.mem_range.2 hi, ?_⟩
          unfold tkP
          rw [hru, e1, hyv, show fB fs v = false from decide_eq_false h1]
          simp only [hin, decide_false, Bool.not_false, Bool.true_and]
          rw [List.all_eq_true]
          intro u hu
          have := List.all_eq_true.1 h3.2 u hu
          rw [Bool.and_eq_true, Bool.or_eq_true, List.any_eq_true] at this
          rw [Bool.or_eq_true]
          rcases this.2 with h4 | ⟨k, hk, h4⟩
          · exact .inl h4
          · exact .inr (by have := hh k hk; rwa [eq_of_beq h4] at this)
        rw [h0] at this
        cases this
  have := (Lt.low _ _ C w hw).1 hy
  rw [Bool.and_eq_true, Bool.or_eq_true, List.any_eq_true] at this
  rcases this.2 with h | ⟨k, hk, h⟩
  · exact .inl (of_decide_eq_true h)
  · exact .inr ⟨k, hk, eq_of_beq h⟩
end Go.Proofs.YthcfklkpabfkbaaGreat
