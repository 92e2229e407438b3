/- Powers of means of logarithms: a table. -/
import Derived.Test.YthildgdbgjgidaaFrT
set_option maxRecDepth 100000
set_option maxHeartbeats 4000000
set_option linter.unusedSimpArgs false
set_option linter.unusedVariables false
namespace Go.Proofs.Ythildgdbgjgidaa
open Go Go.Abs

theorem exT_0 : (List.range 50).all (fun i => (cdT.getD (i + 0) []).all (testK (10 * ((i + 0 : Nat) : Int) - 500))) = true := by decide +kernel
theorem exT_1 : (List.range 50).all (fun i => (cdT.getD (i + 50) []).all (testK (10 * ((i + 50 : Nat) : Int) - 500))) = true := by decide +kernel
theorem exT_2 : (List.range 50).all (fun i => (cdT.getD (i + 100) []).all (testK (10 * ((i + 100 : Nat) : Int) - 500))) = true := by decide +kernel
theorem exT_3 : (List.range 50).all (fun i => (cdT.getD (i + 150) []).all (testK (10 * ((i + 150 : Nat) : Int) - 500))) = true := by decide +kernel
theorem exT_ok : (List.range 200).all (fun x => (cdT.getD x []).all (testE (10 * (x : Int) - 500))) = true := by
  rw [List.all_eq_true]
  intro x hx
  have hx := List.mem_range.1 hx
  have e : testE (10 * (x : Int) - 500) = testK (10 * (x : Int) - 500) := funext fun a => (testK_eq _ a).symm
  rw [e]
  by_cases c0 : x < 50
  · have h := List.all_eq_true.1 exT_0 (x - 0) (List.mem_range.2 (by omega))
    rw [show x - 0 + 0 = x by omega] at h
    exact h
  by_cases c1 : x < 100
  · have h := List.all_eq_true.1 exT_1 (x - 50) (List.mem_range.2 (by omega))
    rw [show x - 50 + 50 = x by omega] at h
    exact h
  by_cases c2 : x < 150
  · have h := List.all_eq_true.1 exT_2 (x - 100) (List.mem_range.2 (by omega))
    rw [show x - 100 + 100 = x by omega] at h
    exact h
  by_cases c3 : x < 200
  · have h := List.all_eq_true.1 exT_3 (x - 150) (List.mem_range.2 (by omega))
    rw [show x - 150 + 150 = x by omega] at h
    exact h
  omega
end Go.Proofs.Ythildgdbgjgidaa
