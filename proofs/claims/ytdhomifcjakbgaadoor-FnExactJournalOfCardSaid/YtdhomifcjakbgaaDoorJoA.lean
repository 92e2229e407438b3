/- A strings.Builder's check of its own place. -/
import Derived.Test.YtdhomifcjakbgaaDoorJnT
import Derived.Lib.Builder
import Derived.Laws.Externs
import Derived.WalkKit
set_option linter.unusedVariables false
set_option maxHeartbeats 1000000
set_option maxRecDepth 100000
namespace Go.Proofs.YtdhomifcjakbgaaDoor
open Go Go.RowKit

theorem sizeB : ∃ j, Tryd.prog.info? 53 = some j ∧ j.size = 2 := by
  obtain ⟨j, hj, h⟩ := Option.map_eq_some_iff.1 (show (Tryd.prog.info? 53).map (·.size) = some 2 by kernel_rfl)
  exact ⟨j, hj, h⟩
theorem copyCheck_used (b : Nat) (w : World) (h0 : w.cell? ⟨b, 0, none⟩ = some (.pointer (some ⟨b, 0, none⟩))) :
    Calls Tryd.prog 48 #[.pointer (some ⟨b, 0, none⟩)] w fun e w' => e = .returned (.tuple #[]) ∧ w' = w := by
  obtain ⟨j, hj, _⟩ := sizeB
  have mixed : Tryd.prog.follows .mixedOrders = true := by kernel_rfl
  have u50 := run_underlying Tryd.underlying50
  have u53 := run_underlying Tryd.underlying53
  have u4 := run_underlying Tryd.underlying4
  go_enter Tryd.func48, Tryd.ntmps48
  go_wp2
  rw [Lib.run_neq_ptr_same w _ Tryd.underlying50 hj]
  go_wp2
  go_end0
  exact ⟨rfl, rfl⟩
theorem lies (count : Nat) (h : 1 ≤ count) : liesAt Tryd.prog Tryd.prog.depth 53 count 0 53 1 = true := by
  have hs : sameLayout Tryd.prog Tryd.prog.depth 53 53 = true := by kernel_rfl
  have hc : Tryd.prog.cellsOf 53 = 2 := by kernel_rfl
  have gen : ∀ (fits : TypeId → Bool) (d : Nat), fits 53 = true → rowAt Tryd.prog fits (d + 1) 53 count 0 1 = true := by
    intro fits d hf
    simp only [rowAt, hc]
    have : decide (0 / 2 + 1 ≤ count) = true := by simpa using h
    simp [hf]
    left
    omega
  obtain ⟨d, hd⟩ : ∃ d, Tryd.prog.depth = d + 1 := ⟨Tryd.prog.depth - 1, by kernel_rfl⟩
  have h1 := gen (sameLayout Tryd.prog Tryd.prog.depth · 53) d hs
  rw [← hd] at h1
  have h2 : ∀ d, liesAt Tryd.prog (d + 1) 53 count 0 53 1 = true := fun d => by
    unfold liesAt
    rw [h1]
    rfl
  rw [hd]
  exact h2 d
theorem copyCheck_fresh (b cells : Nat) (hcells : 2 ≤ cells) (w : World) (h0 : w.cell? ⟨b, 0, none⟩ = some (.pointer none)) (hsh : w.shape? b = some (53, cells)) (hfz : w.frozen? ⟨b, 0, none⟩ = false) :
    Calls Tryd.prog 48 #[.pointer (some ⟨b, 0, none⟩)] w fun e w' => e = .returned (.tuple #[]) ∧ w' = w.setCell ⟨b, 0, none⟩ (.pointer (some ⟨b, 0, none⟩)) := by
  obtain ⟨j, hj, hjs⟩ := sizeB
  have mixed : Tryd.prog.follows .mixedOrders = true := by kernel_rfl
  have u50 := run_underlying Tryd.underlying50
  have u53 := run_underlying Tryd.underlying53
  have u4 := run_underlying Tryd.underlying4
  go_enter Tryd.func48, Tryd.ntmps48
  go_wp2
  rw [Lib.run_to_unsafe w ⟨b, 0, none⟩ Tryd.underlying50 Tryd.underlying84 hj (by rw [hjs]; decide) hsh (show 0 < cells by omega)]
  simp only [Result.andThen]
  rw [Oper.upon_value]
  go_wp2
  rw [run_callFunc_extern Tryd.func57 (by kernel_rfl) (by kernel_rfl) (by kernel_rfl) (e := Extern.AbiNoEscape.same) (by kernel_rfl)]
  rw [Lib.run_noEscape]
  simp only [Result.andThen]
  rw [Oper.upon_value]
  go_wp2
  rw [Lib.run_from_unsafe w ⟨b, 0, none⟩ Tryd.underlying84 Tryd.underlying50 hj hsh (by rw [show Tryd.prog.cellsOf 53 = 2 from by kernel_rfl]; exact lies _ (by omega))]
  simp only [Result.andThen]
  rw [Oper.upon_value]
  go_wp2
  go_end0
  exact ⟨rfl, rfl⟩
end Go.Proofs.YtdhomifcjakbgaaDoor
