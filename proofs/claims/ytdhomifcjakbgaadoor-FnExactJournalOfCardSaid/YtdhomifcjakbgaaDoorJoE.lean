/- A strings.Builder that was never written: its length, its text; the journal of no line. -/
import Derived.Test.YtdhomifcjakbgaaDoorJoD
import Derived.Handy
set_option linter.unusedVariables false
set_option maxHeartbeats 2000000
set_option maxRecDepth 100000
namespace Go.Proofs.YtdhomifcjakbgaaDoor
open Go Go.RowKit

theorem builderString0 (b : Nat) (w : World) (h1 : w.cell? ⟨b, 1, none⟩ = some (.slice none 0 0)) :
    Calls Tryd.prog 33 #[.pointer (some ⟨b, 0, none⟩)] w fun e w' => e = .returned (.string .empty) ∧ w' = w.drew := by
  have c1 : w.drew.cell? ⟨b, 1, none⟩ = some (.slice none 0 0) := h1
  have hSD : (Builtin.unsafeSliceData_ #[51] 77 #[.slice none 0 0]).run Tryd.prog w.drew = .ok (.pointer none) w.drew :=
    Lib.run_unsafeSliceData_nil _ _ _ _ _
  have hUS : (Builtin.unsafeString_ #[77, 3] 9 #[.pointer none, .int .i64 0]).run Tryd.prog w.drew = .ok (.string .empty) w.drew :=
    Lib.run_unsafeString_none _ _ _ _ _
  have mixed : Tryd.prog.follows .mixedOrders = true := by kernel_rfl
  have u50 := run_underlying Tryd.underlying50
  have u53 := run_underlying Tryd.underlying53
  have u51 := run_underlying Tryd.underlying51
  have u77 := run_underlying Tryd.underlying77
  have u3 := run_underlying Tryd.underlying3
  have u9 := run_underlying Tryd.underlying9
  have u5 := run_underlying Tryd.underlying5
  go_enter Tryd.func33, Tryd.ntmps33
  go_wp2
  go_region_o
  all_goals (go_wp2; go_ret; exact ⟨rfl, rfl⟩)
theorem builderLen0 (b : Nat) (w : World) (h1 : w.cell? ⟨b, 1, none⟩ = some (.slice none 0 0)) :
    Calls Tryd.prog 29 #[.pointer (some ⟨b, 0, none⟩)] w fun e w' => e = .returned (.int .i64 0) ∧ w' = w := by
  have mixed : Tryd.prog.follows .mixedOrders = true := by kernel_rfl
  have u50 := run_underlying Tryd.underlying50
  have u53 := run_underlying Tryd.underlying53
  have u51 := run_underlying Tryd.underlying51
  have u3 := run_underlying Tryd.underlying3
  go_enter Tryd.func29, Tryd.ntmps29
  go_wp2
  go_ret
  exact ⟨rfl, rfl⟩
theorem journal_none (a : Option Addr) (cap : Nat) (w : World) :
    Calls Tryd.prog 14 #[.slice a 0 cap] w fun e w' => e = .returned (.tuple #[.string .empty, .bool true]) ∧ w' = ((w.alloc (.cells #[.pointer none, .slice none 0 0] 53)).drew) := by
  have mixed : Tryd.prog.follows .mixedOrders = true := by kernel_rfl
  have u50 := run_underlying Tryd.underlying50
  have u53 := run_underlying Tryd.underlying53
  have u51 := run_underlying Tryd.underlying51
  have u32 := run_underlying Tryd.underlying32
  have u3 := run_underlying Tryd.underlying3
  have u77 := run_underlying Tryd.underlying77
  have u5 := run_underlying Tryd.underlying5
  have hSD : ∀ w' : World, (Builtin.unsafeSliceData_ #[51] 77 #[.slice none 0 0]).run Tryd.prog w' = .ok (.pointer none) w' := fun _ => Lib.run_unsafeSliceData_nil _ _ _ _ _
  have hUS : ∀ w' : World, (Builtin.unsafeString_ #[77, 3] 9 #[.pointer none, .int .i64 0]).run Tryd.prog w' = .ok (.string .empty) w' := fun _ => Lib.run_unsafeString_none _ _ _ _ _
  have u9 := run_underlying Tryd.underlying9
  go_enter Tryd.func14, Tryd.ntmps14
  go_wp2
  refine wp_loop_once ?_
  go_wp2
  go_region_o
  all_goals go_wp2
  all_goals go_ret2
  exact ⟨rfl, rfl⟩
/-- The same in the layer. -/
theorem journal_noneA : Go.Abs.CallA Tryd.prog 14 [.ro []] [] (Go.Abs.Ret (.tup [.str [], .bool true]) []) := by
  intro E vs H hl hrv
  obtain ⟨v, rfl, hv⟩ := Go.Abs.RV.one hl hrv
  have key : ∀ a cap, v = .slice a 0 cap → Go.Abs.Gets Tryd.prog 14 [v].toArray E.w fun v w' => ∃ r hp' E', E'.w = w' ∧ Go.Abs.Ret (.tup [.str [], .bool true]) [] r hp' ∧ Go.Abs.RV E' r v ∧ Go.Abs.HRel E' hp' ∧ Go.Abs.Fr E [] E' hp' := by
    rintro a cap rfl
    refine .inl ⟨go14, (journal_none a cap E.w).mono ?_⟩
    rintro ex w' ⟨rfl, rfl⟩
    obtain ⟨H2, F2, _⟩ := H.extend (w' := (E.w.alloc (.cells #[.pointer none, .slice none 0 0] 53)).drew) (by show _ ≤ (E.w.heap.push _).size; rw [Array.size_push]; omega) (fun c hc => by show (E.w.heap.push _)[c]? = _; rw [Array.getElem?_push_lt hc, Array.getElem?_eq_getElem hc]) rfl rfl rfl
    refine ⟨_, rfl, _, [], E.with _, rfl, ⟨rfl, rfl⟩, .tup _ _ rfl ?_, H2, F2 (Go.Abs.Fr.refl E _)⟩
    intro i a v h1 h2
    match i with
    | 0 => cases h1; cases h2; exact .str []
    | 1 => cases h1; cases h2; exact .bool true
    | i + 2 => simp at h1
  generalize hs : ([] : List Go.Abs.AV) = l at hv
  cases hv with
  | roNil a cap => exact key a cap rfl
  | ro _ b off cap wd val hF hcap hmax hw hc hv => subst hs; exact key _ cap rfl
end Go.Proofs.YtdhomifcjakbgaaDoor
