/- The abstract layer, part U: from a walk to what a row asks. -/
import Derived.Test.YtdhomifcjakbgaaDoorAbsT
import Derived.Below
set_option linter.unusedSimpArgs false
set_option linter.unusedVariables false
namespace Go.Abs
open Go Go.RowKit
variable {P : Program}

/-- The world as a law meets it: 'F' are the blocks of its arguments. -/
def lawEnv (w : World) (F : Nat → Prop) : Env P := { w := w, F := F, N := 0, ρ := fun b => b, wd := fun _ => 0 }

/-- Where the program has none of the tables, nothing is asked. -/
theorem laid_none {w : World} {F : Nat → Prop} (h : (tables.all fun t => (P.globalNamed t.1).isNone) = true) : Laid P w F := fun t ht g hg => by
  have := List.all_eq_true.1 h t ht
  simp only [hg] at this
  cases this
theorem law_walk {P : Program} {f : FuncId} {args : List AV} {vs : List Value} {w : World} {F : Nat → Prop} (hgo : isGo P f) (h : CallA P f args [] (Ret (.bool true) [])) (hF : ∀ c, F c → c < w.heap.size)
    (hl : vs.length = args.length) (hv : ∀ (i : Nat) a v, args[i]? = some a → vs[i]? = some v → RV (lawEnv (P := P) w F) a v) (hT : Laid P w F) :
    Calls P f vs.toArray w fun e w' => e = .returned (.bool true) ∧ Below w.heap.size w w' := by
  have H : HRel (lawEnv (P := P) w F) [] := ⟨rfl, by simp, by simp, by simp, by simp, hF, hT⟩
  rcases h (lawEnv w F) vs H hl hv with ⟨_, hc⟩ | ⟨v, w', hrun, _⟩
  case inr => rw [callFunc_go hgo] at hrun; cases hrun
  refine hc.mono ?_
  rintro e w' ⟨v, rfl, r, hp', E', hw, ⟨rfl, rfl⟩, hrv, H', F'⟩
  cases hrv
  subst hw
  exact ⟨rfl, F'.os, F'.tape, F'.output, F'.size, fun k hk => F'.block k hk fun b hb => by obtain ⟨q, hq, _⟩ := hb; simp at hq⟩
end Go.Abs
