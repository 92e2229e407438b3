/- The law FnExactSumPeople returns true: no condition. -/
import Derived.Test.YtpnknljphgkioaaLawSum
import Derived.Test.YtpnknljphgkioaaAbsU
import Derived.Test.YtpnknljphgkioaaAbsX
import Derived.Test.YtpnknljphgkioaaRows
import Derived.WalkKit
import Derived.ProofKit
import Derived.OpenShut
import Derived.ShutString
import Derived.ChangeOld
import Derived.Below
import Derived.Laws.Cover2
namespace Go.Proofs.Ytpnknljphgkioaa.LExactSumPeople
open Go Go.Abs Go.ChangeShapes Go.WideShapes Go.ChangeAt Go.RowKit
set_option linter.unusedVariables false

theorem own : ownKnob Try.prog.godebug = none := by kernel_rfl
theorem laidOut : laidOutB Try.prog = true := by kernel_rfl

set_option maxRecDepth 100000 in
theorem walk (l0 : List AV) (x0 : Array Value) (l1 : AV) (x1 : Value) (l2 : AV) (x2 : Value) (w : World) (rv0 : RV (lawEnv w fun c => c < w.heap.size) (.agg l0) (.agg x0)) (of0 : OfT Try.prog 8 41 l0) (rv1 : RV (lawEnv w fun c => c < w.heap.size) l1 x1) (of1 : OfT Try.prog 8 2 [l1]) (rv2 : RV (lawEnv w fun c => c < w.heap.size) l2 x2) (of2 : OfT Try.prog 8 2 [l2]) :
    Calls Try.prog 5 #[.agg x0, x1, x2] w fun e w' => e = .returned (.bool true) ∧ Below w.heap.size w w' :=
  law_walk go5 (vs := [.agg x0, x1, x2]) (F := fun c => c < w.heap.size) (exactSumPeople l0 l1 l2 of0 of1 of2) (fun _ h => h) rfl (rvs_cons rv0 (rvs_cons rv1 (rvs_cons rv2 rvs_nil)))

set_option maxRecDepth 100000 in
theorem lifted (os : Os) (started : os.Started) (H : Type) (enc : TypeId × Value → H) :
    ReturnsInHanded {} Try.checked os 5 .any (Rows.fnExactSumPeopleSpec.pre6 enc Try.prog Try.f5 Rows.fnExactSumPeopleRow.domain false) (Rows.fnExactSumPeopleSpec.post enc Try.prog Try.f5 false true false false) := by
  refine returnsInHanded_of_change (C := Try.checked) own started (by kernel_rfl) Try.func5
    (ChangeSpec.witness6 (enc := enc) (C := Try.checked) false ⟨#[], #[.agg #[.slice none 0 0, .slice none 0 0, .slice none 0 0], .int .i64 0, .int .i64 0], []⟩ 8 (by kernel_rfl) (by kernel_rfl) (by kernel_rfl) (by kernel_rfl)) ?_
  intro W base args ds gs before hval0 hW hcnd _
  have hval : ∀ (j : Nat) t v, Try.f5.params[j]? = some t → args[j]? = some v → Value.okWide Try.prog W .any base t v := hval0
  have hW' := hW
  obtain ⟨p, q, hA0, hV, rfl, hfz, hnd⟩ := hW
  have hA : DataW.TrodAll enc Try.prog W 0 (fun _ => true) true Try.f5.params.toList args.toList ds p := hA0
  rw [Try.params5] at hA hval
  obtain ⟨v0, vs0, d0, ds0, p0, q0, hargs, rfl, rfl, h0, r0⟩ := trodAll_cons hA
  obtain ⟨v1, vs1, d1, ds1, p1, q1, rfl, rfl, rfl, h1, r1⟩ := trodAll_cons r0
  obtain ⟨v2, vs2, d2, ds2, p2, q2, rfl, rfl, rfl, h2, r2⟩ := trodAll_cons r1
  obtain ⟨rfl, rfl, rfl⟩ := trodAll_nil r2
  obtain rfl : args = #[v0, v1, v2] := by cases args; simp_all
  obtain ⟨rfl, rfl⟩ := trodVars_none hV
  obtain ⟨x0, rfl, _⟩ := okWide_struct Try.underlying41 (hval 0 41 v0 rfl rfl)
  have k0 := h0
  have lt0 : ∀ x ∈ p0, x.block < W.heap.size := by obtain ⟨m, hm⟩ := k0; exact DataW.trod_lt m _ _ _ hm
  obtain ⟨l0, rv0, of0⟩ := arg_agg (m := 8) (by kernel_rfl) h0
  obtain ⟨n1, rfl⟩ := okWide_int Try.underlying2 (hval 1 2 v1 rfl rfl)
  have k1 := h1
  have lt1 : ∀ x ∈ p1, x.block < W.heap.size := by obtain ⟨m, hm⟩ := k1; exact DataW.trod_lt m _ _ _ hm
  obtain ⟨l1, rv1, of1⟩ := arg_one (m := 8) (by kernel_rfl) rfl h1
  obtain ⟨n2, rfl⟩ := okWide_int Try.underlying2 (hval 2 2 v2 rfl rfl)
  have k2 := h2
  have lt2 : ∀ x ∈ p2, x.block < W.heap.size := by obtain ⟨m, hm⟩ := k2; exact DataW.trod_lt m _ _ _ hm
  obtain ⟨l2, rv2, of2⟩ := arg_one (m := 8) (by kernel_rfl) rfl h2
  clear hA0 hval0
  refine (walk l0 x0 l1 _ l2 _ W rv0 of0 rv1 of1 rv2 of2).mono fun e W' ⟨he, bel⟩ => ?_
  subst he
  exact ⟨_, rfl, _, _, _, [], _, [], hW', trodAll_mk1 (shut_bool Try.underlying4 _), (trodAll_cons_mk (Below.trod laidOut (by kernel_rfl) (of_decide_eq_true (by kernel_rfl)) k0 bel lt0) (trodAll_cons_mk (Below.trod laidOut (by kernel_rfl) (of_decide_eq_true (by kernel_rfl)) k1 bel lt1) (trodAll_cons_mk (Below.trod laidOut (by kernel_rfl) (of_decide_eq_true (by kernel_rfl)) k2 bel lt2) trodAll_mk0))), rfl, bel.frame _, fun h => by cases h⟩

theorem over : Rows.fnExactSumPeopleRow.holds Try.pinned (OpenSpec.ofChange Rows.fnExactSumPeopleSpec) :=
  OpenClaim.holds_of_wide 5 Try.f5 rfl rfl rfl rfl rfl rfl rfl ⟨rfl, rfl, rfl, rfl, rfl⟩ rfl rfl rfl rfl rfl (by kernel_rfl) Try.func5 (by kernel_rfl)
    (of_decide_eq_true (by kernel_rfl)) (by unfold Func.isWrapper; first | (rw [if_pos (by decide +kernel)]; kernel_rfl) | (rw [if_neg (by decide +kernel)]; exact ⟨rfl, rfl⟩))
    (fun os started H enc _ => lifted os started H enc)

/-- The statement. -/
theorem proved : Rows.FnExactSumPeopleSaid := over
end Go.Proofs.Ytpnknljphgkioaa.LExactSumPeople
