/- The law FnExactRakeWeights returns true: no condition. -/
import Derived.Test.YtiecjfmokfhekaaLawRake
import Derived.Test.YtiecjfmokfhekaaAbsU
import Derived.Test.YtiecjfmokfhekaaAbsX
import Derived.Test.YtiecjfmokfhekaaRows
import Derived.WalkKit
import Derived.ProofKit
import Derived.OpenShut
import Derived.ShutString
import Derived.ChangeOld
import Derived.Below
import Derived.Laws.Cover2
namespace Go.Proofs.Ytiecjfmokfhekaa.LExactRakeWeights
open Go Go.Abs Go.ChangeShapes Go.WideShapes Go.ChangeAt Go.RowKit
set_option linter.unusedVariables false

theorem own : ownKnob Try.prog.godebug = none := by kernel_rfl
theorem laidOut : laidOutB Try.prog = true := by kernel_rfl

set_option maxRecDepth 100000 in
theorem walk (l0 : AV) (x0 : Value) (l1 : AV) (x1 : Value) (l2 : AV) (x2 : Value) (l3 : AV) (x3 : Value) (l4 : AV) (x4 : Value) (l5 : AV) (x5 : Value) (w : World) (rv0 : RV (lawEnv w fun c => c < w.heap.size) l0 x0) (of0 : OfT Try.prog 8 22 [l0]) (rv1 : RV (lawEnv w fun c => c < w.heap.size) l1 x1) (of1 : OfT Try.prog 8 23 [l1]) (rv2 : RV (lawEnv w fun c => c < w.heap.size) l2 x2) (of2 : OfT Try.prog 8 23 [l2]) (rv3 : RV (lawEnv w fun c => c < w.heap.size) l3 x3) (of3 : OfT Try.prog 8 22 [l3]) (rv4 : RV (lawEnv w fun c => c < w.heap.size) l4 x4) (of4 : OfT Try.prog 8 22 [l4]) (rv5 : RV (lawEnv w fun c => c < w.heap.size) l5 x5) (of5 : OfT Try.prog 8 2 [l5]) :
    Calls Try.prog 3 #[x0, x1, x2, x3, x4, x5] w fun e w' => e = .returned (.bool true) ∧ Below w.heap.size w w' :=
  law_walk go3 (vs := [x0, x1, x2, x3, x4, x5]) (F := fun c => c < w.heap.size) (exactRake l0 l1 l2 l3 l4 l5 of0 of1 of2 of3 of4 of5) (fun _ h => h) rfl (rvs_cons rv0 (rvs_cons rv1 (rvs_cons rv2 (rvs_cons rv3 (rvs_cons rv4 (rvs_cons rv5 rvs_nil))))))

set_option maxRecDepth 100000 in
theorem lifted (os : Os) (started : os.Started) (H : Type) (enc : TypeId × Value → H) :
    ReturnsInHanded {} Try.checked os 3 .any (Rows.fnExactRakeWeightsSpec.pre6 enc Try.prog Try.f3 Rows.fnExactRakeWeightsRow.domain false) (Rows.fnExactRakeWeightsSpec.post enc Try.prog Try.f3 false true false false) := by
  refine returnsInHanded_of_change (C := Try.checked) own started (by kernel_rfl) Try.func3
    (ChangeSpec.witness6 (enc := enc) (C := Try.checked) false ⟨#[], #[.slice none 0 0, .slice none 0 0, .slice none 0 0, .slice none 0 0, .slice none 0 0, .int .i64 0], []⟩ 8 (by kernel_rfl) (by kernel_rfl) (by kernel_rfl) (by kernel_rfl)) ?_
  intro W base args ds gs before hval0 hW hcnd _
  have hval : ∀ (j : Nat) t v, Try.f3.params[j]? = some t → args[j]? = some v → Value.okWide Try.prog W .any base t v := hval0
  have hW' := hW
  obtain ⟨p, q, hA0, hV, rfl, hfz, hnd⟩ := hW
  have hA : DataW.TrodAll enc Try.prog W 0 (fun _ => true) true Try.f3.params.toList args.toList ds p := hA0
  rw [Try.params3] at hA hval
  obtain ⟨v0, vs0, d0, ds0, p0, q0, hargs, rfl, rfl, h0, r0⟩ := trodAll_cons hA
  obtain ⟨v1, vs1, d1, ds1, p1, q1, rfl, rfl, rfl, h1, r1⟩ := trodAll_cons r0
  obtain ⟨v2, vs2, d2, ds2, p2, q2, rfl, rfl, rfl, h2, r2⟩ := trodAll_cons r1
  obtain ⟨v3, vs3, d3, ds3, p3, q3, rfl, rfl, rfl, h3, r3⟩ := trodAll_cons r2
  obtain ⟨v4, vs4, d4, ds4, p4, q4, rfl, rfl, rfl, h4, r4⟩ := trodAll_cons r3
  obtain ⟨v5, vs5, d5, ds5, p5, q5, rfl, rfl, rfl, h5, r5⟩ := trodAll_cons r4
  obtain ⟨rfl, rfl, rfl⟩ := trodAll_nil r5
  obtain rfl : args = #[v0, v1, v2, v3, v4, v5] := by cases args; simp_all
  obtain ⟨rfl, rfl⟩ := trodVars_none hV
  obtain ⟨a0, len0, cap0, rfl⟩ := okWide_slice Try.underlying22 (hval 0 22 v0 rfl rfl)
  have k0 := h0
  have lt0 : ∀ x ∈ p0, x.block < W.heap.size := by obtain ⟨m, hm⟩ := k0; exact DataW.trod_lt m _ _ _ hm
  obtain ⟨l0, rv0, of0⟩ := arg_one (m := 8) (by kernel_rfl) rfl h0
  obtain ⟨a1, len1, cap1, rfl⟩ := okWide_slice Try.underlying23 (hval 1 23 v1 rfl rfl)
  have k1 := h1
  have lt1 : ∀ x ∈ p1, x.block < W.heap.size := by obtain ⟨m, hm⟩ := k1; exact DataW.trod_lt m _ _ _ hm
  obtain ⟨l1, rv1, of1⟩ := arg_one (m := 8) (by kernel_rfl) rfl h1
  obtain ⟨a2, len2, cap2, rfl⟩ := okWide_slice Try.underlying23 (hval 2 23 v2 rfl rfl)
  have k2 := h2
  have lt2 : ∀ x ∈ p2, x.block < W.heap.size := by obtain ⟨m, hm⟩ := k2; exact DataW.trod_lt m _ _ _ hm
  obtain ⟨l2, rv2, of2⟩ := arg_one (m := 8) (by kernel_rfl) rfl h2
  obtain ⟨a3, len3, cap3, rfl⟩ := okWide_slice Try.underlying22 (hval 3 22 v3 rfl rfl)
  have k3 := h3
  have lt3 : ∀ x ∈ p3, x.block < W.heap.size := by obtain ⟨m, hm⟩ := k3; exact DataW.trod_lt m _ _ _ hm
  obtain ⟨l3, rv3, of3⟩ := arg_one (m := 8) (by kernel_rfl) rfl h3
  obtain ⟨a4, len4, cap4, rfl⟩ := okWide_slice Try.underlying22 (hval 4 22 v4 rfl rfl)
  have k4 := h4
  have lt4 : ∀ x ∈ p4, x.block < W.heap.size := by obtain ⟨m, hm⟩ := k4; exact DataW.trod_lt m _ _ _ hm
  obtain ⟨l4, rv4, of4⟩ := arg_one (m := 8) (by kernel_rfl) rfl h4
  obtain ⟨n5, rfl⟩ := okWide_int Try.underlying2 (hval 5 2 v5 rfl rfl)
  have k5 := h5
  have lt5 : ∀ x ∈ p5, x.block < W.heap.size := by obtain ⟨m, hm⟩ := k5; exact DataW.trod_lt m _ _ _ hm
  obtain ⟨l5, rv5, of5⟩ := arg_one (m := 8) (by kernel_rfl) rfl h5
  clear hA0 hval0
  refine (walk l0 _ l1 _ l2 _ l3 _ l4 _ l5 _ W rv0 of0 rv1 of1 rv2 of2 rv3 of3 rv4 of4 rv5 of5).mono fun e W' ⟨he, bel⟩ => ?_
  subst he
  exact ⟨_, rfl, _, _, _, [], _, [], hW', trodAll_mk1 (shut_bool Try.underlying4 _), (trodAll_cons_mk (Below.trod laidOut (by kernel_rfl) (of_decide_eq_true (by kernel_rfl)) k0 bel lt0) (trodAll_cons_mk (Below.trod laidOut (by kernel_rfl) (of_decide_eq_true (by kernel_rfl)) k1 bel lt1) (trodAll_cons_mk (Below.trod laidOut (by kernel_rfl) (of_decide_eq_true (by kernel_rfl)) k2 bel lt2) (trodAll_cons_mk (Below.trod laidOut (by kernel_rfl) (of_decide_eq_true (by kernel_rfl)) k3 bel lt3) (trodAll_cons_mk (Below.trod laidOut (by kernel_rfl) (of_decide_eq_true (by kernel_rfl)) k4 bel lt4) (trodAll_cons_mk (Below.trod laidOut (by kernel_rfl) (of_decide_eq_true (by kernel_rfl)) k5 bel lt5) trodAll_mk0)))))), rfl, bel.frame _, fun h => by cases h⟩

theorem over : Rows.fnExactRakeWeightsRow.holds Try.pinned (OpenSpec.ofChange Rows.fnExactRakeWeightsSpec) :=
  OpenClaim.holds_of_wide 3 Try.f3 rfl rfl rfl rfl rfl rfl rfl ⟨rfl, rfl, rfl, rfl, rfl⟩ rfl rfl rfl rfl rfl (by kernel_rfl) Try.func3 (by kernel_rfl)
    (of_decide_eq_true (by kernel_rfl)) (by unfold Func.isWrapper; first | (rw [if_pos (by decide +kernel)]; kernel_rfl) | (rw [if_neg (by decide +kernel)]; exact ⟨rfl, rfl⟩))
    (fun os started H enc _ => lifted os started H enc)

/-- The statement. -/
theorem proved : Rows.FnExactRakeWeightsSaid := over
end Go.Proofs.Ytiecjfmokfhekaa.LExactRakeWeights
