/- The abstract layer, part Z6: a function's code, piece by piece: what comes later stands apart; ways that meet again. -/
import Derived.Test.YtdhomifcjakbgaaDoorAbsZ4
set_option linter.unusedSimpArgs false
set_option linter.unusedVariables false
namespace Go.Abs
open Go
variable {P : Program}
section
variable {P : Program}
theorem V_def {md : Nat → List Bool} {n0 : Nat} {c : Code} {Q : Ex → St → Prop} {t} {st : St} : V P md n0 c Q t st = vc P md n0 c st Q := by delta V; rfl
theorem Lp_def {n0 : Nat} {c : Code} {Q : Ex → St → Prop} {t} {st : St} : Lp P n0 c Q t st = CodeA P n0 c st Q := by delta Lp; rfl
theorem callA_code {f : FuncId} {fn : Func} {c : Code} {args : List AV} {hp : List Blk} {Q : AV → List Blk → Prop} (hf : P.funcs[f]? = some fn) (hb : fn.body = some c) (hgo : isGo P f)
    (h : CodeA P hp.length c ⟨args ++ List.replicate (fn.ntmps - args.length) .any, hp⟩ (retQ P fn hp.length Q)) : CallA P f args hp Q := by
  refine fun E vs H hl hrv => .inl ⟨hgo, ?_⟩
  refine calls_of_wp hf hb ?_
  have hs : SR E hp E ⟨args ++ List.replicate (fn.ntmps - args.length) .any, hp⟩ { tmps := vs.toArray ++ Array.replicate (fn.ntmps - vs.toArray.size) undef, defers := [] } := by
    refine ⟨H, Fr.refl E hp, by simp [hl], fun i v u h1 h2 => ?_, rfl⟩
    simp only [List.getElem?_append] at h1
    by_cases hi : i < args.length
    · rw [if_pos hi] at h1
      have h2' : vs[i]? = some u := by
        have hlt : i < vs.toArray.size := by simp [hl]; exact hi
        rw [Array.getElem?_append_left hlt] at h2
        simpa using h2
      exact hrv i v u h1 h2'
    · rw [if_neg hi] at h1
      rw [List.getElem?_replicate] at h1
      split at h1
      · cases h1; exact .any _
      · cases h1
  refine wp_mono (h E hp E _ rfl hs) fun e a' w' ⟨ex, st', E', he, hw, hs', hq⟩ => ?_
  subst he; subst hw
  have fin : (resL P fn.results.toList st' fun l => ∃ r2 hp2, WeakR hp.length (oneA l) st'.hp r2 hp2 ∧ Q r2 hp2) → a'.defers = [] ∧ ∃ v, (results fn a'.tmps).run P E'.w = .ok v E'.w ∧ ∃ v', Ending.returned v = .returned v' ∧ ∃ r hp' E'', E''.w = E'.w ∧ Q r hp' ∧ RV E'' r v' ∧ HRel E'' hp' ∧ Fr E hp E'' hp' := by
    intro hres
    obtain ⟨l, v, ⟨r2, hp2, hwk, hQ⟩, hrun, hv⟩ := run_results (P := P) hs' hres
    obtain ⟨E2, hw2, H2, F2, hv2⟩ := hwk _ E hp E' v rfl hs'.hr hs'.fr hv
    exact ⟨hs'.df, v, hrun, v, rfl, r2, hp2, E2, hw2, hQ, hv2, H2, F2⟩
  cases ex with
  | normal => exact fin hq
  | ret => exact fin hq
  | exit i => exact hq.elim

/-- Into a function, piece by piece. -/
theorem go_pieces {f : FuncId} {fn : Func} {c : Code} {args : List AV} {hp : List Blk} {Q : AV → List Blk → Prop} (hf : P.funcs[f]? = some fn) (hb : fn.body = some c) (hgo : isGo P f)
    (h : Lp P hp.length c (retQ P fn hp.length Q) .mk ⟨args ++ List.replicate (fn.ntmps - args.length) .any, hp⟩) : CallP P f args hp Q .mk := by
  rw [Lp_def] at h
  delta CallP
  exact callA_code hf hb hgo h

variable {n0 : Nat} {Q : Ex → St → Prop} {st : St}
/-- The last piece, or one that is walked whole. -/
theorem lp_whole (hm : P.follows .mixedOrders = true) {md : Nat → List Bool} {c : Code} {t} (hok : modesOk md c = true) (h : V P md n0 c Q .mk st) : Lp P n0 c Q t st := by
  rw [V_def] at h
  rw [Lp_def]
  exact vc_sound hm c st Q hok h
theorem code_seq {a b : Code} (h : CodeA P n0 a st fun e st' => match e with
    | .normal => CodeA P n0 b st' Q
    | .exit i => Q (.exit i) st'
    | .ret => Q .ret st') : CodeA P n0 (.seq a b) st Q := by
  intro E0 hp0 E s hn hs
  refine wp_seq (wp_mono (h E0 hp0 E s hn hs) fun e a' w' ⟨ex, st', E', he, hw, hs', hq⟩ => ?_)
  subst he; subst hw
  cases ex with
  | normal => exact hq E0 hp0 E' a' hn hs'
  | exit i => exact ⟨.exit i, st', E', rfl, rfl, hs', hq⟩
  | ret => exact ⟨.ret, st', E', rfl, rfl, hs', hq⟩
theorem code_weak {c : Code} {st2 : St} (hw : Weak n0 st st2) (h : CodeA P n0 c st2 Q) : CodeA P n0 c st Q := by
  intro E0 hp0 E s hn hs
  obtain ⟨E2, h1, h2⟩ := hw _ E0 hp0 E s hn hs
  rw [← h1]
  exact h E0 hp0 E2 s hn h2
/-- A piece, and what comes later, of which nothing is seen till it comes. -/
theorem lp_seq (hm : P.follows .mixedOrders = true) {md : Nat → List Bool} {a b : Code} {t} (hok : modesOk md a = true)
    (h : ∀ Z : St → Prop, (∀ st', Lp P n0 b Q .mk st' → Z st') → V P md n0 a (fun e st' => match e with
      | .normal => Z st'
      | .exit i => Q (.exit i) st'
      | .ret => Q .ret st') .mk st) : Lp P n0 (.seq a b) Q t st := by
  have h1 := h (fun st' => CodeA P n0 b st' Q) (fun st' hl => by rw [Lp_def] at hl; exact hl)
  rw [V_def] at h1
  rw [Lp_def]
  exact code_seq (vc_sound hm a st _ hok h1)
/-- A piece whose ways meet again in a state of one's choice. -/
theorem lp_join {σ : Type} (I : σ → St) (hm : P.follows .mixedOrders = true) {md : Nat → List Bool} {a b : Code} {t} (hok : modesOk md a = true) (hrest : ∀ s, Lp P n0 b Q .mk (I s))
    (h : ∀ Z : St → Prop, (∀ s st', Weak n0 st' (I s) → Z st') → V P md n0 a (fun e st' => match e with
      | .normal => Z st'
      | .exit i => Q (.exit i) st'
      | .ret => Q .ret st') .mk st) : Lp P n0 (.seq a b) Q t st := by
  have h1 := h (fun st' => CodeA P n0 b st' Q) (fun s st' hw => by
    have := hrest s
    rw [Lp_def] at this
    exact code_weak hw this)
  rw [V_def] at h1
  rw [Lp_def]
  exact code_seq (vc_sound hm a st _ hok h1)
/-- A loop ahead of what comes later, of which nothing is seen till it comes. -/
theorem lp_hide {c : Code} {t} (h : ∀ Q' : Ex → St → Prop, (∀ e st', Q e st' → Q' e st') → Lp P n0 c Q' .mk st) : Lp P n0 c Q t st := h Q (fun _ _ h => h)
end
end Go.Abs
