/- The abstract layer, part L: what a piece of code owes; loops; functions. -/
import Derived.Test.YtdhomifcjakbgaaDoorAbsK
import Derived.Deep.LoopGhost
set_option linter.unusedSimpArgs false
set_option linter.unusedVariables false
namespace Go.Abs
open Go
variable {P : Program}

def liftQ (E0 : Env P) (hp0 : List Blk) (Q : Ex → St → Prop) : Exit → Act → World → Prop := fun e a w => ∃ (ex : Ex) (st : St) (E : Env P), e = Ex.up ex ∧ E.w = w ∧ SR E0 hp0 E st a ∧ Q ex st

section
variable (P : Program)

/-- A piece of code does what 'Q' says, wherever it stands. -/
def CodeA (n0 : Nat) (c : Code) (st : St) (Q : Ex → St → Prop) : Prop :=
  ∀ (E0 : Env P) (hp0 : List Blk) (E : Env P) (a : Act), hp0.length = n0 → SR E0 hp0 E st a → c.wp P (liftQ E0 hp0 Q) a E.w

/-- What a piece of code owes. -/
def vc (md : Nat → List Bool) (n0 : Nat) : Code → St → (Ex → St → Prop) → Prop
  | .skip, st, Q => Q .normal st
  | .region id ops draw, st, Q => match draw with
    | false => runOps P n0 ops.toList ops.toList st (Q .normal)
    | true => match md id with
      | [] => CodeA P n0 (.region id ops true) st Q
      | m :: ms => runQ P n0 ops.toList (m :: ms) ops.toList st (Q .normal)
  | .seq a b, st, Q => vc md n0 a st fun e st' => match e with
    | .normal => vc md n0 b st' Q
    | .exit i => Q (.exit i) st'
    | .ret => Q .ret st'
  | .cond c x y, st, Q => match st.ev c with
    | .bool b => brk b (vc md n0 x st Q) (vc md n0 y st Q)
    | _ => False
  | .block id c, st, Q => vc md n0 c st fun e st' => match e with
    | .normal => Q .normal st'
    | .exit i => if i = id then Q .normal st' else Q (.exit i) st'
    | .ret => Q .ret st'
  | .loop c, st, Q => CodeA P n0 (.loop c) st Q
  | .exit id, st, Q => Q (.exit id) st
  | .ret, st, Q => Q .ret st
  | _, _, _ => False
end

section
variable {P : Program}

theorem vc_sound {md : Nat → List Bool} (hm : P.follows .mixedOrders = true) {n0 : Nat} : ∀ (c : Code) (st : St) (Q : Ex → St → Prop), modesOk md c = true → vc P md n0 c st Q → CodeA P n0 c st Q
  | .skip, st, Q, _, h => fun E0 hp0 E a hn hs => wp_skip ⟨.normal, st, E, rfl, rfl, hs, h⟩
  | .region id ops draw, st, Q, hok, h => fun E0 hp0 E a hn hs => by
    subst hn
    cases draw with
    | false =>
      have := runOps_sound (P := P) ops.toList (Q := liftQ E0 hp0 Q) ops.toList st _ h E a hs fun E' st' a' hs' hk => ⟨.normal, st', E', rfl, rfl, hs', hk⟩
      exact wp_region_list (by simpa using this)
    | true =>
      cases hmd : md id with
      | nil =>
        have h' : CodeA P hp0.length (.region id ops true) st Q := by
          simp only [vc, hmd] at h
          exact h
        exact h' E0 hp0 E a rfl hs
      | cons m0 ms0 =>
      have hne : (md id).isEmpty = false := by rw [hmd]; rfl
      have h : runQ P hp0.length ops.toList (md id) ops.toList st (Q .normal) := by
        simp only [vc, hmd] at h
        rw [hmd]; exact h
      simp only [modesOk, hne, Bool.false_or, Bool.and_eq_true, beq_iff_eq] at hok
      have h1 := anyA_lex (P := P) (n0 := hp0.length) (ops := ops.toList) (msA := md id) (K := Q .normal) ops.toList (md id) 0 (Array.replicate ops.size false) st (fun j => by simp) (fun j => by simp) (by simpa using hok.2) h
      refine wp_region_any hm ?_
      have hs' : SR E0 hp0 (E.with { E.w with drawn := E.w.drawn + 1 }) st a := ⟨hs.hr.with (Same.drew _ _), hs.fr.with (Same.drew _ _), hs.len, fun i v u a1 a2 => (hs.tm i v u a1 a2).mono (Env.le_with (Same.drew _ _)), hs.df⟩
      have h2 := anyA_sound (P := P) (Q := liftQ E0 hp0 Q) (fun E st a hs hk => ⟨.normal, st, E, rfl, rfl, hs, hk⟩) _ _ _ st a hs' h1
      rw [show ops.toList.toArray = ops from by simp, show ops.toList.length = ops.size from by simp] at h2
      exact h2
  | .seq x y, st, Q, hok, h => fun E0 hp0 E a hn hs => by
    simp only [modesOk, Bool.and_eq_true] at hok
    have h1 := vc_sound hm x st _ hok.1 h E0 hp0 E a hn hs
    refine wp_seq (wp_mono h1 fun e a' w' ⟨ex, st', E', he, hw, hs', hq⟩ => ?_)
    subst he; subst hw
    cases ex with
    | normal => exact vc_sound hm y st' Q hok.2 hq E0 hp0 E' a' hn hs'
    | exit i => exact ⟨.exit i, st', E', rfl, rfl, hs', hq⟩
    | ret => exact ⟨.ret, st', E', rfl, rfl, hs', hq⟩
  | .cond c x y, st, Q, hok, h => fun E0 hp0 E a hn hs => by
    simp only [modesOk, Bool.and_eq_true] at hok
    unfold vc at h
    split at h
    · rename_i b hb
      have hev := hs.ev c
      rw [hb] at hev
      generalize hg : a.eval c = u at hev
      cases hev
      refine wp_cond_split hg (fun hb' => ?_) (fun hb' => ?_)
      · exact vc_sound hm x st Q hok.1 (h.1 hb') E0 hp0 E a hn hs
      · exact vc_sound hm y st Q hok.2 (h.2 hb') E0 hp0 E a hn hs
    · exact h.elim
  | .block id c, st, Q, hok, h => fun E0 hp0 E a hn hs => by
    have h1 := vc_sound hm c st _ hok h E0 hp0 E a hn hs
    refine wp_block (wp_mono h1 fun e a' w' ⟨ex, st', E', he, hw, hs', hq⟩ => ?_)
    subst he; subst hw
    cases ex with
    | normal => exact ⟨.normal, st', E', rfl, rfl, hs', hq⟩
    | exit i =>
      simp only [Ex.up, Exit.inBlock]
      simp only [] at hq
      by_cases hi : i = id
      · rw [if_pos hi] at hq ⊢
        exact ⟨.normal, st', E', rfl, rfl, hs', hq⟩
      · rw [if_neg hi] at hq ⊢
        exact ⟨.exit i, st', E', rfl, rfl, hs', hq⟩
    | ret => exact ⟨.ret, st', E', rfl, rfl, hs', hq⟩
  | .loop c, st, Q, _, h => h
  | .exit id, st, Q, _, h => fun E0 hp0 E a hn hs => wp_exit ⟨.exit id, st, E, rfl, rfl, hs, h⟩
  | .ret, st, Q, _, h => fun E0 hp0 E a hn hs => wp_ret ⟨.ret, st, E, rfl, rfl, hs, h⟩
  | .rangeFunc .., _, _, _, h => h.elim
  | .scope _, _, _, _, h => h.elim
  | .label _, _, _, _, h => h.elim
  | .goto _, _, _, _, h => h.elim
  | .refuse _, _, _, _, h => h.elim

/-- A region whose order is drawn, told order by order. -/
theorem draw_sound (hm : P.follows .mixedOrders = true) {n0 : Nat} {id : Nat} {ops : Array Oper} {st : St} {Q : Ex → St → Prop} {K : St → Prop}
    (hK : ∀ (E0 : Env P) (hp0 : List Blk) (E : Env P) (st : St) (a : Act), hp0.length = n0 → SR E0 hp0 E st a → K st → ∃ E' st', E'.w = E.w ∧ SR E0 hp0 E' st' a ∧ Q .normal st')
    (h : anyA P n0 ops.toList [] K ops.size (Array.replicate ops.size false) st) : CodeA P n0 (.region id ops true) st Q := by
  intro E0 hp0 E a hn hs
  subst hn
  refine wp_region_any hm ?_
  have hs' : SR E0 hp0 (E.with { E.w with drawn := E.w.drawn + 1 }) st a := ⟨hs.hr.with (Same.drew _ _), hs.fr.with (Same.drew _ _), hs.len, fun i v u a1 a2 => (hs.tm i v u a1 a2).mono (Env.le_with (Same.drew _ _)), hs.df⟩
  have h2 := anyA_sound (P := P) (Q := liftQ E0 hp0 Q) (fun E st a hs hk => by
    obtain ⟨E', st', h1, h2, h3⟩ := hK E0 hp0 E st a rfl hs hk
    exact ⟨.normal, st', E', rfl, h1, h2, h3⟩) _ _ _ st a hs' h
  rw [show ops.toList.toArray = ops from by simp] at h2
  exact h2

/-- What holds at each step of any order holds at its end. -/
theorem any_inv {n0 : Nat} {ops : List Oper} {ms : List Bool} {K : St → Prop} (I : Array Bool → St → Prop) (step : ∀ listed st i, I listed st → i ∈ Region.ready .any ops.toArray listed → stepA P n0 ops ms i (fun st' => I (listed.setIfInBounds i true) st') st)
    (fin : ∀ listed st, I listed st → Region.ready .any ops.toArray listed = [] → K st) (full : ∀ listed st, I listed st → Region.ready .any ops.toArray listed ≠ [] → listed.toList.count true < ops.length)
    (mono : ∀ (n : Nat) (K1 K2 : St → Prop) i st, (∀ st, K1 st → K2 st) → stepA P n0 ops ms i K1 st → stepA P n0 ops ms i K2 st) (one : ∀ listed i, i ∈ Region.ready .any ops.toArray listed → (listed.setIfInBounds i true).toList.count true = listed.toList.count true + 1) :
    ∀ (fuel : Nat) (listed : Array Bool) (st : St), ops.length ≤ fuel + listed.toList.count true → I listed st → anyA P n0 ops ms K fuel listed st
  | 0, listed, st, hf, hI => by
    have h0 : Region.ready .any ops.toArray listed = [] := by
      apply Decidable.byContradiction
      intro hne
      have := full listed st hI hne
      omega
    exact ⟨h0, fin listed st hI h0⟩
  | fuel + 1, listed, st, hf, hI => ⟨fun h0 => fin listed st hI h0, fun i hi =>
      mono 0 _ _ i st (fun st' hI' => any_inv I step fin full mono one fuel _ st' (by rw [one listed i hi]; omega) hI') (step listed st i hI hi)⟩

/-- One state says no more than the other. -/
def Weak (n0 : Nat) (st st2 : St) : Prop := ∀ (P : Program) (E0 : Env P) (hp0 : List Blk) (E : Env P) (a : Act), hp0.length = n0 → SR E0 hp0 E st a → ∃ E2, E2.w = E.w ∧ SR E0 hp0 E2 st2 a

/-- A loop: an invariant that bears something, and a number that every round lowers. -/
theorem loop_rule {σ : Type} {md : Nat → List Bool} (hm : P.follows .mixedOrders = true) {n0 : Nat} {c : Code} (hok : modesOk md c = true) {st : St} {Q : Ex → St → Prop} (I : σ → St) (μ : σ → Nat) (s0 : σ) (h0 : Weak n0 st (I s0))
    (round : ∀ s, vc P md n0 c (I s) fun e st' => match e with
      | .normal => ∃ s', μ s' < μ s ∧ Weak n0 st' (I s')
      | .exit i => Q (.exit i) st'
      | .ret => Q .ret st') : CodeA P n0 (.loop c) st Q := by
  intro E0 hp0 E a hn hs
  obtain ⟨E2, hw, hs2⟩ := h0 _ E0 hp0 E a hn hs
  rw [← hw]
  refine wp_loop_ghost (fun n a w => ∃ s E, μ s = n ∧ E.w = w ∧ SR E0 hp0 E (I s) a) (μ s0) ⟨s0, E2, rfl, rfl, hs2⟩ ?_
  rintro n a w ⟨s, E, rfl, rfl, hs⟩
  have h1 := vc_sound hm c (I s) _ hok (round s) E0 hp0 E a hn hs
  refine wp_mono h1 fun e a' w' ⟨ex, st', E', he, hw', hs', hq⟩ => ?_
  subst he; subst hw'
  cases ex with
  | normal =>
    obtain ⟨s', hlt, hwk⟩ := hq
    obtain ⟨E3, hw3, hs3⟩ := hwk _ E0 hp0 E' a' hn hs'
    exact ⟨μ s', hlt, s', E3, rfl, hw3, hs3⟩
  | exit i => exact ⟨.exit i, st', E', rfl, rfl, hs', hq⟩
  | ret => exact ⟨.ret, st', E', rfl, rfl, hs', hq⟩

theorem CodeA.mono {n0 : Nat} {c : Code} {st : St} {Q Q' : Ex → St → Prop} (h : CodeA P n0 c st Q) (hq : ∀ e st, Q e st → Q' e st) : CodeA P n0 c st Q' :=
  fun E0 hp0 E a hn hs => wp_mono (h E0 hp0 E a hn hs) fun e a' w' ⟨ex, st', E', he, hw, hs', hQ⟩ => ⟨ex, st', E', he, hw, hs', hq _ _ hQ⟩
theorem CallA.mono {f : FuncId} {args : List AV} {hp : List Blk} {Q Q' : AV → List Blk → Prop} (h : CallA P f args hp Q) (hq : ∀ r hp', Q r hp' → Q' r hp') : CallA P f args hp Q' :=
  fun E vs H hl hr => (h E vs H hl hr).mono fun v w' ⟨r, hp', E', h2, h3, h4⟩ => ⟨r, hp', E', h2, hq _ _ h3, h4⟩

/-- What is returned, told with fewer blocks. -/
def WeakR (n0 : Nat) (r : AV) (hp : List Blk) (r2 : AV) (hp2 : List Blk) : Prop := ∀ (P : Program) (E0 : Env P) (hp0 : List Blk) (E : Env P) (v : Value), hp0.length = n0 → HRel E hp → Fr E0 hp0 E hp → RV E r v → ∃ E2, E2.w = E.w ∧ HRel E2 hp2 ∧ Fr E0 hp0 E2 hp2 ∧ RV E2 r2 v

/-- What is returned, told with fewer blocks, is of 'Q'. -/
def PostR (n0 : Nat) (r : AV) (hp : List Blk) (Q : AV → List Blk → Prop) : Prop := ∃ r2 hp2, WeakR n0 r hp r2 hp2 ∧ Q r2 hp2
def retQ (P : Program) (fn : Func) (n0 : Nat) (Q : AV → List Blk → Prop) : Ex → St → Prop
  | .normal, st | .ret, st => resL P fn.results.toList st fun l => PostR n0 (oneA l) st.hp Q
  | .exit _, _ => False

theorem resL_sound {E0 : Env P} {hp0 : List Blk} {E : Env P} {st : St} {a : Act} (hs : SR E0 hp0 E st a) : ∀ (rs : List ResultVar) (k : List AV → Prop), resL P rs st k →
    ∃ l vs, k l ∧ (rs.mapM fun (r : ResultVar) => match r with
      | .tmp t => (pure (a.tmps.getD t undef) : Sem Value)
      | .cell x t => do loadVar t (← asAddr (a.tmps.getD x undef))).run P E.w = .ok vs E.w ∧ vs.length = l.length ∧ ∀ (i : Nat) c v, l[i]? = some c → vs[i]? = some v → RV E c v
  | [], k, h => ⟨[], [], h, by simp, rfl, fun i c v h => by simp at h⟩
  | .tmp t :: rs, k, h => by
    obtain ⟨l, vs, hk, hr, hl, hv⟩ := resL_sound hs rs _ h
    refine ⟨_, a.tmps.getD t undef :: vs, hk, ?_, by simp [hl], fun i c v h1 h2 => ?_⟩
    · simp only [List.mapM_cons, Sem.run_bind, Sem.run_pure, Result.andThen_ok, hr]
    · cases i with
      | zero => simp only [List.getElem?_cons_zero, Option.some.injEq] at h1 h2; subst h1; subst h2; exact hs.slot t
      | succ i => exact hv i c v (by simpa using h1) (by simpa using h2)
  | .cell x t :: rs, k, h => by
    obtain ⟨av, hk0, hld⟩ := loadA_sound h
    obtain ⟨l, vs, hk, hr, hl, hv⟩ := resL_sound hs rs _ hk0
    obtain ⟨u, hu, hru⟩ := hld E _ hs.hr (hs.ev (.tmp x))
    refine ⟨_, u :: vs, hk, ?_, by simp [hl], fun i c v h1 h2 => ?_⟩
    · have hu' : (do loadVar t (← asAddr (a.tmps.getD x undef)) : Sem Value).run P E.w = .ok u E.w := by
        have e : a.eval (.tmp x) = a.tmps.getD x undef := rfl
        rw [e] at hu
        generalize a.tmps.getD x undef = z at hu ⊢
        cases z with
        | pointer p =>
          cases p with
          | none => simp [Instr.loadAt, Instr.sureAddr, Result.andThen] at hu
          | some p => simpa [Instr.loadAt, Instr.sureAddr, asAddr, Result.andThen] using hu
        | _ => simp [Instr.loadAt, Instr.sureAddr, Result.andThen] at hu
      simp only [List.mapM_cons]
      rw [Sem.run_bind, hu']
      simp only [Result.andThen_ok, Sem.run_bind, hr, Sem.run_pure]
    · cases i with
      | zero => simp only [List.getElem?_cons_zero, Option.some.injEq] at h1 h2; subst h1; subst h2; exact hru
      | succ i => exact hv i c v (by simpa using h1) (by simpa using h2)

theorem run_results {fn : Func} {E0 : Env P} {hp0 : List Blk} {E : Env P} {st : St} {a : Act} (hs : SR E0 hp0 E st a) {k : List AV → Prop} (h : resL P fn.results.toList st k) : ∃ l v, k l ∧ (results fn a.tmps).run P E.w = .ok v E.w ∧ RV E (oneA l) v := by
  obtain ⟨l, vs, hk, hr, hl, hv⟩ := resL_sound hs _ _ h
  have hm : (fn.results.mapM fun (r : ResultVar) => match r with
      | .tmp t => (pure (a.tmps.getD t undef) : Sem Value)
      | .cell x t => do loadVar t (← asAddr (a.tmps.getD x undef))).run P E.w = .ok vs.toArray E.w := by
    rw [Array.mapM_eq_mapM_toList]
    simp only [Sem.run_map, hr, Result.andThen_ok]
  have hrun : (results fn a.tmps).run P E.w = .ok (if h : vs.toArray.size = 1 then vs.toArray[0] else .tuple vs.toArray) E.w := by
    unfold results
    rw [Sem.run_bind]
    exact Eq.trans (congrArg (fun r => Result.andThen r _) hm) rfl
  refine ⟨l, _, hk, hrun, ?_⟩
  unfold oneA
  split
  · rename_i x
    match vs, hl, hv with
    | [v], _, hv => exact hv 0 x v rfl rfl
  · rename_i hn
    have : ¬ vs.toArray.size = 1 := by
      intro h1
      have h1' : l.length = 1 := by rw [← hl]; simpa using h1
      obtain ⟨x, hx⟩ := List.length_eq_one_iff.1 h1'
      exact hn x hx
    rw [dif_neg this]
    exact .tup _ _ (by simp [hl]) fun i c v h1 h2 => hv i c v h1 (by simpa using h2)

/-- A function of the Go text. -/
theorem call_intro {f : FuncId} {fn : Func} {c : Code} {md : Nat → List Bool} {args : List AV} {hp : List Blk} {Q : AV → List Blk → Prop} (hm : P.follows .mixedOrders = true) (hf : P.funcs[f]? = some fn) (hb : fn.body = some c) (hgo : isGo P f) (hok : modesOk md c = true)
    (h : vc P md hp.length c ⟨args ++ List.replicate (fn.ntmps - args.length) .any, hp⟩ (retQ P fn hp.length Q)) : CallA P f args hp Q := by
  refine fun E vs H hl hrv => .inl ⟨hgo, ?_⟩
  refine calls_of_wp hf hb ?_
  have hs : SR E hp E ⟨args ++ List.replicate (fn.ntmps - args.length) .any, hp⟩ { tmps := vs.toArray ++ Array.replicate (fn.ntmps - vs.toArray.size) undef, defers := [] } := by
    refine ⟨H, Fr.refl E hp, by simp [hl], fun i v u h1 h2 => ?_, rfl⟩
    simp only [List.getElem?_append] at h1
    by_cases hi : i < args.length
    · rw [if_pos hi] at h1
      have h2' : vs[i]? = some u := by
        have hlt : i < vs.toArray.size := by simp [hl]; exact hi
        rw [Array.getElem?_append_left hlt] at h2
        simpa using h2
      exact hrv i v u h1 h2'
    · rw [if_neg hi] at h1
      rw [List.getElem?_replicate] at h1
      split at h1
      · cases h1; exact .any _
      · cases h1
  refine wp_mono (vc_sound hm c _ _ hok h E hp E _ rfl hs) fun e a' w' ⟨ex, st', E', he, hw, hs', hq⟩ => ?_
  subst he; subst hw
  have fin : (resL P fn.results.toList st' fun l => ∃ r2 hp2, WeakR hp.length (oneA l) st'.hp r2 hp2 ∧ Q r2 hp2) → a'.defers = [] ∧ ∃ v, (results fn a'.tmps).run P E'.w = .ok v E'.w ∧ ∃ v', Ending.returned v = .returned v' ∧ ∃ r hp' E'', E''.w = E'.w ∧ Q r hp' ∧ RV E'' r v' ∧ HRel E'' hp' ∧ Fr E hp E'' hp' := by
    intro hres
    obtain ⟨l, v, ⟨r2, hp2, hwk, hQ⟩, hrun, hv⟩ := run_results (P := P) hs' hres
    obtain ⟨E2, hw2, H2, F2, hv2⟩ := hwk _ E hp E' v rfl hs'.hr hs'.fr hv
    exact ⟨hs'.df, v, hrun, v, rfl, r2, hp2, E2, hw2, hQ, hv2, H2, F2⟩
  cases ex with
  | normal => exact fin hq
  | ret => exact fin hq
  | exit i => exact hq.elim
end
end Go.Abs
