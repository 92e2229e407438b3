/- The abstract layer, part K: the operations of a region that draws its order. -/
import Derived.Test.YtdhomifcjakbgaaDoorAbsJ
set_option linter.unusedSimpArgs false
set_option linter.unusedVariables false
namespace Go.Abs
open Go
variable {P : Program}
section
variable {P : Program}

/-- Whether an operation is carried out. -/
def wantedA (ops : List Oper) (o : Oper) (st : St) : Option Bool :=
  match o.guard with
  | none => some true
  | some (j, b) => match guardSlot ops j with
    | some d => match st.tm.getD d .any with
      | .bool c => some (c == b)
      | .tup [] => some false
      | _ => none
    | none => none

theorem SR.wanted {E0 : Env P} {hp0 : List Blk} {E : Env P} {st : St} {a : Act} (h : SR E0 hp0 E st a) {ops : List Oper} {o : Oper} {b : Bool} (hw : wantedA ops o st = some b) : Region.wanted o (yielded ops.toArray a.tmps) = b := by
  unfold wantedA at hw
  split at hw
  · rename_i hg; cases hw; simp [Region.wanted, hg]
  · rename_i j w hg
    split at hw
    · rename_i d hd
      split at hw
      · rename_i c hc
        obtain ⟨h1, h2⟩ := h.bool hc
        have hd' : (ops[j]?).bind (·.dst) = some d := hd
        have hy : yielded ops.toArray a.tmps j = some c := by simp [yielded, hd', h1]
        cases hw
        simp [Region.wanted, hg, hy]
      · rename_i hc
        have hd' : (ops[j]?).bind (·.dst) = some d := hd
        have hy : yielded ops.toArray a.tmps j = none := by simp [yielded, hd', h.skipped hc]
        cases hw
        simp [Region.wanted, hg, hy]
      · cases hw
    · cases hw

/-- What a quiet operation, or a call whose result is named, yields, told of its operands alone. -/
def Yields (P : Program) (o : Oper) (f : Operand → AV) (hp : List Blk) (v : AV) : Prop :=
  ∀ (E : Env P) (g : Operand → Value), HRel E hp → (∀ x ∈ o.op.operands, RV E (f x) (g x)) → (∀ v, g (.const v) = v) → Runs P o g E.w fun u w' => ∃ E', E'.w = w' ∧ RV E' v u ∧ HRel E' hp ∧ Fr E hp E' hp ∧ E.le E'

theorem Yields.congr {o : Oper} {f f' : Operand → AV} {hp : List Blk} {v : AV} (h : Yields P o f hp v) (he : ∀ x ∈ o.op.operands, f x = f' x) : Yields P o f' hp v :=
  fun E g H hr hcst => h E g H (fun x hx => by rw [he x hx]; exact hr x hx) hcst

theorem Yields.quiet {o : Oper} {f : Operand → AV} {hp : List Blk} {k : AV → Prop} (h : quietA P o.op f hp k) : ∃ v, k v ∧ Yields P o f hp v := by
  obtain ⟨av, hk, hq⟩ := quietA_sound h
  refine ⟨av, hk, fun E g H hr hcst => ?_⟩
  obtain ⟨v, w', h1, h2, h3⟩ := hq E g o rfl H hr hcst
  unfold Runs
  rw [h1]
  exact ⟨E.with w', rfl, h3.mono (Env.le_with h2), H.with h2, (Fr.refl E hp).with h2, Env.le_with h2⟩

theorem Yields.call {o : Oper} {f : Operand → AV} {hp : List Blk} {c : Call} (ho : o.op = .call c) {gf : Operand} (hcl : c.callee = .value gf) {fid : FuncId} {caps : List AV} (hfn : f gf = .fn fid caps) {r : AV}
    (h : CallA P fid (c.args.toList.map f ++ caps) hp fun r' hp' => r' = r ∧ hp' = hp) : Yields P o f hp r := by
  intro E g H hr hcst
  have := call_sound (P := P) H (Fr.refl E hp) hr (k := fun r' hp' kb => (r' = r ∧ hp' = hp) ∧ kb = none) ho hcl hfn (by
    exact fun E vs a b c => (h E vs a b c).mono fun v w' ⟨r', hp', E', h2, h3, h4⟩ => ⟨r', hp', E', h2, ⟨h3, rfl⟩, h4⟩)
  unfold Runs at this ⊢
  have conv : ∀ u w', OpPost E E hp (fun r' hp' kb => (r' = r ∧ hp' = hp) ∧ kb = none) u w' → ∃ E', E'.w = w' ∧ RV E' r u ∧ HRel E' hp ∧ Fr E hp E' hp ∧ E.le E' := by
    rintro u w' ⟨E', av, hp', kb, hl⟩
    obtain ⟨⟨rfl, rfl⟩, rfl⟩ := hl.k
    exact ⟨E', hl.w, hl.rv, hl.hr, hl.fr, hl.fr.le H hl.hr⟩
  split at this
  · exact conv _ _ this
  · exact conv _ _ this
  · exact this.mono fun e w'' ⟨v, he, hp⟩ => ⟨v, he, conv _ _ hp⟩
  · exact this.elim

/-- Operation 'o' yields 'v' in state 'st'. -/
def yA (P : Program) (ops : List Oper) (o : Oper) (st : St) (v : AV) : Prop :=
  (wantedA ops o st = some true ∧ Yields P o st.ev st.hp v) ∨ (wantedA ops o st = some false ∧ v = .tup [])

/-- Operation number i comes up. -/
def stepA (P : Program) (n0 : Nat) (ops : List Oper) (ms : List Bool) (i : Nat) (K : St → Prop) (st : St) : Prop :=
  match ops[i]? with
  | none => K st
  | some o =>
    if ms.getD i true then (wantedA ops o st = some true ∧ ∃ k : AV → List Blk → Option Nat → Prop, opA P n0 o.op st.ev st.hp k ∧ ∀ v hp' kb, k v hp' kb → K ((st.after hp' kb).put o.dst v)) ∨ (wantedA ops o st = some false ∧ K (st.put o.dst (.tup [])))
    else ∃ v, yA P ops o st v ∧ K (st.put o.dst v)

/-- Whatever order is picked from here on. -/
def anyA (P : Program) (n0 : Nat) (ops : List Oper) (ms : List Bool) (K : St → Prop) : Nat → Array Bool → St → Prop
  | 0, listed, st => Region.ready .any ops.toArray listed = [] ∧ K st
  | fuel + 1, listed, st =>
    (Region.ready .any ops.toArray listed = [] → K st) ∧ ∀ i ∈ Region.ready .any ops.toArray listed, stepA P n0 ops ms i (anyA P n0 ops ms K fuel (listed.setIfInBounds i true)) st

theorem stepA_sound {E0 : Env P} {hp0 : List Blk} {ops : List Oper} {ms : List Bool} {Q : Exit → Act → World → Prop} {i : Nat} {K : St → Prop} {K' : Act → World → Prop} (hk : ∀ E st a, SR E0 hp0 E st a → K st → K' a E.w) {E : Env P} {st : St} {a : Act} (hs : SR E0 hp0 E st a)
    (h : stepA P hp0.length ops ms i K st) : wpOp P ops.toArray Q i K' a E.w := by
  unfold stepA at h
  unfold wpOp
  have hget : ops.toArray[i]? = ops[i]? := by simp
  rw [hget]
  split at h
  · rename_i hn; simp only [hn]; exact hk E st a hs h
  · rename_i o ho
    simp only [ho]
    have skip : wantedA ops o st = some false → K (st.put o.dst (.tup [])) → (if Region.wanted o (yielded ops.toArray a.tmps) = true then o.wp P a E.w K' Q ∨ o.asks P a E.w ∧ LetsOut Q else K' (a.put o.dst undef) E.w) := by
      intro hw h
      rw [if_neg (by rw [hs.wanted hw]; simp)]
      exact hk E _ _ (hs.put o.dst (RV.skip E)) h
    split at h
    · rcases h with ⟨hw, k, h, hkK⟩ | ⟨hw, h⟩
      · rw [if_pos (hs.wanted hw)]
        refine .inl ((opA_sound (P := P) hs.hr hs.fr (o := o) (g := a.eval) (fun x _ => hs.ev x) (fun _ => rfl) h).wp fun v w' hp => ?_)
        obtain ⟨E', av, hp', kb, hw, hkk, hrv, hs'⟩ := hs.after (P := P) hp
        subst hw
        exact hk E' _ _ (hs'.put o.dst hrv) (hkK _ _ _ hkk)
      · exact skip hw h
    · obtain ⟨v, hy, hK⟩ := h
      rcases hy with ⟨hw, hy⟩ | ⟨hw, rfl⟩
      · rw [if_pos (hs.wanted hw)]
        refine .inl ((hy E a.eval hs.hr (fun x _ => hs.ev x) (fun _ => rfl)).wp fun u w' ⟨E', hw', hrv, H', F', le⟩ => ?_)
        subst hw'
        exact hk E' _ _ (SR.put ⟨H', hs.fr.trans F', hs.len, fun i v u h1 h2 => (hs.tm i v u h1 h2).mono le, hs.df⟩ o.dst hrv) hK
      · exact skip hw hK

theorem anyA_sound {E0 : Env P} {hp0 : List Blk} {ops : List Oper} {ms : List Bool} {Q : Exit → Act → World → Prop} {K : St → Prop} (hk : ∀ E st a, SR E0 hp0 E st a → K st → Q .normal a E.w) : ∀ (fuel : Nat) (listed : Array Bool) (E : Env P) (st : St) (a : Act), SR E0 hp0 E st a →
    anyA P hp0.length ops ms K fuel listed st → wpAny P .any ops.toArray Q fuel listed a E.w
  | 0, _, E, st, a, hs, h => ⟨h.1, hk E st a hs h.2⟩
  | fuel + 1, listed, E, st, a, hs, h => ⟨fun h0 => hk E st a hs (h.1 h0), fun i hi => stepA_sound (K' := wpAny P .any ops.toArray Q fuel (listed.setIfInBounds i true)) (fun E st a hs h => anyA_sound hk fuel _ E st a hs h) hs (h.2 i hi)⟩

theorem St.ev_put {st : St} {d : Option Tmp} {v : AV} {x : Operand} (h : ∀ t, d = some t → x ≠ .tmp t) : (st.put d v).ev x = st.ev x := by
  cases d with
  | none => rfl
  | some t =>
    cases x with
    | tmp u =>
      have hne : t ≠ u := fun e => h t rfl (e ▸ rfl)
      simp [St.ev, St.put, List.getElem?_set_ne hne]
    | _ => rfl

theorem St.put_comm (st : St) {x y : Option Tmp} (v u : AV) (h : ∀ d, x = some d → y ≠ some d) : (st.put x v).put y u = (st.put y u).put x v := by
  cases x with
  | none => rfl
  | some d =>
    cases y with
    | none => rfl
    | some e =>
      have hne : d ≠ e := fun he => h d rfl (he ▸ rfl)
      simp [St.put, List.set_comm _ _ hne]

theorem wantedA_put {ops : List Oper} {o : Oper} {st : St} {d : Option Tmp} {v : AV} (h : ∀ t, d = some t → t ∉ o.looksAt ops.toArray) : wantedA ops o (st.put d v) = wantedA ops o st := by
  unfold wantedA
  split
  · rfl
  · rename_i j b hg
    split
    · rename_i s hs
      have : (st.put d v).tm.getD s .any = st.tm.getD s .any := by
        cases d with
        | none => rfl
        | some t =>
          have hne : t ≠ s := fun e => h t rfl (by
            subst e
            have hs' : (ops[j]?).bind (·.dst) = some t := hs
            simp [Oper.looksAt, hg, hs'])
          simp [St.put, List.getElem?_set_ne hne]
      rw [this]
    · rfl

theorem yA_put {ops : List Oper} {o : Oper} {st : St} {d : Option Tmp} {v u : AV} (h : ∀ t, d = some t → t ∉ o.looksAt ops.toArray) (hy : yA P ops o st v) : yA P ops o (st.put d u) v := by
  have hev : ∀ x ∈ o.op.operands, st.ev x = (st.put d u).ev x := fun x hx => (St.ev_put fun t ht e => h t ht (by
    subst e
    simp only [Oper.looksAt, List.mem_append, List.mem_filterMap]
    exact .inl ⟨.tmp t, by simpa using hx, rfl⟩)).symm
  have hhp : (st.put d u).hp = st.hp := by cases d <;> rfl
  rcases hy with ⟨hw, hy⟩ | ⟨hw, hv⟩
  · exact .inl ⟨by rw [wantedA_put h]; exact hw, by rw [hhp]; exact hy.congr hev⟩
  · exact .inr ⟨by rw [wantedA_put h]; exact hw, hv⟩
theorem yA_unput {ops : List Oper} {o : Oper} {st : St} {d : Option Tmp} {v u : AV} (h : ∀ t, d = some t → t ∉ o.looksAt ops.toArray) (hy : yA P ops o (st.put d u) v) : yA P ops o st v := by
  have hev : ∀ x ∈ o.op.operands, (st.put d u).ev x = st.ev x := fun x hx => St.ev_put fun t ht e => h t ht (by
    subst e
    simp only [Oper.looksAt, List.mem_append, List.mem_filterMap]
    exact .inl ⟨.tmp t, by simpa using hx, rfl⟩)
  have hhp : (st.put d u).hp = st.hp := by cases d <;> rfl
  rcases hy with ⟨hw, hy⟩ | ⟨hw, hv⟩
  · exact .inl ⟨by rw [← wantedA_put h]; exact hw, by rw [← hhp]; exact hy.congr hev⟩
  · exact .inr ⟨by rw [← wantedA_put h]; exact hw, hv⟩

/-- What may come up beside a quiet operation that has not come up yet. -/
def Waits (ops : List Oper) (listed : Array Bool) (i : Nat) (D : List Nat) : Prop :=
  ∀ j ∈ D, listed.getD j true = false ∧ ∃ oj, ops[j]? = some oj ∧ ∃ e ∈ oj.after, Region.binds .any e = true ∧ (e.on = i ∨ e.on ∈ D)
def Free (ops : List Oper) (ms : List Bool) (listed : Array Bool) (i : Nat) (oi : Oper) : Prop :=
  ∃ D : List Nat, Waits ops listed i D ∧ ∀ j oj, ops[j]? = some oj → j ≠ i → listed.getD j true = false → j ∉ D → (∀ e ∈ oj.after, Region.binds .any e = true → e.on ≠ i) → oi.apart ops.toArray oj = true ∧ ms.getD j true = false

/-- A quiet operation may be taken first. -/
theorem anyA_first {n0 : Nat} {ops : List Oper} {ms : List Bool} {K : St → Prop} {i : Nat} {oi : Oper} {v : AV} (hi : ops[i]? = some oi) (hm : ms.getD i true = false) :
    ∀ (fuel : Nat) (listed : Array Bool) (st : St), Free ops ms listed i oi → i ∈ Region.ready .any ops.toArray listed → yA P ops oi st v →
      anyA P n0 ops ms K fuel (listed.setIfInBounds i true) (st.put oi.dst v) → anyA P n0 ops ms K (fuel + 1) listed st := by
  have self : ∀ (fuel : Nat) (listed : Array Bool) (st : St), yA P ops oi st v → anyA P n0 ops ms K fuel (listed.setIfInBounds i true) (st.put oi.dst v) → stepA P n0 ops ms i (anyA P n0 ops ms K fuel (listed.setIfInBounds i true)) st := by
    intro fuel listed st hy H
    unfold stepA
    simp only [hi, hm, Bool.false_eq_true, if_false]
    exact ⟨v, hy, H⟩
  intro fuel
  induction fuel with
  | zero =>
    intro listed st _ hr hy H
    refine ⟨fun h => (by rw [h] at hr; cases hr), fun j hj => ?_⟩
    by_cases hji : j = i
    · subst hji; exact self 0 listed st hy H
    · have := ready_mono hj hji
      rw [H.1] at this
      cases this
  | succ fuel ih =>
    intro listed st hfree hr hy H
    refine ⟨fun h => (by rw [h] at hr; cases hr), fun j hj => ?_⟩
    by_cases hji : j = i
    · subst hji; exact self _ listed st hy H
    · have h1 := H.2 j (ready_mono hj hji)
      obtain ⟨hjun, oj, hoj, hall⟩ := mem_ready.1 hj
      have hoj' : ops[j]? = some oj := by simpa using hoj
      have hnot : ∀ e ∈ oj.after, Region.binds .any e = true → e.on ≠ i := fun e he hb heq => by
        have h1 := hall e he hb
        have h0 := (mem_ready.1 hr).1
        rw [heq] at h1
        rcases Nat.lt_or_ge i listed.size with h' | h'
        · simp [h'] at h0 h1; rw [h0] at h1; cases h1
        · simp [Array.getElem?_eq_none h'] at h1
      obtain ⟨D, hwait, hfree⟩ := hfree
      have hjD : j ∉ D := fun hD => by
        obtain ⟨_, oj', hoj'', e, he, hb, hc⟩ := hwait j hD
        have : oj' = oj := by rw [hoj'] at hoj''; cases hoj''; rfl
        subst this
        rcases hc with hc | hc
        · exact hnot e he hb hc
        · have h1 := hall e he hb
          have h0 := (hwait e.on hc).1
          rcases Nat.lt_or_ge e.on listed.size with h' | h'
          · simp [h'] at h0 h1; rw [h0] at h1; cases h1
          · simp [Array.getElem?_eq_none h'] at h1
      obtain ⟨hap, hmj⟩ := hfree j oj hoj' hji hjun hjD hnot
      obtain ⟨a1, a2, a3⟩ := Oper.apart_spec hap
      unfold stepA at h1 ⊢
      simp only [hoj', hmj, Bool.false_eq_true, if_false] at h1 ⊢
      obtain ⟨u, hu, hK⟩ := h1
      have hu' := yA_unput a1 hu
      refine ⟨u, hu', ?_⟩
      have hfree' : Free ops ms (listed.setIfInBounds j true) i oi := ⟨D, fun d hd => by
        have hne : j ≠ d := fun h => hjD (h ▸ hd)
        obtain ⟨w1, w2⟩ := hwait d hd
        exact ⟨by rw [getD_set_ne true hne]; exact w1, w2⟩, fun k ok hk hki hun hkD hno => by
        refine hfree k ok hk hki ?_ hkD hno
        by_cases hjk : j = k
        · subst hjk; exact hjun
        · rw [getD_set_ne true hjk] at hun; exact hun⟩
      refine ih (listed.setIfInBounds j true) (st.put oj.dst u) hfree' (ready_mono hr (Ne.symm hji)) (yA_put a3 hy) ?_
      rw [Array.setIfInBounds_comm _ _ hji, St.put_comm st u v (fun d hd he => a2 d he hd)]
      exact hK

theorem lateOk_spec {ops : List Oper} {listed : Array Bool} {k : Nat} {D : List Nat} (h : lateOk ops.toArray listed k D = true) : Waits ops listed k D := by
  intro j hj
  unfold lateOk at h
  have h1 := List.all_eq_true.1 h j hj
  simp only [Bool.and_eq_true, Bool.not_eq_true'] at h1
  obtain ⟨h1, h2⟩ := h1
  refine ⟨h1, ?_⟩
  split at h2
  · cases h2
  · rename_i oj hoj
    refine ⟨oj, by simpa using hoj, ?_⟩
    rw [Array.any_eq_true] at h2
    obtain ⟨m, hm, he⟩ := h2
    simp only [Bool.and_eq_true, Bool.or_eq_true, beq_iff_eq, List.contains_iff_mem] at he
    exact ⟨_, Array.getElem_mem hm, he.1, he.2⟩
theorem freeQ_spec {ops : List Oper} {ms : List Bool} {listed : Array Bool} {k : Nat} {o : Oper} (hk : ops[k]? = some o) (h : freeQ ops.toArray ms listed k = true) : Free ops ms listed k o := by
  unfold freeQ at h
  have hk' : ops.toArray[k]? = some o := by simpa using hk
  rw [hk'] at h
  simp only [Bool.and_eq_true] at h
  refine ⟨_, lateOk_spec h.1, ?_⟩
  have h := h.2
  intro j oj hoj hjk hun hD hno
  simp only [List.all_eq_true, List.mem_range] at h
  have hj : j < ops.toArray.size := by
    have := (List.getElem?_eq_some_iff.1 hoj).1
    simpa using this
  have h1 := h j hj
  have hoj' : ops.toArray[j]? = some oj := by simpa using hoj
  rw [hoj', hun] at h1
  have hjk' : (j == k) = false := by simpa using hjk
  have hD' : (lateOf ops.toArray listed k).contains j = false := by simpa using hD
  rw [hjk', hD'] at h1
  simp only [Bool.false_or, Bool.or_eq_true, Bool.and_eq_true] at h1
  rcases h1 with h1 | ⟨⟨h1, _⟩, h2⟩
  · exfalso
    rw [Array.any_eq_true] at h1
    obtain ⟨m, hm, he⟩ := h1
    simp only [Bool.and_eq_true, beq_iff_eq] at he
    exact hno _ (Array.getElem_mem hm) he.1 he.2
  · exact ⟨h1, by simpa using h2⟩

theorem runQ_fin {n0 : Nat} {ops : List Oper} {ms : List Bool} {rest : List Oper} {o : Oper} {st : St} {K : St → Prop} (hw : wantedA ops o st = some true)
    (h : match o.op with
      | .call { callee := .value g, args := args, argTypes := _ } => match st.ev g with
        | .fn fid caps => ∃ r, CallA P fid (args.toList.map st.ev ++ caps) st.hp (fun r' hp' => r' = r ∧ hp' = st.hp) ∧ runQ P n0 ops ms rest (st.put o.dst r) K
        | _ => False
      | op => isQuiet op = true ∧ quietA P op st.ev st.hp fun v => runQ P n0 ops ms rest (st.put o.dst v) K) : ∃ v, yA P ops o st v ∧ runQ P n0 ops ms rest (st.put o.dst v) K := by
  cases hop : o.op with
  | call c =>
    obtain ⟨callee, args, ts⟩ := c
    cases callee with
    | value g =>
      rw [hop] at h
      simp only [] at h
      split at h
      · rename_i fid caps hf
        obtain ⟨r, hc, hr⟩ := h
        exact ⟨r, .inl ⟨hw, Yields.call hop rfl hf hc⟩, hr⟩
      · exact h.elim
    | invoke r m =>
      rw [hop] at h
      exact absurd h.1 (by simp [isQuiet])
    | builtin b =>
      rw [hop] at h
      obtain ⟨v, hk, hy⟩ := Yields.quiet (o := o) (by rw [hop]; exact h.2)
      exact ⟨v, .inl ⟨hw, hy⟩, hk⟩
  | _ =>
    rw [hop] at h
    obtain ⟨v, hk, hy⟩ := Yields.quiet (o := o) (by rw [hop]; exact h.2)
    exact ⟨v, .inl ⟨hw, hy⟩, hk⟩

theorem runQ_step {n0 : Nat} {ops : List Oper} {ms : List Bool} {rest : List Oper} {o : Oper} {st : St} {K : St → Prop} (h : runQ P n0 ops (false :: ms) (o :: rest) st K) (hs : ∀ d c, st.tm.getD d .any = .bool c → st.put (some d) (.bool c) = st) :
    ∃ v, yA P ops o st v ∧ runQ P n0 ops ms rest (st.put o.dst v) K := by
  unfold runQ at h
  simp only [] at h
  split at h
  · rename_i hg
    exact runQ_fin (by simp [wantedA, hg]) h
  · rename_i j b hg
    split at h
    · rename_i d hd
      split at h
      · rename_i c hc
        have hw : wantedA ops o st = some (c == b) := by simp only [wantedA, hg, hd, hc]
        by_cases hcb : c = b
        · subst hcb
          have h' := h.1 (by simp)
          rw [hs d c hc] at h'
          exact runQ_fin (by rw [hw]; simp) h'
        · have hcb' : c = !b := by cases c <;> cases b <;> simp_all
          have h' := h.2 (by simp [hcb])
          rw [← hcb', hs d c hc] at h'
          exact ⟨.tup [], .inr ⟨by rw [hw]; simp [hcb], rfl⟩, h'⟩
      · rename_i hc
        have hw : wantedA ops o st = some false := by simp only [wantedA, hg, hd, hc]
        exact ⟨.tup [], .inr ⟨hw, rfl⟩, h⟩
      · exact h.elim
    · exact h.elim

theorem runQ_stepT {n0 : Nat} {ops : List Oper} {ms : List Bool} {rest : List Oper} {o : Oper} {st : St} {K : St → Prop} (h : runQ P n0 ops (true :: ms) (o :: rest) st K) (hs : ∀ d c, st.tm.getD d .any = .bool c → st.put (some d) (.bool c) = st) :
    (wantedA ops o st = some true ∧ opA P n0 o.op st.ev st.hp fun v hp' kb => runQ P n0 ops ms rest ((st.after hp' kb).put o.dst v) K) ∨ (wantedA ops o st = some false ∧ runQ P n0 ops ms rest (st.put o.dst (.tup [])) K) := by
  unfold runQ at h
  split at h
  · rename_i hg
    exact .inl ⟨by simp [wantedA, hg], h⟩
  · rename_i j b hg
    split at h
    · rename_i d hd
      split at h
      · rename_i c hc
        have hw : wantedA ops o st = some (c == b) := by simp only [wantedA, hg, hd, hc]
        by_cases hcb : c = b
        · subst hcb
          have h' := h.1 (by simp)
          rw [hs d c hc] at h'
          exact .inl ⟨by rw [hw]; simp, h'⟩
        · have hcb' : c = !b := by cases c <;> cases b <;> simp_all
          have h' := h.2 (by simp [hcb])
          rw [← hcb', hs d c hc] at h'
          exact .inr ⟨by rw [hw]; simp [hcb], h'⟩
      · rename_i hc
        have hw : wantedA ops o st = some false := by simp only [wantedA, hg, hd, hc]
        exact .inr ⟨hw, h⟩
      · exact h.elim
    · exact h.elim

/-- A slot that holds a bool is there. -/
theorem put_same (st : St) (d : Nat) (c : Bool) (hd : st.tm.getD d .any = .bool c) : st.put (some d) (.bool c) = st := by
  have hlt : d < st.tm.length := by
    apply Decidable.byContradiction
    intro hn
    simp [List.getD, List.getElem?_eq_none (Nat.le_of_not_lt hn)] at hd
  have h1 : st.tm[d]? = some (.bool c) := by
    rw [List.getElem?_eq_getElem hlt]
    simp [List.getD, hlt] at hd
    rw [hd]
  cases st with
  | mk tm hp =>
    simp only [St.put]
    congr 1
    apply List.ext_getElem?
    intro i
    by_cases hi : d = i
    · subst hi; rw [List.getElem?_set_self hlt, h1]
    · rw [List.getElem?_set_ne hi]

/-- One walk in the text's order serves every order. -/
theorem anyA_lex {n0 : Nat} {ops : List Oper} {msA : List Bool} {K : St → Prop} : ∀ (l : List Oper) (ms : List Bool) (k : Nat) (listed : Array Bool) (st : St), (∀ j, l[j]? = ops[k + j]?) → (∀ j, ms[j]? = msA[k + j]?) →
    drawOk ops.toArray msA l.length k listed = true → runQ P n0 ops ms l st K → anyA P n0 ops msA K l.length listed st
  | [], ms, k, listed, st, _, _, hB, h => ⟨by simpa [drawOk] using hB, by
      cases ms with
      | nil => exact h
      | cons m ms => cases m <;> exact h⟩
  | o :: l, [], k, listed, st, _, _, _, h => by cases h
  | o :: l, m :: ms, k, listed, st, hl, hms, hB, h => by
    have h0 : ops[k]? = some o := by simpa using (hl 0).symm
    have hm0 : msA[k]? = some m := by simpa using (hms 0).symm
    have hmD : msA.getD k true = m := by simp [List.getD, hm0]
    have hl' : ∀ j, l[j]? = ops[k + 1 + j]? := fun j => by have := hl (j + 1); simpa [Nat.add_assoc, Nat.add_comm 1 j] using this
    have hms' : ∀ j, ms[j]? = msA[k + 1 + j]? := fun j => by have := hms (j + 1); simpa [Nat.add_assoc, Nat.add_comm 1 j] using this
    simp only [List.length_cons, drawOk, Bool.and_eq_true, hmD] at hB
    obtain ⟨hB1, hB2⟩ := hB
    cases m with
    | true =>
      simp only [if_true, beq_iff_eq] at hB1
      refine ⟨fun h => (by rw [hB1] at h; cases h), fun i hi => ?_⟩
      rw [hB1] at hi
      have : i = k := by simpa using hi
      subst this
      unfold stepA
      simp only [h0, hmD, if_true]
      rcases runQ_stepT h (put_same st) with ⟨hw, h'⟩ | ⟨hw, h'⟩
      · exact .inl ⟨hw, _, h', fun v hp' kb h => anyA_lex l ms (i + 1) _ _ hl' hms' hB2 h⟩
      · exact .inr ⟨hw, anyA_lex l ms (i + 1) _ _ hl' hms' hB2 h'⟩
    | false =>
      simp only [Bool.false_eq_true, if_false, Bool.and_eq_true] at hB1
      obtain ⟨⟨hr, hf⟩, _⟩ := hB1
      obtain ⟨v, hy, hK⟩ := runQ_step h (put_same st)
      exact anyA_first h0 hmD l.length listed st (freeQ_spec h0 hf) (by simpa using hr) hy (anyA_lex l ms (k + 1) _ _ hl' hms' hB2 hK)
end
end Go.Abs
