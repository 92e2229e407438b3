/- The abstract layer: parts J K L M N O P Q R S T U V W X Y Z Z1 Z2 Z3. -/
import Derived.Test.YtemeaobpedfkmaaAbsM1
import Derived.Deep.LoopGhost
import Derived.Below
import Derived.ChangeArms
import Derived.Laws.Externs
import Derived.Laws.FloatBits
/- The abstract layer, part J: a frame and its slots; the operations of a region, one after another. -/
set_option linter.unusedSimpArgs false
set_option linter.unusedVariables false
namespace Go.Abs
open Go
variable {P : Program}

structure SR (E0 : Env P) (hp0 : List Blk) (E : Env P) (st : St) (a : Act) : Prop where
  hr : HRel E st.hp
  fr : Fr E0 hp0 E st.hp
  len : st.tm.length = a.tmps.size
  tm : ∀ (i : Nat) v u, st.tm[i]? = some v → a.tmps[i]? = some u → RV E v u
  df : a.defers = []

theorem SR.slot {E0 : Env P} {hp0 : List Blk} {E : Env P} {st : St} {a : Act} (h : SR E0 hp0 E st a) (t : Nat) : RV E (st.tm.getD t .any) (a.tmps.getD t undef) := by
  by_cases ht : t < st.tm.length
  · have ht' : t < a.tmps.size := by rw [← h.len]; exact ht
    have := h.tm t st.tm[t] a.tmps[t] (List.getElem?_eq_getElem ht) (by simp [ht'])
    simpa [List.getD, ht, ht'] using this
  · have : st.tm.getD t .any = .any := by simp [List.getD, List.getElem?_eq_none (Nat.le_of_not_lt ht)]
    rw [this]; exact .any _

theorem SR.ev {E0 : Env P} {hp0 : List Blk} {E : Env P} {st : St} {a : Act} (h : SR E0 hp0 E st a) (x : Operand) : RV E (st.ev x) (a.eval x) := by
  cases x with
  | tmp t => exact h.slot t
  | const v => exact RV_ofV E v
  | global g => exact .any _
  | func f => exact .fn f [] #[] rfl (fun i a v h => by simp at h)

theorem SR.put {E0 : Env P} {hp0 : List Blk} {E : Env P} {st : St} {a : Act} (h : SR E0 hp0 E st a) (d : Option Tmp) {v : AV} {u : Value} (hv : RV E v u) : SR E0 hp0 E (st.put d v) (a.put d u) := by
  cases d with
  | none => exact h
  | some d =>
    refine ⟨h.hr, h.fr, by simpa [St.put, Act.put] using h.len, fun i v' u' h1 h2 => ?_, h.df⟩
    have h1' : (st.tm.set d v)[i]? = some v' := h1
    have h2' : (a.tmps.setIfInBounds d u)[i]? = some u' := h2
    by_cases hi : d = i
    · subst hi
      have hlt : d < st.tm.length := by have := (List.getElem?_eq_some_iff.1 h1').1; simpa using this
      have hlt' : d < a.tmps.size := by rw [← h.len]; exact hlt
      rw [List.getElem?_set_self hlt] at h1'
      simp [hlt'] at h2'
      cases h1'
      rw [← h2']; exact hv
    · rw [List.getElem?_set_ne hi] at h1'
      rw [Array.getElem?_setIfInBounds_ne hi] at h2'
      exact h.tm i v' u' h1' h2'

theorem SR.after {P : Program} {E0 : Env P} {hp0 : List Blk} {E : Env P} {st : St} {a : Act} (h : SR E0 hp0 E st a) {k : AV → List Blk → Option Nat → Prop} {v : Value} {w' : World} (hp : OpPost E E0 hp0 k v w') :
    ∃ E' av hp' kb, E'.w = w' ∧ k av hp' kb ∧ RV E' av v ∧ SR E0 hp0 E' (st.after hp' kb) a := by
  obtain ⟨E', av, hp', kb, hl⟩ := hp
  refine ⟨E', av, hp', kb, hl.w, hl.k, hl.rv, ?_⟩
  have hkeep := hl.keep
  cases kb with
  | none => exact ⟨hl.hr, hl.fr, h.len, fun i v u h1 h2 => hkeep v u (h.tm i v u h1 h2), h.df⟩
  | some b =>
    refine ⟨hl.hr, hl.fr, by simpa [St.after] using h.len, fun i v u h1 h2 => ?_, h.df⟩
    obtain ⟨v0, h3, rfl⟩ := get_map_kill (f := kill b) h1
    exact hkeep v0 u (h.tm i v0 u h3 h2)

theorem SR.bool {E0 : Env P} {hp0 : List Blk} {E : Env P} {st : St} {a : Act} (h : SR E0 hp0 E st a) {d : Nat} {c : Bool} (hd : st.tm.getD d .any = .bool c) : a.tmps[d]? = some (.bool c) ∧ st.put (some d) (.bool c) = st := by
  have hlt : d < st.tm.length := by
    apply Decidable.byContradiction
    intro hn
    simp [List.getD, List.getElem?_eq_none (Nat.le_of_not_lt hn)] at hd
  have hlt' : d < a.tmps.size := by rw [← h.len]; exact hlt
  have h1 : st.tm[d]? = some (.bool c) := by
    rw [List.getElem?_eq_getElem hlt]
    simp [List.getD, hlt] at hd
    rw [hd]
  have h2 := h.tm d _ a.tmps[d] h1 (by simp [hlt'])
  have h3 : a.tmps[d] = .bool c := by
    generalize hu : a.tmps[d] = u at h2
    cases h2; rfl
  refine ⟨by simp [hlt', h3], ?_⟩
  cases st with
  | mk tm hp =>
    simp only [St.put]
    congr 1
    apply List.ext_getElem?
    intro i
    by_cases hi : d = i
    · subst hi; rw [List.getElem?_set_self hlt, h1]
    · rw [List.getElem?_set_ne hi]

theorem SR.skipped {E0 : Env P} {hp0 : List Blk} {E : Env P} {st : St} {a : Act} (h : SR E0 hp0 E st a) {d : Nat} (hd : st.tm.getD d .any = .tup []) : a.tmps[d]? = some (.tuple #[]) := by
  have hlt : d < st.tm.length := by
    apply Decidable.byContradiction
    intro hn
    simp [List.getD, List.getElem?_eq_none (Nat.le_of_not_lt hn)] at hd
  have hlt' : d < a.tmps.size := by rw [← h.len]; exact hlt
  have h1 : st.tm[d]? = some (.tup []) := by
    rw [List.getElem?_eq_getElem hlt]
    simp [List.getD, hlt] at hd
    rw [hd]
  have h2 := h.tm d _ a.tmps[d] h1 (by simp [hlt'])
  have h3 : a.tmps[d] = .tuple #[] := by
    generalize hu : a.tmps[d] = u at h2
    cases h2 with
    | tup l vs hl _ => cases vs with | mk xs => cases xs with | nil => rfl | cons x xs => simp at hl
  simp [hlt', h3]
theorem RV.skip (E : Env P) : RV E (.tup []) undef := .tup [] #[] rfl (by simp)

section
variable {P : Program}

theorem runOps_sound {E0 : Env P} {hp0 : List Blk} (ops : List Oper) {Q : Exit → Act → World → Prop} : ∀ (l : List Oper) (st : St) (K : St → Prop), runOps P hp0.length ops l st K → ∀ (E : Env P) (a : Act), SR E0 hp0 E st a →
    (∀ E' st' a', SR E0 hp0 E' st' a' → K st' → Q .normal a' E'.w) → wpList P ops.toArray Q l a E.w
  | [], st, K, h, E, a, hs, hq => hq E st a hs h
  | o :: rest, st, K, h, E, a, hs, hq => by
    have step : ∀ (st : St), SR E0 hp0 E st a → opA P hp0.length o.op st.ev st.hp (fun v hp' kb => runOps P hp0.length ops rest ((st.after hp' kb).put o.dst v) K) →
        o.wp P a E.w (wpList P ops.toArray Q rest) Q := by
      intro st hs h
      have hr := opA_sound (P := P) hs.hr hs.fr (o := o) (g := a.eval) (fun x _ => hs.ev x) (fun _ => rfl) h
      refine hr.wp fun v w' hp => ?_
      obtain ⟨E', av, hp', kb, hw, hk, hrv, hs'⟩ := hs.after (P := P) hp
      subst hw
      exact runOps_sound ops rest _ K hk E' _ (hs'.put o.dst hrv) hq
    unfold runOps at h
    unfold wpList
    split at h
    · rename_i hg
      have hw : Region.wanted o (yielded ops.toArray a.tmps) = true := by simp [Region.wanted, hg]
      rw [if_pos hw]
      exact .inl (step st hs h)
    · rename_i j b hg
      split at h
      · rename_i d hd
        split at h
        · rename_i c hc
          obtain ⟨h1, h2⟩ := hs.bool hc
          have hy : yielded ops.toArray a.tmps j = some c := by
            have hd' : (ops[j]?).bind (·.dst) = some d := hd
            simp [yielded, hd', h1]
          by_cases hcb : c = b
          · subst hcb
            have hw : Region.wanted o (yielded ops.toArray a.tmps) = true := by simp [Region.wanted, hg, hy]
            rw [if_pos hw]
            have h' := h.1 (by simp)
            refine .inl (step (st.put (some d) (.bool c)) (by rw [h2]; exact hs) ?_)
            exact h'
          · have hw : ¬ Region.wanted o (yielded ops.toArray a.tmps) = true := by simp [Region.wanted, hg, hy, hcb]
            rw [if_neg hw]
            have hcb' : c = !b := by cases c <;> cases b <;> simp_all
            have h' := h.2 (by simp [hcb])
            rw [← hcb', h2] at h'
            exact runOps_sound ops rest _ K h' E _ (hs.put o.dst (RV.skip E)) hq
        · rename_i hc
          have hy : yielded ops.toArray a.tmps j = none := by
            have hd' : (ops[j]?).bind (·.dst) = some d := hd
            simp [yielded, hd', hs.skipped hc]
          have hw : ¬ Region.wanted o (yielded ops.toArray a.tmps) = true := by simp [Region.wanted, hg, hy]
          rw [if_neg hw]
          exact runOps_sound ops rest _ K h E _ (hs.put o.dst (RV.skip E)) hq
        · exact h.elim
      · exact h.elim
end
end Go.Abs
/- The abstract layer, part K: the operations of a region that draws its order. -/
set_option linter.unusedSimpArgs false
set_option linter.unusedVariables false
namespace Go.Abs
open Go
variable {P : Program}
section
variable {P : Program}

def wantedA (ops : List Oper) (o : Oper) (st : St) : Option Bool :=
  match o.guard with
  | none => some true
  | some (j, b) => match guardSlot ops j with
    | some d => match st.tm.getD d .any with
      | .bool c => some (c == b)
      | .tup [] => some false
      | _ => none
    | none => none

theorem SR.wanted {E0 : Env P} {hp0 : List Blk} {E : Env P} {st : St} {a : Act} (h : SR E0 hp0 E st a) {ops : List Oper} {o : Oper} {b : Bool} (hw : wantedA ops o st = some b) : Region.wanted o (yielded ops.toArray a.tmps) = b := by
  unfold wantedA at hw
  split at hw
  · rename_i hg; cases hw; simp [Region.wanted, hg]
  · rename_i j w hg
    split at hw
    · rename_i d hd
      split at hw
      · rename_i c hc
        obtain ⟨h1, h2⟩ := h.bool hc
        have hd' : (ops[j]?).bind (·.dst) = some d := hd
        have hy : yielded ops.toArray a.tmps j = some c := by simp [yielded, hd', h1]
        cases hw
        simp [Region.wanted, hg, hy]
      · rename_i hc
        have hd' : (ops[j]?).bind (·.dst) = some d := hd
        have hy : yielded ops.toArray a.tmps j = none := by simp [yielded, hd', h.skipped hc]
        cases hw
        simp [Region.wanted, hg, hy]
      · cases hw
    · cases hw

def Yields (P : Program) (o : Oper) (f : Operand → AV) (hp : List Blk) (v : AV) : Prop :=
  ∀ (E : Env P) (g : Operand → Value), HRel E hp → (∀ x ∈ o.op.operands, RV E (f x) (g x)) → (∀ v, g (.const v) = v) → Runs P o g E.w fun u w' => ∃ E', E'.w = w' ∧ RV E' v u ∧ HRel E' hp ∧ Fr E hp E' hp ∧ E.le E'

theorem Yields.congr {o : Oper} {f f' : Operand → AV} {hp : List Blk} {v : AV} (h : Yields P o f hp v) (he : ∀ x ∈ o.op.operands, f x = f' x) : Yields P o f' hp v :=
  fun E g H hr hcst => h E g H (fun x hx => by rw [he x hx]; exact hr x hx) hcst

theorem Yields.quiet {o : Oper} {f : Operand → AV} {hp : List Blk} {k : AV → Prop} (h : quietA P o.op f hp k) : ∃ v, k v ∧ Yields P o f hp v := by
  obtain ⟨av, hk, hq⟩ := quietA_sound h
  refine ⟨av, hk, fun E g H hr hcst => ?_⟩
  obtain ⟨v, w', h1, h2, h3⟩ := hq E g o rfl H hr hcst
  unfold Runs
  rw [h1]
  exact ⟨E.with w', rfl, h3.mono (Env.le_with h2), H.with h2, (Fr.refl E hp).with h2, Env.le_with h2⟩

theorem Yields.call {o : Oper} {f : Operand → AV} {hp : List Blk} {c : Call} (ho : o.op = .call c) {gf : Operand} (hcl : c.callee = .value gf) {fid : FuncId} {caps : List AV} (hfn : f gf = .fn fid caps) {r : AV}
    (h : CallA P fid (c.args.toList.map f ++ caps) hp fun r' hp' => r' = r ∧ hp' = hp) : Yields P o f hp r := by
  intro E g H hr hcst
  have := call_sound (P := P) H (Fr.refl E hp) hr (k := fun r' hp' kb => (r' = r ∧ hp' = hp) ∧ kb = none) ho hcl hfn (by
    exact fun E vs a b c => (h E vs a b c).mono fun v w' ⟨r', hp', E', h2, h3, h4⟩ => ⟨r', hp', E', h2, ⟨h3, rfl⟩, h4⟩)
  unfold Runs at this ⊢
  have conv : ∀ u w', OpPost E E hp (fun r' hp' kb => (r' = r ∧ hp' = hp) ∧ kb = none) u w' → ∃ E', E'.w = w' ∧ RV E' r u ∧ HRel E' hp ∧ Fr E hp E' hp ∧ E.le E' := by
    rintro u w' ⟨E', av, hp', kb, hl⟩
    obtain ⟨⟨rfl, rfl⟩, rfl⟩ := hl.k
    exact ⟨E', hl.w, hl.rv, hl.hr, hl.fr, hl.fr.le H hl.hr⟩
  split at this
  · exact conv _ _ this
  · exact conv _ _ this
  · exact this.mono fun e w'' ⟨v, he, hp⟩ => ⟨v, he, conv _ _ hp⟩
  · exact this.elim

def yA (P : Program) (ops : List Oper) (o : Oper) (st : St) (v : AV) : Prop :=
  (wantedA ops o st = some true ∧ Yields P o st.ev st.hp v) ∨ (wantedA ops o st = some false ∧ v = .tup [])

def stepA (P : Program) (n0 : Nat) (ops : List Oper) (ms : List Bool) (i : Nat) (K : St → Prop) (st : St) : Prop :=
  match ops[i]? with
  | none => K st
  | some o =>
    if ms.getD i true then (wantedA ops o st = some true ∧ ∃ k : AV → List Blk → Option Nat → Prop, opA P n0 o.op st.ev st.hp k ∧ ∀ v hp' kb, k v hp' kb → K ((st.after hp' kb).put o.dst v)) ∨ (wantedA ops o st = some false ∧ K (st.put o.dst (.tup [])))
    else ∃ v, yA P ops o st v ∧ K (st.put o.dst v)

def anyA (P : Program) (n0 : Nat) (ops : List Oper) (ms : List Bool) (K : St → Prop) : Nat → Array Bool → St → Prop
  | 0, listed, st => Region.ready .any ops.toArray listed = [] ∧ K st
  | fuel + 1, listed, st =>
    (Region.ready .any ops.toArray listed = [] → K st) ∧ ∀ i ∈ Region.ready .any ops.toArray listed, stepA P n0 ops ms i (anyA P n0 ops ms K fuel (listed.setIfInBounds i true)) st

theorem stepA_sound {E0 : Env P} {hp0 : List Blk} {ops : List Oper} {ms : List Bool} {Q : Exit → Act → World → Prop} {i : Nat} {K : St → Prop} {K' : Act → World → Prop} (hk : ∀ E st a, SR E0 hp0 E st a → K st → K' a E.w) {E : Env P} {st : St} {a : Act} (hs : SR E0 hp0 E st a)
    (h : stepA P hp0.length ops ms i K st) : wpOp P ops.toArray Q i K' a E.w := by
  unfold stepA at h
  unfold wpOp
  have hget : ops.toArray[i]? = ops[i]? := by simp
  rw [hget]
  split at h
  · rename_i hn; simp only [hn]; exact hk E st a hs h
  · rename_i o ho
    simp only [ho]
    have skip : wantedA ops o st = some false → K (st.put o.dst (.tup [])) → (if Region.wanted o (yielded ops.toArray a.tmps) = true then o.wp P a E.w K' Q ∨ o.asks P a E.w ∧ LetsOut Q else K' (a.put o.dst undef) E.w) := by
      intro hw h
      rw [if_neg (by rw [hs.wanted hw]; simp)]
      exact hk E _ _ (hs.put o.dst (RV.skip E)) h
    split at h
    · rcases h with ⟨hw, k, h, hkK⟩ | ⟨hw, h⟩
      · rw [if_pos (hs.wanted hw)]
        refine .inl ((opA_sound (P := P) hs.hr hs.fr (o := o) (g := a.eval) (fun x _ => hs.ev x) (fun _ => rfl) h).wp fun v w' hp => ?_)
        obtain ⟨E', av, hp', kb, hw, hkk, hrv, hs'⟩ := hs.after (P := P) hp
        subst hw
        exact hk E' _ _ (hs'.put o.dst hrv) (hkK _ _ _ hkk)
      · exact skip hw h
    · obtain ⟨v, hy, hK⟩ := h
      rcases hy with ⟨hw, hy⟩ | ⟨hw, rfl⟩
      · rw [if_pos (hs.wanted hw)]
        refine .inl ((hy E a.eval hs.hr (fun x _ => hs.ev x) (fun _ => rfl)).wp fun u w' ⟨E', hw', hrv, H', F', le⟩ => ?_)
        subst hw'
        exact hk E' _ _ (SR.put ⟨H', hs.fr.trans F', hs.len, fun i v u h1 h2 => (hs.tm i v u h1 h2).mono le, hs.df⟩ o.dst hrv) hK
      · exact skip hw hK

theorem anyA_sound {E0 : Env P} {hp0 : List Blk} {ops : List Oper} {ms : List Bool} {Q : Exit → Act → World → Prop} {K : St → Prop} (hk : ∀ E st a, SR E0 hp0 E st a → K st → Q .normal a E.w) : ∀ (fuel : Nat) (listed : Array Bool) (E : Env P) (st : St) (a : Act), SR E0 hp0 E st a →
    anyA P hp0.length ops ms K fuel listed st → wpAny P .any ops.toArray Q fuel listed a E.w
  | 0, _, E, st, a, hs, h => ⟨h.1, hk E st a hs h.2⟩
  | fuel + 1, listed, E, st, a, hs, h => ⟨fun h0 => hk E st a hs (h.1 h0), fun i hi => stepA_sound (K' := wpAny P .any ops.toArray Q fuel (listed.setIfInBounds i true)) (fun E st a hs h => anyA_sound hk fuel _ E st a hs h) hs (h.2 i hi)⟩

theorem St.ev_put {st : St} {d : Option Tmp} {v : AV} {x : Operand} (h : ∀ t, d = some t → x ≠ .tmp t) : (st.put d v).ev x = st.ev x := by
  cases d with
  | none => rfl
  | some t =>
    cases x with
    | tmp u =>
      have hne : t ≠ u := fun e => h t rfl (e ▸ rfl)
      simp [St.ev, St.put, List.getElem?_set_ne hne]
    | _ => rfl

theorem St.put_comm (st : St) {x y : Option Tmp} (v u : AV) (h : ∀ d, x = some d → y ≠ some d) : (st.put x v).put y u = (st.put y u).put x v := by
  cases x with
  | none => rfl
  | some d =>
    cases y with
    | none => rfl
    | some e =>
      have hne : d ≠ e := fun he => h d rfl (he ▸ rfl)
      simp [St.put, List.set_comm _ _ hne]

theorem wantedA_put {ops : List Oper} {o : Oper} {st : St} {d : Option Tmp} {v : AV} (h : ∀ t, d = some t → t ∉ o.looksAt ops.toArray) : wantedA ops o (st.put d v) = wantedA ops o st := by
  unfold wantedA
  split
  · rfl
  · rename_i j b hg
    split
    · rename_i s hs
      have : (st.put d v).tm.getD s .any = st.tm.getD s .any := by
        cases d with
        | none => rfl
        | some t =>
          have hne : t ≠ s := fun e => h t rfl (by
            subst e
            have hs' : (ops[j]?).bind (·.dst) = some t := hs
            simp [Oper.looksAt, hg, hs'])
          simp [St.put, List.getElem?_set_ne hne]
      rw [this]
    · rfl

theorem yA_put {ops : List Oper} {o : Oper} {st : St} {d : Option Tmp} {v u : AV} (h : ∀ t, d = some t → t ∉ o.looksAt ops.toArray) (hy : yA P ops o st v) : yA P ops o (st.put d u) v := by
  have hev : ∀ x ∈ o.op.operands, st.ev x = (st.put d u).ev x := fun x hx => (St.ev_put fun t ht e => h t ht (by
    subst e
    simp only [Oper.looksAt, List.mem_append, List.mem_filterMap]
    exact .inl ⟨.tmp t, by simpa using hx, rfl⟩)).symm
  have hhp : (st.put d u).hp = st.hp := by cases d <;> rfl
  rcases hy with ⟨hw, hy⟩ | ⟨hw, hv⟩
  · exact .inl ⟨by rw [wantedA_put h]; exact hw, by rw [hhp]; exact hy.congr hev⟩
  · exact .inr ⟨by rw [wantedA_put h]; exact hw, hv⟩
theorem yA_unput {ops : List Oper} {o : Oper} {st : St} {d : Option Tmp} {v u : AV} (h : ∀ t, d = some t → t ∉ o.looksAt ops.toArray) (hy : yA P ops o (st.put d u) v) : yA P ops o st v := by
  have hev : ∀ x ∈ o.op.operands, (st.put d u).ev x = st.ev x := fun x hx => St.ev_put fun t ht e => h t ht (by
    subst e
    simp only [Oper.looksAt, List.mem_append, List.mem_filterMap]
    exact .inl ⟨.tmp t, by simpa using hx, rfl⟩)
  have hhp : (st.put d u).hp = st.hp := by cases d <;> rfl
  rcases hy with ⟨hw, hy⟩ | ⟨hw, hv⟩
  · exact .inl ⟨by rw [← wantedA_put h]; exact hw, by rw [← hhp]; exact hy.congr hev⟩
  · exact .inr ⟨by rw [← wantedA_put h]; exact hw, hv⟩

def Waits (ops : List Oper) (listed : Array Bool) (i : Nat) (D : List Nat) : Prop :=
  ∀ j ∈ D, listed.getD j true = false ∧ ∃ oj, ops[j]? = some oj ∧ ∃ e ∈ oj.after, Region.binds .any e = true ∧ (e.on = i ∨ e.on ∈ D)
def Free (ops : List Oper) (ms : List Bool) (listed : Array Bool) (i : Nat) (oi : Oper) : Prop :=
  ∃ D : List Nat, Waits ops listed i D ∧ ∀ j oj, ops[j]? = some oj → j ≠ i → listed.getD j true = false → j ∉ D → (∀ e ∈ oj.after, Region.binds .any e = true → e.on ≠ i) → oi.apart ops.toArray oj = true ∧ ms.getD j true = false

theorem anyA_first {n0 : Nat} {ops : List Oper} {ms : List Bool} {K : St → Prop} {i : Nat} {oi : Oper} {v : AV} (hi : ops[i]? = some oi) (hm : ms.getD i true = false) :
    ∀ (fuel : Nat) (listed : Array Bool) (st : St), Free ops ms listed i oi → i ∈ Region.ready .any ops.toArray listed → yA P ops oi st v →
      anyA P n0 ops ms K fuel (listed.setIfInBounds i true) (st.put oi.dst v) → anyA P n0 ops ms K (fuel + 1) listed st := by
  have self : ∀ (fuel : Nat) (listed : Array Bool) (st : St), yA P ops oi st v → anyA P n0 ops ms K fuel (listed.setIfInBounds i true) (st.put oi.dst v) → stepA P n0 ops ms i (anyA P n0 ops ms K fuel (listed.setIfInBounds i true)) st := by
    intro fuel listed st hy H
    unfold stepA
    simp only [hi, hm, Bool.false_eq_true, if_false]
    exact ⟨v, hy, H⟩
  intro fuel
  induction fuel with
  | zero =>
    intro listed st _ hr hy H
    refine ⟨fun h => (by rw [h] at hr; cases hr), fun j hj => ?_⟩
    by_cases hji : j = i
    · subst hji; exact self 0 listed st hy H
    · have := ready_mono hj hji
      rw [H.1] at this
      cases this
  | succ fuel ih =>
    intro listed st hfree hr hy H
    refine ⟨fun h => (by rw [h] at hr; cases hr), fun j hj => ?_⟩
    by_cases hji : j = i
    · subst hji; exact self _ listed st hy H
    · have h1 := H.2 j (ready_mono hj hji)
      obtain ⟨hjun, oj, hoj, hall⟩ := mem_ready.1 hj
      have hoj' : ops[j]? = some oj := by simpa using hoj
      have hnot : ∀ e ∈ oj.after, Region.binds .any e = true → e.on ≠ i := fun e he hb heq => by
        have h1 := hall e he hb
        have h0 := (mem_ready.1 hr).1
        rw [heq] at h1
        rcases Nat.lt_or_ge i listed.size with h' | h'
        · simp [h'] at h0 h1; rw [h0] at h1; cases h1
        · simp [Array.getElem?_eq_none h'] at h1
      obtain ⟨D, hwait, hfree⟩ := hfree
      have hjD : j ∉ D := fun hD => by
        obtain ⟨_, oj', hoj'', e, he, hb, hc⟩ := hwait j hD
        have : oj' = oj := by rw [hoj'] at hoj''; cases hoj''; rfl
        subst this
        rcases hc with hc | hc
        · exact hnot e he hb hc
        · have h1 := hall e he hb
          have h0 := (hwait e.on hc).1
          rcases Nat.lt_or_ge e.on listed.size with h' | h'
          · simp [h'] at h0 h1; rw [h0] at h1; cases h1
          · simp [Array.getElem?_eq_none h'] at h1
      obtain ⟨hap, hmj⟩ := hfree j oj hoj' hji hjun hjD hnot
      obtain ⟨a1, a2, a3⟩ := Oper.apart_spec hap
      unfold stepA at h1 ⊢
      simp only [hoj', hmj, Bool.false_eq_true, if_false] at h1 ⊢
      obtain ⟨u, hu, hK⟩ := h1
      have hu' := yA_unput a1 hu
      refine ⟨u, hu', ?_⟩
      have hfree' : Free ops ms (listed.setIfInBounds j true) i oi := ⟨D, fun d hd => by
        have hne : j ≠ d := fun h => hjD (h ▸ hd)
        obtain ⟨w1, w2⟩ := hwait d hd
        exact ⟨by rw [getD_set_ne true hne]; exact w1, w2⟩, fun k ok hk hki hun hkD hno => by
        refine hfree k ok hk hki ?_ hkD hno
        by_cases hjk : j = k
        · subst hjk; exact hjun
        · rw [getD_set_ne true hjk] at hun; exact hun⟩
      refine ih (listed.setIfInBounds j true) (st.put oj.dst u) hfree' (ready_mono hr (Ne.symm hji)) (yA_put a3 hy) ?_
      rw [Array.setIfInBounds_comm _ _ hji, St.put_comm st u v (fun d hd he => a2 d he hd)]
      exact hK

theorem lateOk_spec {ops : List Oper} {listed : Array Bool} {k : Nat} {D : List Nat} (h : lateOk ops.toArray listed k D = true) : Waits ops listed k D := by
  intro j hj
  unfold lateOk at h
  have h1 := List.all_eq_true.1 h j hj
  simp only [Bool.and_eq_true, Bool.not_eq_true'] at h1
  obtain ⟨h1, h2⟩ := h1
  refine ⟨h1, ?_⟩
  split at h2
  · cases h2
  · rename_i oj hoj
    refine ⟨oj, by simpa using hoj, ?_⟩
    rw [Array.any_eq_true] at h2
    obtain ⟨m, hm, he⟩ := h2
    simp only [Bool.and_eq_true, Bool.or_eq_true, beq_iff_eq, List.contains_iff_mem] at he
    exact ⟨_, Array.getElem_mem hm, he.1, he.2⟩
theorem freeQ_spec {ops : List Oper} {ms : List Bool} {listed : Array Bool} {k : Nat} {o : Oper} (hk : ops[k]? = some o) (h : freeQ ops.toArray ms listed k = true) : Free ops ms listed k o := by
  unfold freeQ at h
  have hk' : ops.toArray[k]? = some o := by simpa using hk
  rw [hk'] at h
  simp only [Bool.and_eq_true] at h
  refine ⟨_, lateOk_spec h.1, ?_⟩
  have h := h.2
  intro j oj hoj hjk hun hD hno
  simp only [List.all_eq_true, List.mem_range] at h
  have hj : j < ops.toArray.size := by
    have := (List.getElem?_eq_some_iff.1 hoj).1
    simpa using this
  have h1 := h j hj
  have hoj' : ops.toArray[j]? = some oj := by simpa using hoj
  rw [hoj', hun] at h1
  have hjk' : (j == k) = false := by simpa using hjk
  have hD' : (lateOf ops.toArray listed k).contains j = false := by simpa using hD
  rw [hjk', hD'] at h1
  simp only [Bool.false_or, Bool.or_eq_true, Bool.and_eq_true] at h1
  rcases h1 with h1 | ⟨⟨h1, _⟩, h2⟩
  · exfalso
    rw [Array.any_eq_true] at h1
    obtain ⟨m, hm, he⟩ := h1
    simp only [Bool.and_eq_true, beq_iff_eq] at he
    exact hno _ (Array.getElem_mem hm) he.1 he.2
  · exact ⟨h1, by simpa using h2⟩

theorem runQ_fin {n0 : Nat} {ops : List Oper} {ms : List Bool} {rest : List Oper} {o : Oper} {st : St} {K : St → Prop} (hw : wantedA ops o st = some true)
    (h : match o.op with
      | .call { callee := .value g, args := args, argTypes := _ } => match st.ev g with
        | .fn fid caps => ∃ r, CallA P fid (args.toList.map st.ev ++ caps) st.hp (fun r' hp' => r' = r ∧ hp' = st.hp) ∧ runQ P n0 ops ms rest (st.put o.dst r) K
        | _ => False
      | op => isQuiet op = true ∧ quietA P op st.ev st.hp fun v => runQ P n0 ops ms rest (st.put o.dst v) K) : ∃ v, yA P ops o st v ∧ runQ P n0 ops ms rest (st.put o.dst v) K := by
  cases hop : o.op with
  | call c =>
    obtain ⟨callee, args, ts⟩ := c
    cases callee with
    | value g =>
      rw [hop] at h
      simp only [] at h
      split at h
      · rename_i fid caps hf
        obtain ⟨r, hc, hr⟩ := h
        exact ⟨r, .inl ⟨hw, Yields.call hop rfl hf hc⟩, hr⟩
      · exact h.elim
    | invoke r m =>
      rw [hop] at h
      exact absurd h.1 (by simp [isQuiet])
    | builtin b =>
      rw [hop] at h
      obtain ⟨v, hk, hy⟩ := Yields.quiet (o := o) (by rw [hop]; exact h.2)
      exact ⟨v, .inl ⟨hw, hy⟩, hk⟩
  | _ =>
    rw [hop] at h
    obtain ⟨v, hk, hy⟩ := Yields.quiet (o := o) (by rw [hop]; exact h.2)
    exact ⟨v, .inl ⟨hw, hy⟩, hk⟩

theorem runQ_step {n0 : Nat} {ops : List Oper} {ms : List Bool} {rest : List Oper} {o : Oper} {st : St} {K : St → Prop} (h : runQ P n0 ops (false :: ms) (o :: rest) st K) (hs : ∀ d c, st.tm.getD d .any = .bool c → st.put (some d) (.bool c) = st) :
    ∃ v, yA P ops o st v ∧ runQ P n0 ops ms rest (st.put o.dst v) K := by
  unfold runQ at h
  simp only [] at h
  split at h
  · rename_i hg
    exact runQ_fin (by simp [wantedA, hg]) h
  · rename_i j b hg
    split at h
    · rename_i d hd
      split at h
      · rename_i c hc
        have hw : wantedA ops o st = some (c == b) := by simp only [wantedA, hg, hd, hc]
        by_cases hcb : c = b
        · subst hcb
          have h' := h.1 (by simp)
          rw [hs d c hc] at h'
          exact runQ_fin (by rw [hw]; simp) h'
        · have hcb' : c = !b := by cases c <;> cases b <;> simp_all
          have h' := h.2 (by simp [hcb])
          rw [← hcb', hs d c hc] at h'
          exact ⟨.tup [], .inr ⟨by rw [hw]; simp [hcb], rfl⟩, h'⟩
      · rename_i hc
        have hw : wantedA ops o st = some false := by simp only [wantedA, hg, hd, hc]
        exact ⟨.tup [], .inr ⟨hw, rfl⟩, h⟩
      · exact h.elim
    · exact h.elim

theorem runQ_stepT {n0 : Nat} {ops : List Oper} {ms : List Bool} {rest : List Oper} {o : Oper} {st : St} {K : St → Prop} (h : runQ P n0 ops (true :: ms) (o :: rest) st K) (hs : ∀ d c, st.tm.getD d .any = .bool c → st.put (some d) (.bool c) = st) :
    (wantedA ops o st = some true ∧ opA P n0 o.op st.ev st.hp fun v hp' kb => runQ P n0 ops ms rest ((st.after hp' kb).put o.dst v) K) ∨ (wantedA ops o st = some false ∧ runQ P n0 ops ms rest (st.put o.dst (.tup [])) K) := by
  unfold runQ at h
  split at h
  · rename_i hg
    exact .inl ⟨by simp [wantedA, hg], h⟩
  · rename_i j b hg
    split at h
    · rename_i d hd
      split at h
      · rename_i c hc
        have hw : wantedA ops o st = some (c == b) := by simp only [wantedA, hg, hd, hc]
        by_cases hcb : c = b
        · subst hcb
          have h' := h.1 (by simp)
          rw [hs d c hc] at h'
          exact .inl ⟨by rw [hw]; simp, h'⟩
        · have hcb' : c = !b := by cases c <;> cases b <;> simp_all
          have h' := h.2 (by simp [hcb])
          rw [← hcb', hs d c hc] at h'
          exact .inr ⟨by rw [hw]; simp [hcb], h'⟩
      · rename_i hc
        have hw : wantedA ops o st = some false := by simp only [wantedA, hg, hd, hc]
        exact .inr ⟨hw, h⟩
      · exact h.elim
    · exact h.elim

theorem put_same (st : St) (d : Nat) (c : Bool) (hd : st.tm.getD d .any = .bool c) : st.put (some d) (.bool c) = st := by
  have hlt : d < st.tm.length := by
    apply Decidable.byContradiction
    intro hn
    simp [List.getD, List.getElem?_eq_none (Nat.le_of_not_lt hn)] at hd
  have h1 : st.tm[d]? = some (.bool c) := by
    rw [List.getElem?_eq_getElem hlt]
    simp [List.getD, hlt] at hd
    rw [hd]
  cases st with
  | mk tm hp =>
    simp only [St.put]
    congr 1
    apply List.ext_getElem?
    intro i
    by_cases hi : d = i
    · subst hi; rw [List.getElem?_set_self hlt, h1]
    · rw [List.getElem?_set_ne hi]

theorem anyA_lex {n0 : Nat} {ops : List Oper} {msA : List Bool} {K : St → Prop} : ∀ (l : List Oper) (ms : List Bool) (k : Nat) (listed : Array Bool) (st : St), (∀ j, l[j]? = ops[k + j]?) → (∀ j, ms[j]? = msA[k + j]?) →
    drawOk ops.toArray msA l.length k listed = true → runQ P n0 ops ms l st K → anyA P n0 ops msA K l.length listed st
  | [], ms, k, listed, st, _, _, hB, h => ⟨by simpa [drawOk] using hB, by
      cases ms with
      | nil => exact h
      | cons m ms => cases m <;> exact h⟩
  | o :: l, [], k, listed, st, _, _, _, h => by cases h
  | o :: l, m :: ms, k, listed, st, hl, hms, hB, h => by
    have h0 : ops[k]? = some o := by simpa using (hl 0).symm
    have hm0 : msA[k]? = some m := by simpa using (hms 0).symm
    have hmD : msA.getD k true = m := by simp [List.getD, hm0]
    have hl' : ∀ j, l[j]? = ops[k + 1 + j]? := fun j => by have := hl (j + 1); simpa [Nat.add_assoc, Nat.add_comm 1 j] using this
    have hms' : ∀ j, ms[j]? = msA[k + 1 + j]? := fun j => by have := hms (j + 1); simpa [Nat.add_assoc, Nat.add_comm 1 j] using this
    simp only [List.length_cons, drawOk, Bool.and_eq_true, hmD] at hB
    obtain ⟨hB1, hB2⟩ := hB
    cases m with
    | true =>
      simp only [if_true, beq_iff_eq] at hB1
      refine ⟨fun h => (by rw [hB1] at h; cases h), fun i hi => ?_⟩
      rw [hB1] at hi
      have : i = k := by simpa using hi
      subst this
      unfold stepA
      simp only [h0, hmD, if_true]
      rcases runQ_stepT h (put_same st) with ⟨hw, h'⟩ | ⟨hw, h'⟩
      · exact .inl ⟨hw, _, h', fun v hp' kb h => anyA_lex l ms (i + 1) _ _ hl' hms' hB2 h⟩
      · exact .inr ⟨hw, anyA_lex l ms (i + 1) _ _ hl' hms' hB2 h'⟩
    | false =>
      simp only [Bool.false_eq_true, if_false, Bool.and_eq_true] at hB1
      obtain ⟨⟨hr, hf⟩, _⟩ := hB1
      obtain ⟨v, hy, hK⟩ := runQ_step h (put_same st)
      exact anyA_first h0 hmD l.length listed st (freeQ_spec h0 hf) (by simpa using hr) hy (anyA_lex l ms (k + 1) _ _ hl' hms' hB2 hK)
end
end Go.Abs
/- The abstract layer, part L: what a piece of code owes; loops; functions. -/
set_option linter.unusedSimpArgs false
set_option linter.unusedVariables false
namespace Go.Abs
open Go
variable {P : Program}

def liftQ (E0 : Env P) (hp0 : List Blk) (Q : Ex → St → Prop) : Exit → Act → World → Prop := fun e a w => ∃ (ex : Ex) (st : St) (E : Env P), e = Ex.up ex ∧ E.w = w ∧ SR E0 hp0 E st a ∧ Q ex st

section
variable (P : Program)

def CodeA (n0 : Nat) (c : Code) (st : St) (Q : Ex → St → Prop) : Prop :=
  ∀ (E0 : Env P) (hp0 : List Blk) (E : Env P) (a : Act), hp0.length = n0 → SR E0 hp0 E st a → c.wp P (liftQ E0 hp0 Q) a E.w

def vc (md : Nat → List Bool) (n0 : Nat) : Code → St → (Ex → St → Prop) → Prop
  | .skip, st, Q => Q .normal st
  | .region id ops draw, st, Q => match draw with
    | false => runOps P n0 ops.toList ops.toList st (Q .normal)
    | true => match md id with
      | [] => CodeA P n0 (.region id ops true) st Q
      | m :: ms => runQ P n0 ops.toList (m :: ms) ops.toList st (Q .normal)
  | .seq a b, st, Q => vc md n0 a st fun e st' => match e with
    | .normal => vc md n0 b st' Q
    | .exit i => Q (.exit i) st'
    | .ret => Q .ret st'
  | .cond c x y, st, Q => match st.ev c with
    | .bool b => brk b (vc md n0 x st Q) (vc md n0 y st Q)
    | _ => False
  | .block id c, st, Q => vc md n0 c st fun e st' => match e with
    | .normal => Q .normal st'
    | .exit i => if i = id then Q .normal st' else Q (.exit i) st'
    | .ret => Q .ret st'
  | .loop c, st, Q => CodeA P n0 (.loop c) st Q
  | .exit id, st, Q => Q (.exit id) st
  | .ret, st, Q => Q .ret st
  | _, _, _ => False
end

section
variable {P : Program}

theorem vc_sound {md : Nat → List Bool} (hm : P.follows .mixedOrders = true) {n0 : Nat} : ∀ (c : Code) (st : St) (Q : Ex → St → Prop), modesOk md c = true → vc P md n0 c st Q → CodeA P n0 c st Q
  | .skip, st, Q, _, h => fun E0 hp0 E a hn hs => wp_skip ⟨.normal, st, E, rfl, rfl, hs, h⟩
  | .region id ops draw, st, Q, hok, h => fun E0 hp0 E a hn hs => by
    subst hn
    cases draw with
    | false =>
      have := runOps_sound (P := P) ops.toList (Q := liftQ E0 hp0 Q) ops.toList st _ h E a hs fun E' st' a' hs' hk => ⟨.normal, st', E', rfl, rfl, hs', hk⟩
      exact wp_region_list (by simpa using this)
    | true =>
      cases hmd : md id with
      | nil =>
        have h' : CodeA P hp0.length (.region id ops true) st Q := by
          simp only [vc, hmd] at h
          exact h
        exact h' E0 hp0 E a rfl hs
      | cons m0 ms0 =>
      have hne : (md id).isEmpty = false := by rw [hmd]; rfl
      have h : runQ P hp0.length ops.toList (md id) ops.toList st (Q .normal) := by
        simp only [vc, hmd] at h
        rw [hmd]; exact h
      simp only [modesOk, hne, Bool.false_or, Bool.and_eq_true, beq_iff_eq] at hok
      have h1 := anyA_lex (P := P) (n0 := hp0.length) (ops := ops.toList) (msA := md id) (K := Q .normal) ops.toList (md id) 0 (Array.replicate ops.size false) st (fun j => by simp) (fun j => by simp) (by simpa using hok.2) h
      refine wp_region_any hm ?_
      have hs' : SR E0 hp0 (E.with { E.w with drawn := E.w.drawn + 1 }) st a := ⟨hs.hr.with (Same.drew _ _), hs.fr.with (Same.drew _ _), hs.len, fun i v u a1 a2 => (hs.tm i v u a1 a2).mono (Env.le_with (Same.drew _ _)), hs.df⟩
      have h2 := anyA_sound (P := P) (Q := liftQ E0 hp0 Q) (fun E st a hs hk => ⟨.normal, st, E, rfl, rfl, hs, hk⟩) _ _ _ st a hs' h1
      rw [show ops.toList.toArray = ops from by simp, show ops.toList.length = ops.size from by simp] at h2
      exact h2
  | .seq x y, st, Q, hok, h => fun E0 hp0 E a hn hs => by
    simp only [modesOk, Bool.and_eq_true] at hok
    have h1 := vc_sound hm x st _ hok.1 h E0 hp0 E a hn hs
    refine wp_seq (wp_mono h1 fun e a' w' ⟨ex, st', E', he, hw, hs', hq⟩ => ?_)
    subst he; subst hw
    cases ex with
    | normal => exact vc_sound hm y st' Q hok.2 hq E0 hp0 E' a' hn hs'
    | exit i => exact ⟨.exit i, st', E', rfl, rfl, hs', hq⟩
    | ret => exact ⟨.ret, st', E', rfl, rfl, hs', hq⟩
  | .cond c x y, st, Q, hok, h => fun E0 hp0 E a hn hs => by
    simp only [modesOk, Bool.and_eq_true] at hok
    unfold vc at h
    split at h
    · rename_i b hb
      have hev := hs.ev c
      rw [hb] at hev
      generalize hg : a.eval c = u at hev
      cases hev
      refine wp_cond_split hg (fun hb' => ?_) (fun hb' => ?_)
      · exact vc_sound hm x st Q hok.1 (h.1 hb') E0 hp0 E a hn hs
      · exact vc_sound hm y st Q hok.2 (h.2 hb') E0 hp0 E a hn hs
    · exact h.elim
  | .block id c, st, Q, hok, h => fun E0 hp0 E a hn hs => by
    have h1 := vc_sound hm c st _ hok h E0 hp0 E a hn hs
    refine wp_block (wp_mono h1 fun e a' w' ⟨ex, st', E', he, hw, hs', hq⟩ => ?_)
    subst he; subst hw
    cases ex with
    | normal => exact ⟨.normal, st', E', rfl, rfl, hs', hq⟩
    | exit i =>
      simp only [Ex.up, Exit.inBlock]
      simp only [] at hq
      by_cases hi : i = id
      · rw [if_pos hi] at hq ⊢
        exact ⟨.normal, st', E', rfl, rfl, hs', hq⟩
      · rw [if_neg hi] at hq ⊢
        exact ⟨.exit i, st', E', rfl, rfl, hs', hq⟩
    | ret => exact ⟨.ret, st', E', rfl, rfl, hs', hq⟩
  | .loop c, st, Q, _, h => h
  | .exit id, st, Q, _, h => fun E0 hp0 E a hn hs => wp_exit ⟨.exit id, st, E, rfl, rfl, hs, h⟩
  | .ret, st, Q, _, h => fun E0 hp0 E a hn hs => wp_ret ⟨.ret, st, E, rfl, rfl, hs, h⟩
  | .rangeFunc .., _, _, _, h => h.elim
  | .scope _, _, _, _, h => h.elim
  | .label _, _, _, _, h => h.elim
  | .goto _, _, _, _, h => h.elim
  | .refuse _, _, _, _, h => h.elim

def Weak (n0 : Nat) (st st2 : St) : Prop := ∀ (P : Program) (E0 : Env P) (hp0 : List Blk) (E : Env P) (a : Act), hp0.length = n0 → SR E0 hp0 E st a → ∃ E2, E2.w = E.w ∧ SR E0 hp0 E2 st2 a

theorem loop_rule {σ : Type} {md : Nat → List Bool} (hm : P.follows .mixedOrders = true) {n0 : Nat} {c : Code} (hok : modesOk md c = true) {st : St} {Q : Ex → St → Prop} (I : σ → St) (μ : σ → Nat) (s0 : σ) (h0 : Weak n0 st (I s0))
    (round : ∀ s, vc P md n0 c (I s) fun e st' => match e with
      | .normal => ∃ s', μ s' < μ s ∧ Weak n0 st' (I s')
      | .exit i => Q (.exit i) st'
      | .ret => Q .ret st') : CodeA P n0 (.loop c) st Q := by
  intro E0 hp0 E a hn hs
  obtain ⟨E2, hw, hs2⟩ := h0 _ E0 hp0 E a hn hs
  rw [← hw]
  refine wp_loop_ghost (fun n a w => ∃ s E, μ s = n ∧ E.w = w ∧ SR E0 hp0 E (I s) a) (μ s0) ⟨s0, E2, rfl, rfl, hs2⟩ ?_
  rintro n a w ⟨s, E, rfl, rfl, hs⟩
  have h1 := vc_sound hm c (I s) _ hok (round s) E0 hp0 E a hn hs
  refine wp_mono h1 fun e a' w' ⟨ex, st', E', he, hw', hs', hq⟩ => ?_
  subst he; subst hw'
  cases ex with
  | normal =>
    obtain ⟨s', hlt, hwk⟩ := hq
    obtain ⟨E3, hw3, hs3⟩ := hwk _ E0 hp0 E' a' hn hs'
    exact ⟨μ s', hlt, s', E3, rfl, hw3, hs3⟩
  | exit i => exact ⟨.exit i, st', E', rfl, rfl, hs', hq⟩
  | ret => exact ⟨.ret, st', E', rfl, rfl, hs', hq⟩

theorem CodeA.mono {n0 : Nat} {c : Code} {st : St} {Q Q' : Ex → St → Prop} (h : CodeA P n0 c st Q) (hq : ∀ e st, Q e st → Q' e st) : CodeA P n0 c st Q' :=
  fun E0 hp0 E a hn hs => wp_mono (h E0 hp0 E a hn hs) fun e a' w' ⟨ex, st', E', he, hw, hs', hQ⟩ => ⟨ex, st', E', he, hw, hs', hq _ _ hQ⟩
theorem CallA.mono {f : FuncId} {args : List AV} {hp : List Blk} {Q Q' : AV → List Blk → Prop} (h : CallA P f args hp Q) (hq : ∀ r hp', Q r hp' → Q' r hp') : CallA P f args hp Q' :=
  fun E vs H hl hr => (h E vs H hl hr).mono fun v w' ⟨r, hp', E', h2, h3, h4⟩ => ⟨r, hp', E', h2, hq _ _ h3, h4⟩

def WeakR (n0 : Nat) (r : AV) (hp : List Blk) (r2 : AV) (hp2 : List Blk) : Prop := ∀ (P : Program) (E0 : Env P) (hp0 : List Blk) (E : Env P) (v : Value), hp0.length = n0 → HRel E hp → Fr E0 hp0 E hp → RV E r v → ∃ E2, E2.w = E.w ∧ HRel E2 hp2 ∧ Fr E0 hp0 E2 hp2 ∧ RV E2 r2 v

def PostR (n0 : Nat) (r : AV) (hp : List Blk) (Q : AV → List Blk → Prop) : Prop := ∃ r2 hp2, WeakR n0 r hp r2 hp2 ∧ Q r2 hp2
def retQ (P : Program) (fn : Func) (n0 : Nat) (Q : AV → List Blk → Prop) : Ex → St → Prop
  | .normal, st | .ret, st => resL P fn.results.toList st fun l => PostR n0 (oneA l) st.hp Q
  | .exit _, _ => False

theorem resL_sound {E0 : Env P} {hp0 : List Blk} {E : Env P} {st : St} {a : Act} (hs : SR E0 hp0 E st a) : ∀ (rs : List ResultVar) (k : List AV → Prop), resL P rs st k →
    ∃ l vs, k l ∧ (rs.mapM fun (r : ResultVar) => match r with
      | .tmp t => (pure (a.tmps.getD t undef) : Sem Value)
      | .cell x t => do loadVar t (← asAddr (a.tmps.getD x undef))).run P E.w = .ok vs E.w ∧ vs.length = l.length ∧ ∀ (i : Nat) c v, l[i]? = some c → vs[i]? = some v → RV E c v
  | [], k, h => ⟨[], [], h, by simp, rfl, fun i c v h => by simp at h⟩
  | .tmp t :: rs, k, h => by
    obtain ⟨l, vs, hk, hr, hl, hv⟩ := resL_sound hs rs _ h
    refine ⟨_, a.tmps.getD t undef :: vs, hk, ?_, by simp [hl], fun i c v h1 h2 => ?_⟩
    · simp only [List.mapM_cons, Sem.run_bind, Sem.run_pure, Result.andThen_ok, hr]
    · cases i with
      | zero => simp only [List.getElem?_cons_zero, Option.some.injEq] at h1 h2; subst h1; subst h2; exact hs.slot t
      | succ i => exact hv i c v (by simpa using h1) (by simpa using h2)
  | .cell x t :: rs, k, h => by
    obtain ⟨av, hk0, hld⟩ := loadA_sound h
    obtain ⟨l, vs, hk, hr, hl, hv⟩ := resL_sound hs rs _ hk0
    obtain ⟨u, hu, hru⟩ := hld E _ hs.hr (hs.ev (.tmp x))
    refine ⟨_, u :: vs, hk, ?_, by simp [hl], fun i c v h1 h2 => ?_⟩
    · have hu' : (do loadVar t (← asAddr (a.tmps.getD x undef)) : Sem Value).run P E.w = .ok u E.w := by
        have e : a.eval (.tmp x) = a.tmps.getD x undef := rfl
        rw [e] at hu
        generalize a.tmps.getD x undef = z at hu ⊢
        cases z with
        | pointer p =>
          cases p with
          | none => simp [Instr.loadAt, Instr.sureAddr, Result.andThen] at hu
          | some p => simpa [Instr.loadAt, Instr.sureAddr, asAddr, Result.andThen] using hu
        | _ => simp [Instr.loadAt, Instr.sureAddr, Result.andThen] at hu
      simp only [List.mapM_cons]
      rw [Sem.run_bind, hu']
      simp only [Result.andThen_ok, Sem.run_bind, hr, Sem.run_pure]
    · cases i with
      | zero => simp only [List.getElem?_cons_zero, Option.some.injEq] at h1 h2; subst h1; subst h2; exact hru
      | succ i => exact hv i c v (by simpa using h1) (by simpa using h2)

theorem run_results {fn : Func} {E0 : Env P} {hp0 : List Blk} {E : Env P} {st : St} {a : Act} (hs : SR E0 hp0 E st a) {k : List AV → Prop} (h : resL P fn.results.toList st k) : ∃ l v, k l ∧ (results fn a.tmps).run P E.w = .ok v E.w ∧ RV E (oneA l) v := by
  obtain ⟨l, vs, hk, hr, hl, hv⟩ := resL_sound hs _ _ h
  have hm : (fn.results.mapM fun (r : ResultVar) => match r with
      | .tmp t => (pure (a.tmps.getD t undef) : Sem Value)
      | .cell x t => do loadVar t (← asAddr (a.tmps.getD x undef))).run P E.w = .ok vs.toArray E.w := by
    rw [Array.mapM_eq_mapM_toList]
    simp only [Sem.run_map, hr, Result.andThen_ok]
  have hrun : (results fn a.tmps).run P E.w = .ok (if h : vs.toArray.size = 1 then vs.toArray[0] else .tuple vs.toArray) E.w := by
    unfold results
    rw [Sem.run_bind]
    exact Eq.trans (congrArg (fun r => Result.andThen r _) hm) rfl
  refine ⟨l, _, hk, hrun, ?_⟩
  unfold oneA
  split
  · rename_i x
    match vs, hl, hv with
    | [v], _, hv => exact hv 0 x v rfl rfl
  · rename_i hn
    have : ¬ vs.toArray.size = 1 := by
      intro h1
      have h1' : l.length = 1 := by rw [← hl]; simpa using h1
      obtain ⟨x, hx⟩ := List.length_eq_one_iff.1 h1'
      exact hn x hx
    rw [dif_neg this]
    exact .tup _ _ (by simp [hl]) fun i c v h1 h2 => hv i c v h1 (by simpa using h2)

theorem call_intro {f : FuncId} {fn : Func} {c : Code} {md : Nat → List Bool} {args : List AV} {hp : List Blk} {Q : AV → List Blk → Prop} (hm : P.follows .mixedOrders = true) (hf : P.funcs[f]? = some fn) (hb : fn.body = some c) (hgo : isGo P f) (hok : modesOk md c = true)
    (h : vc P md hp.length c ⟨args ++ List.replicate (fn.ntmps - args.length) .any, hp⟩ (retQ P fn hp.length Q)) : CallA P f args hp Q := by
  refine fun E vs H hl hrv => .inl ⟨hgo, ?_⟩
  refine calls_of_wp hf hb ?_
  have hs : SR E hp E ⟨args ++ List.replicate (fn.ntmps - args.length) .any, hp⟩ { tmps := vs.toArray ++ Array.replicate (fn.ntmps - vs.toArray.size) undef, defers := [] } := by
    refine ⟨H, Fr.refl E hp, by simp [hl], fun i v u h1 h2 => ?_, rfl⟩
    simp only [List.getElem?_append] at h1
    by_cases hi : i < args.length
    · rw [if_pos hi] at h1
      have h2' : vs[i]? = some u := by
        have hlt : i < vs.toArray.size := by simp [hl]; exact hi
        rw [Array.getElem?_append_left hlt] at h2
        simpa using h2
      exact hrv i v u h1 h2'
    · rw [if_neg hi] at h1
      rw [List.getElem?_replicate] at h1
      split at h1
      · cases h1; exact .any _
      · cases h1
  refine wp_mono (vc_sound hm c _ _ hok h E hp E _ rfl hs) fun e a' w' ⟨ex, st', E', he, hw, hs', hq⟩ => ?_
  subst he; subst hw
  have fin : (resL P fn.results.toList st' fun l => ∃ r2 hp2, WeakR hp.length (oneA l) st'.hp r2 hp2 ∧ Q r2 hp2) → a'.defers = [] ∧ ∃ v, (results fn a'.tmps).run P E'.w = .ok v E'.w ∧ ∃ v', Ending.returned v = .returned v' ∧ ∃ r hp' E'', E''.w = E'.w ∧ Q r hp' ∧ RV E'' r v' ∧ HRel E'' hp' ∧ Fr E hp E'' hp' := by
    intro hres
    obtain ⟨l, v, ⟨r2, hp2, hwk, hQ⟩, hrun, hv⟩ := run_results (P := P) hs' hres
    obtain ⟨E2, hw2, H2, F2, hv2⟩ := hwk _ E hp E' v rfl hs'.hr hs'.fr hv
    exact ⟨hs'.df, v, hrun, v, rfl, r2, hp2, E2, hw2, hQ, hv2, H2, F2⟩
  cases ex with
  | normal => exact fin hq
  | ret => exact fin hq
  | exit i => exact hq.elim
end
end Go.Abs
/- The abstract layer, part M: known blocks renamed, dropped, lent. -/
set_option linter.unusedSimpArgs false
set_option linter.unusedVariables false
namespace Go.Abs
open Go
variable {P : Program}

def Env.ren (E : Env P) (N : Nat) (π : Nat → Nat) : Env P := { E with N := N, ρ := fun b => E.ρ (π b), wd := fun b => E.wd (π b) }

theorem RV.unrenL {π : Nat → Nat} {N : Nat} {E : Env P} {a : AV} {v : Value} (hb : belowL N a = true) (h : RV E (renL π a) v) : RV (E.ren N π) a v := by
  have lb : E.bare.le (E.ren N π).bare := ⟨fun _ h => h, fun _ _ => rfl, Nat.le_refl _, fun _ hb => absurd hb (Nat.not_lt_zero _), fun _ hb => absurd hb (Nat.not_lt_zero _), fun _ => Nat.le_refl _⟩
  cases a with
  | sl b i n =>
    have hb' : b < N := by simpa [belowL] using hb
    cases h with
    | sl _ _ _ off cap _ ho hcap hmax hroom => exact .sl (E := E.ren N π) b i n off cap hb' ho hcap hmax hroom
  | ptr b i j =>
    have hb' : b < N := by simpa [belowL] using hb
    cases h with
    | ptr _ _ _ _ => exact .ptr (E := E.ren N π) b i j hb'
  | agg => cases hb
  | tup => cases hb
  | fn => cases hb
  | any => exact .any _
  | bool => cases h; exact .bool _
  | int => cases h; exact .int _ _
  | flt => cases h with | flt _ _ _ h => exact .flt _ _ _ h
  | cpx => cases h with | cpx _ _ _ _ _ h h' => exact .cpx _ _ _ _ _ h h'
  | str => cases h; exact .str _
  | nils => cases h; exact .nils _
  | nilp => cases h; exact .nilp
  | nilf => cases h; exact .nilf
  | ro l =>
    cases h with
    | roNil => exact .roNil _ _
    | ro _ b off cap wd val hF hcap hmax hw hc hv => exact .ro (E := E.ren N π) l b off cap wd val hF hcap hmax hw hc (fun i e hi j c hj => (hv i e hi j c hj).mono lb)
  | rop l =>
    cases h with
    | rop _ b off val hF hc hv => exact .rop (E := E.ren N π) l b off val hF hc (fun j c hj => (hv j c hj).mono lb)

theorem RV.unrenM {π : Nat → Nat} {N : Nat} {E : Env P} {a : AV} {v : Value} (hb : belowM N a = true) (h : RV E (renM π a) v) : RV (E.ren N π) a v := by
  cases a with
  | agg l =>
    simp only [belowM, List.all_eq_true] at hb
    cases h with
    | agg _ vs hl h =>
      refine .agg _ _ (by simpa using hl) fun i c v h1 h2 => RV.unrenL (hb c (List.mem_of_getElem? h1)) (h i (renL π c) v (by simp [h1]) h2)
  | fn f l =>
    simp only [belowM, List.all_eq_true] at hb
    cases h with
    | fn _ _ vs hl h =>
      refine .fn _ _ _ (by simpa using hl) fun i c v h1 h2 => RV.unrenL (hb c (List.mem_of_getElem? h1)) (h i (renL π c) v (by simp [h1]) h2)
  | _ => exact RV.unrenL hb h

theorem RV.unren {π : Nat → Nat} {N : Nat} {E : Env P} {a : AV} {v : Value} (hb : Abs.below N a = true) (h : RV E (Abs.ren π a) v) : RV (E.ren N π) a v := by
  cases a with
  | tup l =>
    simp only [Abs.below, List.all_eq_true] at hb
    cases h with
    | tup _ vs hl h =>
      refine .tup _ _ (by simpa using hl) fun i c v h1 h2 => RV.unrenM (hb c (List.mem_of_getElem? h1)) (h i (renM π c) v (by simp [h1]) h2)
  | _ => exact RV.unrenM hb h

theorem ren_cells {π : Nat → Nat} {N : Nat} {e : AV} (hb : below N e = true) : (Abs.ren π e).cells.length = e.cells.length ∧ ∀ (j : Nat) c, e.cells[j]? = some c → ∃ c', (Abs.ren π e).cells[j]? = some c' ∧ ∀ {E : Env P} {v : Value}, RV E c' v → RV (E.ren N π) c v := by
  cases e with
  | agg l =>
    have hb' : ∀ c ∈ l, belowL N c = true := by simpa [below, belowM, List.all_eq_true] using hb
    refine ⟨by simp [Abs.ren, renM, AV.cells], fun j c hc => ?_⟩
    have hc' : l[j]? = some c := hc
    exact ⟨renL π c, by simp [Abs.ren, renM, AV.cells, hc'], fun h => RV.unrenL (hb' c (List.mem_of_getElem? hc')) h⟩
  | any | bool | int | flt | cpx | str | tup | nils | ro | sl | ptr | rop | nilp | fn | nilf =>
    refine ⟨rfl, fun j c hc => ?_⟩
    cases j with
    | zero =>
      simp only [AV.cells, List.getElem?_cons_zero, Option.some.injEq] at hc
      subst hc
      exact ⟨_, rfl, fun h => RV.unren hb h⟩
    | succ j => simp [AV.cells] at hc

structure LeHp (N : Nat) (π : Nat → Nat) (n0 : Nat) (hp hp2 : List Blk) : Prop where
  len : hp2.length = N
  hn0 : n0 ≤ N
  low : ∀ b, b < n0 → π b = b
  inj : ∀ b b', b < N → b' < N → π b = π b' → b = b'
  blk : ∀ (b : Nat) r, hp2[b]? = some r → ∃ q, hp[π b]? = some q ∧ q.w = r.w ∧ (r.live = true → q.live = true ∧ q.ty = r.ty ∧ q.els = r.els.map (ren π) ∧ ∀ e ∈ r.els, below N e = true)

theorem LeHp.sound {N : Nat} {π : Nat → Nat} {n0 : Nat} {hp hp2 : List Blk} (h : LeHp N π n0 hp hp2) {E0 : Env P} {hp0 : List Blk} {E : Env P} (hn : hp0.length = n0) (H : HRel E hp) (F : Fr E0 hp0 E hp) : HRel (E.ren N π) hp2 ∧ Fr E0 hp0 (E.ren N π) hp2 := by
  have lt : ∀ (b : Nat) r, hp2[b]? = some r → b < N := fun b r hb => by rw [← h.len]; exact (List.getElem?_eq_some_iff.1 hb).1
  refine ⟨⟨h.len.symm, ?_, ?_, ?_, ?_, H.old, H.laid⟩, ?_⟩
  · intro b r hb
    obtain ⟨q, hq, hw, _⟩ := h.blk b r hb
    show E.wd (π b) = r.w
    rw [H.wd (π b) q hq, hw]
  · intro b r hb hl
    obtain ⟨q, hq, hw, hx⟩ := h.blk b r hb
    obtain ⟨hql, hty, hels, hbel⟩ := hx hl
    obtain ⟨cs, h1, h2⟩ := (H.holds (π b) q hq hql).cells
    refine ⟨cs, by rw [← hty]; exact h1, fun i e he => ?_⟩
    have hbe := hbel e (List.mem_of_getElem? he)
    obtain ⟨k1, k2⟩ := ren_cells (π := π) hbe
    have hqe : q.els[i]? = some (Abs.ren π e) := by rw [hels]; simp [he]
    obtain ⟨h3, h4⟩ := h2 i _ hqe
    refine ⟨by rw [← hw, ← h3, k1], fun j c hc => ?_⟩
    obtain ⟨c', hc', k3⟩ := k2 j c hc
    obtain ⟨v, h5, h6⟩ := h4 j c' hc'
    exact ⟨v, by rw [← hw]; exact h5, k3 h6⟩
  · intro b b' r r' hb hl hb' hl' he
    obtain ⟨q, hq, _, hx⟩ := h.blk b r hb
    obtain ⟨q', hq', _, hx'⟩ := h.blk b' r' hb'
    exact h.inj b b' (lt b r hb) (lt b' r' hb') (H.inj (π b) (π b') q q' hq (hx hl).1 hq' (hx' hl').1 he)
  · intro b r hb hl
    obtain ⟨q, hq, _, hx⟩ := h.blk b r hb
    exact H.apart (π b) q hq (hx hl).1
  · exact {
      size := F.size
      os := F.os
      tape := F.tape
      output := F.output
      block := F.block
      len := by rw [hn, h.len]; exact h.hn0
      ρ := fun b hb => by show E.ρ (π b) = _; rw [h.low b (by omega)]; exact F.ρ b hb
      wd := fun b hb => by show E.wd (π b) = _; rw [h.low b (by omega)]; exact F.wd b hb
      F := F.F
      F' := F.F'
      live := fun b ⟨r, hb, hl⟩ => by
        obtain ⟨q, hq, _, hx⟩ := h.blk b r hb
        have hlive := F.live (π b) ⟨q, hq, (hx hl).1⟩
        by_cases hbn : b < n0
        · rw [h.low b hbn] at hlive
          rcases hlive with h1 | ⟨h1, _⟩
          · exact .inl h1
          · omega
        · have hpi : n0 ≤ π b := by
            apply Decidable.byContradiction
            intro hlt
            have hlt' : π b < n0 := by omega
            have e1 := h.low (π b) hlt'
            have := h.inj (π b) b (Nat.lt_of_lt_of_le hlt' h.hn0) (lt b r hb) e1
            omega
          rcases hlive with ⟨h1, _⟩ | ⟨_, h2⟩
          · omega
          · exact .inr ⟨by omega, h2⟩
      csz := F.csz }

def LeV (N : Nat) (π : Nat → Nat) (a b : AV) : Prop := b = .any ∨ (a = ren π b ∧ below N b = true)
def LeTm (N : Nat) (π : Nat → Nat) : List AV → List AV → Prop
  | [], [] => True
  | a :: l, b :: m => LeV N π a b ∧ LeTm N π l m
  | _, _ => False
theorem LeTm.len {N : Nat} {π : Nat → Nat} : ∀ {l m : List AV}, LeTm N π l m → l.length = m.length
  | [], [], _ => rfl
  | a :: l, b :: m, h => by simp [LeTm.len h.2]
  | [], _ :: _, h => h.elim
  | _ :: _, [], h => h.elim
theorem LeTm.get {N : Nat} {π : Nat → Nat} : ∀ {l m : List AV}, LeTm N π l m → ∀ (i : Nat) b, m[i]? = some b → ∃ a, l[i]? = some a ∧ LeV N π a b
  | [], [], _, i, b, h => by simp at h
  | a :: l, b :: m, h, 0, x, hx => by simp at hx; subst hx; exact ⟨a, rfl, h.1⟩
  | a :: l, b :: m, h, i + 1, x, hx => by simpa using LeTm.get h.2 i x (by simpa using hx)
  | [], _ :: _, h, _, _, _ => h.elim
  | _ :: _, [], h, _, _, _ => h.elim

theorem weak_ren {n0 : Nat} {st st2 : St} (N : Nat) (π : Nat → Nat) (ht : LeTm N π st.tm st2.tm) (hh : LeHp N π n0 st.hp st2.hp) : Weak n0 st st2 := by
  intro _ E0 hp0 E a hn hs
  obtain ⟨H, F⟩ := hh.sound hn hs.hr hs.fr
  refine ⟨E.ren N π, rfl, H, F, ht.len.symm.trans hs.len, fun i v u h1 h2 => ?_, hs.df⟩
  obtain ⟨v0, h3, h4⟩ := ht.get i v h1
  rcases h4 with rfl | ⟨rfl, hb⟩
  · exact .any _
  · exact RV.unren hb (hs.tm i _ u h3 h2)

theorem weakR_ren {n0 : Nat} {r r2 : AV} {hp hp2 : List Blk} (N : Nat) (π : Nat → Nat) (hr : LeV N π r r2) (hh : LeHp N π n0 hp hp2) : WeakR n0 r hp r2 hp2 := by
  intro _ E0 hp0 E v hn H F hv
  obtain ⟨H', F'⟩ := hh.sound hn H F
  refine ⟨E.ren N π, rfl, H', F', ?_⟩
  rcases hr with rfl | ⟨rfl, hb⟩
  · exact .any _
  · exact RV.unren hb hv

theorem renL_id (N : Nat) {a : AV} (h : belowL N a = true) : renL (fun b => b) a = a := by cases a <;> first | rfl | cases h
theorem map_id_of {f : AV → AV} {l : List AV} (h : ∀ a ∈ l, f a = a) : l.map f = l := by
  induction l with
  | nil => rfl
  | cons a l ih => simp [h a (by simp), ih (fun x hx => h x (by simp [hx]))]
theorem renM_id (N : Nat) {a : AV} (h : belowM N a = true) : renM (fun b => b) a = a := by
  cases a with
  | agg l =>
    simp only [belowM, List.all_eq_true] at h
    show AV.agg (l.map (renL fun b => b)) = _
    rw [map_id_of fun a ha => renL_id N (h a ha)]
  | fn f l =>
    simp only [belowM, List.all_eq_true] at h
    show AV.fn f (l.map (renL fun b => b)) = _
    rw [map_id_of fun a ha => renL_id N (h a ha)]
  | _ => first | rfl | cases h
theorem ren_id (N : Nat) {a : AV} (h : below N a = true) : ren (fun b => b) a = a := by
  cases a with
  | tup l =>
    simp only [below, List.all_eq_true] at h
    show AV.tup (l.map (renM fun b => b)) = _
    rw [map_id_of fun a ha => renM_id N (h a ha)]
  | agg l => exact renM_id N (a := .agg l) h
  | fn f l => exact renM_id N (a := .fn f l) h
  | _ => first | rfl | cases h

def allBelow (N : Nat) (l : List AV) : Bool := l.all (below N)
def DropHp (N : Nat) : List Blk → List Blk → Prop
  | _, [] => True
  | q :: l, r :: m => (q.w = r.w ∧ (r.live = true → q.live = true ∧ q.ty = r.ty ∧ q.els = r.els ∧ allBelow N r.els = true)) ∧ DropHp N l m
  | [], _ :: _ => False
def DropV (N : Nat) (a b : AV) : Prop := b = .any ∨ (a = b ∧ below N b = true)
def DropTm (N : Nat) : List AV → List AV → Prop
  | [], [] => True
  | a :: l, b :: m => DropV N a b ∧ DropTm N l m
  | _, _ => False

theorem DropHp.get {N : Nat} : ∀ {hp hp2 : List Blk}, DropHp N hp hp2 → ∀ (b : Nat) r, hp2[b]? = some r → ∃ q, hp[b]? = some q ∧ q.w = r.w ∧ (r.live = true → q.live = true ∧ q.ty = r.ty ∧ q.els = r.els ∧ allBelow N r.els = true)
  | _, [], _, b, r, h => by simp at h
  | q :: l, r :: m, h, 0, x, hx => by simp at hx; subst hx; exact ⟨q, rfl, h.1⟩
  | q :: l, r :: m, h, b + 1, x, hx => by simpa using DropHp.get h.2 b x (by simpa using hx)
  | [], _ :: _, h, _, _, _ => h.elim

theorem DropHp.le {n0 : Nat} {hp hp2 : List Blk} (h : DropHp hp2.length hp hp2) (hn : n0 ≤ hp2.length) : LeHp hp2.length (fun b => b) n0 hp hp2 where
  len := rfl
  hn0 := hn
  low := fun _ _ => rfl
  inj := fun _ _ _ _ h => h
  blk := fun b r hb => by
    obtain ⟨q, h1, h2, h3⟩ := h.get b r hb
    refine ⟨q, h1, h2, fun hl => ?_⟩
    obtain ⟨a1, a2, a3, a4⟩ := h3 hl
    simp only [allBelow, List.all_eq_true] at a4
    exact ⟨a1, a2, by rw [a3, map_id_of fun e he => ren_id _ (a4 e he)], a4⟩
theorem DropTm.le {N : Nat} : ∀ {l m : List AV}, DropTm N l m → LeTm N (fun b => b) l m
  | [], [], _ => trivial
  | a :: l, b :: m, h => ⟨by
      rcases h.1 with h1 | ⟨h1, h2⟩
      · exact .inl h1
      · exact .inr ⟨by rw [h1, ren_id N h2], h2⟩, DropTm.le h.2⟩
  | [], _ :: _, h => h.elim
  | _ :: _, [], h => h.elim

theorem weak_drop {n0 : Nat} {st st2 : St} (hn : n0 ≤ st2.hp.length) (hh : DropHp st2.hp.length st.hp st2.hp) (ht : DropTm st2.hp.length st.tm st2.tm) : Weak n0 st st2 :=
  weak_ren _ _ ht.le (hh.le hn)
theorem weakR_drop {n0 : Nat} {r r2 : AV} {hp hp2 : List Blk} (hn : n0 ≤ hp2.length) (hh : DropHp hp2.length hp hp2) (hr : DropV hp2.length r r2) : WeakR n0 r hp r2 hp2 := by
  refine weakR_ren _ (fun b => b) ?_ (hh.le hn)
  rcases hr with h1 | ⟨h1, h2⟩
  · exact .inl h1
  · exact .inr ⟨by rw [h1, ren_id _ h2], h2⟩

theorem PostR.pure {r : AV} {hp : List Blk} {Q : AV → List Blk → Prop} (h : Q r []) (hb : below 0 r = true) : PostR 0 r hp Q :=
  ⟨r, [], weakR_drop (hp2 := []) (Nat.zero_le _) (by cases hp <;> trivial) (.inr ⟨rfl, hb⟩), h⟩
theorem PostR.names {n0 : Nat} {r : AV} {hp : List Blk} {Q : AV → List Blk → Prop} (π : Nat → Nat) (r2 : AV) (hp2 : List Blk) (hr : LeV hp2.length π r r2) (hh : LeHp hp2.length π n0 hp hp2) (h : Q r2 hp2) : PostR n0 r hp Q :=
  ⟨r2, hp2, weakR_ren _ π hr hh, h⟩
theorem PostR.slice {b i n : Nat} {hp : List Blk} {Q : AV → List Blk → Prop} (q : Blk) (hq : hp[b]? = some q) (hl : q.live = true) (he : allBelow 0 q.els = true) (h : Q (.sl 0 i n) [q]) : PostR 0 (.sl b i n) hp Q := by
  have mono : ∀ a, below 0 a = true → below 1 a = true ∧ ren (fun _ => b) a = a := by
    have hL : ∀ a, belowL 0 a = true → belowL 1 a = true ∧ renL (fun _ => b) a = a := by intro a h; cases a <;> first | exact ⟨rfl, rfl⟩ | (simp [belowL] at h)
    have hM : ∀ a, belowM 0 a = true → belowM 1 a = true ∧ renM (fun _ => b) a = a := by
      intro a h
      cases a with
      | agg l =>
        simp only [belowM, List.all_eq_true] at h
        exact ⟨by simp only [belowM, List.all_eq_true]; exact fun x hx => (hL x (h x hx)).1, by show AV.agg (l.map _) = _; rw [map_id_of fun x hx => (hL x (h x hx)).2]⟩
      | fn f l =>
        simp only [belowM, List.all_eq_true] at h
        exact ⟨by simp only [belowM, List.all_eq_true]; exact fun x hx => (hL x (h x hx)).1, by show AV.fn f (l.map _) = _; rw [map_id_of fun x hx => (hL x (h x hx)).2]⟩
      | _ => first | exact ⟨rfl, rfl⟩ | (simp [belowM, belowL] at h)
    intro a h
    cases a with
    | tup l =>
      simp only [below, List.all_eq_true] at h
      exact ⟨by simp only [below, List.all_eq_true]; exact fun x hx => (hM x (h x hx)).1, by show AV.tup (l.map _) = _; rw [map_id_of fun x hx => (hM x (h x hx)).2]⟩
    | agg l => exact hM (.agg l) h
    | fn f l => exact hM (.fn f l) h
    | _ => first | exact ⟨rfl, rfl⟩ | (simp [below, belowM, belowL] at h)
  simp only [allBelow, List.all_eq_true] at he
  refine PostR.names (fun _ => b) (.sl 0 i n) [q] (.inr ⟨rfl, rfl⟩) ⟨rfl, Nat.zero_le _, fun b hb => absurd hb (Nat.not_lt_zero _), fun b b' h1 h2 _ => by simp at h1 h2; omega, fun b' r hr => ?_⟩ h
  cases b' with
  | zero =>
    simp at hr; subst hr
    exact ⟨q, hq, rfl, fun _ => ⟨hl, rfl, (map_id_of fun x hx => (mono x (he x hx)).2).symm, fun x hx => (mono x (he x hx)).1⟩⟩
  | succ b' => simp at hr
end Go.Abs
/- The abstract layer, part N: a function that is proved for itself, called from anywhere. -/
set_option linter.unusedSimpArgs false
set_option linter.unusedVariables false
namespace Go.Abs
open Go
variable {P : Program}

structure Into (π : Nat → Nat) (E E2 : Env P) : Prop where
  le : E.bare.le E2.bare
  N : ∀ b, b < E.N → π b < E2.N
  ρ : ∀ b, b < E.N → E2.ρ (π b) = E.ρ b
  wd : ∀ b, b < E.N → E2.wd (π b) = E.wd b

theorem RV.renL {π : Nat → Nat} {E E2 : Env P} (h : Into π E E2) {a : AV} {v : Value} (hv : RV E a v) : RV E2 (renL π a) v := by
  cases hv with
  | any => exact .any _
  | bool => exact .bool _
  | int => exact .int _ _
  | flt _ _ _ h => exact .flt _ _ _ h
  | cpx _ _ _ _ _ h h' => exact .cpx _ _ _ _ _ h h'
  | str => exact .str _
  | agg => exact .any _
  | tup => exact .any _
  | nils => exact .nils _
  | roNil => exact .roNil _ _
  | ro l b off cap wd val hF hcap hmax hw hc hv =>
    refine .ro l b off cap wd val (h.le.F _ hF) hcap hmax hw (fun i e hi j c hj => ?_) (fun i e hi j c hj => (hv i e hi j c hj).mono h.le)
    have := h.le.cell _ hF
    rw [show E2.w.cell? ⟨b, off + i * wd + j, none⟩ = E.w.cell? ⟨b, off + i * wd + j, none⟩ from cell_of_heap this _]
    exact hc i e hi j c hj
  | sl b i n off cap hb ho hcap hmax hroom =>
    show RV E2 (.sl (π b) i n) _
    rw [← h.ρ b hb]
    exact .sl (π b) i n off cap (h.N b hb) (by rw [h.wd b hb]; exact ho) hcap hmax (fun hc => by rw [h.wd b hb, h.ρ b hb]; exact Nat.le_trans (hroom hc) (h.le.csz _))
  | ptr b i j hb =>
    show RV E2 (.ptr (π b) i j) _
    rw [← h.ρ b hb, ← h.wd b hb]
    exact .ptr (π b) i j (h.N b hb)
  | rop l b off val hF hc hv =>
    refine .rop l b off val (h.le.F _ hF) (fun j c hj => ?_) (fun j c hj => (hv j c hj).mono h.le)
    have := h.le.cell _ hF
    rw [show E2.w.cell? ⟨b, off + j, none⟩ = E.w.cell? ⟨b, off + j, none⟩ from cell_of_heap this _]
    exact hc j c hj
  | nilp => exact .nilp
  | fn => exact .any _
  | nilf => exact .nilf

theorem RV.renM {π : Nat → Nat} {E E2 : Env P} (h : Into π E E2) {a : AV} {v : Value} (hv : RV E a v) : RV E2 (renM π a) v := by
  cases a with
  | agg l =>
    cases hv with
    | agg l vs hl hc =>
      refine .agg _ _ (by simpa using hl) fun i c v h1 h2 => ?_
      obtain ⟨a0, h3, rfl⟩ := get_map_kill h1
      exact (hc i a0 v h3 h2).renL h
  | fn f l =>
    cases hv with
    | fn f l vs hl hc =>
      refine .fn _ _ _ (by simpa using hl) fun i c v h1 h2 => ?_
      obtain ⟨a0, h3, rfl⟩ := get_map_kill h1
      exact (hc i a0 v h3 h2).renL h
  | _ => exact hv.renL h
theorem RV.ren {π : Nat → Nat} {E E2 : Env P} (h : Into π E E2) {a : AV} {v : Value} (hv : RV E a v) : RV E2 (Abs.ren π a) v := by
  cases a with
  | tup l =>
    cases hv with
    | tup l vs hl hc =>
      refine .tup _ _ (by simpa using hl) fun i c v h1 h2 => ?_
      obtain ⟨a0, h3, rfl⟩ := get_map_kill h1
      exact (hc i a0 v h3 h2).renM h
  | _ => exact hv.renM h

theorem ren_cells' (π : Nat → Nat) (e : AV) : (Abs.ren π e).cells.length = e.cells.length ∧ ∀ (j : Nat) c, (Abs.ren π e).cells[j]? = some c → ∃ c0, e.cells[j]? = some c0 ∧ ∀ {E E2 : Env P} {v : Value}, Into π E E2 → RV E c0 v → RV E2 c v := by
  cases e with
  | agg l =>
    refine ⟨by simp [Abs.ren, Abs.renM, AV.cells], fun j c hc => ?_⟩
    have hc' : (l.map (Abs.renL π))[j]? = some c := hc
    obtain ⟨a0, h1, rfl⟩ := get_map_kill hc'
    exact ⟨a0, h1, fun h hv => hv.renL h⟩
  | any | bool | int | flt | cpx | str | tup | nils | ro | sl | ptr | rop | nilp | fn | nilf =>
    refine ⟨rfl, fun j c hc => ?_⟩
    cases j with
    | zero =>
      refine ⟨_, rfl, fun h hv => ?_⟩
      have := hv.ren h
      simp only [Abs.ren, Abs.renM, Abs.renL, AV.cells, List.getElem?_cons_zero, Option.some.injEq] at hc this
      rw [← hc]; exact this
    | succ j => simp [Abs.ren, Abs.renM, Abs.renL, AV.cells] at hc

theorem RV.bare {E : Env P} {a : AV} {v : Value} (hb : Abs.below 0 a = true) (h : RV E a v) : RV (E.ren 0 fun b => b) a v := by
  have : Abs.ren (fun b => b) a = a := ren_id 0 hb
  rw [← this] at h
  exact RV.unren hb h

theorem join_sound {E : Env P} {hp : List Blk} (H : HRel E hp) {F0 : Nat → Prop} (hF0 : ∀ c, E.F c → F0 c) (hF0' : ∀ c, F0 c → c < E.w.heap.size) {E' : Env P} {new : List Blk} (H' : HRel E' new) (F' : Fr { E.ren 0 (fun b => b) with F := F0 } [] E' new)
    (G : Nat → Prop) (hG : ∀ c, E.F c → G c) (hG1 : ∀ c, G c → E'.F c) (hG2 : ∀ b, Live hp b → ¬ G (E.ρ b)) (hGsmall : ∀ c, G c → E.F c ∨ E.w.heap.size ≤ c)
    (hels : ∀ (b : Nat) q, new[b]? = some q → q.live = true → ∀ (i : Nat) e, q.els[i]? = some e → ∀ (j : Nat) c, e.cells[j]? = some c → ∀ v, RV E' c v → RV ({ E' with F := G } : Env P) c v) :
    ∃ E2 : Env P, E2.w = E'.w ∧ HRel E2 (joinHp hp new) ∧ Fr E hp E2 (joinHp hp new) ∧ Into (fun b => b + hp.length) { E' with F := G } E2 := by
  have hsize : E.w.heap.size ≤ E'.w.heap.size := F'.size
  have hblock : ∀ c, c < E.w.heap.size → E'.w.heap[c]? = E.w.heap[c]? := fun c hc => F'.block c hc (fun b ⟨q, hq, _⟩ => by simp at hq)
  have hfresh : ∀ b, Live new b → E.w.heap.size ≤ E'.ρ b := fun b hb => by
    rcases F'.live b hb with ⟨h, _⟩ | ⟨_, h | ⟨b0, ⟨q, hq, _⟩, _⟩⟩
    · simp at h
    · exact h
    · simp at hq
  let E2 : Env P := { w := E'.w, F := G, N := hp.length + new.length, ρ := fun b => if b < hp.length then E.ρ b else E'.ρ (b - hp.length), wd := fun b => if b < hp.length then E.wd b else E'.wd (b - hp.length) }
  have hbound : ∀ (b : Nat) bk, hp[b]? = some bk → bk.live = true → E.ρ b < E.w.heap.size := fun b bk hb hlv => by
    obtain ⟨cs', h1, _⟩ := (H.holds b bk hb hlv).cells
    exact (Row.lt h1)
  have le : E.le E2 := ⟨fun c h => hG c h, fun c hc => hblock c (H.old c hc), by show E.N ≤ hp.length + new.length; rw [H.N]; omega,
    fun b hb => by have : b < hp.length := by rw [← H.N]; exact hb
                   simp [E2, this], fun b hb => by have : b < hp.length := by rw [← H.N]; exact hb
                                                   simp [E2, this], fun c => F'.csz c⟩
  have into : Into (fun b => b + hp.length) { E' with F := G } E2 := ⟨⟨fun _ h => h, fun _ _ => rfl, Nat.le_refl _, fun _ hb => absurd hb (Nat.not_lt_zero _), fun _ hb => absurd hb (Nat.not_lt_zero _), fun _ => Nat.le_refl _⟩,
    fun b hb => by have : b < new.length := by rw [← H'.N]; exact hb
                   show b + hp.length < hp.length + new.length; omega,
    fun b _ => by have h1 : ¬ b + hp.length < hp.length := by omega
                  have h2 : b + hp.length - hp.length = b := by omega
                  simp only [E2, h1, if_false, h2],
    fun b _ => by have h1 : ¬ b + hp.length < hp.length := by omega
                  have h2 : b + hp.length - hp.length = b := by omega
                  simp only [E2, h1, if_false, h2]⟩
  have hat : ∀ (b : Nat) bk, (joinHp hp new)[b]? = some bk → (b < hp.length ∧ hp[b]? = some bk) ∨ (hp.length ≤ b ∧ ∃ q, new[b - hp.length]? = some q ∧ bk = renB (fun b => b + hp.length) q) := by
    intro b bk h
    unfold joinHp at h
    rw [List.getElem?_append] at h
    split at h
    · exact .inl ⟨by assumption, h⟩
    · rename_i hge
      obtain ⟨q, h1, h2, _⟩ := mem_map_get h
      exact .inr ⟨by omega, q, h1, h2.symm⟩
  refine ⟨E2, rfl, ⟨?_, ?_, ?_, ?_, ?_, ?_, H.laidLe le⟩, ?_, into⟩
  · simp [E2, joinHp]
  · intro b bk hb
    rcases hat b bk hb with ⟨h1, h2⟩ | ⟨h1, q, h2, rfl⟩
    · simp only [E2, h1, if_true]; exact H.wd b bk h2
    · have : ¬ b < hp.length := by omega
      simp only [E2, this, if_false]
      exact H'.wd _ q h2
  · intro b bk hb hl
    rcases hat b bk hb with ⟨h1, h2⟩ | ⟨h1, q, h2, rfl⟩
    · obtain ⟨cs, h3, h4⟩ := (H.holds b bk h2 hl).cells
      refine ⟨cs, ?_, fun i e he => ⟨(h4 i e he).1, fun j x hx => ?_⟩⟩
      · simp only [E2, h1, if_true]; rw [hblock _ (hbound b bk h2 hl)]; exact h3
      · obtain ⟨v, h5, h6⟩ := (h4 i e he).2 j x hx
        exact ⟨v, h5, h6.mono le⟩
    · have hlt : ¬ b < hp.length := by omega
      obtain ⟨cs, h3, h4⟩ := (H'.holds _ q h2 hl).cells
      refine ⟨cs, ?_, fun i e he => ?_⟩
      · simp only [E2, hlt, if_false]; exact h3
      · obtain ⟨e0, h5, rfl⟩ := get_map_kill (f := Abs.ren fun b => b + hp.length) he
        obtain ⟨k1, k2⟩ := ren_cells' (fun b => b + hp.length) e0
        refine ⟨k1.trans (h4 i e0 h5).1, fun j x hx => ?_⟩
        obtain ⟨c0, h6, h7⟩ := k2 j x hx
        obtain ⟨v, h8, h9⟩ := (h4 i e0 h5).2 j c0 h6
        exact ⟨v, h8, h7 into (hels _ q h2 hl i e0 h5 j c0 h6 v h9)⟩
  · intro b1 b2 k1 k2 hb1 hl1 hb2 hl2 he
    rcases hat b1 k1 hb1 with ⟨h1, h2⟩ | ⟨h1, q1, h2, rfl⟩ <;> rcases hat b2 k2 hb2 with ⟨h3, h4⟩ | ⟨h3, q2, h4, rfl⟩
    · simp only [E2, h1, h3, if_true] at he
      exact H.inj b1 b2 k1 k2 h2 hl1 h4 hl2 he
    · have n2 : ¬ b2 < hp.length := by omega
      simp only [E2, h1, n2, if_true, if_false] at he
      have := hbound b1 k1 h2 hl1
      have := hfresh _ ⟨q2, h4, hl2⟩
      omega
    · have n1 : ¬ b1 < hp.length := by omega
      simp only [E2, h3, n1, if_true, if_false] at he
      have := hbound b2 k2 h4 hl2
      have := hfresh _ ⟨q1, h2, hl1⟩
      omega
    · have n1 : ¬ b1 < hp.length := by omega
      have n2 : ¬ b2 < hp.length := by omega
      simp only [E2, n1, n2, if_false] at he
      have := H'.inj _ _ q1 q2 h2 hl1 h4 hl2 he
      omega
  · intro b bk hb hl
    rcases hat b bk hb with ⟨h1, h2⟩ | ⟨h1, q, h2, rfl⟩
    · simp only [E2, h1, if_true]; exact hG2 b ⟨bk, h2, hl⟩
    · have : ¬ b < hp.length := by omega
      simp only [E2, this, if_false]
      exact fun h => H'.apart _ q h2 hl (hG1 _ h)
  · intro c hc
    exact H'.old c (hG1 c hc)
  · exact {
      size := hsize
      os := F'.os
      tape := F'.tape
      output := F'.output
      block := fun c hc _ => hblock c hc
      len := by simp [joinHp]
      ρ := fun b hb => by simp [E2, hb]
      wd := fun b hb => by simp [E2, hb]
      F := fun c h => hG c h
      F' := fun c h => by
        rcases F'.F' c (hG1 c h) with h1 | h1 | ⟨b, ⟨q, hq, _⟩, _⟩
        · by_cases hEF : E.F c
          · exact .inl hEF
          · by_cases hlv : ∃ b, Live hp b ∧ E.ρ b = c
            · exact .inr (.inr hlv)
            · exact (hGsmall c h).elim (fun x => .inl x) (fun x => .inr (.inl x))
        · exact .inr (.inl h1)
        · simp at hq
      live := fun b ⟨bk, hb, hl⟩ => by
        rcases hat b bk hb with ⟨h1, h2⟩ | ⟨h1, q, h2, rfl⟩
        · exact .inl ⟨h1, bk, h2, hl⟩
        · have : ¬ b < hp.length := by omega
          refine .inr ⟨h1, ?_⟩
          simp only [E2, this, if_false]
          exact .inl (hfresh _ ⟨q, h2, hl⟩)
      csz := F'.csz }
end Go.Abs
/- The abstract layer, part O: known blocks lent to a call that only reads them. -/
set_option linter.unusedSimpArgs false
set_option linter.unusedVariables false
namespace Go.Abs
open Go
variable {P : Program}

def Env.lent (E : Env P) (hp : List Blk) : Env P := { E.ren 0 (fun b => b) with F := fun c => E.F c ∨ ∃ b, Live hp b ∧ E.ρ b = c }

theorem lent_le {E : Env P} {hp : List Blk} : E.bare.le (E.lent hp).bare :=
  ⟨fun c h => .inl h, fun _ _ => rfl, Nat.le_refl _, fun _ hb => absurd hb (Nat.not_lt_zero _), fun _ hb => absurd hb (Nat.not_lt_zero _), fun _ => Nat.le_refl _⟩
theorem view_cells (d : Nat) (hp : List Blk) (e : AV) : (view d hp e).cells.length = e.cells.length := by
  cases d with
  | zero => cases e <;> simp [view, AV.cells]
  | succ d =>
    cases e with
    | agg l => simp [view, AV.cells]
    | sl b i n =>
      simp only [view]
      split
      · split <;> rfl
      · rfl
    | ptr b i j =>
      simp only [view]
      split
      · split
        · split <;> rfl
        · rfl
      · rfl
    | _ => rfl

theorem view_sound {E : Env P} {hp : List Blk} (H : HRel E hp) : ∀ (d : Nat) (a : AV), (∀ v, RV E a v → RV (E.lent hp) (view d hp a) v) ∧
    (∀ (j : Nat) c, (view d hp a).cells[j]? = some c → ∃ c0, a.cells[j]? = some c0 ∧ ∀ v, RV E c0 v → RV (E.lent hp) c v) := by
  intro d
  induction d with
  | zero =>
    intro a
    have plain : ∀ a v, RV E a v → (match a with | .sl _ _ _ | .ptr _ _ _ | .tup _ | .fn _ _ | .agg _ => False | _ => True) → RV (E.lent hp) a v := by
      intro a v h hm
      cases h with
      | any => exact .any _
      | bool => exact .bool _
      | int => exact .int _ _
      | flt _ _ _ h => exact .flt _ _ _ h
      | cpx _ _ _ _ _ h h' => exact .cpx _ _ _ _ _ h h'
      | str => exact .str _
      | agg => exact hm.elim
      | tup => exact hm.elim
      | nils => exact .nils _
      | roNil => exact .roNil _ _
      | ro l b off cap wd val hF hcap hmax hw hc hv => exact .ro (E := E.lent hp) l b off cap wd val (.inl hF) hcap hmax hw hc (fun i e hi j c hj => (hv i e hi j c hj).mono lent_le)
      | sl => exact hm.elim
      | ptr => exact hm.elim
      | rop l b off val hF hc hv => exact .rop (E := E.lent hp) l b off val (.inl hF) hc (fun j c hj => (hv j c hj).mono lent_le)
      | nilp => exact .nilp
      | fn => exact hm.elim
      | nilf => exact .nilf
    cases a with
    | agg l =>
      refine ⟨fun v h => ?_, fun j c hc => ?_⟩
      · cases h with
        | agg _ vs hl h =>
          refine .agg _ _ (by simpa using hl) fun i c v h1 h2 => ?_
          obtain ⟨a0, _, rfl⟩ := get_map_kill (f := fun _ => AV.any) h1
          exact .any _
      · have hc' : (l.map fun _ => AV.any)[j]? = some c := hc
        obtain ⟨a0, h1, rfl⟩ := get_map_kill hc'
        exact ⟨a0, h1, fun v _ => .any _⟩
    | sl | ptr | tup | fn =>
      refine ⟨fun v h => .any _, fun j c hc => ?_⟩
      cases j with
      | zero => simp [view, AV.cells] at hc; subst hc; exact ⟨_, rfl, fun v _ => .any _⟩
      | succ j => simp [view, AV.cells] at hc
    | any | bool | int | flt | cpx | str | nils | ro | rop | nilp | nilf =>
      refine ⟨fun v h => plain _ v h trivial, fun j c hc => ?_⟩
      cases j with
      | zero => simp only [view, AV.cells, List.getElem?_cons_zero, Option.some.injEq] at hc; subst hc; exact ⟨_, rfl, fun v h => plain _ v h trivial⟩
      | succ j => simp [view, AV.cells] at hc
  | succ d ih =>
    intro a
    have main : ∀ v, RV E a v → RV (E.lent hp) (view (d + 1) hp a) v := by
      intro v h
      cases h with
      | any => exact .any _
      | bool => exact .bool _
      | int => exact .int _ _
      | flt _ _ _ h => exact .flt _ _ _ h
      | cpx _ _ _ _ _ h h' => exact .cpx _ _ _ _ _ h h'
      | str => exact .str _
      | agg l vs hl h =>
        refine .agg _ _ (by simpa using hl) fun i c v h1 h2 => ?_
        obtain ⟨a0, h3, rfl⟩ := get_map_kill (f := view d hp) h1
        exact (ih a0).1 v (h i a0 v h3 h2)
      | tup l vs hl h =>
        refine .tup _ _ (by simpa using hl) fun i c v h1 h2 => ?_
        obtain ⟨a0, h3, rfl⟩ := get_map_kill (f := view d hp) h1
        exact (ih a0).1 v (h i a0 v h3 h2)
      | nils => exact .nils _
      | roNil => exact .roNil _ _
      | ro l b off cap wd val hF hcap hmax hw hc hv => exact .ro (E := E.lent hp) l b off cap wd val (.inl hF) hcap hmax hw hc (fun i e hi j c hj => (hv i e hi j c hj).mono lent_le)
      | sl b i n off cap hb ho hcap hmax hroom =>
        simp only [view]
        split
        · rename_i blk hblk
          split
          · rename_i hcond
            simp only [Bool.and_eq_true, decide_eq_true_eq] at hcond
            obtain ⟨hl, hin⟩ := hcond
            have hlen : (((blk.els.drop i).take n).map (view d hp)).length = n := by simp; omega
            by_cases hn : n = 0
            · subst hn
              simp only [List.take_zero, List.map_nil]
              exact .roNil _ _
            · have hcp : 0 < cap := by omega
              have hoff := ho hcp
              have hwd := H.wd b blk hblk
              obtain ⟨cs, hcs1, hcs2⟩ := (H.holds b blk hblk hl).cells
              have tr : ∀ (m : Nat) e, (((blk.els.drop i).take n).map (view d hp))[m]? = some e → ∃ e0, blk.els[i + m]? = some e0 ∧ e = view d hp e0 := by
                intro m e he
                obtain ⟨e0, h1, h2⟩ := get_map_kill he
                rw [List.getElem?_take] at h1
                split at h1
                · rw [List.getElem?_drop] at h1; exact ⟨e0, h1, h2.symm⟩
                · cases h1
              have cellAt : ∀ (m : Nat) e, (((blk.els.drop i).take n).map (view d hp))[m]? = some e → ∀ (j : Nat) c, e.cells[j]? = some c → ∃ v, E.w.cell? ⟨E.ρ b, off + m * blk.w + j, none⟩ = some v ∧ RV (E.lent hp) c v := by
                intro m e he j c hc
                obtain ⟨e0, h1, rfl⟩ := tr m e he
                obtain ⟨c0, h2, h3⟩ := (ih e0).2 j c hc
                obtain ⟨v, h4, h5⟩ := H.cell hblk hl h1 h2
                refine ⟨v, ?_, h3 v h5⟩
                rw [hoff, hwd]
                rw [hwd, Nat.add_mul] at h4
                exact h4
              have := RV.ro (E := E.lent hp) (((blk.els.drop i).take n).map (view d hp)) (E.ρ b) off cap blk.w (fun m j => (E.w.cell? ⟨E.ρ b, off + m * blk.w + j, none⟩).getD undef)
                (.inr ⟨b, ⟨blk, hblk, hl⟩, rfl⟩) (by rw [hlen]; exact hcap) hmax
                (fun m e he => by
                  obtain ⟨e0, h1, rfl⟩ := tr m e he
                  rw [view_cells]; exact (hcs2 _ e0 h1).1)
                (fun m e he j c hc => by
                  obtain ⟨v, h1, _⟩ := cellAt m e he j c hc
                  show E.w.cell? _ = _
                  rw [h1]; rfl)
                (fun m e he j c hc => by
                  obtain ⟨v, h1, h2⟩ := cellAt m e he j c hc
                  simp only [h1, Option.getD_some]
                  exact h2)
              rw [hlen] at this
              exact this
          · exact .any _
        · exact .any _
      | ptr b i j hb =>
        simp only [view]
        split
        · rename_i blk hblk
          split
          · rename_i hl
            split
            · rename_i e he
              have hl' : blk.live = true := hl
              have cellAt : ∀ (m : Nat) c, ((e.cells.drop j).map (view d hp))[m]? = some c → ∃ v, E.w.cell? ⟨E.ρ b, i * E.wd b + j + m, none⟩ = some v ∧ RV (E.lent hp) c v := by
                intro m c hc
                obtain ⟨c0, h1, rfl⟩ := get_map_kill hc
                rw [List.getElem?_drop] at h1
                obtain ⟨v, h4, h5⟩ := H.cell hblk hl' he h1
                refine ⟨v, ?_, (ih c0).1 v h5⟩
                rw [Nat.add_assoc]; exact h4
              exact .rop (E := E.lent hp) _ (E.ρ b) _ (fun m => (E.w.cell? ⟨E.ρ b, i * E.wd b + j + m, none⟩).getD undef) (.inr ⟨b, ⟨blk, hblk, hl'⟩, rfl⟩)
                (fun m c hc => by
                  obtain ⟨v, h1, _⟩ := cellAt m c hc
                  show E.w.cell? _ = _
                  rw [h1]; rfl)
                (fun m c hc => by
                  obtain ⟨v, h1, h2⟩ := cellAt m c hc
                  simp only [h1, Option.getD_some]
                  exact h2)
            · exact .any _
          · exact .any _
        · exact .any _
      | rop l b off val hF hc hv => exact .rop (E := E.lent hp) l b off val (.inl hF) hc (fun j c hj => (hv j c hj).mono lent_le)
      | nilp => exact .nilp
      | fn f l vs hl h =>
        refine .fn _ _ _ (by simpa using hl) fun i c v h1 h2 => ?_
        obtain ⟨a0, h3, rfl⟩ := get_map_kill (f := view d hp) h1
        exact (ih a0).1 v (h i a0 v h3 h2)
      | nilf => exact .nilf
    refine ⟨main, fun j c hc => ?_⟩
    cases a with
    | agg l =>
      have hc' : (l.map (view d hp))[j]? = some c := hc
      obtain ⟨a0, h1, rfl⟩ := get_map_kill hc'
      exact ⟨a0, h1, (ih a0).1⟩
    | sl b i n =>
      have hcells : (view (d + 1) hp (.sl b i n)).cells = [view (d + 1) hp (.sl b i n)] := by
        simp only [view]; split
        · split <;> rfl
        · rfl
      rw [hcells] at hc
      cases j with
      | zero => simp at hc; subst hc; exact ⟨_, rfl, main⟩
      | succ j => simp at hc
    | ptr b i n =>
      have hcells : (view (d + 1) hp (.ptr b i n)).cells = [view (d + 1) hp (.ptr b i n)] := by
        simp only [view]; split
        · split
          · split <;> rfl
          · rfl
        · rfl
      rw [hcells] at hc
      cases j with
      | zero => simp at hc; subst hc; exact ⟨_, rfl, main⟩
      | succ j => simp at hc
    | any | bool | int | flt | cpx | str | tup | nils | ro | rop | nilp | fn | nilf =>
      cases j with
      | zero => simp only [view, AV.cells, List.getElem?_cons_zero, Option.some.injEq] at hc; subst hc; exact ⟨_, rfl, main⟩
      | succ j => simp [view, AV.cells] at hc

theorem RV.cleanL {E : Env P} {G : Nat → Prop} {a : AV} {v : Value} (hc : cleanL a = true) (h : RV E a v) : RV ({ E with F := G } : Env P) a v := by
  cases h with
  | any => exact .any _
  | bool => exact .bool _
  | int => exact .int _ _
  | flt _ _ _ h => exact .flt _ _ _ h
  | cpx _ _ _ _ _ h h' => exact .cpx _ _ _ _ _ h h'
  | str => exact .str _
  | nils => exact .nils _
  | sl b i n off cap hb ho hcap hmax hroom => exact .sl (E := { E with F := G }) b i n off cap hb ho hcap hmax hroom
  | ptr b i j hb => exact .ptr (E := { E with F := G }) b i j hb
  | nilp => exact .nilp
  | nilf => exact .nilf
  | agg => cases hc
  | tup => cases hc
  | fn => cases hc
  | roNil => exact .roNil _ _
  | ro => cases hc
  | rop => cases hc
theorem RV.cleanM {E : Env P} {G : Nat → Prop} {a : AV} {v : Value} (hc : Abs.cleanM a = true) (h : RV E a v) : RV ({ E with F := G } : Env P) a v := by
  cases a with
  | agg l =>
    simp only [Abs.cleanM, List.all_eq_true] at hc
    cases h with
    | agg _ vs hl h => exact .agg _ _ hl fun i c v h1 h2 => (h i c v h1 h2).cleanL (hc c (List.mem_of_getElem? h1))
  | fn f l =>
    simp only [Abs.cleanM, List.all_eq_true] at hc
    cases h with
    | fn _ _ vs hl h => exact .fn _ _ _ hl fun i c v h1 h2 => (h i c v h1 h2).cleanL (hc c (List.mem_of_getElem? h1))
  | _ => exact h.cleanL hc
theorem RV.clean {E : Env P} {G : Nat → Prop} {a : AV} {v : Value} (hc : Abs.clean a = true) (h : RV E a v) : RV ({ E with F := G } : Env P) a v := by
  cases a with
  | tup l =>
    simp only [Abs.clean, List.all_eq_true] at hc
    cases h with
    | tup _ vs hl h => exact .tup _ _ hl fun i c v h1 h2 => (h i c v h1 h2).cleanM (hc c (List.mem_of_getElem? h1))
  | _ => exact h.cleanM hc

theorem clean_cells {e : AV} (hc : Abs.clean e = true) {j : Nat} {c : AV} (h : e.cells[j]? = some c) {E : Env P} {G : Nat → Prop} {v : Value} (hv : RV E c v) : RV ({ E with F := G } : Env P) c v := by
  cases e with
  | agg l =>
    have hc' : ∀ a ∈ l, Abs.cleanL a = true := by simpa [Abs.clean, Abs.cleanM, List.all_eq_true] using hc
    have h' : l[j]? = some c := h
    exact hv.cleanL (hc' c (List.mem_of_getElem? h'))
  | _ =>
    cases j with
    | zero =>
      simp only [AV.cells, List.getElem?_cons_zero, Option.some.injEq] at h
      subst h
      exact hv.clean hc
    | succ j => simp [AV.cells] at h

section
variable {P : Program}

theorem CallA.lift {f : FuncId} {args : List AV} {hp : List Blk} {Q : AV → List Blk → Prop} (ha : args.all (below 0) = true)
    (h : CallA P f args [] fun r new => Q (ren (fun b => b + hp.length) r) (joinHp hp new)) : CallA P f args hp Q := by
  intro E vs H hl hrv
  simp only [List.all_eq_true] at ha
  have H0 : HRel (E.ren 0 fun b => b) [] := ⟨rfl, by simp, by simp, by simp, by simp, H.old, H.laid⟩
  refine (h (E.ren 0 fun b => b) vs H0 hl (fun i a v h1 h2 => RV.bare (ha a (List.mem_of_getElem? h1)) (hrv i a v h1 h2))).mono ?_
  rintro v w' ⟨r, new, E', hw, hQ, hv, H', F'⟩
  obtain ⟨E2, h1, h2, h3, h4⟩ := join_sound H (F0 := E.F) (fun _ h => h) H.old H' F' E'.F (F'.F) (fun _ h => h) (fun b hb hF => by
      rcases F'.F' _ hF with g1 | g1 | ⟨b', ⟨q, hq, _⟩, _⟩
      · obtain ⟨q, hq, hl⟩ := hb; exact H.apart b q hq hl g1
      · obtain ⟨q, hq, hl⟩ := hb
        obtain ⟨cs', g2, _⟩ := (H.holds b q hq hl).cells
        have := (Row.lt g2)
        have g1' : E.w.heap.size ≤ E.ρ b := g1
        omega
      · simp at hq)
    (fun c hc => by
      rcases F'.F' _ hc with g1 | g1 | ⟨b', ⟨q, hq, _⟩, _⟩
      · exact .inl g1
      · exact .inr g1
      · simp at hq) (fun b q hq hl i e he j c hc v hv => hv)
  exact ⟨_, _, E2, h1.trans hw, hQ, RV.ren h4 hv, h2, h3⟩

theorem CallA.borrow (d : Nat) {f : FuncId} {args : List AV} {hp : List Blk} {Q : AV → List Blk → Prop}
    (h : CallA P f (args.map (view d hp)) [] fun r new => (clean r = true ∧ new.all cleanB = true) ∧ Q (ren (fun b => b + hp.length) r) (joinHp hp new)) : CallA P f args hp Q := by
  intro E vs H hl hrv
  have H0 : HRel (E.lent hp) [] := ⟨rfl, by simp, by simp, by simp, by simp, fun c hc => by
    rcases hc with h1 | ⟨b, ⟨q, hq, hlv⟩, rfl⟩
    · exact H.old c h1
    · obtain ⟨cs', g2, _⟩ := (H.holds b q hq hlv).cells
      exact (Row.lt g2), H.laid.keep (fun c h => .inl h) (fun _ _ => rfl)⟩
  refine (h (E.lent hp) vs H0 (by simpa using hl) (fun i a v h1 h2 => ?_)).mono ?_
  · obtain ⟨a0, h3, rfl⟩ := get_map_kill h1
    exact (view_sound H d a0).1 v (hrv i a0 v h3 h2)
  rintro v w' ⟨r, new, E', hw, ⟨⟨hcr, hcn⟩, hQ⟩, hv, H', F'⟩
  simp only [List.all_eq_true] at hcn
  obtain ⟨E2, h1, h2, h3, h4⟩ := join_sound H (F0 := (E.lent hp).F) (fun _ h => .inl h) (fun c hc => H0.old c hc) H' F' E.F (fun _ h => h) (fun c hc => F'.F c (.inl hc)) (fun b ⟨q, hq, hl⟩ hF => H.apart b q hq hl hF)
    (fun c hc => .inl hc) (fun b q hq hl i e he j c hc v hv => by
      have hq' := hcn q (List.mem_of_getElem? hq)
      simp only [cleanB, List.all_eq_true] at hq'
      exact clean_cells (hq' e (List.mem_of_getElem? he)) hc hv)
  exact ⟨_, _, E2, h1.trans hw, hQ, RV.ren h4 (hv.clean hcr), h2, h3⟩
end
end Go.Abs
/- The abstract layer, part P: lists of plain values; what the walk's simp needs. -/
set_option linter.unusedSimpArgs false
set_option linter.unusedVariables false
namespace Go.Abs
open Go
variable {P : Program}

def ints (l : List Int) : List AV := l.map (AV.int .i64)
def flts (l : List Nat) : List AV := l.map (AV.flt .f32)

section
variable (l m : List Int) (f g : List Nat)
theorem ints_len : (ints l).length = l.length := by simp [ints]
theorem ints_get (i : Nat) (h : i < (ints l).length) : (ints l)[i] = .int .i64 (l[i]'(by simpa [ints] using h)) := by simp [ints]
theorem ints_append : ints l ++ ints m = ints (l ++ m) := by simp [ints]
theorem ints_snoc (n : Int) : ints l ++ [AV.int .i64 n] = ints (l ++ [n]) := by simp [ints]
theorem ints_kill (b : Nat) : (ints l).map (kill b) = ints l := by
  simp only [ints, List.map_map]; apply List.map_congr_left; intro x _; rfl
theorem ints_ren (π : Nat → Nat) : (ints l).map (ren π) = ints l := by
  simp only [ints, List.map_map]; apply List.map_congr_left; intro x _; rfl
theorem ints_below (N : Nat) : allBelow N (ints l) = true := by simp [allBelow, ints, below, belowM, belowL]
theorem flts_len : (flts f).length = f.length := by simp [flts]
theorem flts_get (i : Nat) (h : i < (flts f).length) : (flts f)[i] = .flt .f32 (f[i]'(by simpa [flts] using h)) := by simp [flts]
theorem flts_append : flts f ++ flts g = flts (f ++ g) := by simp [flts]
theorem flts_snoc (n : Nat) : flts f ++ [AV.flt .f32 n] = flts (f ++ [n]) := by simp [flts]
theorem flts_set (i : Nat) (n : Nat) : (flts f).set i (.flt .f32 n) = flts (f.set i n) := by simp [flts, List.map_set]
theorem flts_take (n : Nat) : (flts f).take n = flts (f.take n) := by simp [flts, List.map_take]
theorem flts_drop (n : Nat) : (flts f).drop n = flts (f.drop n) := by simp [flts, List.map_drop]
theorem flts_kill (b : Nat) : (flts f).map (kill b) = flts f := by
  simp only [flts, List.map_map]; apply List.map_congr_left; intro x _; rfl
theorem flts_ren (π : Nat → Nat) : (flts f).map (ren π) = flts f := by
  simp only [flts, List.map_map]; apply List.map_congr_left; intro x _; rfl
theorem flts_below (N : Nat) : allBelow N (flts f) = true := by simp [allBelow, flts, below, belowM, belowL]
theorem flts_clean : (flts f).all clean = true := by simp [flts, clean, cleanM, cleanL]
theorem flts_allW : AllW 1 (flts f) := by intro a ha; simp only [flts, List.mem_map] at ha; obtain ⟨x, _, rfl⟩ := ha; exact ⟨rfl, rfl⟩
end

theorem brk_true (x y : Prop) : brk true x y = x := by simp [brk]
theorem brk_false (x y : Prop) : brk false x y = y := by simp [brk]
end Go.Abs
/- The abstract layer, part Q: a function that is proved with some known blocks, called where there are more. -/
set_option linter.unusedSimpArgs false
set_option linter.unusedVariables false
namespace Go.Abs
open Go
variable {P : Program}

def upName (σ : List Nat) (n : Nat) (i : Nat) : Nat := if i < σ.length then σ.getD i 0 else n + (i - σ.length)
def putBack (τ : Nat → Nat) : List Nat → List Blk → List Blk → List Blk
  | b :: σ, q :: l, hp => putBack τ σ l (hp.set b (renB τ q))
  | _, _, hp => hp

theorem putBack_len (τ : Nat → Nat) : ∀ (σ : List Nat) (l hp : List Blk), (putBack τ σ l hp).length = hp.length
  | [], _, _ => rfl
  | _ :: _, [], _ => rfl
  | b :: σ, q :: l, hp => by simp [putBack, putBack_len τ σ l]
theorem putBack_other (τ : Nat → Nat) : ∀ (σ : List Nat) (l hp : List Blk) (b : Nat), b ∉ σ → (putBack τ σ l hp)[b]? = hp[b]?
  | [], _, _, _, _ => rfl
  | _ :: _, [], _, _, _ => rfl
  | c :: σ, q :: l, hp, b, h => by
    simp only [List.mem_cons, not_or] at h
    simp only [putBack]
    rw [putBack_other τ σ l _ b h.2, List.getElem?_set_ne (fun e => h.1 e.symm)]
theorem putBack_at (τ : Nat → Nat) : ∀ (σ : List Nat) (l hp : List Blk) (i b : Nat) (q : Blk), σ.Nodup → σ[i]? = some b → l[i]? = some q → b < hp.length → (putBack τ σ l hp)[b]? = some (renB τ q)
  | [], _, _, i, _, _, _, h, _, _ => by simp at h
  | _ :: _, [], _, i, _, _, _, _, h, _ => by simp at h
  | c :: σ, q :: l, hp, 0, b, q', hn, h1, h2, hb => by
    simp only [List.getElem?_cons_zero, Option.some.injEq] at h1 h2
    subst h1; subst h2
    simp only [putBack]
    rw [putBack_other τ σ l _ c (List.nodup_cons.1 hn).1, List.getElem?_set_self hb]
  | c :: σ, q :: l, hp, i + 1, b, q', hn, h1, h2, hb => by
    simp only [putBack]
    exact putBack_at τ σ l _ i b q' (List.nodup_cons.1 hn).2 (by simpa using h1) (by simpa using h2) (by simpa using hb)

def subHp (σ : List Nat) (hp hp' : List Blk) : List Blk := putBack (upName σ hp.length) σ hp' hp ++ (hp'.drop σ.length).map (renB (upName σ hp.length))

structure Sub (σ : List Nat) (hp hps : List Blk) : Prop where
  nodup : σ.Nodup
  len : hps.length = σ.length
  blk : ∀ (i : Nat) r, hps[i]? = some r → ∃ q, hp[σ.getD i 0]? = some q ∧ q.w = r.w ∧ (r.live = true → q.live = true ∧ q.ty = r.ty ∧ q.els = r.els.map (ren fun i => σ.getD i 0) ∧ ∀ e ∈ r.els, below σ.length e = true)

theorem Sub.hrel {σ : List Nat} {hp hps : List Blk} (S : Sub σ hp hps) {E : Env P} (H : HRel E hp) : HRel (E.ren σ.length fun i => σ.getD i 0) hps := by
  have lt : ∀ (b : Nat) r, hps[b]? = some r → b < σ.length := fun b r hb => by rw [← S.len]; exact (List.getElem?_eq_some_iff.1 hb).1
  have inj : ∀ b b', b < σ.length → b' < σ.length → σ.getD b 0 = σ.getD b' 0 → b = b' := by
    intro b b' h1 h2 he
    simp only [List.getD, List.getElem?_eq_getElem h1, List.getElem?_eq_getElem h2, Option.getD_some] at he
    exact (List.getElem_inj S.nodup).1 he
  refine ⟨S.len.symm, ?_, ?_, ?_, ?_, H.old, H.laid⟩
  · intro b r hb
    obtain ⟨q, hq, hw, _⟩ := S.blk b r hb
    show E.wd (σ.getD b 0) = r.w
    rw [H.wd _ q hq, hw]
  · intro b r hb hl
    obtain ⟨q, hq, hw, hx⟩ := S.blk b r hb
    obtain ⟨hql, hty, hels, hbel⟩ := hx hl
    obtain ⟨cs, h1, h2⟩ := (H.holds _ q hq hql).cells
    refine ⟨cs, by rw [← hty]; exact h1, fun i e he => ?_⟩
    have hbe := hbel e (List.mem_of_getElem? he)
    obtain ⟨k1, k2⟩ := ren_cells (π := fun i => σ.getD i 0) hbe
    have hqe : q.els[i]? = some (Abs.ren (fun i => σ.getD i 0) e) := by rw [hels]; simp [he]
    obtain ⟨h3, h4⟩ := h2 i _ hqe
    refine ⟨by rw [← hw, ← h3, k1], fun j c hc => ?_⟩
    obtain ⟨c', hc', k3⟩ := k2 j c hc
    obtain ⟨v, h5, h6⟩ := h4 j c' hc'
    exact ⟨v, by rw [← hw]; exact h5, k3 h6⟩
  · intro b b' r r' hb hl hb' hl' he
    obtain ⟨q, hq, _, hx⟩ := S.blk b r hb
    obtain ⟨q', hq', _, hx'⟩ := S.blk b' r' hb'
    exact inj b b' (lt b r hb) (lt b' r' hb') (H.inj _ _ q q' hq (hx hl).1 hq' (hx' hl').1 he)
  · intro b r hb hl
    obtain ⟨q, hq, _, hx⟩ := S.blk b r hb
    exact H.apart _ q hq (hx hl).1

theorem sub_sound {E : Env P} {hp hps : List Blk} (H : HRel E hp) {σ : List Nat} (S : Sub σ hp hps) {E' : Env P} {hp' : List Blk} (H' : HRel E' hp') (F' : Fr (E.ren σ.length fun i => σ.getD i 0) hps E' hp') :
    ∃ E2 : Env P, E2.w = E'.w ∧ HRel E2 (subHp σ hp hp') ∧ Fr E hp E2 (subHp σ hp hp') ∧ Into (upName σ hp.length) E' E2 := by
  have Hs := S.hrel H
  have hm : σ.length ≤ hp'.length := by rw [← S.len]; exact F'.len
  have hσlt : ∀ i, i < σ.length → σ.getD i 0 < hp.length := fun i hi => by
    have hi' : i < hps.length := by rw [S.len]; exact hi
    obtain ⟨q, hq, _⟩ := S.blk i hps[i] (List.getElem?_eq_getElem hi')
    exact (List.getElem?_eq_some_iff.1 hq).1
  have hσget : ∀ i, i < σ.length → σ[i]? = some (σ.getD i 0) := fun i hi => by simp [List.getD, List.getElem?_eq_getElem hi]
  have hsize : E.w.heap.size ≤ E'.w.heap.size := F'.size
  have hbound : ∀ (b : Nat) bk, hp[b]? = some bk → bk.live = true → E.ρ b < E.w.heap.size := fun b bk hb hlv => by
    obtain ⟨cs', h1, _⟩ := (H.holds b bk hb hlv).cells
    exact (Row.lt h1)
  have liveS : ∀ i, Live hps i → i < σ.length ∧ Live hp (σ.getD i 0) := fun i ⟨r, hr, hl⟩ => by
    obtain ⟨q, hq, _, hx⟩ := S.blk i r hr
    exact ⟨by rw [← S.len]; exact (List.getElem?_eq_some_iff.1 hr).1, q, hq, (hx hl).1⟩
  let n := hp.length
  let E2 : Env P := { w := E'.w, F := E'.F, N := hp.length + (hp'.length - σ.length), ρ := fun b => if b < hp.length then E.ρ b else E'.ρ (b - hp.length + σ.length), wd := fun b => if b < hp.length then E.wd b else E'.wd (b - hp.length + σ.length) }
  have kept : ∀ c, E.F c → E'.w.heap[c]? = E.w.heap[c]? := fun c hc => F'.kept Hs hc
  have le : E.le E2 := ⟨fun c h => F'.F c h, kept, by show E.N ≤ _; rw [H.N]; simp [E2],
    fun b hb => by have : b < hp.length := by rw [← H.N]; exact hb
                   simp [E2, this], fun b hb => by have : b < hp.length := by rw [← H.N]; exact hb
                                                   simp [E2, this], fun c => F'.csz c⟩
  have into : Into (upName σ hp.length) E' E2 := by
    refine ⟨⟨fun _ h => h, fun _ _ => rfl, Nat.le_refl _, fun _ hb => absurd hb (Nat.not_lt_zero _), fun _ hb => absurd hb (Nat.not_lt_zero _), fun _ => Nat.le_refl _⟩, fun i hi => ?_, fun i hi => ?_, fun i hi => ?_⟩
    · have hi' : i < hp'.length := by rw [← H'.N]; exact hi
      unfold upName
      by_cases h1 : i < σ.length
      · simp only [h1, if_true]; have := hσlt i h1; show σ.getD i 0 < hp.length + _; omega
      · simp only [h1, if_false]; show hp.length + (i - σ.length) < hp.length + _; omega
    · unfold upName
      by_cases h1 : i < σ.length
      · simp only [h1, if_true, E2, hσlt i h1]
        exact (F'.ρ i (by rw [S.len]; exact h1)).symm
      · have h2 : ¬ hp.length + (i - σ.length) < hp.length := by omega
        have h3 : hp.length + (i - σ.length) - hp.length + σ.length = i := by omega
        simp only [h1, if_false, E2, h2, h3]
    · unfold upName
      by_cases h1 : i < σ.length
      · simp only [h1, if_true, E2, hσlt i h1]
        exact (F'.wd i (by rw [S.len]; exact h1)).symm
      · have h2 : ¬ hp.length + (i - σ.length) < hp.length := by omega
        have h3 : hp.length + (i - σ.length) - hp.length + σ.length = i := by omega
        simp only [h1, if_false, E2, h2, h3]
  -- what stands where
  have hat : ∀ (b : Nat) bk, (subHp σ hp hp')[b]? = some bk → (b < hp.length ∧ b ∉ σ ∧ hp[b]? = some bk) ∨ (∃ i q, upName σ hp.length i = b ∧ hp'[i]? = some q ∧ bk = renB (upName σ hp.length) q ∧ ((i < σ.length ∧ b < hp.length) ∨ (σ.length ≤ i ∧ hp.length ≤ b))) := by
    intro b bk h
    unfold subHp at h
    rw [List.getElem?_append, putBack_len] at h
    split at h
    · rename_i hb
      by_cases hmem : b ∈ σ
      · obtain ⟨i, hi⟩ := List.getElem?_of_mem hmem
        have hilt : i < σ.length := (List.getElem?_eq_some_iff.1 hi).1
        have hi' : i < hp'.length := by omega
        rw [putBack_at _ σ hp' hp i b hp'[i] S.nodup hi (List.getElem?_eq_getElem hi') hb] at h
        refine .inr ⟨i, hp'[i], ?_, List.getElem?_eq_getElem hi', by simpa using h.symm, .inl ⟨hilt, hb⟩⟩
        unfold upName
        simp only [hilt, if_true, List.getD, hi, Option.getD_some]
      · rw [putBack_other _ σ hp' hp b hmem] at h
        exact .inl ⟨hb, hmem, h⟩
    · rename_i hb
      obtain ⟨q, h1, h2, _⟩ := mem_map_get h
      rw [List.getElem?_drop] at h1
      refine .inr ⟨_, q, ?_, h1, h2.symm, .inr ⟨by omega, by omega⟩⟩
      unfold upName
      have : ¬ σ.length + (b - hp.length) < σ.length := by omega
      simp only [this, if_false]
      omega
  have hi'N : ∀ i q, hp'[i]? = some q → i < E'.N := fun i q h => by rw [H'.N]; exact (List.getElem?_eq_some_iff.1 h).1
  have notσ : ∀ b q, b ∉ σ → hp[b]? = some q → q.live = true → ∀ i, Live hps i → E.ρ (σ.getD i 0) ≠ E.ρ b := by
    intro b q hb hq hl i hi he
    obtain ⟨hlt, q', hq', hl'⟩ := liveS i hi
    have := H.inj _ _ q' q hq' hl' hq hl he
    exact hb (this ▸ List.mem_of_getElem? (hσget i hlt))
  refine ⟨E2, rfl, ⟨?_, ?_, ?_, ?_, ?_, ?_, H.laidLe le⟩, ?_, into⟩
  · simp [E2, subHp, putBack_len]
  · intro b bk hb
    rcases hat b bk hb with ⟨h1, h2, h3⟩ | ⟨i, q, rfl, h2, rfl, _⟩
    · simp only [E2, h1, if_true]; exact H.wd b bk h3
    · rw [into.wd i (hi'N i q h2)]; exact H'.wd i q h2
  · intro b bk hb hl
    rcases hat b bk hb with ⟨h1, h2, h3⟩ | ⟨i, q, rfl, h2, rfl, _⟩
    · obtain ⟨cs, h4, h5⟩ := (H.holds b bk h3 hl).cells
      refine ⟨cs, ?_, fun i e he => ⟨(h5 i e he).1, fun j x hx => ?_⟩⟩
      · simp only [E2, h1, if_true]
        rw [F'.block _ (hbound b bk h3 hl) (fun i hi => notσ b bk h2 h3 hl i hi)]; exact h4
      · obtain ⟨v, h6, h7⟩ := (h5 i e he).2 j x hx
        exact ⟨v, h6, h7.mono le⟩
    · obtain ⟨cs, h3, h4⟩ := (H'.holds i q h2 hl).cells
      refine ⟨cs, by rw [into.ρ i (hi'N i q h2)]; exact h3, fun m e he => ?_⟩
      obtain ⟨e0, h5, rfl⟩ := get_map_kill (f := Abs.ren (upName σ hp.length)) he
      obtain ⟨k1, k2⟩ := ren_cells' (upName σ hp.length) e0
      refine ⟨k1.trans (h4 m e0 h5).1, fun j x hx => ?_⟩
      obtain ⟨c0, h6, h7⟩ := k2 j x hx
      obtain ⟨v, h8, h9⟩ := (h4 m e0 h5).2 j c0 h6
      exact ⟨v, h8, h7 into h9⟩
  · intro b1 b2 k1 k2 hb1 hl1 hb2 hl2 he
    rcases hat b1 k1 hb1 with ⟨h1, h2, h3⟩ | ⟨i1, q1, rfl, h2, rfl, _⟩ <;> rcases hat b2 k2 hb2 with ⟨g1, g2, g3⟩ | ⟨i2, q2, rfl, g2, rfl, _⟩
    · simp only [E2, h1, g1, if_true] at he
      exact H.inj b1 b2 k1 k2 h3 hl1 g3 hl2 he
    · exfalso
      rw [into.ρ i2 (hi'N i2 q2 g2)] at he
      simp only [E2, h1, if_true] at he
      rcases F'.live i2 ⟨q2, g2, hl2⟩ with ⟨l1, l2⟩ | ⟨_, l2 | ⟨i0, l0, e0⟩⟩
      · rw [F'.ρ i2 l1] at he
        exact notσ b1 k1 h2 h3 hl1 i2 l2 he.symm
      · have := hbound b1 k1 h3 hl1
        have l2' : E.w.heap.size ≤ E'.ρ i2 := l2
        omega
      · exact notσ b1 k1 h2 h3 hl1 i0 l0 (e0.trans he.symm)
    · exfalso
      rw [into.ρ i1 (hi'N i1 q1 h2)] at he
      simp only [E2, g1, if_true] at he
      rcases F'.live i1 ⟨q1, h2, hl1⟩ with ⟨l1, l2⟩ | ⟨_, l2 | ⟨i0, l0, e0⟩⟩
      · rw [F'.ρ i1 l1] at he
        exact notσ b2 k2 g2 g3 hl2 i1 l2 he
      · have := hbound b2 k2 g3 hl2
        have l2' : E.w.heap.size ≤ E'.ρ i1 := l2
        omega
      · exact notσ b2 k2 g2 g3 hl2 i0 l0 (e0.trans he)
    · rw [into.ρ i1 (hi'N i1 q1 h2), into.ρ i2 (hi'N i2 q2 g2)] at he
      rw [H'.inj i1 i2 q1 q2 h2 hl1 g2 hl2 he]
  · intro b bk hb hl
    rcases hat b bk hb with ⟨h1, h2, h3⟩ | ⟨i, q, rfl, h2, rfl, _⟩
    · simp only [E2, h1, if_true]
      intro hF
      rcases F'.F' _ hF with g | g | ⟨i, hi, he⟩
      · exact H.apart b bk h3 hl g
      · have := hbound b bk h3 hl
        have g' : E.w.heap.size ≤ E.ρ b := g
        omega
      · exact notσ b bk h2 h3 hl i hi he
    · rw [into.ρ i (hi'N i q h2)]; exact H'.apart i q h2 hl
  · exact fun c hc => H'.old c hc
  · exact {
      size := hsize
      os := F'.os
      tape := F'.tape
      output := F'.output
      block := fun c hc hn => F'.block c hc fun i hi he => by
        obtain ⟨_, hlv⟩ := liveS i hi
        exact hn _ hlv he
      len := by simp [subHp, putBack_len]
      ρ := fun b hb => by simp [E2, hb]
      wd := fun b hb => by simp [E2, hb]
      F := fun c h => F'.F c h
      F' := fun c h => by
        rcases F'.F' c h with g | g | ⟨i, hi, he⟩
        · exact .inl g
        · exact .inr (.inl g)
        · exact .inr (.inr ⟨_, (liveS i hi).2, he⟩)
      live := fun b ⟨bk, hb, hl⟩ => by
        rcases hat b bk hb with ⟨h1, h2, h3⟩ | ⟨i, q, rfl, h2, rfl, hcase⟩
        · exact .inl ⟨h1, bk, h3, hl⟩
        · rcases hcase with ⟨c1, c2⟩ | ⟨c1, c2⟩
          · refine .inl ⟨c2, ?_⟩
            rcases F'.live i ⟨q, h2, hl⟩ with ⟨_, l2⟩ | ⟨l1, _⟩
            · have := (liveS i l2).2
              unfold upName
              simp only [c1, if_true]
              exact this
            · rw [S.len] at l1; omega
          · refine .inr ⟨c2, ?_⟩
            rw [into.ρ i (hi'N i q h2)]
            rcases F'.live i ⟨q, h2, hl⟩ with ⟨l1, _⟩ | ⟨_, l2⟩
            · rw [S.len] at l1; omega
            · rcases l2 with l2 | ⟨i0, l0, e0⟩
              · exact .inl l2
              · exact .inr ⟨_, (liveS i0 l0).2, e0⟩
      csz := F'.csz }

section
variable {P : Program}
theorem CallA.sub (σ : List Nat) {f : FuncId} {args args' : List AV} {hp hps : List Blk} {Q : AV → List Blk → Prop} (S : Sub σ hp hps) (ha : args = args'.map (ren fun i => σ.getD i 0)) (hb : args'.all (below σ.length) = true)
    (h : CallA P f args' hps fun r hp' => Q (ren (upName σ hp.length) r) (subHp σ hp hp')) : CallA P f args hp Q := by
  intro E vs H hl hrv
  simp only [List.all_eq_true] at hb
  refine (h _ vs (S.hrel H) (by rw [hl, ha]; simp) (fun i a v h1 h2 => RV.unren (hb a (List.mem_of_getElem? h1)) (hrv i _ v (by rw [ha]; simp [h1]) h2))).mono ?_
  rintro v w' ⟨r, hp', E', hw, hQ, hv, H', F'⟩
  obtain ⟨E2, h1, h2, h3, h4⟩ := sub_sound H S H' F'
  exact ⟨_, _, E2, h1.trans hw, hQ, RV.ren h4 hv, h2, h3⟩
end
end Go.Abs
/- The abstract layer, part R: plain facts on integers, floats and lists that the walks use. -/
set_option linter.unusedSimpArgs false
set_option linter.unusedVariables false
namespace Go.Abs
open Go
variable {P : Program}

theorem w64 {n : Int} (h1 : -9223372036854775808 ≤ n) (h2 : n ≤ 9223372036854775807) : IntKind.i64.wrap n = n := IntWalk.i64_in n ⟨h1, h2⟩
theorem w64_succ (k : Nat) (h : k < 9223372036854775807) : IntKind.i64.wrap ((k : Int) + 1) = ((k + 1 : Nat) : Int) := by rw [w64 (by omega) (by omega)]; rfl

theorem order_self {d : Ieee.Datum} (h : d.isNaN = false) : d.order d = some .eq := by
  cases d with
  | nan s t => cases h
  | infinity s => cases s <;> rfl
  | number s m p =>
    simp only [Ieee.Datum.order]
    congr 1
    generalize Ieee.signed s m (p - min p p).toNat = z
    simp [compare, compareOfLessAndEq]

theorem take_snoc {α : Type} (l : List α) (k : Nat) (h : k < l.length) : l.take (k + 1) = l.take k ++ [l[k]] := by simp
theorem over_set {α : Type} (f : List α) (xs : List α) (i : Nat) (v : α) (hf : f.length = i) (hi : i < xs.length) : (f ++ xs.drop i).set i v = (f ++ [v]) ++ xs.drop (i + 1) := by
  rw [List.set_append_right _ _ (by omega), hf, Nat.sub_self, List.drop_eq_getElem_cons hi, List.set_cons_zero]
  simp
end Go.Abs
/- The abstract layer, part S: the same rules in a form that is walked one operation after another: what comes later is not looked at before its state is known. -/
set_option linter.unusedSimpArgs false
set_option linter.unusedVariables false
namespace Go.Abs
open Go
variable {P : Program}
universe u

inductive Tok {α : Sort u} (a : α) : Type where
  | mk

theorem rf {α : Sort u} {a b : α} (h : a = b) : a = b := h

section
variable (P : Program)
def Cn (g : AV → List Blk → Option Nat → Prop) (_t : Tok g) : AV → List Blk → Option Nat → Prop := g
def Br (c : Bool) (x y : Prop) (_t : Tok x) (_u : Tok y) : Prop := brk c x y
def guardB (v : AV) (b : Bool) (x y z : Prop) (_t : Tok x) (_u : Tok y) (_s : Tok z) : Prop :=
  match v with
  | .tup [] => z
  | .bool c => brk (c == b) x y
  | _ => False
def guardO (o : Option Tmp) (g : Tmp → Prop) (_t : Tok g) : Prop :=
  match o with
  | some d => g d
  | none => False
def condB (v : AV) (x y : Prop) (_t : Tok x) (_u : Tok y) : Prop :=
  match v with
  | .bool b => brk b x y
  | _ => False
def CallP (f : FuncId) (args : List AV) (hp : List Blk) (Q : AV → List Blk → Prop) (_t : Tok Q) : Prop := CallA P f args hp Q
def CallR (f : FuncId) (args : List AV) (hp : List Blk) (g : AV → Prop) (_t : Tok g) : Prop := ∃ r, CallA P f args hp (fun r' hp' => r' = r ∧ hp' = hp) ∧ g r
def R (n0 : Nat) (ops rest : List Oper) (K : St → Prop) (_t : Tok (ops, rest, K)) (st : St) : Prop := runOps P n0 ops rest st K
def RQ (n0 : Nat) (ops : List Oper) (ms : List Bool) (rest : List Oper) (K : St → Prop) (_t : Tok (ops, rest, K)) (st : St) : Prop := runQ P n0 ops ms rest st K
def V (md : Nat → List Bool) (n0 : Nat) (c : Code) (Q : Ex → St → Prop) (_t : Tok (c, Q)) (st : St) : Prop := vc P md n0 c st Q
def drawQ (ms : List Bool) (x y : Prop) (_t : Tok x) (_u : Tok y) : Prop := match ms with
  | [] => y
  | _ :: _ => x
def Lp (n0 : Nat) (c : Code) (Q : Ex → St → Prop) (_t : Tok (c, Q)) (st : St) : Prop := CodeA P n0 c st Q
end

section
variable {P : Program} {n0 : Nat} {hp : List Blk} {kb : Option Nat} {g : AV → List Blk → Option Nat → Prop} {t : Tok g} {f : Operand → AV} {k : AV → List Blk → Option Nat → Prop}

theorem Cn_any : Cn g t .any hp kb = g .any hp kb := rf rfl
theorem Cn_bool (b) : Cn g t (.bool b) hp kb = g (.bool b) hp kb := rf rfl
theorem Cn_int (kd n) : Cn g t (.int kd n) hp kb = g (.int kd n) hp kb := rf rfl
theorem Cn_flt (kd n) : Cn g t (.flt kd n) hp kb = g (.flt kd n) hp kb := rf rfl
theorem Cn_cpx (kd a b) : Cn g t (.cpx kd a b) hp kb = g (.cpx kd a b) hp kb := rf rfl
theorem Cn_str (s) : Cn g t (.str s) hp kb = g (.str s) hp kb := rf rfl
theorem Cn_agg (l) : Cn g t (.agg l) hp kb = g (.agg l) hp kb := rf rfl
theorem Cn_tup (l) : Cn g t (.tup l) hp kb = g (.tup l) hp kb := rf rfl
theorem Cn_nils : Cn g t .nils hp kb = g .nils hp kb := rf rfl
theorem Cn_ro (l) : Cn g t (.ro l) hp kb = g (.ro l) hp kb := rf rfl
theorem Cn_sl (b i n) : Cn g t (.sl b i n) hp kb = g (.sl b i n) hp kb := rf rfl
theorem Cn_ptr (b i n) : Cn g t (.ptr b i n) hp kb = g (.ptr b i n) hp kb := rf rfl
theorem Cn_rop (l) : Cn g t (.rop l) hp kb = g (.rop l) hp kb := rf rfl
theorem Cn_nilp : Cn g t .nilp hp kb = g .nilp hp kb := rf rfl
theorem Cn_fn (i l) : Cn g t (.fn i l) hp kb = g (.fn i l) hp kb := rf rfl
theorem Cn_nilf : Cn g t .nilf hp kb = g .nilf hp kb := rf rfl
theorem Cn_go (v) : Cn g t v hp kb = g v hp kb := rf rfl

theorem Br_true {x y : Prop} {t : Tok x} {u : Tok y} : Br true x y t u = x := brk_true x y
theorem Br_false {x y : Prop} {t : Tok x} {u : Tok y} : Br false x y t u = y := brk_false x y
theorem Br_not {c : Bool} {x y : Prop} {t : Tok x} {u : Tok y} : Br (!c) x y t u = Br c y x u t := by cases c <;> simp [Br, brk]
theorem br_intro {c : Bool} {x y : Prop} {t : Tok x} {u : Tok y} (hx : c = true → x) (hy : c = false → y) : Br c x y t u := ⟨hx, hy⟩
theorem guardB_skip {b : Bool} {x y z : Prop} {t : Tok x} {u : Tok y} {s : Tok z} : guardB (.tup []) b x y z t u s = z := rf rfl
theorem guardB_true {c : Bool} {x y z : Prop} {t : Tok x} {u : Tok y} {s : Tok z} : guardB (.bool c) true x y z t u s = Br c x y t u := by simp [guardB, Br]
theorem guardB_false {c : Bool} {x y z : Prop} {t : Tok x} {u : Tok y} {s : Tok z} : guardB (.bool c) false x y z t u s = Br c y x u t := by cases c <;> simp [guardB, Br, brk]
theorem guardO_some {d : Tmp} {g : Tmp → Prop} {t : Tok g} : guardO (some d) g t = g d := rf rfl
theorem condB_bool {c : Bool} {x y : Prop} {t : Tok x} {u : Tok y} : condB (.bool c) x y t u = Br c x y t u := rf rfl

theorem R_nil {ops : List Oper} {K : St → Prop} {t} {st : St} : R P n0 ops [] K t st = K st := rf rfl
theorem R_none {ops rest : List Oper} {K : St → Prop} {dst op ty pos aft t} {st : St} : R P n0 ops ({ dst := dst, op := op, type := ty, pos := pos, after := aft, guard := none } :: rest) K t st
    = opA P n0 op st.ev st.hp (Cn (fun v hp' kb => R P n0 ops rest K .mk ((st.after hp' kb).put dst v)) .mk) := rf rfl
theorem R_some {ops rest : List Oper} {K : St → Prop} {dst op ty pos aft j b t} {st : St} : R P n0 ops ({ dst := dst, op := op, type := ty, pos := pos, after := aft, guard := some (j, b) } :: rest) K t st
    = guardO (guardSlot ops j) (fun d => guardB (st.tm.getD d .any) b
        (opA P n0 op (st.put (some d) (.bool b)).ev st.hp (Cn (fun v hp' kb => R P n0 ops rest K .mk (((st.put (some d) (.bool b)).after hp' kb).put dst v)) .mk))
        (R P n0 ops rest K .mk ((st.put (some d) (.bool (!b))).put dst (.tup [])))
        (R P n0 ops rest K .mk (st.put dst (.tup []))) .mk .mk .mk) .mk := by
  simp only [R, runOps]
  cases guardSlot ops j with
  | none => rfl
  | some d =>
    simp only [guardO]
    cases st.tm.getD d .any with
    | tup l => cases l <;> rfl
    | _ => rfl

theorem RQ_nil {ops : List Oper} {ms : List Bool} {K : St → Prop} {t} {st : St} : RQ P n0 ops ms [] K t st = K st := by
  cases ms with
  | nil => rfl
  | cons m ms => cases m <;> rfl
theorem RQ_none {ops rest : List Oper} {ms : List Bool} {K : St → Prop} {dst op ty pos aft t} {st : St} : RQ P n0 ops (true :: ms) ({ dst := dst, op := op, type := ty, pos := pos, after := aft, guard := none } :: rest) K t st
    = opA P n0 op st.ev st.hp (Cn (fun v hp' kb => RQ P n0 ops ms rest K .mk ((st.after hp' kb).put dst v)) .mk) := rf rfl
theorem RQ_some {ops rest : List Oper} {ms : List Bool} {K : St → Prop} {dst op ty pos aft j b t} {st : St} : RQ P n0 ops (true :: ms) ({ dst := dst, op := op, type := ty, pos := pos, after := aft, guard := some (j, b) } :: rest) K t st
    = guardO (guardSlot ops j) (fun d => guardB (st.tm.getD d .any) b
        (opA P n0 op (st.put (some d) (.bool b)).ev st.hp (Cn (fun v hp' kb => RQ P n0 ops ms rest K .mk (((st.put (some d) (.bool b)).after hp' kb).put dst v)) .mk))
        (RQ P n0 ops ms rest K .mk ((st.put (some d) (.bool (!b))).put dst (.tup [])))
        (RQ P n0 ops ms rest K .mk (st.put dst (.tup []))) .mk .mk .mk) .mk := by
  simp only [RQ, runQ]
  cases guardSlot ops j with
  | none => rfl
  | some d =>
    simp only [guardO]
    cases st.tm.getD d .any with
    | tup l => cases l <;> rfl
    | _ => rfl

def callV (P : Program) (v : AV) (args : List AV) (hp : List Blk) (g : AV → List Blk → Option Nat → Prop) (_t : Tok g) : Prop := match v with
  | .fn fid caps => CallP P fid (args ++ caps) hp (fun r hp' => g r hp' none) .mk
  | _ => False
theorem callV_fn {fid : FuncId} {caps args : List AV} {g : AV → List Blk → Option Nat → Prop} {t : Tok g} {u : Tok (Cn g t)} : callV P (.fn fid caps) args hp (Cn g t) u = CallP P fid (args ++ caps) hp (fun r hp' => g r hp' none) .mk := rf rfl
def callQ (P : Program) (v : AV) (args : List AV) (hp : List Blk) (g : AV → Prop) (t : Tok g) : Prop := match v with
  | .fn fid caps => CallR P fid (args ++ caps) hp g t
  | _ => False
theorem callQ_fn {fid : FuncId} {caps args : List AV} {g : AV → Prop} {t : Tok g} : callQ P (.fn fid caps) args hp g t = CallR P fid (args ++ caps) hp g t := rf rfl
def stepQ (P : Program) (op : Op) (st : St) (g : AV → Prop) (_t : Tok g) : Prop :=
  match op with
  | .call { callee := .value h, args := args, argTypes := _ } => callQ P (st.ev h) (args.toList.map st.ev) st.hp g .mk
  | op => isQuiet op = true ∧ quietA P op st.ev st.hp g
theorem RQ_fnone {ops rest : List Oper} {ms : List Bool} {K : St → Prop} {dst op ty pos aft t} {st : St} : RQ P n0 ops (false :: ms) ({ dst := dst, op := op, type := ty, pos := pos, after := aft, guard := none } :: rest) K t st
    = stepQ P op st (fun v => RQ P n0 ops ms rest K .mk (st.put dst v)) .mk := by
  simp only [RQ, runQ]
  cases op with
  | call c =>
    obtain ⟨callee, args, ts⟩ := c
    cases callee with
    | value h => simp only [stepQ, callQ]; cases st.ev h <;> rfl
    | _ => rfl
  | _ => rfl
theorem RQ_fsome {ops rest : List Oper} {ms : List Bool} {K : St → Prop} {dst op ty pos aft j b t} {st : St} : RQ P n0 ops (false :: ms) ({ dst := dst, op := op, type := ty, pos := pos, after := aft, guard := some (j, b) } :: rest) K t st
    = guardO (guardSlot ops j) (fun d => guardB (st.tm.getD d .any) b
        (stepQ P op (st.put (some d) (.bool b)) (fun v => RQ P n0 ops ms rest K .mk ((st.put (some d) (.bool b)).put dst v)) .mk)
        (RQ P n0 ops ms rest K .mk ((st.put (some d) (.bool (!b))).put dst (.tup [])))
        (RQ P n0 ops ms rest K .mk (st.put dst (.tup []))) .mk .mk .mk) .mk := by
  simp only [RQ, runQ]
  cases guardSlot ops j with
  | none => rfl
  | some d =>
    simp only [guardO]
    cases st.tm.getD d .any with
    | bool c =>
      simp only [guardB]
      cases op with
      | call c =>
        obtain ⟨callee, args, ts⟩ := c
        cases callee with
        | value h => simp only [stepQ, callQ]; cases (st.put (some d) (.bool b)).ev h <;> rfl
        | _ => rfl
      | _ => rfl
    | tup l => cases l <;> rfl
    | _ => rfl

section
variable {st : St} {g : AV → Prop} {t : Tok g}
theorem stepQ_call {h : Operand} {args : Array Operand} {ts : Array TypeId} : stepQ P (.call { callee := .value h, args := args, argTypes := ts }) st g t
    = callQ P (st.ev h) (args.toList.map st.ev) st.hp g .mk := rf rfl
theorem stepQ_builtin {b : Builtin} {args : Array Operand} {ts : Array TypeId} : stepQ P (.call { callee := .builtin b, args := args, argTypes := ts }) st g t
    = (isQuiet (.call { callee := .builtin b, args := args, argTypes := ts }) = true ∧ quietB P b ts.toList (args.toList.map st.ev) fun v => Cn (fun v _ _ => g v) .mk v st.hp none) := rf rfl
theorem stepQ_move {x} : stepQ P (.move x) st g t = quietA P (.move x) st.ev st.hp fun v => Cn (fun v _ _ => g v) .mk v st.hp none := by
  simp only [stepQ, isQuiet, true_and]; rfl
theorem stepQ_assign {x} : stepQ P (.assign x) st g t = quietA P (.assign x) st.ev st.hp fun v => Cn (fun v _ _ => g v) .mk v st.hp none := by
  simp only [stepQ, isQuiet, true_and]; rfl
theorem stepQ_pick {c a b} : stepQ P (.pick c a b) st g t = quietA P (.pick c a b) st.ev st.hp fun v => Cn (fun v _ _ => g v) .mk v st.hp none := by
  simp only [stepQ, isQuiet, true_and]; rfl
theorem stepQ_build {ty ps} : stepQ P (.build ty ps) st g t = quietA P (.build ty ps) st.ev st.hp fun v => Cn (fun v _ _ => g v) .mk v st.hp none := by
  simp only [stepQ, isQuiet, true_and]; rfl
theorem stepQ_load {ty a} : stepQ P (.load ty a) st g t = quietA P (.load ty a) st.ev st.hp fun v => Cn (fun v _ _ => g v) .mk v st.hp none := by
  simp only [stepQ, isQuiet, true_and]; rfl
theorem stepQ_nilCheck {x} : stepQ P (.nilCheck x) st g t = quietA P (.nilCheck x) st.ev st.hp fun v => Cn (fun v _ _ => g v) .mk v st.hp none := by
  simp only [stepQ, isQuiet, true_and]; rfl
theorem stepQ_binOp {bop ty x y ty2} : stepQ P (.binOp bop ty x y ty2) st g t = quietA P (.binOp bop ty x y ty2) st.ev st.hp fun v => Cn (fun v _ _ => g v) .mk v st.hp none := by
  simp only [stepQ, isQuiet, true_and]; rfl
theorem stepQ_unOp {uop ty x} : stepQ P (.unOp uop ty x) st g t = quietA P (.unOp uop ty x) st.ev st.hp fun v => Cn (fun v _ _ => g v) .mk v st.hp none := by
  simp only [stepQ, isQuiet, true_and]; rfl
theorem stepQ_convert {s d x} : stepQ P (.convert s d x) st g t = quietA P (.convert s d x) st.ev st.hp fun v => Cn (fun v _ _ => g v) .mk v st.hp none := by
  simp only [stepQ, isQuiet, true_and]; rfl
theorem stepQ_makeFunc {fn a b} : stepQ P (.makeFunc fn a b) st g t = quietA P (.makeFunc fn a b) st.ev st.hp fun v => Cn (fun v _ _ => g v) .mk v st.hp none := by
  simp only [stepQ, isQuiet, true_and]; rfl
theorem stepQ_slice {ty x lo hi mx} : stepQ P (.slice ty x lo hi mx) st g t = quietA P (.slice ty x lo hi mx) st.ev st.hp fun v => Cn (fun v _ _ => g v) .mk v st.hp none := by
  simp only [stepQ, isQuiet, true_and]; rfl
theorem stepQ_fieldAddr {ty x i} : stepQ P (.fieldAddr ty x i) st g t = quietA P (.fieldAddr ty x i) st.ev st.hp fun v => Cn (fun v _ _ => g v) .mk v st.hp none := by
  simp only [stepQ, isQuiet, true_and]; rfl
theorem stepQ_field {ty x i} : stepQ P (.field ty x i) st g t = quietA P (.field ty x i) st.ev st.hp fun v => Cn (fun v _ _ => g v) .mk v st.hp none := by
  simp only [stepQ, isQuiet, true_and]; rfl
theorem stepQ_indexAddr {ty x i} : stepQ P (.indexAddr ty x i) st g t = quietA P (.indexAddr ty x i) st.ev st.hp fun v => Cn (fun v _ _ => g v) .mk v st.hp none := by
  simp only [stepQ, isQuiet, true_and]; rfl
theorem stepQ_index {ty x i} : stepQ P (.index ty x i) st g t = quietA P (.index ty x i) st.ev st.hp fun v => Cn (fun v _ _ => g v) .mk v st.hp none := by
  simp only [stepQ, isQuiet, true_and]; rfl
theorem stepQ_extract {x i} : stepQ P (.extract x i) st g t = quietA P (.extract x i) st.ev st.hp fun v => Cn (fun v _ _ => g v) .mk v st.hp none := by
  simp only [stepQ, isQuiet, true_and]; rfl

end
theorem opA_move {x} : opA P n0 (.move x) f hp k = quietA P (.move x) f hp fun v => k v hp none := rf rfl
theorem opA_assign {x} : opA P n0 (.assign x) f hp k = quietA P (.assign x) f hp fun v => k v hp none := rf rfl
theorem opA_pick {c a b} : opA P n0 (.pick c a b) f hp k = quietA P (.pick c a b) f hp fun v => k v hp none := rf rfl
theorem opA_build {ty ps} : opA P n0 (.build ty ps) f hp k = quietA P (.build ty ps) f hp fun v => k v hp none := rf rfl
theorem opA_load {ty a} : opA P n0 (.load ty a) f hp k = quietA P (.load ty a) f hp fun v => k v hp none := rf rfl
theorem opA_nilCheck {x} : opA P n0 (.nilCheck x) f hp k = quietA P (.nilCheck x) f hp fun v => k v hp none := rf rfl
theorem opA_binOp {bop ty x y ty2} : opA P n0 (.binOp bop ty x y ty2) f hp k = quietA P (.binOp bop ty x y ty2) f hp fun v => k v hp none := rf rfl
theorem opA_unOp {uop ty x} : opA P n0 (.unOp uop ty x) f hp k = quietA P (.unOp uop ty x) f hp fun v => k v hp none := rf rfl
theorem opA_convert {s d x} : opA P n0 (.convert s d x) f hp k = convO P s d hp (f x) k := rf rfl
theorem opA_makeFunc {fn a b} : opA P n0 (.makeFunc fn a b) f hp k = quietA P (.makeFunc fn a b) f hp fun v => k v hp none := rf rfl
theorem opA_slice {ty x lo hi mx} : opA P n0 (.slice ty x lo hi mx) f hp k = quietA P (.slice ty x lo hi mx) f hp fun v => k v hp none := rf rfl
theorem opA_fieldAddr {ty x i} : opA P n0 (.fieldAddr ty x i) f hp k = quietA P (.fieldAddr ty x i) f hp fun v => k v hp none := rf rfl
theorem opA_field {ty x i} : opA P n0 (.field ty x i) f hp k = quietA P (.field ty x i) f hp fun v => k v hp none := rf rfl
theorem opA_indexAddr {ty x i} : opA P n0 (.indexAddr ty x i) f hp k = quietA P (.indexAddr ty x i) f hp fun v => k v hp none := rf rfl
theorem opA_index {ty x i} : opA P n0 (.index ty x i) f hp k = quietA P (.index ty x i) f hp fun v => k v hp none := rf rfl
theorem opA_extract {x i} : opA P n0 (.extract x i) f hp k = quietA P (.extract x i) f hp fun v => k v hp none := rf rfl

theorem opA_alloc {ty} : opA P n0 (.alloc ty) f hp k = ((zeroOf P ty).solid = true ∧ k (.ptr hp.length 0 0) (hp ++ [{ ty := ty, w := (zeroOf P ty).cells.length, els := [zeroOf P ty] }]) none) := rf rfl
theorem opA_box {ty x} : opA P n0 (.box ty x) f hp k = ((f x).solid = true ∧ k (.ptr hp.length 0 0) (hp ++ [{ ty := ty, w := (f x).cells.length, els := [f x] }]) none) := rf rfl
theorem opA_buildSlice {ty len parts} : opA P n0 (.buildSlice ty len parts) f hp k = (match P.underlying ty with
    | some (.slice e) => 0 < P.cellsOf e ∧ len * P.cellsOf e ≤ 16777216 ∧ (zeroOf P e).solid = true ∧ (zeroOf P e).cells.length = P.cellsOf e ∧
        setAll len (P.cellsOf e) (parts.toList.map fun p => (p.1, f p.2)) (List.replicate len (zeroOf P e)) fun els =>
          k (.sl hp.length 0 len) (hp ++ [{ ty := e, w := P.cellsOf e, els := els }]) none
    | _ => False) := rf rfl
theorem opA_store {ty a x} : opA P n0 (.store ty a x) f hp k = storeA P ty hp (f a) (f x) fun hp' => k .any hp' none := rf rfl
theorem opA_makeSlice {ty l c} : opA P n0 (.makeSlice ty l c) f hp k = (match P.underlying ty, f l, f c with
    | some (.slice e), .int _ n, .int _ m => n = m ∧ 0 ≤ n ∧ n ≤ 281474976710656 ∧ P.bytesOf e * n ≤ 281474976710656 ∧ 0 < P.cellsOf e ∧
        (zeroOf P e).solid = true ∧ (zeroOf P e).cells.length = P.cellsOf e ∧
        k (.sl hp.length 0 n.toNat) (hp ++ [{ ty := e, w := P.cellsOf e, els := List.replicate n.toNat (zeroOf P e) }]) none
    | _, _, _ => False) := rf rfl
theorem opA_append {args : Array Operand} {ts : Array TypeId} : opA P n0 (.call { callee := .builtin .append, args := args, argTypes := ts }) f hp k = (match args.toList with
      | [s, x] => (match f x with
        | .int _ n => growA P (ts[0]?) (ts[1]?) hp (f s) n k
        | y => notInt P (ts[1]?) ∧ (match ts[0]? with
          | some t => appendA P n0 t hp (f s) y k
          | none => False))
      | _ => False) := rf rfl
theorem opA_len {args : Array Operand} {ts : Array TypeId} : opA P n0 (.call { callee := .builtin .len, args := args, argTypes := ts }) f hp k = quietB P .len ts.toList (args.toList.map f) fun v => k v hp none := rf rfl
theorem opA_min {args : Array Operand} {ts : Array TypeId} : opA P n0 (.call { callee := .builtin .min, args := args, argTypes := ts }) f hp k = quietB P .min ts.toList (args.toList.map f) fun v => k v hp none := rf rfl
theorem opA_max {args : Array Operand} {ts : Array TypeId} : opA P n0 (.call { callee := .builtin .max, args := args, argTypes := ts }) f hp k = quietB P .max ts.toList (args.toList.map f) fun v => k v hp none := rf rfl
theorem opA_real {args : Array Operand} {ts : Array TypeId} : opA P n0 (.call { callee := .builtin .real, args := args, argTypes := ts }) f hp k = quietB P .real ts.toList (args.toList.map f) fun v => k v hp none := rf rfl
theorem opA_imag {args : Array Operand} {ts : Array TypeId} : opA P n0 (.call { callee := .builtin .imag, args := args, argTypes := ts }) f hp k = quietB P .imag ts.toList (args.toList.map f) fun v => k v hp none := rf rfl
theorem opA_complex {args : Array Operand} {ts : Array TypeId} : opA P n0 (.call { callee := .builtin .complex, args := args, argTypes := ts }) f hp k = quietB P .complex ts.toList (args.toList.map f) fun v => k v hp none := rf rfl
theorem opA_cap {args : Array Operand} {ts : Array TypeId} : opA P n0 (.call { callee := .builtin .cap, args := args, argTypes := ts }) f hp k = quietB P .cap ts.toList (args.toList.map f) fun v => k v hp none := rf rfl
theorem opA_clear {args : Array Operand} {ts : Array TypeId} : opA P n0 (.call { callee := .builtin .clear, args := args, argTypes := ts }) f hp k = (match args.toList with
      | [x] => (match ts[0]? with
        | some t => clearA P t hp (f x) fun hp' => k (.tup []) hp' none
        | none => False)
      | _ => False) := rf rfl
theorem opA_call {h : Operand} {args : Array Operand} {ts : Array TypeId} : opA P n0 (.call { callee := .value h, args := args, argTypes := ts }) f hp (Cn g t)
    = callV P (f h) (args.toList.map f) hp (Cn g t) .mk := by
  cases hv : f h <;> simp only [opA, callV, hv]
  rfl
end

section
variable {P : Program} {md : Nat → List Bool} {n0 : Nat} {Q : Ex → St → Prop} {st : St}
theorem V_skip {t} : V P md n0 .skip Q t st = Q .normal st := rf rfl
theorem V_region {id ops t} : V P md n0 (.region id ops false) Q t st = R P n0 ops.toList ops.toList (Q .normal) .mk st := rf rfl
theorem V_draw {id ops t} : V P md n0 (.region id ops true) Q t st = drawQ (md id) (RQ P n0 ops.toList (md id) ops.toList (Q .normal) .mk st) (Lp P n0 (.region id ops true) Q .mk st) .mk .mk := by
  simp only [V, vc, drawQ, RQ, Lp]
  cases md id <;> rfl
theorem drawQ_cons {m : Bool} {ms : List Bool} {x y : Prop} {t : Tok x} {u : Tok y} : drawQ (m :: ms) x y t u = x := rf rfl
theorem drawQ_nil {x y : Prop} {t : Tok x} {u : Tok y} : drawQ [] x y t u = y := rf rfl
theorem V_seq {a b t} : V P md n0 (.seq a b) Q t st = V P md n0 a (fun e st' => match e with
    | .normal => V P md n0 b Q .mk st'
    | .exit i => Q (.exit i) st'
    | .ret => Q .ret st') .mk st := rf rfl
theorem V_cond {c x y t} : V P md n0 (.cond c x y) Q t st = condB (st.ev c) (V P md n0 x Q .mk st) (V P md n0 y Q .mk st) .mk .mk := by
  simp only [V, vc]
  cases st.ev c <;> rfl
theorem V_block {id c t} : V P md n0 (.block id c) Q t st = V P md n0 c (fun e st' => match e with
    | .normal => Q .normal st'
    | .exit i => if i = id then Q .normal st' else Q (.exit i) st'
    | .ret => Q .ret st') .mk st := rf rfl
theorem V_loop {c t} : V P md n0 (.loop c) Q t st = Lp P n0 (.loop c) Q .mk st := rf rfl
theorem V_exit {id t} : V P md n0 (.exit id) Q t st = Q (.exit id) st := rf rfl
theorem V_ret {t} : V P md n0 .ret Q t st = Q .ret st := rf rfl
theorem retQ_ret {fn : Func} {Q : AV → List Blk → Prop} : retQ P fn n0 Q .ret st = resL P fn.results.toList st fun l => PostR n0 (oneA l) st.hp Q := rf rfl
theorem retQ_normal {fn : Func} {Q : AV → List Blk → Prop} : retQ P fn n0 Q .normal st = resL P fn.results.toList st fun l => PostR n0 (oneA l) st.hp Q := rf rfl

theorem go_in {f : FuncId} {fn : Func} {c : Code} {args : List AV} {hp : List Blk} {Q : AV → List Blk → Prop} (hm : P.follows .mixedOrders = true) (hf : P.funcs[f]? = some fn) (hb : fn.body = some c) (hgo : isGo P f) (hok : modesOk md c = true)
    (h : V P md hp.length c (retQ P fn hp.length Q) .mk ⟨args ++ List.replicate (fn.ntmps - args.length) .any, hp⟩) : CallP P f args hp Q .mk := call_intro hm hf hb hgo hok h
theorem CallP.out {f : FuncId} {args : List AV} {hp : List Blk} {Q : AV → List Blk → Prop} {t} (h : CallP P f args hp Q t) : CallA P f args hp Q := h

theorem go_round {σ : Type} (hm : P.follows .mixedOrders = true) {c : Code} {t} (hok : modesOk md c = true) (I : σ → St) (μ : σ → Nat) (s0 : σ) (h0 : Weak n0 st (I s0))
    (round : ∀ s, V P md n0 c (fun e st' => match e with
      | .normal => ∃ s', μ s' < μ s ∧ Weak n0 st' (I s')
      | .exit i => Q (.exit i) st'
      | .ret => Q .ret st') .mk (I s)) : Lp P n0 (.loop c) Q t st := loop_rule hm hok I μ s0 h0 round

theorem call_by {f : FuncId} {args : List AV} {hp : List Blk} {Q Q0 : AV → List Blk → Prop} {t} (h : CallA P f args hp Q0) (hq : ∀ r hp', Q0 r hp' → Q r hp') : CallP P f args hp Q t := h.mono hq
theorem call_at {f : FuncId} {args : List AV} {hp : List Blk} {Q : AV → List Blk → Prop} {t} (h : CallA P f args hp Q) : CallP P f args hp Q t := h
end
theorem PostR.same {n0 : Nat} {r : AV} {hp : List Blk} {Q : AV → List Blk → Prop} (h : Q r hp) : PostR n0 r hp Q :=
  ⟨r, hp, fun _ _ _ E _ _ H F hv => ⟨E, rfl, H, F, hv⟩, h⟩
theorem PostR.drop {n0 : Nat} {r : AV} {hp : List Blk} {Q : AV → List Blk → Prop} (r2 : AV) (hp2 : List Blk) (hn : n0 ≤ hp2.length) (hh : DropHp hp2.length hp hp2) (hr : DropV hp2.length r r2) (h : Q r2 hp2) : PostR n0 r hp Q :=
  ⟨r2, hp2, weakR_drop hn hh hr, h⟩

abbrev Ret (r : AV) (hp : List Blk) : AV → List Blk → Prop := fun r' hp' => r' = r ∧ hp' = hp
theorem PostR.ret {r : AV} {hp : List Blk} {n0 : Nat} : PostR n0 r hp (Ret r hp) := PostR.same ⟨rfl, rfl⟩
def SubF (hp : List Blk) : List Nat → List Blk → Prop
  | [], [] => True
  | s :: σ, r :: l => (hp[s]? = some r ∧ allBelow 0 r.els = true) ∧ SubF hp σ l
  | _, _ => False
theorem SubF.len {hp : List Blk} : ∀ {σ : List Nat} {l : List Blk}, SubF hp σ l → l.length = σ.length
  | [], [], _ => rfl
  | s :: σ, r :: l, h => by simp [SubF.len h.2]
  | [], _ :: _, h => h.elim
  | _ :: _, [], h => h.elim
theorem SubF.get {hp : List Blk} : ∀ {σ : List Nat} {l : List Blk}, SubF hp σ l → ∀ (i : Nat) r, l[i]? = some r → hp[σ.getD i 0]? = some r ∧ allBelow 0 r.els = true
  | [], [], _, i, r, h => by simp at h
  | s :: σ, q :: l, h, 0, r, hr => by simp at hr; subst hr; simpa using h.1
  | s :: σ, q :: l, h, i + 1, r, hr => by simpa using SubF.get h.2 i r (by simpa using hr)
  | [], _ :: _, h, _, _, _ => h.elim
  | _ :: _, [], h, _, _, _ => h.elim
theorem below_mono0 {N : Nat} (π : Nat → Nat) : ∀ a, below 0 a = true → below N a = true ∧ ren π a = a := by
  have hL : ∀ a, belowL 0 a = true → belowL N a = true ∧ renL π a = a := by intro a h; cases a <;> first | exact ⟨rfl, rfl⟩ | (simp [belowL] at h)
  have hM : ∀ a, belowM 0 a = true → belowM N a = true ∧ renM π a = a := by
    intro a h
    cases a with
    | agg l =>
      simp only [belowM, List.all_eq_true] at h
      exact ⟨by simp only [belowM, List.all_eq_true]; exact fun x hx => (hL x (h x hx)).1, by show AV.agg (l.map _) = _; rw [map_id_of fun x hx => (hL x (h x hx)).2]⟩
    | fn f l =>
      simp only [belowM, List.all_eq_true] at h
      exact ⟨by simp only [belowM, List.all_eq_true]; exact fun x hx => (hL x (h x hx)).1, by show AV.fn f (l.map _) = _; rw [map_id_of fun x hx => (hL x (h x hx)).2]⟩
    | _ => first | exact ⟨rfl, rfl⟩ | (simp [belowM, belowL] at h)
  intro a h
  cases a with
  | tup l =>
    simp only [below, List.all_eq_true] at h
    exact ⟨by simp only [below, List.all_eq_true]; exact fun x hx => (hM x (h x hx)).1, by show AV.tup (l.map _) = _; rw [map_id_of fun x hx => (hM x (h x hx)).2]⟩
  | agg l => exact hM (.agg l) h
  | fn f l => exact hM (.fn f l) h
  | _ => first | exact ⟨rfl, rfl⟩ | (simp [below, belowM, belowL] at h)
theorem SubF.sub {hp : List Blk} {σ : List Nat} {l : List Blk} (hn : σ.Nodup) (h : SubF hp σ l) : Sub σ hp l where
  nodup := hn
  len := h.len
  blk := fun i r hr => by
    obtain ⟨h1, h2⟩ := h.get i r hr
    simp only [allBelow, List.all_eq_true] at h2
    exact ⟨r, h1, rfl, fun hl => ⟨hl, rfl, (map_id_of fun x hx => (below_mono0 (N := σ.length) _ x (h2 x hx)).2).symm, fun x hx => (below_mono0 (N := σ.length) (fun b => b) x (h2 x hx)).1⟩⟩
def putF : List Nat → List Blk → List Blk → List Blk
  | s :: σ, r :: l, hp => putF σ l (hp.set s r)
  | _, _, hp => hp
theorem renB_flat {π : Nat → Nat} {r : Blk} (h : allBelow 0 r.els = true) : renB π r = r := by
  simp only [allBelow, List.all_eq_true] at h
  simp only [renB]
  rw [map_id_of fun x hx => (below_mono0 (N := 0) π x (h x hx)).2]
theorem putBack_flat (τ : Nat → Nat) : ∀ (σ : List Nat) (l hp : List Blk), (∀ r ∈ l, allBelow 0 r.els = true) → putBack τ σ l hp = putF σ l hp := by
  intro σ
  induction σ with
  | nil => intro l hp _; cases l <;> rfl
  | cons s σ ih =>
    intro l hp h
    cases l with
    | nil => rfl
    | cons r l =>
      simp only [putBack, putF]
      rw [renB_flat (h r (by simp)), ih l _ (fun x hx => h x (by simp [hx]))]
section
variable {P : Program}
theorem CallA.handed (σ : List Nat) {f : FuncId} {args args' : List AV} {hp hps hps' : List Blk} {r : AV} {Q : AV → List Blk → Prop} (hn : σ.Nodup) (S : SubF hp σ hps) (ha : args = args'.map (ren fun i => σ.getD i 0)) (hb : args'.all (below σ.length) = true)
    (h : CallA P f args' hps fun r' hp' => r' = r ∧ hp' = hps') (hl : hps'.length = σ.length) (hr : below 0 r = true) (hf : ∀ q ∈ hps', allBelow 0 q.els = true) (hQ : Q r (putF σ hps' hp)) : CallA P f args hp Q := by
  refine CallA.sub σ (S.sub hn) ha hb (h.mono ?_)
  rintro r' hp' ⟨rfl, rfl⟩
  have e : subHp σ hp hp' = putF σ hp' hp := by
    unfold subHp
    rw [putBack_flat _ _ _ _ hf, List.drop_of_length_le (by omega)]
    simp
  rw [e, (below_mono0 (N := 0) _ r' hr).2]
  exact hQ
end
section
variable {P : Program} {f : FuncId} {args : List AV} {hp : List Blk} {Q : AV → List Blk → Prop} {t : Tok Q} {g : AV → Prop} {u : Tok g}
theorem call_lift {r : AV} (ha : args.all (below 0) = true) (h : CallA P f args [] (Ret r [])) (hr : below 0 r = true) : CallA P f args hp (Ret r hp) := by
  refine CallA.lift ha (h.mono ?_)
  rintro r' hp' ⟨rfl, rfl⟩
  exact ⟨(below_mono0 (N := 0) _ r' hr).2, by simp [joinHp]⟩
theorem call_ret {r : AV} (h : CallA P f args [] (Ret r [])) (ha : args.all (below 0) = true) (hr : below 0 r = true) (hq : Q r hp) : CallP P f args hp Q t :=
  (call_lift ha h hr).mono (by rintro r' hp' ⟨rfl, rfl⟩; exact hq)
theorem callr_ret {r : AV} (h : CallA P f args [] (Ret r [])) (ha : args.all (below 0) = true) (hr : below 0 r = true) (hq : g r) : CallR P f args hp g u :=
  ⟨r, call_lift ha h hr, hq⟩
theorem call_new {r : AV} {new : List Blk} (h : CallA P f args [] (Ret r new)) (ha : args.all (below 0) = true) (hf : ∀ q ∈ new, allBelow 0 q.els = true) (hQ : Q (ren (fun b => b + hp.length) r) (hp ++ new)) : CallP P f args hp Q t := by
  refine CallA.lift ha (h.mono ?_)
  rintro r' hp' ⟨rfl, rfl⟩
  have e : joinHp hp hp' = hp ++ hp' := by
    unfold joinHp
    congr 1
    have : ∀ l : List Blk, (∀ q ∈ l, allBelow 0 q.els = true) → l.map (renB fun b => b + hp.length) = l := by
      intro l
      induction l with
      | nil => intro _; rfl
      | cons q l ih => intro hl; rw [List.map_cons, renB_flat (hl q (by simp)), ih fun x hx => hl x (by simp [hx])]
    exact this hp' hf
  rw [e]
  exact hQ
theorem call_view (d : Nat) {r : AV} (h : CallA P f (args.map (view d hp)) [] (Ret r [])) (hr : below 0 r = true) (hc : clean r = true) : CallA P f args hp (Ret r hp) := by
  refine CallA.borrow d (h.mono ?_)
  rintro r' hp' ⟨rfl, rfl⟩
  exact ⟨⟨hc, rfl⟩, (below_mono0 (N := 0) _ r' hr).2, by simp [joinHp]⟩
theorem call_lent (d : Nat) {r : AV} {args' : List AV} (hv : args.map (view d hp) = args') (h : CallA P f args' [] (Ret r [])) (hr : below 0 r = true) (hc : clean r = true) (hq : Q r hp) : CallP P f args hp Q t :=
  (call_view d (by rw [hv]; exact h) hr hc).mono (by rintro r' hp' ⟨rfl, rfl⟩; exact hq)
end
theorem PostR.pick (σ : List Nat) {n0 : Nat} {r r2 : AV} {hp hp2 : List Blk} {Q : AV → List Blk → Prop} (hn : σ.Nodup) (h0 : n0 ≤ σ.length) (hlow : ∀ b, b < n0 → σ.getD b 0 = b) (S : SubF hp σ hp2) (hr : r = ren (fun i => σ.getD i 0) r2) (hb : below σ.length r2 = true) (h : Q r2 hp2) : PostR n0 r hp Q := by
  have hl := S.len
  refine PostR.names (fun i => σ.getD i 0) r2 hp2 (.inr ⟨hr, by rw [hl]; exact hb⟩) ⟨rfl, by omega, hlow, ?_, ?_⟩ h
  · intro b b' h1 h2 e
    rw [hl] at h1 h2
    simp only [List.getD_eq_getElem?_getD, List.getElem?_eq_getElem h1, List.getElem?_eq_getElem h2, Option.getD_some] at e
    have hne := List.pairwise_iff_getElem.1 hn
    rcases Nat.lt_trichotomy b b' with hlt | he | hlt
    · exact absurd e (hne b b' h1 h2 hlt)
    · exact he
    · exact absurd e.symm (hne b' b h2 h1 hlt)
  · intro b q hq
    obtain ⟨h1, h2⟩ := S.get b q hq
    simp only [allBelow, List.all_eq_true] at h2
    exact ⟨q, h1, rfl, fun hlv => ⟨hlv, rfl, (map_id_of fun x hx => (below_mono0 (N := 0) _ x (h2 x hx)).2).symm, fun x hx => (below_mono0 (N := hp2.length) (fun b => b) x (h2 x hx)).1⟩⟩
attribute [irreducible] V R RQ drawQ Lp CallP CallR Cn Br guardB guardO condB stepQ callQ callV
end Go.Abs
/- The abstract layer, part T: a float32 made a float64 is never too great. -/
set_option linter.unusedSimpArgs false
set_option linter.unusedVariables false
namespace Go.Abs
open Go
variable {P : Program}

theorem word_mod (f : Ieee.Format) (s : Bool) (r : Nat) (h : r < f.signWeight) : f.word s r % f.signWeight = r := by
  unfold Ieee.Format.word
  cases s
  · simp only [Bool.false_eq_true, if_false]; exact Nat.mod_eq_of_lt h
  · simp only [if_true, Nat.add_mod_left]; exact Nat.mod_eq_of_lt h

theorem read_fin (f : Ieee.Format) (s : Bool) (r : Nat) (h : r < f.infRung) (hi : f.infRung < f.signWeight) : (f.read (f.word s r)).isInfinity = false := by
  unfold Ieee.Format.read
  simp only [word_mod f s r (by omega)]
  split
  · rfl
  · rfl

theorem cut_none (way : Ieee.Toward) (neg : Bool) (n : Nat) : Ieee.Toward.even.cut neg n 0 = n := by
  simp [Ieee.Toward.cut, Nat.mod_one]

theorem read_single (x : Nat) (s : Bool) (m : Nat) (e : Int) (h : FloatKind.f32.decode x = .number s m e) : m < 16777216 ∧ -149 ≤ e ∧ e ≤ 104 := by
  have hb : Ieee.single.binade = 8388608 := by decide
  have hl : Ieee.single.leastPlace = -149 := by decide
  have hi : Ieee.single.infRung = 2139095040 := by decide
  have h' : Ieee.single.read x = .number s m e := h
  unfold Ieee.Format.read at h'
  simp only [hb, hl, hi] at h'
  generalize x % Ieee.single.signWeight = r at h'
  split at h'
  · injection h' with h1 h2 h3; subst h2; subst h3; exact ⟨by omega, by omega, by omega⟩
  · split at h'
    · injection h' with h1 h2 h3
      subst h2; subst h3
      have : r / 8388608 ≤ 254 := by omega
      have hm := Nat.mod_lt r (y := 8388608) (by omega)
      exact ⟨by omega, by omega, by omega⟩
    · split at h' <;> cases h'

theorem small (y z : Nat) (h : y ≤ 1149) (hz : z < 9007199254740992) : min (y * 4503599627370496 + z) (2047 * 4503599627370496) < 2047 * 4503599627370496 := by omega

theorem near_wide (s : Bool) (m : Nat) (e : Int) (hm : m < 16777216) (h1 : -149 ≤ e) (h2 : e ≤ 104) : ∃ r, Ieee.double.nearest s m e = Ieee.double.word s r ∧ r < Ieee.double.infRung := by
  have hi : Ieee.double.infRung = 2047 * 4503599627370496 := by decide
  have hb : Ieee.double.binade = 4503599627370496 := by decide
  have hl : Ieee.double.leastPlace = -1074 := by decide
  unfold Ieee.Format.nearest
  by_cases h0 : m = 0
  · rw [if_pos h0]; exact ⟨0, rfl, by rw [hi]; omega⟩
  rw [if_neg h0]
  have hlog : m.log2 ≤ 23 := by
    have := (Nat.log2_lt h0 (k := 24)).2 (by omega)
    omega
  have hmlt : m < 2 ^ (m.log2 + 1) := Nat.lt_log2_self
  simp only [hl, hb]
  have hf : Ieee.double.fractionBits = 52 := rfl
  rw [hf]
  generalize hlast : max (e + (m.log2 : Int) - (52 : Nat)) (-1074) = last
  have l1 : last ≤ 75 := by omega
  have l2 : last < e := by omega
  have l3 : -1074 ≤ last := by omega
  have l4 : e - last ≤ 52 - (m.log2 : Int) := by omega
  rw [show (last - e).toNat = 0 from by omega, cut_none .even]
  refine ⟨_, rfl, ?_⟩
  have hk : m <<< (e - last).toNat < 9007199254740992 := by
    rw [Nat.shiftLeft_eq]
    have a1 : 2 ^ (e - last).toNat ≤ 2 ^ (52 - m.log2) := Nat.pow_le_pow_right (by omega) (by omega)
    calc m * 2 ^ (e - last).toNat ≤ m * 2 ^ (52 - m.log2) := Nat.mul_le_mul_left _ a1
      _ < 2 ^ (m.log2 + 1) * 2 ^ (52 - m.log2) := Nat.mul_lt_mul_of_pos_right hmlt (Nat.two_pow_pos _)
      _ = 2 ^ 53 := by rw [← Nat.pow_add]; congr 1; omega
      _ = 9007199254740992 := by decide
  rw [hi]
  have hn : (last - -1074).toNat ≤ 1149 := by omega
  generalize (last - -1074).toNat = y at hn ⊢
  generalize m <<< (e - last).toNat = z at hk ⊢
  exact small y z hn hk

theorem wide_ok (x : Nat) : fconvOk .f64 .f32 x := by
  unfold fconvOk
  right
  cases h : FloatKind.f32.decode x with
  | number n m e =>
    obtain ⟨hm, h1, h2⟩ := read_single x n m e h
    obtain ⟨r, e1, e2⟩ := near_wide n m e hm h1 h2
    have e3 : FloatKind.f64.encode (.number n m e) = Ieee.double.word n r := e1
    show (FloatKind.f64.decode (FloatKind.f64.encode (.number n m e))).isInfinity = false
    rw [e3]
    exact read_fin Ieee.double n r e2 (by decide)
  | _ => trivial
end Go.Abs
/- The abstract layer, part U: from a walk to what a row asks. -/
set_option linter.unusedSimpArgs false
set_option linter.unusedVariables false
namespace Go.Abs
open Go Go.RowKit
variable {P : Program}

def lawEnv (w : World) (F : Nat → Prop) : Env P := { w := w, F := F, N := 0, ρ := fun b => b, wd := fun _ => 0 }

theorem laid_none {w : World} {F : Nat → Prop} (h : ((tables.all fun t => (P.globalNamed t.1).isNone) && (errs.all fun n => (P.globalNamed n).isNone) && intVars.all fun n => (P.globalNamed n).isNone) = true) : Laid P w F := by
  obtain ⟨h0, h3⟩ := Bool.and_eq_true_iff.1 h
  obtain ⟨h1, h2⟩ := Bool.and_eq_true_iff.1 h0
  refine ⟨fun t ht g hg => ?_, fun n hn g hg => ?_, fun n hn g hg => ?_⟩
  · have := List.all_eq_true.1 h1 t ht
    simp only [hg] at this
    cases this
  · have := List.all_eq_true.1 h2 n hn
    simp only [hg] at this
    cases this
  · have := List.all_eq_true.1 h3 n hn
    simp only [hg] at this
    cases this
theorem law_walk {P : Program} {f : FuncId} {args : List AV} {vs : List Value} {w : World} {F : Nat → Prop} (hgo : isGo P f) (h : CallA P f args [] (Ret (.bool true) [])) (hF : ∀ c, F c → c < w.heap.size)
    (hl : vs.length = args.length) (hv : ∀ (i : Nat) a v, args[i]? = some a → vs[i]? = some v → RV (lawEnv (P := P) w F) a v) (hT : Laid P w F) :
    Calls P f vs.toArray w fun e w' => e = .returned (.bool true) ∧ Below w.heap.size w w' := by
  have H : HRel (lawEnv (P := P) w F) [] := ⟨rfl, by simp, by simp, by simp, by simp, hF, hT⟩
  rcases h (lawEnv w F) vs H hl hv with ⟨_, hc⟩ | ⟨v, w', hrun, _⟩
  case inr => rw [callFunc_go hgo] at hrun; cases hrun
  refine hc.mono ?_
  rintro e w' ⟨v, rfl, r, hp', E', hw, ⟨rfl, rfl⟩, hrv, H', F'⟩
  cases hrv
  subst hw
  exact ⟨rfl, F'.os, F'.tape, F'.output, F'.size, fun k hk => F'.block k hk fun b hb => by obtain ⟨q, hq, _⟩ := hb; simp at hq⟩
end Go.Abs
/- The abstract layer, part V: what a law's arguments are. -/
set_option linter.unusedSimpArgs false
set_option linter.unusedVariables false
namespace Go.Abs
open Go
variable {P : Program}

section
variable (P : Program)
def PlainF (q : TypeId → Bool) : Nat → List Field → Option Nat
  | o, [] => some o
  | o, f :: fs => if f.offset = o ∧ q f.type = true then PlainF q (o + P.cellsOf f.type) fs else none
def PlainT : Nat → TypeId → Bool
  | 0, _ => false
  | n + 1, t => match P.underlying t with
    | some .bool | some (.int _) | some (.float _) | some .string => true
    | some (.slice e) => decide (0 < P.cellsOf e) && PlainT n e
    | some (.struct fs) => PlainF P (PlainT n) 0 fs.toList == some (P.cellsOf t)
    | _ => false
def OfT : Nat → TypeId → List AV → Prop
  | 0, _, _ => False
  | n + 1, t, l => match P.underlying t with
    | some .bool => ∃ b, l = [.bool b]
    | some (.int k) => ∃ z, l = [.int k z] ∧ (Lit.int k z).wf = true
    | some (.float k) => ∃ x, l = [.flt k x] ∧ canon k x = x ∧ (Lit.float k x).wf = true
    | some .string => ∃ s, l = [.str s] ∧ s.length ≤ maxLen
    | some (.slice e) => ∃ els, l = [.ro els] ∧ els.length ≤ maxLen ∧ ∀ a ∈ els, OfT n e a.cells ∧ ((∃ fs, P.underlying e = some (.struct fs)) → ∃ c, a = .agg c) ∧ ((∀ fs, P.underlying e ≠ some (.struct fs)) → a.one = true)
    | some (.struct fs) => l.length = P.cellsOf t ∧ ∀ f ∈ fs.toList, OfT n f.type ((l.drop f.offset).take (P.cellsOf f.type))
    | _ => False
end

section
variable {P : Program}
theorem plainF_le {q : TypeId → Bool} : ∀ (fs : List Field) (o tot : Nat), PlainF P q o fs = some tot → o ≤ tot
  | [], o, tot, h => by simp only [PlainF, Option.some.injEq] at h; omega
  | f :: fs, o, tot, h => by
    simp only [PlainF] at h
    split at h
    · have := plainF_le fs _ _ h; omega
    · cases h

theorem list_of {α : Type} {R : Nat → α → Prop} : ∀ (n : Nat), (∀ i, i < n → ∃ b, R i b) → ∃ L : List α, L.length = n ∧ ∀ (i : Nat) b, L[i]? = some b → R i b
  | 0, _ => ⟨[], rfl, fun i b h => by simp at h⟩
  | n + 1, h => by
    obtain ⟨L, h1, h2⟩ := list_of n fun i hi => h i (by omega)
    obtain ⟨b, hb⟩ := h n (by omega)
    refine ⟨L ++ [b], by simp [h1], fun i c hc => ?_⟩
    by_cases hi : i < L.length
    · rw [List.getElem?_append_left hi] at hc; exact h2 i c hc
    · rw [List.getElem?_append_right (by omega)] at hc
      have : i - L.length = 0 := by
        apply Decidable.byContradiction
        intro hne
        rw [List.getElem?_eq_none (by simp; omega)] at hc
        cases hc
      rw [this] at hc
      simp only [List.getElem?_cons_zero, Option.some.injEq] at hc
      have hi' : i = n := by omega
      subst hc; subst hi'; exact hb

def Pt (E : Env P) (l : List AV) (cs : List Value) : Prop := l.length = cs.length ∧ ∀ (j : Nat) c v, l[j]? = some c → cs[j]? = some v → RV E c v

theorem Pt.append {E : Env P} {l l' : List AV} {cs cs' : List Value} (h : Pt E l cs) (h' : Pt E l' cs') : Pt E (l ++ l') (cs ++ cs') := by
  refine ⟨by simp [h.1, h'.1], fun j c v h1 h2 => ?_⟩
  by_cases hj : j < l.length
  · rw [List.getElem?_append_left hj] at h1
    rw [List.getElem?_append_left (by rw [← h.1]; exact hj)] at h2
    exact h.2 j c v h1 h2
  · rw [List.getElem?_append_right (by omega)] at h1
    rw [List.getElem?_append_right (by rw [← h.1]; omega), ← h.1] at h2
    exact h'.2 _ c v h1 h2

theorem fields_of {H : Type} {enc : TypeId × Value → H} {w : World} {spare : Nat → Bool} {held : Bool} {m n : Nat} {cs : List Value} {E : Env P}
    (ih : ∀ (t : TypeId) (cs : List Value) x, PlainT P m t = true → DataW.trod enc P w 0 spare held n t cs = some x → ∃ l, Pt E l cs ∧ OfT P m t l) :
    ∀ (fs : List Field) (o tot : Nat), PlainF P (PlainT P m) o fs = some tot → cs.length = tot → (∀ f ∈ fs, ∃ y, DataW.trod enc P w 0 spare held n f.type ((cs.drop f.offset).take (P.cellsOf f.type)) = some y) →
      ∃ l, Pt E l (cs.drop o) ∧ ∀ f ∈ fs, o ≤ f.offset ∧ OfT P m f.type ((l.drop (f.offset - o)).take (P.cellsOf f.type))
  | [], o, tot, h, hc, _ => by
    simp only [PlainF, Option.some.injEq] at h
    refine ⟨[], ⟨by simp; omega, fun j c v h1 => by simp at h1⟩, fun f hf => by simp at hf⟩
  | f :: fs, o, tot, h, hc, hy => by
    simp only [PlainF] at h
    split at h
    · rename_i hf
      have hle := plainF_le fs _ _ h
      obtain ⟨y, hy0⟩ := hy f (by simp)
      obtain ⟨lf, hp, hof⟩ := ih _ _ _ hf.2 hy0
      obtain ⟨l', hp', hof'⟩ := fields_of ih fs _ _ h hc fun g hg => hy g (by simp [hg])
      have hlen : lf.length = P.cellsOf f.type := by rw [hp.1, hf.1]; simp; omega
      refine ⟨lf ++ l', ?_, fun g hg => ?_⟩
      · have e : cs.drop o = (cs.drop f.offset).take (P.cellsOf f.type) ++ cs.drop (o + P.cellsOf f.type) := by
          rw [hf.1, ← List.drop_drop, List.take_append_drop]
        rw [e]
        exact hp.append hp'
      · rcases List.mem_cons.1 hg with rfl | hg
        · refine ⟨by omega, ?_⟩
          rw [hf.1, Nat.sub_self, List.drop_zero, ← hlen, List.take_left' rfl]
          exact hof
        · obtain ⟨h1, h2⟩ := hof' g hg
          refine ⟨by omega, ?_⟩
          rw [List.drop_append, List.drop_of_length_le (by omega), List.nil_append, show g.offset - o - lf.length = g.offset - (o + P.cellsOf f.type) from by omega]
          exact h2
    · cases h

theorem canon_wf (k : FloatKind) (b : Nat) (h : (Lit.float k b).wf = true) : (Lit.float k (canon k b)).wf = true := by
  cases hn : (k.decode b).isNaN with
  | true => rw [canon_of_nan hn]; cases k <;> decide
  | false => rw [canon_of_not hn]; exact h

theorem ofT_one {m : Nat} {e : TypeId} {l : List AV} (hs : ¬ ∃ fs, P.underlying e = some (.struct fs)) (h : OfT P m e l) : ∃ c, l = [c] ∧ c.cells = [c] ∧ c.one = true := by
  cases m with
  | zero => exact h.elim
  | succ m =>
    unfold OfT at h
    split at h
    · obtain ⟨b, rfl⟩ := h; exact ⟨_, rfl, rfl, rfl⟩
    · obtain ⟨b, rfl, _⟩ := h; exact ⟨_, rfl, rfl, rfl⟩
    · obtain ⟨b, rfl, _⟩ := h; exact ⟨_, rfl, rfl, rfl⟩
    · obtain ⟨b, rfl, _⟩ := h; exact ⟨_, rfl, rfl, rfl⟩
    · obtain ⟨b, rfl, _⟩ := h; exact ⟨_, rfl, rfl, rfl⟩
    · rename_i fs hfs; exact absurd ⟨fs, hfs⟩ hs
    · exact h.elim

theorem trod_of {H : Type} {enc : TypeId × Value → H} {w : World} {spare : Nat → Bool} {held : Bool} : ∀ (m n : Nat) (t : TypeId) (cs : List Value) (x : DataW H × List MemPlace), PlainT P m t = true → DataW.trod enc P w 0 spare held n t cs = some x →
    ∃ l, Pt (lawEnv (P := P) w fun c => c < w.heap.size) l cs ∧ OfT P m t l := by
  intro m
  induction m with
  | zero => intro n t cs x hp; cases hp
  | succ m ih =>
    intro n t cs x hp h
    have one : ∀ {c : AV} {v : Value}, RV (lawEnv (P := P) w fun c => c < w.heap.size) c v → Pt (lawEnv (P := P) w fun c => c < w.heap.size) [c] [v] := by
      intro c v hr
      refine ⟨rfl, fun j c' v' h1 h2 => ?_⟩
      cases j with
      | zero => simp at h1 h2; subst h1; subst h2; exact hr
      | succ j => simp at h1
    unfold PlainT at hp
    unfold OfT
    cases ht : P.underlying t with
    | none => rw [ht] at hp; cases hp
    | some d =>
      rw [ht] at hp
      cases d with
      | bool =>
        cases n with
        | zero => simp [DataW.trod] at h
        | succ n =>
          unfold DataW.trod at h
          rw [ht] at h
          split at h <;> simp_all
          rename_i b
          exact ⟨_, one (.bool b), by cases b <;> simp⟩
      | int k =>
        obtain ⟨z, rfl, _, hw⟩ := DataW.trod_int ht h
        exact ⟨_, one (.int k z), z, rfl, hw⟩
      | float k =>
        cases n with
        | zero => simp [DataW.trod] at h
        | succ n =>
          unfold DataW.trod at h
          rw [ht] at h
          split at h <;> simp_all
          obtain ⟨⟨rfl, hw⟩, _⟩ := h
          exact ⟨_, one (.flt _ _ _ rfl), _, rfl, canon_canon _ _, canon_wf _ _ hw⟩
      | string =>
        obtain ⟨b, rfl, _, hs⟩ := DataW.trod_string ht h
        refine ⟨_, one (.str b.data.toList), _, rfl, by simpa using hs⟩
      | slice e =>
        simp only [Bool.and_eq_true, decide_eq_true_eq] at hp
        rcases DataW.trod_slice ht h with ⟨rfl, rfl⟩ | ⟨a, len, cap, elems, rest, n', rfl, rfl, rfl, hb, hl, hm, hlen, hel, hsp, hns⟩
        · exact ⟨_, one (.roNil none 0), [], rfl, by simp [maxLen], by simp⟩
        · have each : ∀ i, i < len → ∃ b : AV, b.cells.length = P.cellsOf e ∧ (OfT P m e b.cells ∧ ((∃ fs, P.underlying e = some (.struct fs)) → ∃ c, b = .agg c) ∧ ((∀ fs, P.underlying e ≠ some (.struct fs)) → b.one = true)) ∧
              ∃ csi, (∀ j, j < P.cellsOf e → w.cell? ((a.add (i * P.cellsOf e)).add j) = csi[j]?) ∧ Pt (lawEnv (P := P) w fun c => c < w.heap.size) b.cells csi := by
            intro i hi
            have h1 := hel i hi
            rw [List.getElem?_eq_getElem (by omega), Option.bind_eq_some_iff] at h1
            obtain ⟨csi, h2, h3⟩ := h1
            obtain ⟨_, h4, h5⟩ := World.cells?_some h2
            obtain ⟨li, h6, h7⟩ := ih n' e csi _ hp.2 h3
            by_cases hst : ∃ fs, P.underlying e = some (.struct fs)
            · exact ⟨.agg li, by show li.length = _; rw [h6.1, h4], ⟨h7, fun _ => ⟨li, rfl⟩, fun hn => by obtain ⟨fs, hfs⟩ := hst; exact absurd hfs (hn fs)⟩, csi, h5, h6⟩
            · obtain ⟨c, rfl, hc1, hc2⟩ := ofT_one hst h7
              exact ⟨c, by rw [hc1, ← h4, ← h6.1], ⟨by rw [hc1]; exact h7, fun hs => absurd hs hst, fun _ => hc2⟩, csi, h5, by rw [hc1]; exact h6⟩
          obtain ⟨els, hl1, hl2⟩ := list_of (R := fun i (b : AV) => b.cells.length = P.cellsOf e ∧ (OfT P m e b.cells ∧ ((∃ fs, P.underlying e = some (.struct fs)) → ∃ c, b = .agg c) ∧ ((∀ fs, P.underlying e ≠ some (.struct fs)) → b.one = true)) ∧
              ∃ csi, (∀ j, j < P.cellsOf e → w.cell? ((a.add (i * P.cellsOf e)).add j) = csi[j]?) ∧ Pt (lawEnv (P := P) w fun c => c < w.heap.size) b.cells csi) len each
          refine ⟨[.ro els], one ?_, els, rfl, by omega, fun b hb' => ?_⟩
          · by_cases h0 : els = []
            · subst h0
              have : len = 0 := by simpa using hl1.symm
              subst this
              exact .roNil _ _
            · have hpos : 0 < els.length := by cases els with
                | nil => exact absurd rfl h0
                | cons _ _ => simp
              obtain ⟨c1, _, csi, c2, c3⟩ := hl2 0 els[0] (List.getElem?_eq_getElem hpos)
              have c4 := c2 0 hp.1
              have c5 : ∃ v, csi[0]? = some v := ⟨_, List.getElem?_eq_getElem (by rw [← c3.1, c1]; exact hp.1)⟩
              obtain ⟨v, c5⟩ := c5
              rw [c5] at c4
              have ha : (a.add (0 * P.cellsOf e)).add 0 = a := by simp [Addr.add]
              rw [ha] at c4
              have hspot : a.spot = none := by
                simp only [World.cell?] at c4
                split at c4
                · split at c4
                  · cases c4
                  · rename_i hn; simpa using hn
                · cases c4
              have hblk : a.block < w.heap.size := by
                simp only [World.cell?] at c4
                split at c4
                · rename_i hh; exact (Array.getElem?_eq_some_iff.1 hh).1
                · cases c4
              obtain ⟨ab, ao, asp⟩ := a
              simp only at hspot hblk
              subst hspot
              have hadd : ∀ i j, (Addr.add (Addr.add ⟨ab, ao, none⟩ i) j) = ⟨ab, ao + i + j, none⟩ := by
                intro i j
                simp only [Addr.add]
                split <;> split <;> simp_all
              rw [← hl1]
              refine .ro els ab ao cap (P.cellsOf e) (fun i j => (w.cell? ⟨ab, ao + i * P.cellsOf e + j, none⟩).getD undef) hblk (by omega) hm (fun i b hb' => (hl2 i b hb').1) (fun i b hb' j c hc => ?_) (fun i b hb' j c hc => ?_)
              · obtain ⟨d1, _, csi', d2, d3⟩ := hl2 i b hb'
                have hj : j < b.cells.length := (List.getElem?_eq_some_iff.1 hc).1
                have d4 := d2 j (by omega)
                rw [hadd] at d4
                have : csi'[j]? = some (csi'[j]'(by rw [← d3.1]; exact hj)) := List.getElem?_eq_getElem _
                show w.cell? _ = _
                rw [d4, this]; rfl
              · obtain ⟨d1, _, csi', d2, d3⟩ := hl2 i b hb'
                have hj : j < b.cells.length := (List.getElem?_eq_some_iff.1 hc).1
                have d4 := d2 j (by omega)
                rw [hadd] at d4
                have : csi'[j]? = some (csi'[j]'(by rw [← d3.1]; exact hj)) := List.getElem?_eq_getElem _
                rw [d4, this]
                exact d3.2 j c _ hc this
          · obtain ⟨i, hi⟩ := List.getElem?_of_mem hb'
            exact (hl2 i b hi).2.1
      | struct fs =>
        simp only [beq_iff_eq] at hp
        obtain ⟨xs, n', rfl, rfl, hlen, hxs, hf⟩ := DataW.trod_struct ht h
        obtain ⟨l, h1, h2⟩ := fields_of (H := H) (n := n') (ih n') fs.toList 0 _ hp hlen (fun f hf' => by
          obtain ⟨i, hi⟩ := List.getElem?_of_mem hf'
          have hi' : fs[i]? = some f := by simpa using hi
          rw [hf i f hi']
          have : i < xs.length := by rw [hxs]; exact (Array.getElem?_eq_some_iff.1 hi').1
          exact ⟨_, List.getElem?_eq_getElem this⟩)
        refine ⟨l, by simpa using h1, by rw [h1.1]; simpa using hlen, fun f hf' => by simpa using (h2 f hf').2⟩
      | _ => cases hp

theorem arg_one {H : Type} {enc : TypeId × Value → H} {w : World} {spare : Nat → Bool} {held : Bool} {m : Nat} {t : TypeId} {v : Value} {d : DataW H} {ps : List MemPlace} (hp : PlainT P m t = true) (hv : v.cells = #[v])
    (h : DataW.Trod enc P w 0 spare held t v d ps) : ∃ c, RV (lawEnv (P := P) w fun c => c < w.heap.size) c v ∧ OfT P m t [c] := by
  obtain ⟨n, h⟩ := h
  rw [hv] at h
  obtain ⟨l, h1, h2⟩ := trod_of m n t _ _ hp h
  match l, h1, h2 with
  | [], h1, _ => exact absurd h1.1 (by simp)
  | [c], h1, h2 => exact ⟨c, h1.2 0 c v rfl rfl, h2⟩
  | _ :: _ :: _, h1, _ => exact absurd h1.1 (by simp)
end
end Go.Abs
/- The abstract layer, part W: functions that are answered in place; which floats are numbers. -/
set_option linter.unusedSimpArgs false
set_option linter.unusedVariables false
namespace Go.Abs
open Go
variable {P : Program}

section
variable {P : Program}
theorem ext_call {f : FuncId} {fn : Func} {e : Array Value → Sem Value} (hf : P.funcs[f]? = some fn) (hname : (fn.name == "runtime.NumGoroutine") = false)
    (hb : fn.body.isNone = true) (hn : Extern.findNext fn = none) (he : Extern.find fn = some e) {args : List AV} {hp : List Blk} {Q : AV → List Blk → Prop}
    (h : ∀ (E : Env P) (vs : List Value), vs.length = args.length → (∀ (i : Nat) a v, args[i]? = some a → vs[i]? = some v → RV E a v) → ∃ v r, (e vs.toArray).run P E.w = .ok v E.w ∧ RV E r v ∧ Q r hp) : CallA P f args hp Q := by
  intro E vs H hl hv
  obtain ⟨v, r, h1, h2, h3⟩ := h E vs hl hv
  refine .inr ⟨v, E.w, ?_, r, hp, E, rfl, h3, h2, H, Fr.refl E hp⟩
  rw [run_callFunc_extern hf hname hb hn he, h1]
  rfl

theorem RV.one {E : Env P} {a : AV} {vs : List Value} (hl : vs.length = 1) (hv : ∀ (i : Nat) x v, [a][i]? = some x → vs[i]? = some v → RV E x v) : ∃ v, vs = [v] ∧ RV E a v := by
  match vs, hl with
  | [v], _ => exact ⟨v, rfl, hv 0 a v rfl rfl⟩

theorem bits_call {k : FloatKind} {kd : IntKind} {f : FuncId} {fn : Func} {e : Array Value → Sem Value} (hf : P.funcs[f]? = some fn) (hname : (fn.name == "runtime.NumGoroutine") = false)
    (hb : fn.body.isNone = true) (hn : Extern.findNext fn = none) (he : Extern.find fn = some e) (hE : ∀ b w, (e #[.float k b]).run P w = .ok (.int kd b) w)
    (x : Nat) (hx : (k.decode x).isNaN = false) : CallA P f [.flt k x] [] (fun r hp => r = .int kd x ∧ hp = []) := by
  refine ext_call hf hname hb hn he fun E vs hl hv => ?_
  obtain ⟨v, rfl, h⟩ := RV.one hl hv
  cases h with
  | flt _ _ b hc =>
    have : b = x := by
      rw [← hc] at hx
      rw [← hc, decode_canon_not hx]
    subst this
    exact ⟨_, _, hE b E.w, .int kd b, rfl, rfl⟩
theorem frombits_call {k : FloatKind} {kd : IntKind} {f : FuncId} {fn : Func} {e : Array Value → Sem Value} (hf : P.funcs[f]? = some fn) (hname : (fn.name == "runtime.NumGoroutine") = false)
    (hb : fn.body.isNone = true) (hn : Extern.findNext fn = none) (he : Extern.find fn = some e) (hE : ∀ n w, (e #[.int kd n]).run P w = .ok (.float k n.toNat) w)
    (n : Int) : CallA P f [.int kd n] [] (fun r hp => r = .flt k (canon k n.toNat) ∧ hp = []) := by
  refine ext_call hf hname hb hn he fun E vs hl hv => ?_
  obtain ⟨v, rfl, h⟩ := RV.one hl hv
  cases h with
  | int => exact ⟨_, _, hE n E.w, .flt k _ _ rfl, rfl, rfl⟩
end

def finB (k : FloatKind) (x : Nat) : Bool := match k.decode x with
  | .number _ _ _ => true
  | _ => false
def infB (k : FloatKind) (x : Nat) : Bool := (k.decode x).isInfinity

theorem decode_zero (k : FloatKind) : k.decode 0 = .number false 0 k.format.leastPlace := by cases k <;> rfl
theorem canon_zero (k : FloatKind) : canon k 0 = 0 := by cases k <;> rfl
theorem canon_max : canon .f64 9218868437227405311 = 9218868437227405311 := by decide +kernel
theorem canon_one : canon .f32 1065353216 = 1065353216 := by rfl
theorem format_read (k : FloatKind) (x : Nat) : k.format.read x = k.decode x := rfl
theorem ford_self (k : FloatKind) (x : Nat) : k.format.order x x = if (k.decode x).isNaN then none else some .eq := by
  unfold Ieee.Format.order
  rw [format_read]
  cases h : (k.decode x).isNaN with
  | false => exact order_self h
  | true => cases hd : k.decode x <;> simp_all [Ieee.Datum.order, Ieee.Datum.isNaN]
theorem feq_same (k : FloatKind) (x : Nat) : feq k x x = !(k.decode x).isNaN := by
  unfold feq; rw [ford_self]; cases (k.decode x).isNaN <;> rfl
theorem nanOf_order (k : FloatKind) (y : Nat) : k.format.order (nanOf k) y = none := by
  unfold Ieee.Format.order
  have := nanOf_isNaN k
  rw [format_read]
  cases h : k.decode (nanOf k) with
  | nan s t => rfl
  | _ => simp [h, Ieee.Datum.isNaN] at this

theorem feq_sub_self (k : FloatKind) (x : Nat) : feq k (fsub k x x) 0 = finB k x := by
  unfold fsub Ieee.Format.sub finB
  rw [format_read]
  cases h : k.decode x with
  | nan s t => simp [Ieee.Datum.opposite, Ieee.Datum.sum, fnum, feq, nanOf_order]
  | infinity s => cases s <;> simp [Ieee.Datum.opposite, Ieee.Datum.sum, fnum, feq, nanOf_order]
  | number s m i =>
    have e : (Ieee.Datum.number s m i).sum (Ieee.Datum.number s m i).opposite = some (.number false 0 i) := by
      have z : ∀ a : Int, a + -a = 0 ∧ -a + a = 0 := fun a => by omega
      cases s <;> simp [Ieee.Datum.opposite, Ieee.Datum.sum, Ieee.signed, z]
    rw [e]
    have e2 : k.format.write (.number false 0 i) = 0 := by
      simp [Ieee.Format.write, Ieee.Format.nearest, Ieee.Format.word]
    simp only [Option.map_some, fnum, e2, canon_zero]
    rw [feq_same, decode_zero]
    rfl

theorem read_double (x : Nat) (s : Bool) (m : Nat) (e : Int) (h : FloatKind.f64.decode x = .number s m e) : m < 9007199254740992 ∧ -1074 ≤ e ∧ e ≤ 971 := by
  have hb : Ieee.double.binade = 4503599627370496 := by decide
  have hl : Ieee.double.leastPlace = -1074 := by decide
  have hi : Ieee.double.infRung = 9218868437227405312 := by decide
  have h' : Ieee.double.read x = .number s m e := h
  unfold Ieee.Format.read at h'
  simp only [hb, hl, hi] at h'
  generalize x % Ieee.double.signWeight = r at h'
  split at h'
  · injection h' with h1 h2 h3; subst h2; subst h3; exact ⟨by omega, by omega, by omega⟩
  · split at h'
    · injection h' with h1 h2 h3
      subst h2; subst h3
      have : r / 4503599627370496 ≤ 2046 := by omega
      have hm := Nat.mod_lt r (y := 4503599627370496) (by omega)
      exact ⟨by omega, by omega, by omega⟩
    · split at h' <;> cases h'

theorem decode_abs (x : Nat) : FloatKind.f64.decode (x % 9223372036854775808) = match FloatKind.f64.decode x with
    | .number _ m e => .number false m e
    | .infinity _ => .infinity false
    | .nan _ t => .nan false t := by
  have hs : Ieee.double.signWeight = 9223372036854775808 := by decide
  show Ieee.double.read _ = match Ieee.double.read x with
    | .number _ m e => .number false m e
    | .infinity _ => .infinity false
    | .nan _ t => .nan false t
  unfold Ieee.Format.read
  simp only [hs, Nat.mod_mod]
  have : x % 9223372036854775808 / 9223372036854775808 = 0 := Nat.div_eq_of_lt (Nat.mod_lt _ (by omega))
  rw [this]
  by_cases h1 : x % 9223372036854775808 < Ieee.double.binade
  · simp [h1]
  · by_cases h2 : x % 9223372036854775808 < Ieee.double.infRung
    · simp [h1, h2]
    · by_cases h3 : x % 9223372036854775808 = Ieee.double.infRung
      · rw [if_neg h1, if_neg h2, if_pos h3, if_neg h1, if_neg h2, if_pos h3]; rfl
      · simp [h1, h2, h3]

theorem fgt_max (x : Nat) : fgt .f64 (x % 9223372036854775808) 9218868437227405311 = infB .f64 x := by
  have hm : FloatKind.f64.decode 9218868437227405311 = .number false 9007199254740991 971 := by decide +kernel
  unfold fgt infB Ieee.Format.order
  rw [format_read, format_read, decode_abs, hm]
  cases h : FloatKind.f64.decode x with
  | nan s t => rfl
  | infinity s => rfl
  | number s m e =>
    obtain ⟨h1, h2, h3⟩ := read_double x s m e h
    simp only [Ieee.Datum.order, Ieee.Datum.isInfinity]
    have hmin : min e 971 = e := by omega
    rw [hmin]
    have : ¬ (compare (Ieee.signed false m (e - e).toNat) (Ieee.signed false 9007199254740991 (971 - e).toNat) = .gt) := by
      intro hc
      have hc' := Int.compare_eq_gt.1 hc
      simp only [Ieee.signed, Bool.false_eq_true, if_false, Int.sub_self, Int.toNat_zero, Nat.shiftLeft_zero, Nat.shiftLeft_eq] at hc'
      have : 1 ≤ 2 ^ (971 - e).toNat := Nat.one_le_two_pow
      have h5 : (9007199254740991 : Nat) * 1 ≤ 9007199254740991 * 2 ^ (971 - e).toNat := Nat.mul_le_mul_left _ this
      omega
    cases hc : compare (Ieee.signed false m (e - e).toNat) (Ieee.signed false 9007199254740991 (971 - e).toNat) <;> simp_all
theorem fin_of (k : FloatKind) (x : Nat) : finB k x = (!(k.decode x).isNaN && !infB k x) := by
  unfold finB infB
  cases k.decode x <;> rfl

theorem wide_lt (x : Nat) : fconv .f64 .f32 x < 18446744073709551616 := by
  unfold fconv
  rw [if_neg (by decide)]
  have key : ∀ d, canon .f64 (FloatKind.f64.encode d) < 18446744073709551616 := by
    intro d
    unfold canon
    split
    · decide
    · have := Ieee.Format.write_lt Ieee.double d
      exact this
  split
  · decide
  · exact key _
  · exact key _
theorem wide_nan (x : Nat) : (FloatKind.f64.decode (fconv .f64 .f32 x)).isNaN = (FloatKind.f32.decode x).isNaN := by
  unfold fconv
  rw [if_neg (by decide)]
  cases h : FloatKind.f32.decode x with
  | nan s t => exact nanOf_isNaN .f64
  | infinity s => cases s <;> rfl
  | number s m e =>
    obtain ⟨hm, h1, h2⟩ := read_single x s m e h
    obtain ⟨r, e1, e2⟩ := near_wide s m e hm h1 h2
    show (FloatKind.f64.decode (canon .f64 (FloatKind.f64.encode (.number s m e)))).isNaN = false
    rw [canon_isNaN]
    have e3 : FloatKind.f64.encode (.number s m e) = Ieee.double.word s r := e1
    rw [e3]
    have hi : Ieee.double.infRung < Ieee.double.signWeight := by decide
    show (Ieee.double.read _).isNaN = false
    unfold Ieee.Format.read
    simp only [word_mod Ieee.double s r (by omega)]
    split
    · rfl
    · rfl
theorem wide_inf (x : Nat) : infB .f64 (fconv .f64 .f32 x) = infB .f32 x := by
  unfold infB
  cases h : FloatKind.f32.decode x with
  | nan s t => unfold fconv; rw [if_neg (by decide), h]; rfl
  | infinity s => unfold fconv; rw [if_neg (by decide), h]; cases s <;> rfl
  | number s m e =>
    have hk := wide_ok x
    unfold fconvOk at hk
    rcases hk with hk | hk
    · cases hk
    · rw [h] at hk
      have hk : (FloatKind.f64.decode (FloatKind.f64.encode (.number s m e))).isInfinity = false := hk
      have hn := wide_nan x
      unfold fconv at hn ⊢
      rw [if_neg (by decide), h] at hn ⊢
      have hn : (FloatKind.f64.decode (canon .f64 (FloatKind.f64.encode (.number s m e)))).isNaN = false := hn
      show (FloatKind.f64.decode (canon .f64 (FloatKind.f64.encode (.number s m e)))).isInfinity = false
      rw [decode_canon_not hn]
      exact hk
theorem wide_fin (x : Nat) : finB .f64 (fconv .f64 .f32 x) = finB .f32 x := by
  rw [fin_of, fin_of, wide_nan, wide_inf]

theorem flt_fge (k : FloatKind) (x y : Nat) (hx : finB k x = true) (hy : finB k y = true) : flt k x y = !fge k x y := by
  unfold flt fge Ieee.Format.order
  rw [format_read, format_read]
  unfold finB at hx hy
  cases h1 : k.decode x <;> rw [h1] at hx <;> try (cases hx)
  cases h2 : k.decode y <;> rw [h2] at hy <;> try (cases hy)
  simp only [Ieee.Datum.order]
  generalize compare (Ieee.signed _ _ _) (Ieee.signed _ _ _) = o
  cases o <;> rfl
theorem fin_nan (k : FloatKind) : finB k (nanOf k) = false := by cases k <;> rfl
theorem fin_inf (k : FloatKind) (s : Bool) : finB k (canon k (k.format.write (.infinity s))) = false := by cases k <;> cases s <;> rfl
theorem fin_add_left (k : FloatKind) (x y : Nat) (h : finB k x = false) : finB k (fadd k x y) = false := by
  unfold fadd Ieee.Format.add
  rw [format_read, format_read]
  unfold finB at h
  cases hx : k.decode x with
  | number s m e => rw [hx] at h; cases h
  | nan s t => cases k.decode y <;> exact fin_nan k
  | infinity s =>
    cases hy : k.decode y with
    | nan s t => exact fin_nan k
    | number s m e => exact fin_inf k _
    | infinity t =>
      simp only [Ieee.Datum.sum]
      split
      · exact fin_inf k _
      · exact fin_nan k
theorem fin_add_right (k : FloatKind) (x y : Nat) (h : finB k y = false) : finB k (fadd k x y) = false := by
  unfold fadd Ieee.Format.add
  rw [format_read, format_read]
  unfold finB at h
  cases hy : k.decode y with
  | number s m e => rw [hy] at h; cases h
  | nan s t => cases k.decode x <;> exact fin_nan k
  | infinity s =>
    cases hx : k.decode x with
    | nan s t => exact fin_nan k
    | number s m e => exact fin_inf k _
    | infinity t =>
      simp only [Ieee.Datum.sum]
      split
      · exact fin_inf k _
      · exact fin_nan k
theorem rvs_nil {E : Env P} : ∀ (i : Nat) a v, ([] : List AV)[i]? = some a → ([] : List Value)[i]? = some v → RV E a v := by intro i a v h; simp at h
theorem rvs_cons {E : Env P} {a : AV} {v : Value} {l : List AV} {vs : List Value} (h : RV E a v) (hs : ∀ (i : Nat) a v, l[i]? = some a → vs[i]? = some v → RV E a v) : ∀ (i : Nat) a' v', (a :: l)[i]? = some a' → (v :: vs)[i]? = some v' → RV E a' v' := by
  intro i a' v' h1 h2
  cases i with
  | zero => simp at h1 h2; subst h1; subst h2; exact h
  | succ i => exact hs i a' v' (by simpa using h1) (by simpa using h2)

def findI {α : Type} (q : α → Bool) : List α → Nat → Int
  | [], _ => -1
  | x :: xs, i => if q x then i else findI q xs (i + 1)
theorem findI_any {α : Type} (q : α → Bool) : ∀ (xs : List α) (i : Nat), decide (findI q xs i ≥ 0) = xs.any q
  | [], _ => rfl
  | x :: xs, i => by
    unfold findI
    cases h : q x with
    | true => simp [h]
    | false => simp [h, ← findI_any q xs (i + 1)]
theorem drop_at {α : Type} (xs : List α) (i : Nat) (h : i < xs.length) : xs.drop i = xs[i] :: xs.drop (i + 1) := List.drop_eq_getElem_cons h
theorem findI_step {α : Type} (q : α → Bool) (xs : List α) (i : Nat) (h : i < xs.length) : findI q (xs.drop i) i = if q xs[i] then (i : Int) else findI q (xs.drop (i + 1)) (i + 1) := by
  rw [drop_at xs i h]; rfl
theorem all_no {α : Type} {p : α → Bool} {xs : List α} (i : Nat) (h : i < xs.length) (hx : p xs[i] = false) : xs.all p = false := by
  rw [List.all_eq_false]
  exact ⟨xs[i], List.getElem_mem h, by simp [hx]⟩
theorem all_take {α : Type} {p : α → Bool} {xs : List α} (i : Nat) (h : i < xs.length) (hx : p xs[i] = true) (ht : (xs.take i).all p = true) : (xs.take (i + 1)).all p = true := by
  rw [take_snoc _ _ h, List.all_append, ht]; simp [hx]
theorem any_not {α : Type} (p : α → Bool) (xs : List α) : (!xs.any fun x => !p x) = xs.all p := by
  induction xs with
  | nil => rfl
  | cons x xs ih => simp only [List.any_cons, List.all_cons, ← ih, Bool.not_or, Bool.not_not]

def sumF (xs : List Nat) : Nat := xs.foldl (fadd .f32) 0
theorem sumF_take (xs : List Nat) (i : Nat) (h : i < xs.length) : sumF (xs.take (i + 1)) = fadd .f32 (sumF (xs.take i)) xs[i] := by
  unfold sumF; rw [take_snoc _ _ h, List.foldl_append]; rfl
def okN (x : Nat) : Bool := finB .f32 x && fge .f32 x 0
def okS (x : Nat) : Bool := fge .f32 x 0 && fle .f32 x 1065353216
def peopleB (cs ss bs : List Nat) : Bool := decide (2 ≤ cs.length) && decide (cs.length ≤ 12) && decide (ss.length = cs.length) && decide (bs.length = cs.length) && cs.all okN && ss.all okS && bs.all okN
theorem okN_alt (x : Nat) : (!okN x) = (!finB .f32 x || flt .f32 x 0) := by
  unfold okN
  cases h : finB .f32 x with
  | false => rfl
  | true => rw [flt_fge .f32 x 0 h rfl]; rfl
theorem bits_abs (x : Nat) (h : x < 18446744073709551616) : (IntKind.u64.wrap (((BitVec.ofInt IntKind.u64.bits (x : Int) &&& ~~~BitVec.ofInt IntKind.u64.bits 9223372036854775808).toNat : Nat) : Int)).toNat = x % 9223372036854775808 := by
  have e : (~~~BitVec.ofInt 64 9223372036854775808).toNat = 2 ^ 63 - 1 := by decide
  have e2 : (BitVec.ofInt 64 (x : Int)).toNat = x := by
    rw [BitVec.toNat_ofInt]; omega
  show (IntKind.u64.wrap (((BitVec.ofInt 64 (x : Int) &&& ~~~BitVec.ofInt 64 9223372036854775808).toNat : Nat) : Int)).toNat = _
  rw [BitVec.toNat_and, e, e2, Nat.and_two_pow_sub_one_eq_mod]
  have : x % 2 ^ 63 < 2 ^ 63 := Nat.mod_lt _ (by decide)
  have e3 : IntKind.u64.wrap ((x % 2 ^ 63 : Nat) : Int) = ((x % 2 ^ 63 : Nat) : Int) := by
    unfold IntKind.wrap
    simp only [IntKind.bits, IntKind.signed, Bool.false_and, Bool.false_eq_true, if_false]
    omega
  rw [e3, Int.toNat_natCast]
theorem abs_nan (x : Nat) (h : (FloatKind.f64.decode x).isNaN = false) : canon .f64 (x % 9223372036854775808) = x % 9223372036854775808 := by
  apply canon_of_not
  rw [decode_abs]
  cases hd : FloatKind.f64.decode x <;> simp_all [Ieee.Datum.isNaN]
theorem flts_cells (xs : List Nat) : ∀ a ∈ flts xs, a.cells.length = 1 := by
  intro a ha
  simp only [flts, List.mem_map] at ha
  obtain ⟨x, _, rfl⟩ := ha
  rfl
theorem flts_rep (n : Nat) : flts (List.replicate n 0) = List.replicate n (.flt .f32 0) := by simp [flts]
end Go.Abs
/- The abstract layer, part X: what is lent, read. -/
set_option linter.unusedSimpArgs false
set_option linter.unusedVariables false
namespace Go.Abs
open Go
variable {P : Program}

theorem view_sl (d : Nat) (hp : List Blk) (b i n : Nat) : view (d + 1) hp (.sl b i n) = match hp[b]? with
    | some blk => if blk.live && decide (i + n ≤ blk.els.length) then .ro (((blk.els.drop i).take n).map (view d hp)) else .any
    | none => .any := rfl
theorem view_agg (d : Nat) (hp : List Blk) (l : List AV) : view (d + 1) hp (.agg l) = .agg (l.map (view d hp)) := rfl
theorem view_ro (d : Nat) (hp : List Blk) (l : List AV) : view d hp (.ro l) = .ro l := by cases d <;> rfl
theorem view_rop (d : Nat) (hp : List Blk) (l : List AV) : view d hp (.rop l) = .rop l := by cases d <;> rfl
theorem view_int (d : Nat) (hp : List Blk) (k : IntKind) (n : Int) : view d hp (.int k n) = .int k n := by cases d <;> rfl
theorem view_flt (d : Nat) (hp : List Blk) (k : FloatKind) (n : Nat) : view d hp (.flt k n) = .flt k n := by cases d <;> rfl
theorem view_bool (d : Nat) (hp : List Blk) (b : Bool) : view d hp (.bool b) = .bool b := by cases d <;> rfl
theorem view_str (d : Nat) (hp : List Blk) (s : List UInt8) : view d hp (.str s) = .str s := by cases d <;> rfl
theorem view_nils (d : Nat) (hp : List Blk) : view d hp .nils = .nils := by cases d <;> rfl
theorem map_view_flts (d : Nat) (hp : List Blk) (xs : List Nat) : (flts xs).map (view d hp) = flts xs := by
  unfold flts
  rw [List.map_map]
  exact List.map_congr_left fun x _ => view_flt d hp .f32 x
theorem map_view_ints (d : Nat) (hp : List Blk) (xs : List Int) : (ints xs).map (view d hp) = ints xs := by
  unfold ints
  rw [List.map_map]
  exact List.map_congr_left fun x _ => view_int d hp .i64 x
theorem take_flts (xs : List Nat) : (flts xs).take xs.length = flts xs := List.take_of_length_le (by simp [flts_len])
theorem take_ints (xs : List Int) : (ints xs).take xs.length = ints xs := List.take_of_length_le (by simp [ints_len])
theorem CallA.freeze {P : Program} (d : Nat) {f : FuncId} {args : List AV} {r : AV} {new : List Blk} (h : CallA P f args [] (Ret r new)) : CallA P f args [] (Ret (view d new r) []) := by
  intro E vs H hl hrv
  refine (h E vs H hl hrv).mono ?_
  rintro v w' ⟨r', hp', E', hw, ⟨rfl, rfl⟩, hv, H', F'⟩
  refine ⟨_, [], E'.lent hp', hw, ⟨rfl, rfl⟩, (view_sound H' d r').1 v hv, ?_, ?_⟩
  · exact ⟨rfl, by simp, by simp, by simp, by simp, fun c hc => by
      rcases hc with h1 | ⟨b, ⟨q, hq, hlv⟩, rfl⟩
      · exact H'.old c h1
      · obtain ⟨cs', g2, _⟩ := (H'.holds b q hq hlv).cells
        exact (Row.lt g2), H'.laid.keep (fun c h => .inl h) (fun _ _ => rfl)⟩
  · exact { size := F'.size, os := F'.os, tape := F'.tape, output := F'.output, block := F'.block, len := Nat.le_refl _, ρ := fun b hb => absurd hb (Nat.not_lt_zero _), wd := fun b hb => absurd hb (Nat.not_lt_zero _),
            F := fun c hc => .inl (F'.F c hc)
            F' := fun c hc => by
              rcases hc with h1 | ⟨b, hb, rfl⟩
              · exact F'.F' c h1
              · rcases F'.live b hb with ⟨h2, _⟩ | ⟨_, h3⟩
                · exact absurd h2 (Nat.not_lt_zero _)
                · exact .inr h3
            live := fun b ⟨q, hq, _⟩ => by simp at hq
            csz := F'.csz }
theorem CallA.frozen {P : Program} (d : Nat) {f : FuncId} {args : List AV} {r r2 : AV} {new : List Blk} (h : CallA P f args [] (Ret r new)) (hr : view d new r = r2) : CallA P f args [] (Ret r2 []) := by
  subst hr; exact h.freeze d
end Go.Abs
/- The abstract layer, part Y: the rules of a walk, some at once. -/
set_option linter.unusedVariables false
set_option linter.defProp false
namespace Go.Abs
open Go
variable {P : Program}

def q0 := And.intro @V_skip (And.intro @V_region (And.intro @V_draw (And.intro @V_seq (And.intro @V_cond (And.intro @opA_alloc (And.intro @opA_box (And.intro @opA_buildSlice (And.intro @opA_store (And.intro @opA_makeSlice (And.intro @opA_append @opA_len))))))))))
def q1 := And.intro @opA_min (And.intro @opA_max (And.intro @opA_real (And.intro @opA_imag (And.intro @opA_complex (And.intro @V_block (And.intro @V_loop (And.intro @V_exit (And.intro @V_ret (And.intro @retQ_ret (And.intro @retQ_normal @R_nil))))))))))
def q2 := And.intro @R_none (And.intro @R_some (And.intro @RQ_nil (And.intro @RQ_none (And.intro @RQ_some (And.intro @RQ_fnone (And.intro @RQ_fsome (And.intro @stepQ_call (And.intro @stepQ_builtin (And.intro @callQ_fn (And.intro @callV_fn @opA_call))))))))))
def q3 := And.intro @Br_true (And.intro @Br_false (And.intro @Br_not (And.intro @guardB_true (And.intro @guardB_false (And.intro @guardO_some (And.intro @condB_bool (And.intro @Cn_any (And.intro @Cn_bool (And.intro @Cn_int (And.intro @Cn_flt @Cn_cpx))))))))))
def q4 := And.intro @Cn_str (And.intro @Cn_agg (And.intro @Cn_tup (And.intro @Cn_nils (And.intro @Cn_ro (And.intro @Cn_sl (And.intro @Cn_ptr (And.intro @Cn_rop (And.intro @Cn_nilp (And.intro @Cn_fn (And.intro @Cn_nilf @stepQ_move))))))))))
def q5 := And.intro @stepQ_assign (And.intro @stepQ_pick (And.intro @stepQ_build (And.intro @stepQ_load (And.intro @stepQ_nilCheck (And.intro @stepQ_binOp (And.intro @stepQ_unOp (And.intro @stepQ_convert (And.intro @stepQ_makeFunc (And.intro @stepQ_slice (And.intro @stepQ_fieldAddr @stepQ_field))))))))))
def q6 := And.intro @stepQ_indexAddr (And.intro @stepQ_index (And.intro @stepQ_extract (And.intro @opA_move (And.intro @opA_assign (And.intro @opA_pick (And.intro @opA_build (And.intro @opA_load (And.intro @opA_nilCheck (And.intro @opA_binOp (And.intro @opA_unOp @opA_convert))))))))))
def q7 := And.intro @opA_makeFunc (And.intro @opA_slice (And.intro @opA_fieldAddr (And.intro @opA_field (And.intro @opA_indexAddr (And.intro @opA_index (And.intro @opA_extract (And.intro @ints_len (And.intro @flts_len (And.intro @ints_get (And.intro @flts_get @flts_kill))))))))))
def q8 := And.intro @ints_kill (And.intro @flts_snoc (And.intro @ints_snoc (And.intro @flts_append (And.intro @ints_append @wide_ok))))
def q9 := And.intro @guardB_skip (And.intro @drawQ_cons (And.intro @drawQ_nil (And.intro @opA_cap @opA_clear)))
end Go.Abs
/- The abstract layer, part Z: calls that read known blocks and make new ones. -/
set_option linter.unusedSimpArgs false
set_option linter.unusedVariables false
namespace Go.Abs
open Go
variable {P : Program}

theorem joinHp_flat {hp new : List Blk} (hf : ∀ q ∈ new, allBelow 0 q.els = true) : joinHp hp new = hp ++ new := by
  unfold joinHp
  congr 1
  have : ∀ l : List Blk, (∀ q ∈ l, allBelow 0 q.els = true) → l.map (renB fun b => b + hp.length) = l := by
    intro l
    induction l with
    | nil => intro _; rfl
    | cons q l ih => intro hl; rw [List.map_cons, renB_flat (hl q (by simp)), ih fun x hx => hl x (by simp [hx])]
  exact this new hf
theorem call_lent_new {P : Program} {f : FuncId} {args : List AV} {hp : List Blk} {Q : AV → List Blk → Prop} {t : Tok Q} (d : Nat) {r : AV} {new : List Blk} {args' : List AV} (hv : args.map (view d hp) = args') (h : CallA P f args' [] (Ret r new)) (hc : clean r = true) (hn : new.all cleanB = true)
    (hf : ∀ q ∈ new, allBelow 0 q.els = true) (hQ : Q (ren (fun b => b + hp.length) r) (hp ++ new)) : CallP P f args hp Q t := by
  refine call_at (CallA.borrow d ?_)
  rw [hv]
  refine h.mono ?_
  rintro r' hp' ⟨rfl, rfl⟩
  exact ⟨⟨hc, hn⟩, by rw [joinHp_flat hf]; exact hQ⟩
end Go.Abs
/- The abstract layer, part Z1: drawn regions by an invariant. -/
set_option linter.unusedSimpArgs false
set_option linter.unusedVariables false
namespace Go.Abs
open Go
variable {P : Program}

theorem count_set : ∀ (l : List Bool) (i : Nat), l[i]? = some false → (l.set i true).count true = l.count true + 1
  | [], i, h => by simp at h
  | b :: l, 0, h => by
    simp at h
    subst h
    simp [List.count_cons]
  | b :: l, i + 1, h => by
    have := count_set l i (by simpa using h)
    simp only [List.set_cons_succ, List.count_cons, this]
    omega
theorem count_lt : ∀ (l : List Bool) (i : Nat), l[i]? = some false → l.count true < l.length
  | [], i, h => by simp at h
  | b :: l, 0, h => by
    simp at h
    subst h
    have := List.count_le_length (a := true) (l := l)
    simp [List.count_cons]
    omega
  | b :: l, i + 1, h => by
    have := count_lt l i (by simpa using h)
    simp only [List.count_cons, List.length_cons]
    split <;> omega

section
variable {P : Program} {n0 : Nat}
theorem ready_false {ops : List Oper} {listed : Array Bool} (hs : listed.size = ops.length) {i : Nat} (h : i ∈ Region.ready .any ops.toArray listed) : listed.toList[i]? = some false := by
  obtain ⟨h1, oj, hoj, _⟩ := mem_ready.1 h
  have hi : i < listed.size := by
    rw [hs]
    have : ops[i]? = some oj := by simpa using hoj
    exact (List.getElem?_eq_some_iff.1 this).1
  simp [Array.getD, hi] at h1
  simp [hi, h1]

end
end Go.Abs
/- The abstract layer, part Z2: a drawn region whose operations make blocks of their own, in any order. -/
set_option linter.unusedSimpArgs false
set_option linter.unusedVariables false
namespace Go.Abs
open Go
variable {P : Program}

structure Plan where
  val : Nat → (Nat → Nat) → AV
  fresh : Nat → Option Blk
  uses : Nat → List Nat

def On (listed : Array Bool) (i : Nat) : Prop := listed.getD i false = true
def upd (nm : Nat → Nat) (i x : Nat) : Nat → Nat := fun j => if j = i then x else nm j

structure Mid (ops : List Oper) (pl : Plan) (st0 : St) (listed : Array Bool) (nm : Nat → Nat) (st : St) : Prop where
  len : st.tm.length = st0.tm.length
  slot : ∀ (i : Nat) (o : Oper) (d : Nat), ops[i]? = some o → On listed i → o.dst = some d → st.tm.getD d .any = pl.val i nm
  rest : ∀ d, (∀ (i : Nat) (o : Oper), ops[i]? = some o → o.dst ≠ some d) → st.tm.getD d .any = st0.tm.getD d .any
  more : st0.hp.length ≤ st.hp.length
  old : ∀ b, b < st0.hp.length → st.hp[b]? = st0.hp[b]?
  blk : ∀ i b, i < ops.length → On listed i → pl.fresh i = some b → st0.hp.length ≤ nm i ∧ st.hp[nm i]? = some b
  inj : ∀ i j, i < ops.length → j < ops.length → On listed i → On listed j → pl.fresh i ≠ none → pl.fresh j ≠ none → nm i = nm j → i = j
  closed : ∀ (j : Nat) (o : Oper), ops[j]? = some o → On listed j → ∀ e ∈ o.after, Region.binds .any e = true → On listed e.on

theorem set_getD (l : List AV) (d e : Nat) (v : AV) (h : d ≠ e) : (l.set d v).getD e .any = l.getD e .any := by
  simp [List.getD, List.getElem?_set_ne h]
theorem set_getD_self (l : List AV) (d : Nat) (v : AV) (h : d < l.length) : (l.set d v).getD d .any = v := by
  simp [List.getD, h]

section
variable {P : Program} {n0 : Nat}

theorem Mid.step {ops : List Oper} {pl : Plan} {st0 : St} {listed : Array Bool} {nm : Nat → Nat} {st : St} (M : Mid ops pl st0 listed nm st)
    (hd : ∀ (i j : Nat) (oi oj : Oper) (d : Nat), ops[i]? = some oi → ops[j]? = some oj → oi.dst = some d → oj.dst = some d → i = j)
    (hlen : ∀ (i : Nat) (o : Oper) (d : Nat), ops[i]? = some o → o.dst = some d → d < st0.tm.length)
    (huses : ∀ (j : Nat) (o : Oper), ops[j]? = some o → ∀ i ∈ pl.uses j, ∃ e ∈ o.after, Region.binds .any e = true ∧ e.on = i)
    (hloc : ∀ j nm nm', (∀ i ∈ pl.uses j, nm i = nm' i) → (pl.fresh j ≠ none → nm j = nm' j) → pl.val j nm = pl.val j nm')
    {i : Nat} {o : Oper} {d : Nat} (ho : ops[i]? = some o) (hi : listed.getD i true = false) (hdst : o.dst = some d) (hedge : ∀ e ∈ o.after, Region.binds .any e = true → On listed e.on)
    {v : AV} {hp' : List Blk} (hs : listed.size = ops.length) (h : match pl.fresh i with
      | none => v = pl.val i nm ∧ hp' = st.hp
      | some b => v = pl.val i (upd nm i st.hp.length) ∧ hp' = st.hp ++ [b]) :
    ∃ nm', Mid ops pl st0 (listed.setIfInBounds i true) nm' { tm := st.tm.set d v, hp := hp' } := by
  have hilt : i < ops.length := (List.getElem?_eq_some_iff.1 ho).1
  have hnot : ¬ On listed i := by
    unfold On
    simp [Array.getD, hs, hilt] at hi ⊢
    simp [hi]
  have on' : ∀ j, On (listed.setIfInBounds i true) j → j = i ∨ On listed j := by
    intro j hj
    by_cases h : i = j
    · exact .inl h.symm
    · right; unfold On at hj ⊢; rwa [getD_set_ne false h] at hj
  have onI : On (listed.setIfInBounds i true) i := by
    unfold On
    simp [hs, hilt]
  have onM : ∀ j, On listed j → On (listed.setIfInBounds i true) j := fun j hj => getD_set_true hj
  have usesOn : ∀ (j : Nat) (oj : Oper), ops[j]? = some oj → On listed j → ∀ k ∈ pl.uses j, On listed k := by
    intro j oj hj hon k hk
    obtain ⟨e, he, hb, rfl⟩ := huses j oj hj k hk
    exact M.closed j oj hj hon e he hb
  have closed' : ∀ (j : Nat) (oj : Oper), ops[j]? = some oj → On (listed.setIfInBounds i true) j → ∀ e ∈ oj.after, Region.binds .any e = true → On (listed.setIfInBounds i true) e.on := by
    intro j oj hj hon e he hb
    rcases on' j hon with rfl | hon
    · rw [ho] at hj; cases hj
      exact onM _ (hedge e he hb)
    · exact onM _ (M.closed j oj hj hon e he hb)
  have rest' : ∀ c, (∀ (k : Nat) (ok : Oper), ops[k]? = some ok → ok.dst ≠ some c) → (st.tm.set d v).getD c .any = st0.tm.getD c .any := by
    intro c hc
    rw [set_getD _ _ _ _ (fun e => hc i o ho (by rw [hdst, e]))]
    exact M.rest c hc
  have dlt : d < st.tm.length := by rw [M.len]; exact hlen i o d ho hdst
  cases hf : pl.fresh i with
  | none =>
    rw [hf] at h
    obtain ⟨rfl, rfl⟩ := h
    refine ⟨nm, by simp [M.len], ?_, rest', M.more, M.old, ?_, ?_, closed'⟩
    · intro j oj c hj hon hc
      rcases on' j hon with rfl | hon
      · rw [ho] at hj; cases hj
        rw [hdst] at hc; cases hc
        exact set_getD_self _ _ _ dlt
      · rw [set_getD _ _ _ _ (fun e => hnot (by
          subst e
          have := hd i j o oj d ho hj hdst hc
          rw [this]; exact hon))]
        exact M.slot j oj c hj hon hc
    · intro j b hj hon hb
      rcases on' j hon with rfl | hon
      · rw [hf] at hb; cases hb
      · exact M.blk j b hj hon hb
    · intro j k hj hk hoj hok fj fk e
      rcases on' j hoj with rfl | hoj
      · exact absurd hf fj
      · rcases on' k hok with rfl | hok
        · exact absurd hf fk
        · exact M.inj j k hj hk hoj hok fj fk e
  | some b =>
    rw [hf] at h
    obtain ⟨rfl, rfl⟩ := h
    have keep : ∀ j, On listed j → upd nm i st.hp.length j = nm j := by
      intro j hj
      have : j ≠ i := fun e => hnot (e ▸ hj)
      simp [upd, this]
    have self : upd nm i st.hp.length i = st.hp.length := by simp [upd]
    have vals : ∀ (j : Nat) (oj : Oper), ops[j]? = some oj → On listed j → pl.val j (upd nm i st.hp.length) = pl.val j nm := by
      intro j oj hj hon
      exact hloc j _ _ (fun k hk => keep k (usesOn j oj hj hon k hk)) (fun _ => keep j hon)
    refine ⟨upd nm i st.hp.length, by simp [M.len], ?_, rest', by simp; have := M.more; omega, ?_, ?_, ?_, closed'⟩
    · intro j oj c hj hon hc
      rcases on' j hon with rfl | hon
      · rw [ho] at hj; cases hj
        rw [hdst] at hc; cases hc
        exact set_getD_self _ _ _ dlt
      · rw [set_getD _ _ _ _ (fun e => hnot (by
          subst e
          have := hd i j o oj d ho hj hdst hc
          rw [this]; exact hon)), vals j oj hj hon]
        exact M.slot j oj c hj hon hc
    · intro c hc
      have := M.more
      show (st.hp ++ [b])[c]? = _
      rw [List.getElem?_append_left (by omega)]
      exact M.old c hc
    · intro j b' hj hon hb
      rcases on' j hon with rfl | hon
      · rw [hf] at hb; cases hb
        rw [self]
        exact ⟨M.more, by simp⟩
      · rw [keep j hon]
        obtain ⟨h1, h2⟩ := M.blk j b' hj hon hb
        refine ⟨h1, ?_⟩
        show (st.hp ++ [b])[nm j]? = _
        rw [List.getElem?_append_left (List.getElem?_eq_some_iff.1 h2).1]
        exact h2
    · intro j k hj hk hoj hok fj fk e
      have lt : ∀ j, j < ops.length → On listed j → pl.fresh j ≠ none → nm j < st.hp.length := by
        intro j hj hoj fj
        cases hfj : pl.fresh j with
        | none => exact absurd hfj fj
        | some b' => exact (List.getElem?_eq_some_iff.1 (M.blk j b' hj hoj hfj).2).1
      rcases on' j hoj with hj' | hoj2
      · rcases on' k hok with hk' | hok2
        · rw [hj', hk']
        · rw [hj', self, keep k hok2] at e
          have := lt k hk hok2 fk
          omega
      · rcases on' k hok with hk' | hok2
        · rw [hk', self, keep j hoj2] at e
          have := lt j hj hoj2 fj
          omega
        · rw [keep j hoj2, keep k hok2] at e
          exact M.inj j k hj hk hoj2 hok2 fj fk e

theorem noOn (n i : Nat) : ¬ On (Array.replicate n false) i := by
  unfold On
  by_cases h : i < n
  · simp [Array.getD, h]
  · simp [Array.getD, h]

end
end Go.Abs
/- The abstract layer, part Z3: how a drawn region that is done is told by names of one's choice. -/
set_option linter.unusedSimpArgs false
set_option linter.unusedVariables false
namespace Go.Abs
open Go
variable {P : Program}

theorem LeTm.of {N : Nat} {π : Nat → Nat} : ∀ {l m : List AV}, l.length = m.length → (∀ (i : Nat) b, m[i]? = some b → LeV N π (l.getD i .any) b) → LeTm N π l m
  | [], [], _, _ => trivial
  | a :: l, b :: m, hl, h => ⟨by simpa using h 0 b rfl, LeTm.of (by simpa using hl) fun i x hx => by simpa using h (i + 1) x (by simpa using hx)⟩
  | [], _ :: _, hl, _ => by simp at hl
  | _ :: _, [], hl, _ => by simp at hl

def planName (N : Nat) (nm : Nat → Nat) (ps : List Nat) (b : Nat) : Nat := if b < N then b else nm (ps.getD (b - N) 0)

theorem flat_ren {N : Nat} (π : Nat → Nat) {l : List AV} (h : allBelow 0 l = true) : l.map (ren π) = l ∧ ∀ e ∈ l, below N e = true := by
  simp only [allBelow, List.all_eq_true] at h
  exact ⟨map_id_of fun x hx => (below_mono0 (N := N) π x (h x hx)).2, fun e he => (below_mono0 (N := N) π e (h e he)).1⟩

theorem Mid.weak {ops : List Oper} {pl : Plan} {st0 : St} {listed : Array Bool} {nm : Nat → Nat} {st : St} (M : Mid ops pl st0 listed nm st) {n0 : Nat} (hn0 : n0 ≤ st0.hp.length) (h0 : ∀ r ∈ st0.hp, allBelow 0 r.els = true)
    (ps : List Nat) (bs : List Blk) (hnd : ps.Nodup) (hlen : bs.length = ps.length) (hps : ∀ (j : Nat) i, ps[j]? = some i → i < ops.length ∧ On listed i ∧ pl.fresh i = bs[j]?) (hbs : ∀ r ∈ bs, allBelow 0 r.els = true)
    (m : List AV) (hm : m.length = st0.tm.length) (hslot : ∀ (i : Nat) b, m[i]? = some b → LeV (st0.hp.length + ps.length) (planName st0.hp.length nm ps) (st.tm.getD i .any) b) :
    Weak n0 st ⟨m, st0.hp ++ bs⟩ := by
  have hfresh : ∀ j, j < ps.length → ∃ i r, ps[j]? = some i ∧ bs[j]? = some r ∧ i < ops.length ∧ On listed i ∧ pl.fresh i = some r ∧ st0.hp.length ≤ nm i ∧ st.hp[nm i]? = some r := by
    intro j hj
    have h1 : ps[j]? = some ps[j] := List.getElem?_eq_getElem hj
    have h2 : bs[j]? = some (bs[j]'(by omega)) := List.getElem?_eq_getElem (by omega)
    obtain ⟨a, b, c⟩ := hps j _ h1
    rw [h2] at c
    obtain ⟨d, e⟩ := M.blk _ _ a b c
    exact ⟨_, _, h1, h2, a, b, c, d, e⟩
  have hname : ∀ j i, ps[j]? = some i → planName st0.hp.length nm ps (st0.hp.length + j) = nm i := by
    intro j i h
    have e : st0.hp.length + j - st0.hp.length = j := by omega
    simp only [planName, if_neg (show ¬ st0.hp.length + j < st0.hp.length from by omega), e, List.getD_eq_getElem?_getD, h, Option.getD_some]
  refine weak_ren (st0.hp.length + ps.length) (planName st0.hp.length nm ps) (LeTm.of (by rw [M.len, hm]) hslot) ?_
  refine ⟨by simp [hlen], by omega, fun b hb => by simp [planName, show b < st0.hp.length from by omega], ?_, ?_⟩
  · intro b b' hb hb' e
    by_cases c : b < st0.hp.length
    · by_cases c' : b' < st0.hp.length
      · simpa [planName, c, c'] using e
      · obtain ⟨i, r, h1, _, _, _, _, h6, _⟩ := hfresh (b' - st0.hp.length) (by omega)
        have := hname _ _ h1
        rw [show st0.hp.length + (b' - st0.hp.length) = b' from by omega] at this
        rw [this] at e
        simp only [planName, c, if_true] at e
        omega
    · obtain ⟨i, r, h1, _, h3, h4, h5, h6, _⟩ := hfresh (b - st0.hp.length) (by omega)
      have k1 := hname _ _ h1
      rw [show st0.hp.length + (b - st0.hp.length) = b from by omega] at k1
      by_cases c' : b' < st0.hp.length
      · rw [k1] at e
        simp only [planName, c', if_true] at e
        omega
      · obtain ⟨i', r', h1', _, h3', h4', h5', h6', _⟩ := hfresh (b' - st0.hp.length) (by omega)
        have k2 := hname _ _ h1'
        rw [show st0.hp.length + (b' - st0.hp.length) = b' from by omega] at k2
        rw [k1, k2] at e
        have ei := M.inj i i' h3 h3' h4 h4' (by rw [h5]; simp) (by rw [h5']; simp) e
        subst ei
        have hj : b - st0.hp.length < ps.length := by omega
        have hj' : b' - st0.hp.length < ps.length := by omega
        rw [List.getElem?_eq_getElem hj] at h1
        rw [List.getElem?_eq_getElem hj'] at h1'
        have eq : ps[b - st0.hp.length] = ps[b' - st0.hp.length] := by
          rw [Option.some.injEq] at h1 h1'
          rw [h1, h1']
        have hne := List.pairwise_iff_getElem.1 hnd
        rcases Nat.lt_trichotomy (b - st0.hp.length) (b' - st0.hp.length) with h | h | h
        · exact absurd eq (hne _ _ hj hj' h)
        · omega
        · exact absurd eq.symm (hne _ _ hj' hj h)
  · intro b r hr
    by_cases c : b < st0.hp.length
    · have hr' : (st0.hp ++ bs)[b]? = some r := hr
      rw [List.getElem?_append_left c] at hr'
      obtain ⟨f1, f2⟩ := flat_ren (N := st0.hp.length + ps.length) (planName st0.hp.length nm ps) (h0 r (List.mem_of_getElem? hr'))
      refine ⟨r, by simp only [planName, c, if_true]; rw [M.old b c]; exact hr', rfl, fun hl => ⟨hl, rfl, f1.symm, f2⟩⟩
    · have hr' : (st0.hp ++ bs)[b]? = some r := hr
      rw [List.getElem?_append_right (by omega)] at hr'
      obtain ⟨i, r', h1, h2, _, _, _, _, h7⟩ := hfresh (b - st0.hp.length) (by
        have := (List.getElem?_eq_some_iff.1 hr').1
        omega)
      rw [h2] at hr'
      cases hr'
      have k1 := hname _ _ h1
      rw [show st0.hp.length + (b - st0.hp.length) = b from by omega] at k1
      obtain ⟨f1, f2⟩ := flat_ren (N := st0.hp.length + ps.length) (planName st0.hp.length nm ps) (hbs r (List.mem_of_getElem? h2))
      exact ⟨r, by rw [k1]; exact h7, rfl, fun hl => ⟨hl, rfl, f1.symm, f2⟩⟩
end Go.Abs
