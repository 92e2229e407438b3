/- The abstract layer, part Z7: drawn regions in which a call changes memory beside quiet operations that do not mind. -/
import Derived.Test.YtmngfcklmikbfaaAbsZ5
import Derived.Test.YtmngfcklmikbfaaAbsX
set_option linter.unusedSimpArgs false
set_option linter.unusedVariables false
namespace Go.Abs
open Go
section
variable {P : Program}

/-- A call whose ways are told by Q, at the state at hand. -/
def CallAt (P : Program) (o : Oper) (f : Operand → AV) (hp : List Blk) (Q : AV → List Blk → Prop) : Prop :=
  ∃ (c : Call) (gf : Operand) (fid : FuncId) (caps : List AV), o.op = .call c ∧ c.callee = .value gf ∧ f gf = .fn fid caps ∧ CallA P fid (c.args.toList.map f ++ caps) hp Q
theorem CallAt.congr {o : Oper} {f f' : Operand → AV} {hp : List Blk} {Q : AV → List Blk → Prop} (h : CallAt P o f hp Q) (he : ∀ x ∈ o.op.operands, f x = f' x) : CallAt P o f' hp Q := by
  obtain ⟨c, gf, fid, caps, h1, h2, h3, h4⟩ := h
  refine ⟨c, gf, fid, caps, h1, h2, by rw [← he gf (by simp [h1, Op.operands, Call.operands, h2])]; exact h3, ?_⟩
  have : c.args.toList.map f' = c.args.toList.map f := by
    apply List.map_congr_left
    intro x hx
    exact (he x (by
      simp only [h1, Op.operands, Call.operands, h2]
      simp at hx ⊢
      exact .inr hx)).symm
  rw [this]
  exact h4

/-- Operation number i comes up: 0: it is quiet; 2: a call that keeps Hs; else the only one that may. -/
def stepH (P : Program) (n0 : Nat) (ops : List Oper) (ms : List Nat) (Hs : List Blk → Prop) (i : Nat) (K : St → Prop) (st : St) : Prop :=
  match ops[i]? with
  | none => K st
  | some o => o.guard = none ∧ match ms.getD i 1 with
    | 0 => ∃ v, Yields P o st.ev st.hp v ∧ K (st.put o.dst v)
    | 2 => ∃ Q, CallAt P o st.ev st.hp Q ∧ ∀ r hp', Q r hp' → Hs hp' ∧ K ((st.after hp' none).put o.dst r)
    | _ => ∃ k : AV → List Blk → Option Nat → Prop, opA P n0 o.op st.ev st.hp k ∧ ∀ v hp' kb, k v hp' kb → K ((st.after hp' kb).put o.dst v)
def anyH (P : Program) (n0 : Nat) (ops : List Oper) (ms : List Nat) (Hs : List Blk → Prop) (K : St → Prop) : Nat → Array Bool → St → Prop
  | 0, listed, st => Region.ready .any ops.toArray listed = [] ∧ K st
  | fuel + 1, listed, st =>
    (Region.ready .any ops.toArray listed = [] → K st) ∧ ∀ i ∈ Region.ready .any ops.toArray listed, stepH P n0 ops ms Hs i (anyH P n0 ops ms Hs K fuel (listed.setIfInBounds i true)) st

theorem opA_callAt {n0 : Nat} {o : Oper} {f : Operand → AV} {hp : List Blk} {Q : AV → List Blk → Prop} (h : CallAt P o f hp Q) : opA P n0 o.op f hp (fun v hp' kb => Q v hp' ∧ kb = none) := by
  obtain ⟨c, gf, fid, caps, h1, h2, h3, h4⟩ := h
  obtain ⟨callee, args, ts⟩ := c
  simp only at h2
  subst h2
  rw [h1]
  simp only [opA, h3]
  exact h4.mono fun r hp' hq => ⟨hq, trivial⟩
def boolMs (ms : List Nat) : List Bool := ms.map fun m => m != 0
theorem boolMs_get (ms : List Nat) (i : Nat) : (boolMs ms).getD i true = (ms.getD i 1 != 0) := by
  simp only [boolMs, List.getD_eq_getElem?_getD, List.getElem?_map]
  cases ms[i]? <;> rfl
theorem stepH_stepA {n0 : Nat} {ops : List Oper} {ms : List Nat} {Hs : List Blk → Prop} {i : Nat} {K K' : St → Prop} {st : St} (hK : ∀ st, K st → K' st) (h : stepH P n0 ops ms Hs i K st) : stepA P n0 ops (boolMs ms) i K' st := by
  unfold stepH at h
  unfold stepA
  cases ho : ops[i]? with
  | none => rw [ho] at h; exact hK _ h
  | some o =>
    rw [ho] at h
    obtain ⟨hg, h⟩ := h
    have hw : wantedA ops o st = some true := by simp [wantedA, hg]
    simp only [boolMs_get]
    split at h
    · rename_i h0
      rw [h0]
      obtain ⟨v, hy, hk⟩ := h
      simp only [bne_self_eq_false, Bool.false_eq_true, if_false]
      exact ⟨v, .inl ⟨hw, hy⟩, hK _ hk⟩
    · rename_i h0
      rw [h0]
      obtain ⟨Q, hc, hk⟩ := h
      simp only [show ((2 : Nat) != 0) = true from rfl, if_true]
      refine .inl ⟨hw, _, opA_callAt hc, ?_⟩
      rintro v hp' kb ⟨hq, rfl⟩
      exact hK _ (hk v hp' hq).2
    · rename_i h0 h2
      have : (ms.getD i 1 != 0) = true := bne_iff_ne.2 h0
      rw [this]
      obtain ⟨k, hop, hk⟩ := h
      simp only [if_true]
      exact .inl ⟨hw, k, hop, fun v hp' kb hv => hK _ (hk v hp' kb hv)⟩
theorem anyH_anyA {n0 : Nat} {ops : List Oper} {ms : List Nat} {Hs : List Blk → Prop} {K : St → Prop} : ∀ (fuel : Nat) (listed : Array Bool) (st : St), anyH P n0 ops ms Hs K fuel listed st → anyA P n0 ops (boolMs ms) K fuel listed st
  | 0, listed, st, h => h
  | fuel + 1, listed, st, h => ⟨h.1, fun i hi => stepH_stepA (fun st' h' => anyH_anyA fuel _ st' h') (h.2 i hi)⟩

/-- What may come up beside a quiet operation that has not come up yet: quiet ones, and calls that keep Hs. -/
def FreeH (ops : List Oper) (ms : List Nat) (listed : Array Bool) (i : Nat) (oi : Oper) : Prop :=
  ∃ D : List Nat, Waits ops listed i D ∧ ∀ j oj, ops[j]? = some oj → j ≠ i → listed.getD j true = false → j ∉ D → (∀ e ∈ oj.after, Region.binds .any e = true → e.on ≠ i) → oi.apart ops.toArray oj = true ∧ (ms.getD j 1 = 0 ∨ ms.getD j 1 = 2)

theorem St.ev_after (st : St) (hp : List Blk) (x : Operand) : (st.after hp none).ev x = st.ev x := by
  cases x <;> rfl
theorem put_after (st : St) (hp : List Blk) (d : Option Tmp) (v : AV) : (st.put d v).after hp none = (st.after hp none).put d v := by
  cases d <;> rfl
theorem put_hp (st : St) (d : Option Tmp) (v : AV) : (st.put d v).hp = st.hp := by cases d <;> rfl
theorem after_hp (st : St) (hp : List Blk) : (st.after hp none).hp = hp := rfl

theorem ev_apart {ops : List Oper} {o : Oper} {st : St} {d : Option Tmp} {v : AV} (h : ∀ t, d = some t → t ∉ o.looksAt ops.toArray) : ∀ x ∈ o.op.operands, (st.put d v).ev x = st.ev x := fun x hx => St.ev_put fun t ht e => h t ht (by
    subst e
    simp only [Oper.looksAt, List.mem_append, List.mem_filterMap]
    exact .inl ⟨.tmp t, by simpa using hx, rfl⟩)

/-- A quiet operation that does not mind may be taken first. -/
theorem anyH_first {n0 : Nat} {ops : List Oper} {ms : List Nat} {Hs : List Blk → Prop} {K : St → Prop} {i : Nat} {oi : Oper} {v : AV} (hi : ops[i]? = some oi) (hm : ms.getD i 1 = 0) (hgi : oi.guard = none) :
    ∀ (fuel : Nat) (listed : Array Bool) (st : St), FreeH ops ms listed i oi → i ∈ Region.ready .any ops.toArray listed → (∀ hp, Hs hp → Yields P oi st.ev hp v) → Hs st.hp →
      anyH P n0 ops ms Hs K fuel (listed.setIfInBounds i true) (st.put oi.dst v) → anyH P n0 ops ms Hs K (fuel + 1) listed st := by
  have self : ∀ (fuel : Nat) (listed : Array Bool) (st : St), Yields P oi st.ev st.hp v → anyH P n0 ops ms Hs K fuel (listed.setIfInBounds i true) (st.put oi.dst v) → stepH P n0 ops ms Hs i (anyH P n0 ops ms Hs K fuel (listed.setIfInBounds i true)) st := by
    intro fuel listed st hy H
    unfold stepH
    simp only [hi, hm]
    exact ⟨hgi, v, hy, H⟩
  intro fuel
  induction fuel with
  | zero =>
    intro listed st _ hr hy hs H
    refine ⟨fun h => (by rw [h] at hr; cases hr), fun j hj => ?_⟩
    by_cases hji : j = i
    · subst hji; exact self 0 listed st (hy _ hs) H
    · have := ready_mono hj hji
      rw [H.1] at this
      cases this
  | succ fuel ih =>
    intro listed st hfree hr hy hs H
    refine ⟨fun h => (by rw [h] at hr; cases hr), fun j hj => ?_⟩
    by_cases hji : j = i
    · subst hji; exact self _ listed st (hy _ hs) H
    · have h1 := H.2 j (ready_mono hj hji)
      obtain ⟨hjun, oj, hoj, hall⟩ := mem_ready.1 hj
      have hoj' : ops[j]? = some oj := by simpa using hoj
      have hnot : ∀ e ∈ oj.after, Region.binds .any e = true → e.on ≠ i := fun e he hb heq => by
        have h1 := hall e he hb
        have h0 := (mem_ready.1 hr).1
        rw [heq] at h1
        rcases Nat.lt_or_ge i listed.size with h' | h'
        · simp [h'] at h0 h1; rw [h0] at h1; cases h1
        · simp [Array.getElem?_eq_none h'] at h1
      obtain ⟨D, hwait, hfree⟩ := hfree
      have hjD : j ∉ D := fun hD => by
        obtain ⟨_, oj', hoj'', e, he, hb, hc⟩ := hwait j hD
        have : oj' = oj := by rw [hoj'] at hoj''; cases hoj''; rfl
        subst this
        rcases hc with hc | hc
        · exact hnot e he hb hc
        · have h1 := hall e he hb
          have h0 := (hwait e.on hc).1
          rcases Nat.lt_or_ge e.on listed.size with h' | h'
          · simp [h'] at h0 h1; rw [h0] at h1; cases h1
          · simp [Array.getElem?_eq_none h'] at h1
      obtain ⟨hap, hmj⟩ := hfree j oj hoj' hji hjun hjD hnot
      obtain ⟨a1, a2, a3⟩ := Oper.apart_spec hap
      have hfree' : FreeH ops ms (listed.setIfInBounds j true) i oi := ⟨D, fun d hd => by
        have hne : j ≠ d := fun h => hjD (h ▸ hd)
        obtain ⟨w1, w2⟩ := hwait d hd
        exact ⟨by rw [getD_set_ne true hne]; exact w1, w2⟩, fun k ok hk hki hun hkD hno => by
        refine hfree k ok hk hki ?_ hkD hno
        by_cases hjk : j = k
        · subst hjk; exact hjun
        · rw [getD_set_ne true hjk] at hun; exact hun⟩
      unfold stepH at h1 ⊢
      simp only [hoj'] at h1 ⊢
      obtain ⟨hgj, h1⟩ := h1
      refine ⟨hgj, ?_⟩
      have evj : ∀ x ∈ oj.op.operands, (st.put oi.dst v).ev x = st.ev x := ev_apart (ops := ops) a1
      rcases hmj with hmj | hmj
      · simp only [hmj] at h1 ⊢
        obtain ⟨u, hu, hK⟩ := h1
        rw [put_hp] at hu
        refine ⟨u, hu.congr evj, ?_⟩
        refine ih (listed.setIfInBounds j true) (st.put oj.dst u) hfree' (ready_mono hr (Ne.symm hji)) (fun hp hh => (hy hp hh).congr fun x hx => (ev_apart (ops := ops) a3 x hx).symm) (by rw [put_hp]; exact hs) ?_
        rw [Array.setIfInBounds_comm _ _ hji, St.put_comm st u v (fun d hd he => a2 d he hd)]
        exact hK
      · simp only [hmj] at h1 ⊢
        obtain ⟨Q, hc, hK⟩ := h1
        rw [put_hp] at hc
        refine ⟨Q, hc.congr evj, fun r hp' hq => ?_⟩
        obtain ⟨hh, hK⟩ := hK r hp' hq
        refine ⟨hh, ?_⟩
        refine ih (listed.setIfInBounds j true) ((st.after hp' none).put oj.dst r) hfree' (ready_mono hr (Ne.symm hji)) (fun hp hh' => (hy hp hh').congr fun x hx => ?_) (by rw [put_hp]; exact hh) ?_
        · rw [ev_apart (ops := ops) a3 x hx, St.ev_after]
        · rw [Array.setIfInBounds_comm _ _ hji, St.put_comm _ r v (fun d hd he => a2 d he hd), ← put_after]
          exact hK

def freeHB (ops : Array Oper) (ms : List Nat) (listed : Array Bool) (k : Nat) : Bool :=
  match ops[k]? with
  | none => false
  | some o => lateOk ops listed k (lateOf ops listed k) && (List.range ops.size).all fun j =>
    j == k || listed.getD j true || (lateOf ops listed k).contains j ||
    match ops[j]? with
    | none => true
    | some oj => (oj.after.any fun e => Region.binds .any e && e.on == k) || (o.apart ops oj && (ms.getD j 1 == 0 || ms.getD j 1 == 2))
theorem freeHB_spec {ops : List Oper} {ms : List Nat} {listed : Array Bool} {k : Nat} {o : Oper} (hk : ops[k]? = some o) (h : freeHB ops.toArray ms listed k = true) : FreeH ops ms listed k o := by
  unfold freeHB at h
  have hk' : ops.toArray[k]? = some o := by simpa using hk
  rw [hk'] at h
  simp only [Bool.and_eq_true] at h
  refine ⟨_, lateOk_spec h.1, ?_⟩
  have h := h.2
  intro j oj hoj hjk hun hD hno
  simp only [List.all_eq_true, List.mem_range] at h
  have hj : j < ops.toArray.size := by
    have := (List.getElem?_eq_some_iff.1 hoj).1
    simpa using this
  have h1 := h j hj
  have hoj' : ops.toArray[j]? = some oj := by simpa using hoj
  rw [hoj', hun] at h1
  have hjk' : (j == k) = false := by simpa using hjk
  have hD' : (lateOf ops.toArray listed k).contains j = false := by simpa using hD
  rw [hjk', hD'] at h1
  simp only [Bool.false_or, Bool.or_eq_true, Bool.and_eq_true, beq_iff_eq] at h1
  rcases h1 with h1 | ⟨h1, h2⟩
  · exfalso
    rw [Array.any_eq_true] at h1
    obtain ⟨m, hm, he⟩ := h1
    simp only [Bool.and_eq_true, beq_iff_eq] at he
    exact hno _ (Array.getElem_mem hm) he.1 he.2
  · exact ⟨h1, h2⟩

def ordOkH (ops : Array Oper) (ms : List Nat) : List Nat → Array Bool → Bool
  | [], listed => (Region.ready .any ops listed).isEmpty
  | k :: r, listed => (if ms.getD k 1 == 0 then (Region.ready .any ops listed).contains k && freeHB ops ms listed k else Region.ready .any ops listed == [k]) && ordOkH ops ms r (listed.setIfInBounds k true)
def ordH (P : Program) (n0 : Nat) (ops : List Oper) (ms : List Nat) (Hs : List Blk → Prop) (K : St → Prop) : List Nat → St → Prop
  | [], st => K st
  | k :: r, st => ∃ o, ops[k]? = some o ∧ o.guard = none ∧ match ms.getD k 1 with
    | 0 => ∃ v, Hs st.hp ∧ (∀ hp, Hs hp → Yields P o st.ev hp v) ∧ ordH P n0 ops ms Hs K r (st.put o.dst v)
    | 2 => ∃ Q, CallAt P o st.ev st.hp Q ∧ ∀ v hp', Q v hp' → Hs hp' ∧ ordH P n0 ops ms Hs K r ((st.after hp' none).put o.dst v)
    | _ => ∃ g : AV → List Blk → Option Nat → Prop, opA P n0 o.op st.ev st.hp g ∧ ∀ v hp' kb, g v hp' kb → ordH P n0 ops ms Hs K r ((st.after hp' kb).put o.dst v)
theorem anyH_ord {n0 : Nat} {ops : List Oper} {ms : List Nat} {Hs : List Blk → Prop} {K : St → Prop} : ∀ (ord : List Nat) (listed : Array Bool) (st : St), ordOkH ops.toArray ms ord listed = true → ordH P n0 ops ms Hs K ord st → anyH P n0 ops ms Hs K ord.length listed st
  | [], listed, st, hB, h => ⟨by simpa [ordOkH] using hB, h⟩
  | k :: r, listed, st, hB, h => by
    obtain ⟨o, ho, hg, h⟩ := h
    simp only [ordOkH, Bool.and_eq_true] at hB
    obtain ⟨hB1, hB2⟩ := hB
    split at h
    · rename_i hm
      obtain ⟨v, hh, hy, hK⟩ := h
      rw [hm] at hB1
      simp only [beq_self_eq_true, if_true, Bool.and_eq_true] at hB1
      exact anyH_first ho hm hg r.length listed st (freeHB_spec ho hB1.2) (by simpa using hB1.1) hy hh (anyH_ord r _ _ hB2 hK)
    · rename_i hm
      obtain ⟨Q, hc, hK⟩ := h
      rw [hm] at hB1
      simp only [show ((2 : Nat) == 0) = false from rfl, Bool.false_eq_true, if_false, beq_iff_eq] at hB1
      refine ⟨fun h => (by rw [hB1] at h; cases h), fun i hi => ?_⟩
      rw [hB1] at hi
      have : i = k := by simpa using hi
      subst this
      unfold stepH
      simp only [ho, hm]
      exact ⟨hg, Q, hc, fun v hp' hq => ⟨(hK v hp' hq).1, anyH_ord r _ _ hB2 (hK v hp' hq).2⟩⟩
    · rename_i hm hm2
      obtain ⟨g, hop, hK⟩ := h
      have hm' : (ms.getD k 1 == 0) = false := beq_false_of_ne hm
      rw [hm'] at hB1
      simp only [Bool.false_eq_true, if_false, beq_iff_eq] at hB1
      refine ⟨fun h => (by rw [hB1] at h; cases h), fun i hi => ?_⟩
      rw [hB1] at hi
      have : i = k := by simpa using hi
      subst this
      unfold stepH
      simp only [ho]
      refine ⟨hg, ?_⟩
      exact ⟨g, hop, fun v hp' kb hv => anyH_ord r _ _ hB2 (hK v hp' kb hv)⟩

def Oh (P : Program) (n0 : Nat) (ops : List Oper) (ms : List Nat) (Hs : List Blk → Prop) (K : St → Prop) (ord : List Nat) (_t : Tok (ops, ord, K)) (st : St) : Prop := ordH P n0 ops ms Hs K ord st
/-- A region whose order is drawn, in an order of one's choice; a call in it changes memory. -/
theorem go_calls (hm : P.follows .mixedOrders = true) {n0 : Nat} {id : Nat} {ops : Array Oper} {Q : Ex → St → Prop} {st : St} {t} (Hs : List Blk → Prop) (ord : List Nat) (ms : List Nat)
    (hok : (ord.length == ops.size && ordOkH ops ms ord (Array.replicate ops.size false)) = true) (h : Oh P n0 ops.toList ms Hs (Q .normal) ord .mk st) : Lp P n0 (.region id ops true) Q t st := by
  delta Lp
  simp only [Bool.and_eq_true, beq_iff_eq] at hok
  intro E0 hp0 E a hn hs
  subst hn
  have h1 := anyH_anyA _ _ _ (anyH_ord (P := P) (n0 := hp0.length) (ops := ops.toList) (ms := ms) (Hs := Hs) (K := Q .normal) ord (Array.replicate ops.size false) st (by simpa using hok.2) h)
  rw [hok.1] at h1
  refine wp_region_any hm ?_
  have hs' : SR E0 hp0 (E.with { E.w with drawn := E.w.drawn + 1 }) st a := ⟨hs.hr.with (Same.drew _ _), hs.fr.with (Same.drew _ _), hs.len, fun i v u a1 a2 => (hs.tm i v u a1 a2).mono (Env.le_with (Same.drew _ _)), hs.df⟩
  have h2 := anyA_sound (P := P) (Q := liftQ E0 hp0 Q) (fun E st a hs hk => ⟨.normal, st, E, rfl, rfl, hs, hk⟩) _ _ _ st a hs' h1
  rw [show ops.toList.toArray = ops from by simp] at h2
  exact h2

section
variable {n0 : Nat} {ops : List Oper} {ms : List Nat} {Hs : List Blk → Prop} {K : St → Prop} {k : Nat} {r : List Nat} {st : St} {t : Tok (ops, k :: r, K)} {o : Oper}
theorem oh_nil {t : Tok (ops, ([] : List Nat), K)} (h : K st) : Oh P n0 ops ms Hs K [] t st := h
theorem oh_quiet (ho : ops[k]? = some o) (hg : o.guard = none) (hm : ms.getD k 1 = 0) (hh : Hs st.hp) {v : AV} (hq : ∀ hp, Hs hp → quietA P o.op st.ev hp (fun v' => v' = v)) (h : Oh P n0 ops ms Hs K r .mk (st.put o.dst v)) : Oh P n0 ops ms Hs K (k :: r) t st :=
  ⟨o, ho, hg, by
    rw [hm]
    refine ⟨v, hh, fun hp hp' => ?_, h⟩
    obtain ⟨v', h1, h2⟩ := Yields.quiet (hq hp hp')
    subst h1
    exact h2⟩
theorem oh_call (ho : ops[k]? = some o) (hg : o.guard = none) (hm : ms.getD k 1 = 2) {gf : Operand} {args : Array Operand} {ts : Array TypeId} (hop : o.op = .call { callee := .value gf, args := args, argTypes := ts }) {fid : FuncId} {caps : List AV} (hfn : st.ev gf = .fn fid caps) 
    (hc : CallP P fid (args.toList.map st.ev ++ caps) st.hp (fun v hp' => Hs hp' ∧ Oh P n0 ops ms Hs K r .mk ((st.after hp' none).put o.dst v)) .mk) : Oh P n0 ops ms Hs K (k :: r) t st :=
  ⟨o, ho, hg, by
    rw [hm]
    delta CallP at hc
    exact ⟨_, ⟨_, gf, fid, caps, hop, rfl, hfn, hc⟩, fun v hp' hq => hq⟩⟩
theorem oh_one (ho : ops[k]? = some o) (hg : o.guard = none) (hm : ms.getD k 1 = 1) (h : opA P n0 o.op st.ev st.hp (Cn (fun v hp' kb => Oh P n0 ops ms Hs K r .mk ((st.after hp' kb).put o.dst v)) .mk)) : Oh P n0 ops ms Hs K (k :: r) t st :=
  ⟨o, ho, hg, by rw [hm]; exact ⟨_, h, fun v hp' kb hv => by rw [Cn_go] at hv; exact hv⟩⟩
end
end
attribute [irreducible] Oh
/-- A function that makes blocks, its result told by a property: they are told as lists that nobody writes any more. -/
theorem CallA.freezeQ {P : Program} (d : Nat) {f : FuncId} {args : List AV} {Q0 : AV → List Blk → Prop} (h : CallA P f args [] Q0) : CallA P f args [] (fun r hp => ∃ r0 new, Q0 r0 new ∧ r = view d new r0 ∧ hp = []) := by
  intro E vs H hl hrv
  refine (h E vs H hl hrv).mono ?_
  rintro v w' ⟨r', hp', E', hw, hq, hv, H', F'⟩
  refine ⟨_, [], E'.lent hp', hw, ⟨r', hp', hq, rfl, rfl⟩, (view_sound H' d r').1 v hv, ?_, ?_⟩
  · exact ⟨rfl, by simp, by simp, by simp, by simp, fun c hc => by
      rcases hc with h1 | ⟨b, ⟨q, hq, hlv⟩, rfl⟩
      · exact H'.old c h1
      · obtain ⟨cs', g2, _⟩ := (H'.holds b q hq hlv).cells
        exact (Array.getElem?_eq_some_iff.1 g2).1⟩
  · exact { size := F'.size, os := F'.os, tape := F'.tape, output := F'.output, block := F'.block, len := Nat.le_refl _, ρ := fun b hb => absurd hb (Nat.not_lt_zero _), wd := fun b hb => absurd hb (Nat.not_lt_zero _),
            F := fun c hc => .inl (F'.F c hc)
            F' := fun c hc => by
              rcases hc with h1 | ⟨b, hb, rfl⟩
              · exact F'.F' c h1
              · rcases F'.live b hb with ⟨h2, _⟩ | ⟨_, h3⟩
                · exact absurd h2 (Nat.not_lt_zero _)
                · exact .inr (.inl h3)
            live := fun b ⟨q, hq, _⟩ => by simp at hq
            csz := F'.csz }
end Go.Abs
