/- The abstract layer, part Z2: a drawn region whose operations make blocks of their own, in any order. -/
import Derived.Test.YtdhomifcjakbgaaDoorAbsZ1
set_option linter.unusedSimpArgs false
set_option linter.unusedVariables false
namespace Go.Abs
open Go
variable {P : Program}

/-- What each operation of a region yields: 'nm' says at which number an operation's block is. -/
structure Plan where
  val : Nat → (Nat → Nat) → AV
  fresh : Nat → Option Blk
  uses : Nat → List Nat

/-- It has been carried out. -/
def On (listed : Array Bool) (i : Nat) : Prop := listed.getD i false = true
def upd (nm : Nat → Nat) (i x : Nat) : Nat → Nat := fun j => if j = i then x else nm j

/-- How a region stands that is under way. -/
structure Mid (ops : List Oper) (pl : Plan) (st0 : St) (listed : Array Bool) (nm : Nat → Nat) (st : St) : Prop where
  len : st.tm.length = st0.tm.length
  slot : ∀ (i : Nat) (o : Oper) (d : Nat), ops[i]? = some o → On listed i → o.dst = some d → st.tm.getD d .any = pl.val i nm
  rest : ∀ d, (∀ (i : Nat) (o : Oper), ops[i]? = some o → o.dst ≠ some d) → st.tm.getD d .any = st0.tm.getD d .any
  more : st0.hp.length ≤ st.hp.length
  old : ∀ b, b < st0.hp.length → st.hp[b]? = st0.hp[b]?
  blk : ∀ i b, i < ops.length → On listed i → pl.fresh i = some b → st0.hp.length ≤ nm i ∧ st.hp[nm i]? = some b
  inj : ∀ i j, i < ops.length → j < ops.length → On listed i → On listed j → pl.fresh i ≠ none → pl.fresh j ≠ none → nm i = nm j → i = j
  closed : ∀ (j : Nat) (o : Oper), ops[j]? = some o → On listed j → ∀ e ∈ o.after, Region.binds .any e = true → On listed e.on

theorem set_getD (l : List AV) (d e : Nat) (v : AV) (h : d ≠ e) : (l.set d v).getD e .any = l.getD e .any := by
  simp [List.getD, List.getElem?_set_ne h]
theorem set_getD_self (l : List AV) (d : Nat) (v : AV) (h : d < l.length) : (l.set d v).getD d .any = v := by
  simp [List.getD, h]

section
variable {P : Program} {n0 : Nat}

/-- One operation more. -/
theorem Mid.step {ops : List Oper} {pl : Plan} {st0 : St} {listed : Array Bool} {nm : Nat → Nat} {st : St} (M : Mid ops pl st0 listed nm st)
    (hd : ∀ (i j : Nat) (oi oj : Oper) (d : Nat), ops[i]? = some oi → ops[j]? = some oj → oi.dst = some d → oj.dst = some d → i = j)
    (hlen : ∀ (i : Nat) (o : Oper) (d : Nat), ops[i]? = some o → o.dst = some d → d < st0.tm.length)
    (huses : ∀ (j : Nat) (o : Oper), ops[j]? = some o → ∀ i ∈ pl.uses j, ∃ e ∈ o.after, Region.binds .any e = true ∧ e.on = i)
    (hloc : ∀ j nm nm', (∀ i ∈ pl.uses j, nm i = nm' i) → (pl.fresh j ≠ none → nm j = nm' j) → pl.val j nm = pl.val j nm')
    {i : Nat} {o : Oper} {d : Nat} (ho : ops[i]? = some o) (hi : listed.getD i true = false) (hdst : o.dst = some d) (hedge : ∀ e ∈ o.after, Region.binds .any e = true → On listed e.on)
    {v : AV} {hp' : List Blk} (hs : listed.size = ops.length) (h : match pl.fresh i with
      | none => v = pl.val i nm ∧ hp' = st.hp
      | some b => v = pl.val i (upd nm i st.hp.length) ∧ hp' = st.hp ++ [b]) :
    ∃ nm', Mid ops pl st0 (listed.setIfInBounds i true) nm' { tm := st.tm.set d v, hp := hp' } := by
  have hilt : i < ops.length := (List.getElem?_eq_some_iff.1 ho).1
  have hnot : ¬ On listed i := by
    unfold On
    simp [Array.getD, hs, hilt] at hi ⊢
    simp [hi]
  have on' : ∀ j, On (listed.setIfInBounds i true) j → j = i ∨ On listed j := by
    intro j hj
    by_cases h : i = j
    · exact .inl h.symm
    · right; unfold On at hj ⊢; rwa [getD_set_ne false h] at hj
  have onI : On (listed.setIfInBounds i true) i := by
    unfold On
    simp [hs, hilt]
  have onM : ∀ j, On listed j → On (listed.setIfInBounds i true) j := fun j hj => getD_set_true hj
  have usesOn : ∀ (j : Nat) (oj : Oper), ops[j]? = some oj → On listed j → ∀ k ∈ pl.uses j, On listed k := by
    intro j oj hj hon k hk
    obtain ⟨e, he, hb, rfl⟩ := huses j oj hj k hk
    exact M.closed j oj hj hon e he hb
  have closed' : ∀ (j : Nat) (oj : Oper), ops[j]? = some oj → On (listed.setIfInBounds i true) j → ∀ e ∈ oj.after, Region.binds .any e = true → On (listed.setIfInBounds i true) e.on := by
    intro j oj hj hon e he hb
    rcases on' j hon with rfl | hon
    · rw [ho] at hj; cases hj
      exact onM _ (hedge e he hb)
    · exact onM _ (M.closed j oj hj hon e he hb)
  have rest' : ∀ c, (∀ (k : Nat) (ok : Oper), ops[k]? = some ok → ok.dst ≠ some c) → (st.tm.set d v).getD c .any = st0.tm.getD c .any := by
    intro c hc
    rw [set_getD _ _ _ _ (fun e => hc i o ho (by rw [hdst, e]))]
    exact M.rest c hc
  have dlt : d < st.tm.length := by rw [M.len]; exact hlen i o d ho hdst
  cases hf : pl.fresh i with
  | none =>
    rw [hf] at h
    obtain ⟨rfl, rfl⟩ := h
    refine ⟨nm, by simp [M.len], ?_, rest', M.more, M.old, ?_, ?_, closed'⟩
    · intro j oj c hj hon hc
      rcases on' j hon with rfl | hon
      · rw [ho] at hj; cases hj
        rw [hdst] at hc; cases hc
        exact set_getD_self _ _ _ dlt
      · rw [set_getD _ _ _ _ (fun e => hnot (by
          subst e
          have := hd i j o oj d ho hj hdst hc
          rw [this]; exact hon))]
        exact M.slot j oj c hj hon hc
    · intro j b hj hon hb
      rcases on' j hon with rfl | hon
      · rw [hf] at hb; cases hb
      · exact M.blk j b hj hon hb
    · intro j k hj hk hoj hok fj fk e
      rcases on' j hoj with rfl | hoj
      · exact absurd hf fj
      · rcases on' k hok with rfl | hok
        · exact absurd hf fk
        · exact M.inj j k hj hk hoj hok fj fk e
  | some b =>
    rw [hf] at h
    obtain ⟨rfl, rfl⟩ := h
    have keep : ∀ j, On listed j → upd nm i st.hp.length j = nm j := by
      intro j hj
      have : j ≠ i := fun e => hnot (e ▸ hj)
      simp [upd, this]
    have self : upd nm i st.hp.length i = st.hp.length := by simp [upd]
    have vals : ∀ (j : Nat) (oj : Oper), ops[j]? = some oj → On listed j → pl.val j (upd nm i st.hp.length) = pl.val j nm := by
      intro j oj hj hon
      exact hloc j _ _ (fun k hk => keep k (usesOn j oj hj hon k hk)) (fun _ => keep j hon)
    refine ⟨upd nm i st.hp.length, by simp [M.len], ?_, rest', by simp; have := M.more; omega, ?_, ?_, ?_, closed'⟩
    · intro j oj c hj hon hc
      rcases on' j hon with rfl | hon
      · rw [ho] at hj; cases hj
        rw [hdst] at hc; cases hc
        exact set_getD_self _ _ _ dlt
      · rw [set_getD _ _ _ _ (fun e => hnot (by
          subst e
          have := hd i j o oj d ho hj hdst hc
          rw [this]; exact hon)), vals j oj hj hon]
        exact M.slot j oj c hj hon hc
    · intro c hc
      have := M.more
      show (st.hp ++ [b])[c]? = _
      rw [List.getElem?_append_left (by omega)]
      exact M.old c hc
    · intro j b' hj hon hb
      rcases on' j hon with rfl | hon
      · rw [hf] at hb; cases hb
        rw [self]
        exact ⟨M.more, by simp⟩
      · rw [keep j hon]
        obtain ⟨h1, h2⟩ := M.blk j b' hj hon hb
        refine ⟨h1, ?_⟩
        show (st.hp ++ [b])[nm j]? = _
        rw [List.getElem?_append_left (List.getElem?_eq_some_iff.1 h2).1]
        exact h2
    · intro j k hj hk hoj hok fj fk e
      have lt : ∀ j, j < ops.length → On listed j → pl.fresh j ≠ none → nm j < st.hp.length := by
        intro j hj hoj fj
        cases hfj : pl.fresh j with
        | none => exact absurd hfj fj
        | some b' => exact (List.getElem?_eq_some_iff.1 (M.blk j b' hj hoj hfj).2).1
      rcases on' j hoj with hj' | hoj2
      · rcases on' k hok with hk' | hok2
        · rw [hj', hk']
        · rw [hj', self, keep k hok2] at e
          have := lt k hk hok2 fk
          omega
      · rcases on' k hok with hk' | hok2
        · rw [hk', self, keep j hoj2] at e
          have := lt j hj hoj2 fj
          omega
        · rw [keep j hoj2, keep k hok2] at e
          exact M.inj j k hj hk hoj2 hok2 fj fk e

theorem noOn (n i : Nat) : ¬ On (Array.replicate n false) i := by
  unfold On
  by_cases h : i < n
  · simp [Array.getD, h]
  · simp [Array.getD, h]

/-- A region whose operations may come in any order, the last one last. -/
theorem draw_plan {ops : List Oper} {pl : Plan} {st0 : St} {K : St → Prop} (L : Nat) (oL : Oper) (hL : ops[L]? = some oL)
    (hg : ∀ o ∈ ops, o.guard = none)
    (hd : ∀ (i j : Nat) (oi oj : Oper) (d : Nat), ops[i]? = some oi → ops[j]? = some oj → oi.dst = some d → oj.dst = some d → i = j)
    (hlen : ∀ (i : Nat) (o : Oper) (d : Nat), ops[i]? = some o → o.dst = some d → d < st0.tm.length)
    (hdst : ∀ (i : Nat) (o : Oper), ops[i]? = some o → i ≠ L → ∃ d, o.dst = some d)
    (huses : ∀ (j : Nat) (o : Oper), ops[j]? = some o → ∀ i ∈ pl.uses j, ∃ e ∈ o.after, Region.binds .any e = true ∧ e.on = i)
    (hloc : ∀ j nm nm', (∀ i ∈ pl.uses j, nm i = nm' i) → (pl.fresh j ≠ none → nm j = nm' j) → pl.val j nm = pl.val j nm')
    (hlast : ∀ listed : Array Bool, listed.size = ops.length → (∀ (j : Nat) (o : Oper), ops[j]? = some o → On listed j → ∀ e ∈ o.after, Region.binds .any e = true → On listed e.on) → (∀ e ∈ oL.after, Region.binds .any e = true → On listed e.on) → ∀ i, i < ops.length → i ≠ L → On listed i)
    (hback : ∀ (j : Nat) (o : Oper), ops[j]? = some o → ∀ e ∈ o.after, Region.binds .any e = true → e.on < j)
    (hop : ∀ (i : Nat) (o : Oper) listed nm st, ops[i]? = some o → i ≠ L → Mid ops pl st0 listed nm st → (∀ e ∈ o.after, Region.binds .any e = true → On listed e.on) →
      opA P n0 o.op st.ev st.hp (fun v hp' kb => kb = none ∧ match pl.fresh i with
        | none => v = pl.val i nm ∧ hp' = st.hp
        | some b => v = pl.val i (upd nm i st.hp.length) ∧ hp' = st.hp ++ [b]))
    (hend : ∀ listed nm st, Mid ops pl st0 listed nm st → (∀ i, i < ops.length → i ≠ L → On listed i) → opA P n0 oL.op st.ev st.hp (fun v hp' kb => K ((st.after hp' kb).put oL.dst v))) :
    anyA P n0 ops [] K ops.length (Array.replicate ops.length false) st0 := by
  have hLlt : L < ops.length := (List.getElem?_eq_some_iff.1 hL).1
  refine any_by (fun listed st => (¬ On listed L ∧ ∃ nm, Mid ops pl st0 listed nm st) ∨ (On listed L ∧ (∀ i, i < ops.length → On listed i) ∧ K st)) ?_ ?_ _ _ _ (by simp) (by simp) ?_
  · intro listed st i hs hI hr
    have hf := ready_false hs hr
    obtain ⟨hi, o, ho, hall⟩ := mem_ready.1 hr
    have ho' : ops[i]? = some o := by simpa using ho
    have hilt : i < ops.length := (List.getElem?_eq_some_iff.1 ho').1
    have hw : wantedA ops o st = some true := by simp [wantedA, hg o (List.mem_of_getElem? ho')]
    have onI : On (listed.setIfInBounds i true) i := by
      unfold On
      simp [hs, hilt]
    have hnot : ¬ On listed i := by
      unfold On
      simp [Array.getD, hs, hilt] at hi ⊢
      simp [hi]
    unfold stepA
    rw [ho']
    simp only []
    rw [if_pos (by simp)]
    rcases hI with ⟨hnL, nm, M⟩ | ⟨_, hA, _⟩
    · by_cases hiL : i = L
      · subst hiL
        rw [hL] at ho'; cases ho'
        have hall' := hlast listed hs M.closed hall
        exact .inl ⟨hw, _, hend listed nm st M hall', fun v hp' kb hk => .inr ⟨onI, fun j hj => by
          by_cases hji : j = i
          · subst hji; exact onI
          · exact getD_set_true (hall' j hj hji), hk⟩⟩
      · obtain ⟨d, hdd⟩ := hdst i o ho' hiL
        refine .inl ⟨hw, _, hop i o listed nm st ho' hiL M hall, fun v hp' kb ⟨hkb, hk⟩ => ?_⟩
        subst hkb
        obtain ⟨nm', M'⟩ := M.step hd hlen huses hloc ho' hi hdd hall hs hk
        refine .inl ⟨?_, nm', ?_⟩
        · unfold On at hnL ⊢
          rw [getD_set_ne false hiL]; exact hnL
        · rw [hdd]; exact M'
    · exact absurd (hA i hilt) hnot
  · intro listed st hs hI hr
    rcases hI with ⟨hnL, nm, M⟩ | ⟨_, _, hk⟩
    · exfalso
      have all : ∀ n i, i < n → i < ops.length → On listed i := by
        intro n
        induction n with
        | zero => intro i hi; omega
        | succ n ih =>
          intro i hi hl
          apply Classical.byContradiction
          intro hno
          have hmem : i ∈ Region.ready .any ops.toArray listed := by
            refine mem_ready.2 ⟨?_, ops[i], by simp [hl], fun e he hb => ih _ (by have := hback i ops[i] (List.getElem?_eq_getElem hl) e he hb; omega) (by have := hback i ops[i] (List.getElem?_eq_getElem hl) e he hb; omega)⟩
            unfold On at hno
            simp [Array.getD, hs, hl] at hno ⊢
            exact hno
          rw [hr] at hmem
          cases hmem
      exact hnL (all (L + 1) L (by omega) hLlt)
    · exact hk
  · exact .inl ⟨noOn _ _, fun i => i, rfl, fun i o d _ hon => absurd hon (noOn _ _), fun d _ => rfl, Nat.le_refl _, fun b _ => rfl, fun i b _ hon => absurd hon (noOn _ _), fun i j _ _ hon => absurd hon (noOn _ _), fun j o _ hon => absurd hon (noOn _ _)⟩
end
end Go.Abs
