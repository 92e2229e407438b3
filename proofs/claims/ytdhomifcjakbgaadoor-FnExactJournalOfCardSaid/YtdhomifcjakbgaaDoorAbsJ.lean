/- The abstract layer, part J: a frame and its slots; the operations of a region, one after another. -/
import Derived.Test.YtdhomifcjakbgaaDoorAbsI
set_option linter.unusedSimpArgs false
set_option linter.unusedVariables false
namespace Go.Abs
open Go
variable {P : Program}

/-- A frame stands as 'st' says. -/
structure SR (E0 : Env P) (hp0 : List Blk) (E : Env P) (st : St) (a : Act) : Prop where
  hr : HRel E st.hp
  fr : Fr E0 hp0 E st.hp
  len : st.tm.length = a.tmps.size
  tm : ∀ (i : Nat) v u, st.tm[i]? = some v → a.tmps[i]? = some u → RV E v u
  df : a.defers = []

theorem SR.slot {E0 : Env P} {hp0 : List Blk} {E : Env P} {st : St} {a : Act} (h : SR E0 hp0 E st a) (t : Nat) : RV E (st.tm.getD t .any) (a.tmps.getD t undef) := by
  by_cases ht : t < st.tm.length
  · have ht' : t < a.tmps.size := by rw [← h.len]; exact ht
    have := h.tm t st.tm[t] a.tmps[t] (List.getElem?_eq_getElem ht) (by simp [ht'])
    simpa [List.getD, ht, ht'] using this
  · have : st.tm.getD t .any = .any := by simp [List.getD, List.getElem?_eq_none (Nat.le_of_not_lt ht)]
    rw [this]; exact .any _

theorem SR.ev {E0 : Env P} {hp0 : List Blk} {E : Env P} {st : St} {a : Act} (h : SR E0 hp0 E st a) (x : Operand) : RV E (st.ev x) (a.eval x) := by
  cases x with
  | tmp t => exact h.slot t
  | const v => exact RV_ofV E v
  | global g => exact .any _
  | func f => exact .fn f [] #[] rfl (fun i a v h => by simp at h)

theorem SR.put {E0 : Env P} {hp0 : List Blk} {E : Env P} {st : St} {a : Act} (h : SR E0 hp0 E st a) (d : Option Tmp) {v : AV} {u : Value} (hv : RV E v u) : SR E0 hp0 E (st.put d v) (a.put d u) := by
  cases d with
  | none => exact h
  | some d =>
    refine ⟨h.hr, h.fr, by simpa [St.put, Act.put] using h.len, fun i v' u' h1 h2 => ?_, h.df⟩
    have h1' : (st.tm.set d v)[i]? = some v' := h1
    have h2' : (a.tmps.setIfInBounds d u)[i]? = some u' := h2
    by_cases hi : d = i
    · subst hi
      have hlt : d < st.tm.length := by have := (List.getElem?_eq_some_iff.1 h1').1; simpa using this
      have hlt' : d < a.tmps.size := by rw [← h.len]; exact hlt
      rw [List.getElem?_set_self hlt] at h1'
      simp [hlt'] at h2'
      cases h1'
      rw [← h2']; exact hv
    · rw [List.getElem?_set_ne hi] at h1'
      rw [Array.getElem?_setIfInBounds_ne hi] at h2'
      exact h.tm i v' u' h1' h2'

theorem SR.after {P : Program} {E0 : Env P} {hp0 : List Blk} {E : Env P} {st : St} {a : Act} (h : SR E0 hp0 E st a) {k : AV → List Blk → Option Nat → Prop} {v : Value} {w' : World} (hp : OpPost E E0 hp0 k v w') :
    ∃ E' av hp' kb, E'.w = w' ∧ k av hp' kb ∧ RV E' av v ∧ SR E0 hp0 E' (st.after hp' kb) a := by
  obtain ⟨E', av, hp', kb, hl⟩ := hp
  refine ⟨E', av, hp', kb, hl.w, hl.k, hl.rv, ?_⟩
  have hkeep := hl.keep
  cases kb with
  | none => exact ⟨hl.hr, hl.fr, h.len, fun i v u h1 h2 => hkeep v u (h.tm i v u h1 h2), h.df⟩
  | some b =>
    refine ⟨hl.hr, hl.fr, by simpa [St.after] using h.len, fun i v u h1 h2 => ?_, h.df⟩
    obtain ⟨v0, h3, rfl⟩ := get_map_kill (f := kill b) h1
    exact hkeep v0 u (h.tm i v0 u h3 h2)

/-- A slot that holds a bool. -/
theorem SR.bool {E0 : Env P} {hp0 : List Blk} {E : Env P} {st : St} {a : Act} (h : SR E0 hp0 E st a) {d : Nat} {c : Bool} (hd : st.tm.getD d .any = .bool c) : a.tmps[d]? = some (.bool c) ∧ st.put (some d) (.bool c) = st := by
  have hlt : d < st.tm.length := by
    apply Decidable.byContradiction
    intro hn
    simp [List.getD, List.getElem?_eq_none (Nat.le_of_not_lt hn)] at hd
  have hlt' : d < a.tmps.size := by rw [← h.len]; exact hlt
  have h1 : st.tm[d]? = some (.bool c) := by
    rw [List.getElem?_eq_getElem hlt]
    simp [List.getD, hlt] at hd
    rw [hd]
  have h2 := h.tm d _ a.tmps[d] h1 (by simp [hlt'])
  have h3 : a.tmps[d] = .bool c := by
    generalize hu : a.tmps[d] = u at h2
    cases h2; rfl
  refine ⟨by simp [hlt', h3], ?_⟩
  cases st with
  | mk tm hp =>
    simp only [St.put]
    congr 1
    apply List.ext_getElem?
    intro i
    by_cases hi : d = i
    · subst hi; rw [List.getElem?_set_self hlt, h1]
    · rw [List.getElem?_set_ne hi]

/-- A slot of an operation that has not been carried out. -/
theorem SR.skipped {E0 : Env P} {hp0 : List Blk} {E : Env P} {st : St} {a : Act} (h : SR E0 hp0 E st a) {d : Nat} (hd : st.tm.getD d .any = .tup []) : a.tmps[d]? = some (.tuple #[]) := by
  have hlt : d < st.tm.length := by
    apply Decidable.byContradiction
    intro hn
    simp [List.getD, List.getElem?_eq_none (Nat.le_of_not_lt hn)] at hd
  have hlt' : d < a.tmps.size := by rw [← h.len]; exact hlt
  have h1 : st.tm[d]? = some (.tup []) := by
    rw [List.getElem?_eq_getElem hlt]
    simp [List.getD, hlt] at hd
    rw [hd]
  have h2 := h.tm d _ a.tmps[d] h1 (by simp [hlt'])
  have h3 : a.tmps[d] = .tuple #[] := by
    generalize hu : a.tmps[d] = u at h2
    cases h2 with
    | tup l vs hl _ => cases vs with | mk xs => cases xs with | nil => rfl | cons x xs => simp at hl
  simp [hlt', h3]
theorem RV.skip (E : Env P) : RV E (.tup []) undef := .tup [] #[] rfl (by simp)

section
variable {P : Program}

theorem runOps_sound {E0 : Env P} {hp0 : List Blk} (ops : List Oper) {Q : Exit → Act → World → Prop} : ∀ (l : List Oper) (st : St) (K : St → Prop), runOps P hp0.length ops l st K → ∀ (E : Env P) (a : Act), SR E0 hp0 E st a →
    (∀ E' st' a', SR E0 hp0 E' st' a' → K st' → Q .normal a' E'.w) → wpList P ops.toArray Q l a E.w
  | [], st, K, h, E, a, hs, hq => hq E st a hs h
  | o :: rest, st, K, h, E, a, hs, hq => by
    have step : ∀ (st : St), SR E0 hp0 E st a → opA P hp0.length o.op st.ev st.hp (fun v hp' kb => runOps P hp0.length ops rest ((st.after hp' kb).put o.dst v) K) →
        o.wp P a E.w (wpList P ops.toArray Q rest) Q := by
      intro st hs h
      have hr := opA_sound (P := P) hs.hr hs.fr (o := o) (g := a.eval) (fun x _ => hs.ev x) (fun _ => rfl) h
      refine hr.wp fun v w' hp => ?_
      obtain ⟨E', av, hp', kb, hw, hk, hrv, hs'⟩ := hs.after (P := P) hp
      subst hw
      exact runOps_sound ops rest _ K hk E' _ (hs'.put o.dst hrv) hq
    unfold runOps at h
    unfold wpList
    split at h
    · rename_i hg
      have hw : Region.wanted o (yielded ops.toArray a.tmps) = true := by simp [Region.wanted, hg]
      rw [if_pos hw]
      exact .inl (step st hs h)
    · rename_i j b hg
      split at h
      · rename_i d hd
        split at h
        · rename_i c hc
          obtain ⟨h1, h2⟩ := hs.bool hc
          have hy : yielded ops.toArray a.tmps j = some c := by
            have hd' : (ops[j]?).bind (·.dst) = some d := hd
            simp [yielded, hd', h1]
          by_cases hcb : c = b
          · subst hcb
            have hw : Region.wanted o (yielded ops.toArray a.tmps) = true := by simp [Region.wanted, hg, hy]
            rw [if_pos hw]
            have h' := h.1 (by simp)
            refine .inl (step (st.put (some d) (.bool c)) (by rw [h2]; exact hs) ?_)
            exact h'
          · have hw : ¬ Region.wanted o (yielded ops.toArray a.tmps) = true := by simp [Region.wanted, hg, hy, hcb]
            rw [if_neg hw]
            have hcb' : c = !b := by cases c <;> cases b <;> simp_all
            have h' := h.2 (by simp [hcb])
            rw [← hcb', h2] at h'
            exact runOps_sound ops rest _ K h' E _ (hs.put o.dst (RV.skip E)) hq
        · rename_i hc
          have hy : yielded ops.toArray a.tmps j = none := by
            have hd' : (ops[j]?).bind (·.dst) = some d := hd
            simp [yielded, hd', hs.skipped hc]
          have hw : ¬ Region.wanted o (yielded ops.toArray a.tmps) = true := by simp [Region.wanted, hg, hy]
          rw [if_neg hw]
          exact runOps_sound ops rest _ K h E _ (hs.put o.dst (RV.skip E)) hq
        · exact h.elim
      · exact h.elim
end
end Go.Abs
