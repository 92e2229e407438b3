/- The abstract layer, part Z3: how a drawn region that is done is told by names of one's choice. -/
import Derived.Test.YtdhomifcjakbgaaDoorAbsZ2
set_option linter.unusedSimpArgs false
set_option linter.unusedVariables false
namespace Go.Abs
open Go
variable {P : Program}

theorem LeTm.of {N : Nat} {π : Nat → Nat} : ∀ {l m : List AV}, l.length = m.length → (∀ (i : Nat) b, m[i]? = some b → LeV N π (l.getD i .any) b) → LeTm N π l m
  | [], [], _, _ => trivial
  | a :: l, b :: m, hl, h => ⟨by simpa using h 0 b rfl, LeTm.of (by simpa using hl) fun i x hx => by simpa using h (i + 1) x (by simpa using hx)⟩
  | [], _ :: _, hl, _ => by simp at hl
  | _ :: _, [], hl, _ => by simp at hl

/-- The new names: the known blocks keep theirs, the new ones follow in the order of 'ps'. -/
def planName (N : Nat) (nm : Nat → Nat) (ps : List Nat) (b : Nat) : Nat := if b < N then b else nm (ps.getD (b - N) 0)

theorem flat_ren {N : Nat} (π : Nat → Nat) {l : List AV} (h : allBelow 0 l = true) : l.map (ren π) = l ∧ ∀ e ∈ l, below N e = true := by
  simp only [allBelow, List.all_eq_true] at h
  exact ⟨map_id_of fun x hx => (below_mono0 (N := N) π x (h x hx)).2, fun e he => (below_mono0 (N := N) π e (h e he)).1⟩

theorem Mid.weak {ops : List Oper} {pl : Plan} {st0 : St} {listed : Array Bool} {nm : Nat → Nat} {st : St} (M : Mid ops pl st0 listed nm st) {n0 : Nat} (hn0 : n0 ≤ st0.hp.length) (h0 : ∀ r ∈ st0.hp, allBelow 0 r.els = true)
    (ps : List Nat) (bs : List Blk) (hnd : ps.Nodup) (hlen : bs.length = ps.length) (hps : ∀ (j : Nat) i, ps[j]? = some i → i < ops.length ∧ On listed i ∧ pl.fresh i = bs[j]?) (hbs : ∀ r ∈ bs, allBelow 0 r.els = true)
    (m : List AV) (hm : m.length = st0.tm.length) (hslot : ∀ (i : Nat) b, m[i]? = some b → LeV (st0.hp.length + ps.length) (planName st0.hp.length nm ps) (st.tm.getD i .any) b) :
    Weak n0 st ⟨m, st0.hp ++ bs⟩ := by
  have hfresh : ∀ j, j < ps.length → ∃ i r, ps[j]? = some i ∧ bs[j]? = some r ∧ i < ops.length ∧ On listed i ∧ pl.fresh i = some r ∧ st0.hp.length ≤ nm i ∧ st.hp[nm i]? = some r := by
    intro j hj
    have h1 : ps[j]? = some ps[j] := List.getElem?_eq_getElem hj
    have h2 : bs[j]? = some (bs[j]'(by omega)) := List.getElem?_eq_getElem (by omega)
    obtain ⟨a, b, c⟩ := hps j _ h1
    rw [h2] at c
    obtain ⟨d, e⟩ := M.blk _ _ a b c
    exact ⟨_, _, h1, h2, a, b, c, d, e⟩
  have hname : ∀ j i, ps[j]? = some i → planName st0.hp.length nm ps (st0.hp.length + j) = nm i := by
    intro j i h
    have e : st0.hp.length + j - st0.hp.length = j := by omega
    simp only [planName, if_neg (show ¬ st0.hp.length + j < st0.hp.length from by omega), e, List.getD_eq_getElem?_getD, h, Option.getD_some]
  refine weak_ren (st0.hp.length + ps.length) (planName st0.hp.length nm ps) (LeTm.of (by rw [M.len, hm]) hslot) ?_
  refine ⟨by simp [hlen], by omega, fun b hb => by simp [planName, show b < st0.hp.length from by omega], ?_, ?_⟩
  · intro b b' hb hb' e
    by_cases c : b < st0.hp.length
    · by_cases c' : b' < st0.hp.length
      · simpa [planName, c, c'] using e
      · obtain ⟨i, r, h1, _, _, _, _, h6, _⟩ := hfresh (b' - st0.hp.length) (by omega)
        have := hname _ _ h1
        rw [show st0.hp.length + (b' - st0.hp.length) = b' from by omega] at this
        rw [this] at e
        simp only [planName, c, if_true] at e
        omega
    · obtain ⟨i, r, h1, _, h3, h4, h5, h6, _⟩ := hfresh (b - st0.hp.length) (by omega)
      have k1 := hname _ _ h1
      rw [show st0.hp.length + (b - st0.hp.length) = b from by omega] at k1
      by_cases c' : b' < st0.hp.length
      · rw [k1] at e
        simp only [planName, c', if_true] at e
        omega
      · obtain ⟨i', r', h1', _, h3', h4', h5', h6', _⟩ := hfresh (b' - st0.hp.length) (by omega)
        have k2 := hname _ _ h1'
        rw [show st0.hp.length + (b' - st0.hp.length) = b' from by omega] at k2
        rw [k1, k2] at e
        have ei := M.inj i i' h3 h3' h4 h4' (by rw [h5]; simp) (by rw [h5']; simp) e
        subst ei
        have hj : b - st0.hp.length < ps.length := by omega
        have hj' : b' - st0.hp.length < ps.length := by omega
        rw [List.getElem?_eq_getElem hj] at h1
        rw [List.getElem?_eq_getElem hj'] at h1'
        have eq : ps[b - st0.hp.length] = ps[b' - st0.hp.length] := by
          rw [Option.some.injEq] at h1 h1'
          rw [h1, h1']
        have hne := List.pairwise_iff_getElem.1 hnd
        rcases Nat.lt_trichotomy (b - st0.hp.length) (b' - st0.hp.length) with h | h | h
        · exact absurd eq (hne _ _ hj hj' h)
        · omega
        · exact absurd eq.symm (hne _ _ hj' hj h)
  · intro b r hr
    by_cases c : b < st0.hp.length
    · have hr' : (st0.hp ++ bs)[b]? = some r := hr
      rw [List.getElem?_append_left c] at hr'
      obtain ⟨f1, f2⟩ := flat_ren (N := st0.hp.length + ps.length) (planName st0.hp.length nm ps) (h0 r (List.mem_of_getElem? hr'))
      refine ⟨r, by simp only [planName, c, if_true]; rw [M.old b c]; exact hr', rfl, fun hl => ⟨hl, rfl, f1.symm, f2⟩⟩
    · have hr' : (st0.hp ++ bs)[b]? = some r := hr
      rw [List.getElem?_append_right (by omega)] at hr'
      obtain ⟨i, r', h1, h2, _, _, _, _, h7⟩ := hfresh (b - st0.hp.length) (by
        have := (List.getElem?_eq_some_iff.1 hr').1
        omega)
      rw [h2] at hr'
      cases hr'
      have k1 := hname _ _ h1
      rw [show st0.hp.length + (b - st0.hp.length) = b from by omega] at k1
      obtain ⟨f1, f2⟩ := flat_ren (N := st0.hp.length + ps.length) (planName st0.hp.length nm ps) (hbs r (List.mem_of_getElem? h2))
      exact ⟨r, by rw [k1]; exact h7, rfl, fun hl => ⟨hl, rfl, f1.symm, f2⟩⟩
end Go.Abs
