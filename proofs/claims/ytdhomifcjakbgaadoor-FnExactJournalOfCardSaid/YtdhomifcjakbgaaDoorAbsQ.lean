/- The abstract layer, part Q: a function that is proved with some known blocks, called where there are more. -/
import Derived.Test.YtdhomifcjakbgaaDoorAbsO
set_option linter.unusedSimpArgs false
set_option linter.unusedVariables false
namespace Go.Abs
open Go
variable {P : Program}

/-- The caller's name of a callee's block. -/
def upName (σ : List Nat) (n : Nat) (i : Nat) : Nat := if i < σ.length then σ.getD i 0 else n + (i - σ.length)
/-- The caller's blocks, with those that were handed on as the callee left them. -/
def putBack (τ : Nat → Nat) : List Nat → List Blk → List Blk → List Blk
  | b :: σ, q :: l, hp => putBack τ σ l (hp.set b (renB τ q))
  | _, _, hp => hp

theorem putBack_len (τ : Nat → Nat) : ∀ (σ : List Nat) (l hp : List Blk), (putBack τ σ l hp).length = hp.length
  | [], _, _ => rfl
  | _ :: _, [], _ => rfl
  | b :: σ, q :: l, hp => by simp [putBack, putBack_len τ σ l]
theorem putBack_other (τ : Nat → Nat) : ∀ (σ : List Nat) (l hp : List Blk) (b : Nat), b ∉ σ → (putBack τ σ l hp)[b]? = hp[b]?
  | [], _, _, _, _ => rfl
  | _ :: _, [], _, _, _ => rfl
  | c :: σ, q :: l, hp, b, h => by
    simp only [List.mem_cons, not_or] at h
    simp only [putBack]
    rw [putBack_other τ σ l _ b h.2, List.getElem?_set_ne (fun e => h.1 e.symm)]
theorem putBack_at (τ : Nat → Nat) : ∀ (σ : List Nat) (l hp : List Blk) (i b : Nat) (q : Blk), σ.Nodup → σ[i]? = some b → l[i]? = some q → b < hp.length → (putBack τ σ l hp)[b]? = some (renB τ q)
  | [], _, _, i, _, _, _, h, _, _ => by simp at h
  | _ :: _, [], _, i, _, _, _, _, h, _ => by simp at h
  | c :: σ, q :: l, hp, 0, b, q', hn, h1, h2, hb => by
    simp only [List.getElem?_cons_zero, Option.some.injEq] at h1 h2
    subst h1; subst h2
    simp only [putBack]
    rw [putBack_other τ σ l _ c (List.nodup_cons.1 hn).1, List.getElem?_set_self hb]
  | c :: σ, q :: l, hp, i + 1, b, q', hn, h1, h2, hb => by
    simp only [putBack]
    exact putBack_at τ σ l _ i b q' (List.nodup_cons.1 hn).2 (by simpa using h1) (by simpa using h2) (by simpa using hb)

def subHp (σ : List Nat) (hp hp' : List Blk) : List Blk := putBack (upName σ hp.length) σ hp' hp ++ (hp'.drop σ.length).map (renB (upName σ hp.length))

/-- The blocks that are handed on: the callee's own list, told by the caller's names. -/
structure Sub (σ : List Nat) (hp hps : List Blk) : Prop where
  nodup : σ.Nodup
  len : hps.length = σ.length
  blk : ∀ (i : Nat) r, hps[i]? = some r → ∃ q, hp[σ.getD i 0]? = some q ∧ q.w = r.w ∧ (r.live = true → q.live = true ∧ q.ty = r.ty ∧ q.els = r.els.map (ren fun i => σ.getD i 0) ∧ ∀ e ∈ r.els, below σ.length e = true)

theorem Sub.hrel {σ : List Nat} {hp hps : List Blk} (S : Sub σ hp hps) {E : Env P} (H : HRel E hp) : HRel (E.ren σ.length fun i => σ.getD i 0) hps := by
  have lt : ∀ (b : Nat) r, hps[b]? = some r → b < σ.length := fun b r hb => by rw [← S.len]; exact (List.getElem?_eq_some_iff.1 hb).1
  have inj : ∀ b b', b < σ.length → b' < σ.length → σ.getD b 0 = σ.getD b' 0 → b = b' := by
    intro b b' h1 h2 he
    simp only [List.getD, List.getElem?_eq_getElem h1, List.getElem?_eq_getElem h2, Option.getD_some] at he
    exact (List.getElem_inj S.nodup).1 he
  refine ⟨S.len.symm, ?_, ?_, ?_, ?_, H.old, H.laid⟩
  · intro b r hb
    obtain ⟨q, hq, hw, _⟩ := S.blk b r hb
    show E.wd (σ.getD b 0) = r.w
    rw [H.wd _ q hq, hw]
  · intro b r hb hl
    obtain ⟨q, hq, hw, hx⟩ := S.blk b r hb
    obtain ⟨hql, hty, hels, hbel⟩ := hx hl
    obtain ⟨cs, h1, h2⟩ := (H.holds _ q hq hql).cells
    refine ⟨cs, by rw [← hty]; exact h1, fun i e he => ?_⟩
    have hbe := hbel e (List.mem_of_getElem? he)
    obtain ⟨k1, k2⟩ := ren_cells (π := fun i => σ.getD i 0) hbe
    have hqe : q.els[i]? = some (Abs.ren (fun i => σ.getD i 0) e) := by rw [hels]; simp [he]
    obtain ⟨h3, h4⟩ := h2 i _ hqe
    refine ⟨by rw [← hw, ← h3, k1], fun j c hc => ?_⟩
    obtain ⟨c', hc', k3⟩ := k2 j c hc
    obtain ⟨v, h5, h6⟩ := h4 j c' hc'
    exact ⟨v, by rw [← hw]; exact h5, k3 h6⟩
  · intro b b' r r' hb hl hb' hl' he
    obtain ⟨q, hq, _, hx⟩ := S.blk b r hb
    obtain ⟨q', hq', _, hx'⟩ := S.blk b' r' hb'
    exact inj b b' (lt b r hb) (lt b' r' hb') (H.inj _ _ q q' hq (hx hl).1 hq' (hx' hl').1 he)
  · intro b r hb hl
    obtain ⟨q, hq, _, hx⟩ := S.blk b r hb
    exact H.apart _ q hq (hx hl).1

theorem sub_sound {E : Env P} {hp hps : List Blk} (H : HRel E hp) {σ : List Nat} (S : Sub σ hp hps) {E' : Env P} {hp' : List Blk} (H' : HRel E' hp') (F' : Fr (E.ren σ.length fun i => σ.getD i 0) hps E' hp') :
    ∃ E2 : Env P, E2.w = E'.w ∧ HRel E2 (subHp σ hp hp') ∧ Fr E hp E2 (subHp σ hp hp') ∧ Into (upName σ hp.length) E' E2 := by
  have Hs := S.hrel H
  have hm : σ.length ≤ hp'.length := by rw [← S.len]; exact F'.len
  have hσlt : ∀ i, i < σ.length → σ.getD i 0 < hp.length := fun i hi => by
    have hi' : i < hps.length := by rw [S.len]; exact hi
    obtain ⟨q, hq, _⟩ := S.blk i hps[i] (List.getElem?_eq_getElem hi')
    exact (List.getElem?_eq_some_iff.1 hq).1
  have hσget : ∀ i, i < σ.length → σ[i]? = some (σ.getD i 0) := fun i hi => by simp [List.getD, List.getElem?_eq_getElem hi]
  have hsize : E.w.heap.size ≤ E'.w.heap.size := F'.size
  have hbound : ∀ (b : Nat) bk, hp[b]? = some bk → bk.live = true → E.ρ b < E.w.heap.size := fun b bk hb hlv => by
    obtain ⟨cs', h1, _⟩ := (H.holds b bk hb hlv).cells
    exact (Array.getElem?_eq_some_iff.1 h1).1
  have liveS : ∀ i, Live hps i → i < σ.length ∧ Live hp (σ.getD i 0) := fun i ⟨r, hr, hl⟩ => by
    obtain ⟨q, hq, _, hx⟩ := S.blk i r hr
    exact ⟨by rw [← S.len]; exact (List.getElem?_eq_some_iff.1 hr).1, q, hq, (hx hl).1⟩
  let n := hp.length
  let E2 : Env P := { w := E'.w, F := E'.F, N := hp.length + (hp'.length - σ.length), ρ := fun b => if b < hp.length then E.ρ b else E'.ρ (b - hp.length + σ.length), wd := fun b => if b < hp.length then E.wd b else E'.wd (b - hp.length + σ.length) }
  have kept : ∀ c, E.F c → E'.w.heap[c]? = E.w.heap[c]? := fun c hc => F'.kept Hs hc
  have le : E.le E2 := ⟨fun c h => F'.F c h, kept, by show E.N ≤ _; rw [H.N]; simp [E2],
    fun b hb => by have : b < hp.length := by rw [← H.N]; exact hb
                   simp [E2, this], fun b hb => by have : b < hp.length := by rw [← H.N]; exact hb
                                                   simp [E2, this], fun c => F'.csz c⟩
  have into : Into (upName σ hp.length) E' E2 := by
    refine ⟨⟨fun _ h => h, fun _ _ => rfl, Nat.le_refl _, fun _ hb => absurd hb (Nat.not_lt_zero _), fun _ hb => absurd hb (Nat.not_lt_zero _), fun _ => Nat.le_refl _⟩, fun i hi => ?_, fun i hi => ?_, fun i hi => ?_⟩
    · have hi' : i < hp'.length := by rw [← H'.N]; exact hi
      unfold upName
      by_cases h1 : i < σ.length
      · simp only [h1, if_true]; have := hσlt i h1; show σ.getD i 0 < hp.length + _; omega
      · simp only [h1, if_false]; show hp.length + (i - σ.length) < hp.length + _; omega
    · unfold upName
      by_cases h1 : i < σ.length
      · simp only [h1, if_true, E2, hσlt i h1]
        exact (F'.ρ i (by rw [S.len]; exact h1)).symm
      · have h2 : ¬ hp.length + (i - σ.length) < hp.length := by omega
        have h3 : hp.length + (i - σ.length) - hp.length + σ.length = i := by omega
        simp only [h1, if_false, E2, h2, h3]
    · unfold upName
      by_cases h1 : i < σ.length
      · simp only [h1, if_true, E2, hσlt i h1]
        exact (F'.wd i (by rw [S.len]; exact h1)).symm
      · have h2 : ¬ hp.length + (i - σ.length) < hp.length := by omega
        have h3 : hp.length + (i - σ.length) - hp.length + σ.length = i := by omega
        simp only [h1, if_false, E2, h2, h3]
  -- what stands where
  have hat : ∀ (b : Nat) bk, (subHp σ hp hp')[b]? = some bk → (b < hp.length ∧ b ∉ σ ∧ hp[b]? = some bk) ∨ (∃ i q, upName σ hp.length i = b ∧ hp'[i]? = some q ∧ bk = renB (upName σ hp.length) q ∧ ((i < σ.length ∧ b < hp.length) ∨ (σ.length ≤ i ∧ hp.length ≤ b))) := by
    intro b bk h
    unfold subHp at h
    rw [List.getElem?_append, putBack_len] at h
    split at h
    · rename_i hb
      by_cases hmem : b ∈ σ
      · obtain ⟨i, hi⟩ := List.getElem?_of_mem hmem
        have hilt : i < σ.length := (List.getElem?_eq_some_iff.1 hi).1
        have hi' : i < hp'.length := by omega
        rw [putBack_at _ σ hp' hp i b hp'[i] S.nodup hi (List.getElem?_eq_getElem hi') hb] at h
        refine .inr ⟨i, hp'[i], ?_, List.getElem?_eq_getElem hi', by simpa using h.symm, .inl ⟨hilt, hb⟩⟩
        unfold upName
        simp only [hilt, if_true, List.getD, hi, Option.getD_some]
      · rw [putBack_other _ σ hp' hp b hmem] at h
        exact .inl ⟨hb, hmem, h⟩
    · rename_i hb
      obtain ⟨q, h1, h2, _⟩ := mem_map_get h
      rw [List.getElem?_drop] at h1
      refine .inr ⟨_, q, ?_, h1, h2.symm, .inr ⟨by omega, by omega⟩⟩
      unfold upName
      have : ¬ σ.length + (b - hp.length) < σ.length := by omega
      simp only [this, if_false]
      omega
  have hi'N : ∀ i q, hp'[i]? = some q → i < E'.N := fun i q h => by rw [H'.N]; exact (List.getElem?_eq_some_iff.1 h).1
  have notσ : ∀ b q, b ∉ σ → hp[b]? = some q → q.live = true → ∀ i, Live hps i → E.ρ (σ.getD i 0) ≠ E.ρ b := by
    intro b q hb hq hl i hi he
    obtain ⟨hlt, q', hq', hl'⟩ := liveS i hi
    have := H.inj _ _ q' q hq' hl' hq hl he
    exact hb (this ▸ List.mem_of_getElem? (hσget i hlt))
  refine ⟨E2, rfl, ⟨?_, ?_, ?_, ?_, ?_, ?_, H.laidLe le⟩, ?_, into⟩
  · simp [E2, subHp, putBack_len]
  · intro b bk hb
    rcases hat b bk hb with ⟨h1, h2, h3⟩ | ⟨i, q, rfl, h2, rfl, _⟩
    · simp only [E2, h1, if_true]; exact H.wd b bk h3
    · rw [into.wd i (hi'N i q h2)]; exact H'.wd i q h2
  · intro b bk hb hl
    rcases hat b bk hb with ⟨h1, h2, h3⟩ | ⟨i, q, rfl, h2, rfl, _⟩
    · obtain ⟨cs, h4, h5⟩ := (H.holds b bk h3 hl).cells
      refine ⟨cs, ?_, fun i e he => ⟨(h5 i e he).1, fun j x hx => ?_⟩⟩
      · simp only [E2, h1, if_true]
        rw [F'.block _ (hbound b bk h3 hl) (fun i hi => notσ b bk h2 h3 hl i hi)]; exact h4
      · obtain ⟨v, h6, h7⟩ := (h5 i e he).2 j x hx
        exact ⟨v, h6, h7.mono le⟩
    · obtain ⟨cs, h3, h4⟩ := (H'.holds i q h2 hl).cells
      refine ⟨cs, by rw [into.ρ i (hi'N i q h2)]; exact h3, fun m e he => ?_⟩
      obtain ⟨e0, h5, rfl⟩ := get_map_kill (f := Abs.ren (upName σ hp.length)) he
      obtain ⟨k1, k2⟩ := ren_cells' (upName σ hp.length) e0
      refine ⟨k1.trans (h4 m e0 h5).1, fun j x hx => ?_⟩
      obtain ⟨c0, h6, h7⟩ := k2 j x hx
      obtain ⟨v, h8, h9⟩ := (h4 m e0 h5).2 j c0 h6
      exact ⟨v, h8, h7 into h9⟩
  · intro b1 b2 k1 k2 hb1 hl1 hb2 hl2 he
    rcases hat b1 k1 hb1 with ⟨h1, h2, h3⟩ | ⟨i1, q1, rfl, h2, rfl, _⟩ <;> rcases hat b2 k2 hb2 with ⟨g1, g2, g3⟩ | ⟨i2, q2, rfl, g2, rfl, _⟩
    · simp only [E2, h1, g1, if_true] at he
      exact H.inj b1 b2 k1 k2 h3 hl1 g3 hl2 he
    · exfalso
      rw [into.ρ i2 (hi'N i2 q2 g2)] at he
      simp only [E2, h1, if_true] at he
      rcases F'.live i2 ⟨q2, g2, hl2⟩ with ⟨l1, l2⟩ | ⟨_, l2 | ⟨i0, l0, e0⟩⟩
      · rw [F'.ρ i2 l1] at he
        exact notσ b1 k1 h2 h3 hl1 i2 l2 he.symm
      · have := hbound b1 k1 h3 hl1
        have l2' : E.w.heap.size ≤ E'.ρ i2 := l2
        omega
      · exact notσ b1 k1 h2 h3 hl1 i0 l0 (e0.trans he.symm)
    · exfalso
      rw [into.ρ i1 (hi'N i1 q1 h2)] at he
      simp only [E2, g1, if_true] at he
      rcases F'.live i1 ⟨q1, h2, hl1⟩ with ⟨l1, l2⟩ | ⟨_, l2 | ⟨i0, l0, e0⟩⟩
      · rw [F'.ρ i1 l1] at he
        exact notσ b2 k2 g2 g3 hl2 i1 l2 he
      · have := hbound b2 k2 g3 hl2
        have l2' : E.w.heap.size ≤ E'.ρ i1 := l2
        omega
      · exact notσ b2 k2 g2 g3 hl2 i0 l0 (e0.trans he)
    · rw [into.ρ i1 (hi'N i1 q1 h2), into.ρ i2 (hi'N i2 q2 g2)] at he
      rw [H'.inj i1 i2 q1 q2 h2 hl1 g2 hl2 he]
  · intro b bk hb hl
    rcases hat b bk hb with ⟨h1, h2, h3⟩ | ⟨i, q, rfl, h2, rfl, _⟩
    · simp only [E2, h1, if_true]
      intro hF
      rcases F'.F' _ hF with g | g | ⟨i, hi, he⟩
      · exact H.apart b bk h3 hl g
      · have := hbound b bk h3 hl
        have g' : E.w.heap.size ≤ E.ρ b := g
        omega
      · exact notσ b bk h2 h3 hl i hi he
    · rw [into.ρ i (hi'N i q h2)]; exact H'.apart i q h2 hl
  · exact fun c hc => H'.old c hc
  · exact {
      size := hsize
      os := F'.os
      tape := F'.tape
      output := F'.output
      block := fun c hc hn => F'.block c hc fun i hi he => by
        obtain ⟨_, hlv⟩ := liveS i hi
        exact hn _ hlv he
      len := by simp [subHp, putBack_len]
      ρ := fun b hb => by simp [E2, hb]
      wd := fun b hb => by simp [E2, hb]
      F := fun c h => F'.F c h
      F' := fun c h => by
        rcases F'.F' c h with g | g | ⟨i, hi, he⟩
        · exact .inl g
        · exact .inr (.inl g)
        · exact .inr (.inr ⟨_, (liveS i hi).2, he⟩)
      live := fun b ⟨bk, hb, hl⟩ => by
        rcases hat b bk hb with ⟨h1, h2, h3⟩ | ⟨i, q, rfl, h2, rfl, hcase⟩
        · exact .inl ⟨h1, bk, h3, hl⟩
        · rcases hcase with ⟨c1, c2⟩ | ⟨c1, c2⟩
          · refine .inl ⟨c2, ?_⟩
            rcases F'.live i ⟨q, h2, hl⟩ with ⟨_, l2⟩ | ⟨l1, _⟩
            · have := (liveS i l2).2
              unfold upName
              simp only [c1, if_true]
              exact this
            · rw [S.len] at l1; omega
          · refine .inr ⟨c2, ?_⟩
            rw [into.ρ i (hi'N i q h2)]
            rcases F'.live i ⟨q, h2, hl⟩ with ⟨l1, _⟩ | ⟨_, l2⟩
            · rw [S.len] at l1; omega
            · rcases l2 with l2 | ⟨i0, l0, e0⟩
              · exact .inl l2
              · exact .inr ⟨_, (liveS i0 l0).2, e0⟩
      csz := F'.csz }

section
variable {P : Program}
/-- A function that is proved with some known blocks, called where there are more: 'σ': the caller's names of them. -/
theorem CallA.sub (σ : List Nat) {f : FuncId} {args args' : List AV} {hp hps : List Blk} {Q : AV → List Blk → Prop} (S : Sub σ hp hps) (ha : args = args'.map (ren fun i => σ.getD i 0)) (hb : args'.all (below σ.length) = true)
    (h : CallA P f args' hps fun r hp' => Q (ren (upName σ hp.length) r) (subHp σ hp hp')) : CallA P f args hp Q := by
  intro E vs H hl hrv
  simp only [List.all_eq_true] at hb
  refine (h _ vs (S.hrel H) (by rw [hl, ha]; simp) (fun i a v h1 h2 => RV.unren (hb a (List.mem_of_getElem? h1)) (hrv i _ v (by rw [ha]; simp [h1]) h2))).mono ?_
  rintro v w' ⟨r, hp', E', hw, hQ, hv, H', F'⟩
  obtain ⟨E2, h1, h2, h3, h4⟩ := sub_sound H S H' F'
  exact ⟨_, _, E2, h1.trans hw, hQ, RV.ren h4 hv, h2, h3⟩
end
end Go.Abs
