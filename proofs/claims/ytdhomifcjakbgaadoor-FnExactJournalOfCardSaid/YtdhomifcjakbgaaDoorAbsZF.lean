/- The abstract layer, part ZF: a block of the caller's is taken over: it is dead, and a new one lies in its place. -/
import Derived.Test.YtdhomifcjakbgaaDoorAbsZE
import Derived.Test.YtdhomifcjakbgaaDoorAbsZ6
set_option linter.unusedSimpArgs false
set_option linter.unusedVariables false
namespace Go.Abs
open Go
variable {P : Program}

/-- As 'LeHp', but for dead blocks' names: a dead one may have another's. -/
structure LeHpW (N : Nat) (π : Nat → Nat) (n0 : Nat) (hp hp2 : List Blk) : Prop where
  len : hp2.length = N
  hn0 : n0 ≤ N
  low : ∀ b, b < n0 → π b = b
  inj : ∀ (b b' : Nat) r r', hp2[b]? = some r → r.live = true → hp2[b']? = some r' → r'.live = true → π b = π b' → b = b'
  blk : ∀ (b : Nat) r, hp2[b]? = some r → ∃ q, hp[π b]? = some q ∧ q.w = r.w ∧ (r.live = true → q.live = true ∧ q.ty = r.ty ∧ q.els = r.els.map (ren π) ∧ ∀ e ∈ r.els, below N e = true)
theorem LeHpW.sound {N : Nat} {π : Nat → Nat} {n0 : Nat} {hp hp2 : List Blk} (h : LeHpW N π n0 hp hp2) {E0 : Env P} {hp0 : List Blk} {E : Env P} (hn : hp0.length = n0) (H : HRel E hp) (F : Fr E0 hp0 E hp) : HRel (E.ren N π) hp2 ∧ Fr E0 hp0 (E.ren N π) hp2 := by
  have lt : ∀ (b : Nat) r, hp2[b]? = some r → b < N := fun b r hb => by rw [← h.len]; exact (List.getElem?_eq_some_iff.1 hb).1
  refine ⟨⟨h.len.symm, ?_, ?_, ?_, ?_, H.old, H.laid⟩, ?_⟩
  · intro b r hb
    obtain ⟨q, hq, hw, _⟩ := h.blk b r hb
    show E.wd (π b) = r.w
    rw [H.wd (π b) q hq, hw]
  · intro b r hb hl
    obtain ⟨q, hq, hw, hx⟩ := h.blk b r hb
    obtain ⟨hql, hty, hels, hbel⟩ := hx hl
    obtain ⟨cs, h1, h2⟩ := (H.holds (π b) q hq hql).cells
    refine ⟨cs, by rw [← hty]; exact h1, fun i e he => ?_⟩
    have hbe := hbel e (List.mem_of_getElem? he)
    obtain ⟨k1, k2⟩ := ren_cells (π := π) hbe
    have hqe : q.els[i]? = some (Abs.ren π e) := by rw [hels]; simp [he]
    obtain ⟨h3, h4⟩ := h2 i _ hqe
    refine ⟨by rw [← hw, ← h3, k1], fun j c hc => ?_⟩
    obtain ⟨c', hc', k3⟩ := k2 j c hc
    obtain ⟨v, h5, h6⟩ := h4 j c' hc'
    exact ⟨v, by rw [← hw]; exact h5, k3 h6⟩
  · intro b b' r r' hb hl hb' hl' he
    obtain ⟨q, hq, _, hx⟩ := h.blk b r hb
    obtain ⟨q', hq', _, hx'⟩ := h.blk b' r' hb'
    exact h.inj b b' r r' hb hl hb' hl' (H.inj (π b) (π b') q q' hq (hx hl).1 hq' (hx' hl').1 he)
  · intro b r hb hl
    obtain ⟨q, hq, _, hx⟩ := h.blk b r hb
    exact H.apart (π b) q hq (hx hl).1
  · exact {
      size := F.size
      os := F.os
      tape := F.tape
      output := F.output
      block := F.block
      len := by rw [hn, h.len]; exact h.hn0
      ρ := fun b hb => by show E.ρ (π b) = _; rw [h.low b (by omega)]; exact F.ρ b hb
      wd := fun b hb => by show E.wd (π b) = _; rw [h.low b (by omega)]; exact F.wd b hb
      F := F.F
      F' := F.F'
      live := fun b ⟨r, hb, hl⟩ => by
        obtain ⟨q, hq, _, hx⟩ := h.blk b r hb
        have hlive := F.live (π b) ⟨q, hq, (hx hl).1⟩
        by_cases hbn : b < n0
        · rw [h.low b hbn] at hlive
          rcases hlive with h1 | ⟨h1, _⟩
          · exact .inl h1
          · omega
        · rcases hlive with ⟨h1, h2⟩ | ⟨_, h2⟩
          · exact .inr ⟨by omega, .inr ⟨π b, h2, (F.ρ (π b) h1).symm⟩⟩
          · exact .inr ⟨by omega, h2⟩
      csz := F.csz }
theorem weak_renW {n0 : Nat} {st st2 : St} (N : Nat) (π : Nat → Nat) (ht : LeTm N π st.tm st2.tm) (hh : LeHpW N π n0 st.hp st2.hp) : Weak n0 st st2 := by
  intro _ E0 hp0 E a hn hs
  obtain ⟨H, F⟩ := hh.sound hn hs.hr hs.fr
  refine ⟨E.ren N π, rfl, H, F, ht.len.symm.trans hs.len, fun i v u h1 h2 => ?_, hs.df⟩
  obtain ⟨v0, h3, h4⟩ := ht.get i v h1
  rcases h4 with rfl | ⟨rfl, hb⟩
  · exact .any _
  · exact RV.unren hb (hs.tm i _ u h3 h2)
/-- A function that begins in a state of one's choice. -/
theorem call_taken {f : FuncId} {fn : Func} {c : Code} {md : Nat → List Bool} {args : List AV} {hp : List Blk} {Q : AV → List Blk → Prop} (hm : P.follows .mixedOrders = true) (hf : P.funcs[f]? = some fn) (hb : fn.body = some c) (hgo : isGo P f) (hok : modesOk md c = true)
    (st2 : St) (hw : Weak hp.length ⟨args ++ List.replicate (fn.ntmps - args.length) .any, hp⟩ st2) (h : V P md hp.length c (retQ P fn hp.length Q) .mk st2) : CallA P f args hp Q := by
  refine callA_code hf hb hgo ?_
  refine code_weak hw ?_
  rw [V_def] at h
  exact vc_sound hm c st2 _ hok h
end Go.Abs
