/- The abstract layer: parts ZI ZJ ZK ZL ZM ZN ZO. -/
import Derived.Test.YtmllengggncmkaaGreatAbsM3
/- The abstract layer, part ZI: a drawn region with a store that may come before operations that look at no memory; guards are told one by one. -/
set_option linter.unusedSimpArgs false
set_option linter.unusedVariables false
namespace Go.Abs
open Go
variable {P : Program}

def ordB (P : Program) (b0 : Nat) (n0 : Nat) (ops : List Oper) (ms bls : List Bool) (K : St → Prop) : List Nat → St → Prop
  | [], st => K st
  | k :: r, st => ∃ o, ops[k]? = some o ∧
    if ms.getD k true then wantedA ops o st = some true ∧ ∃ g : AV → List Blk → Option Nat → Prop, opA P n0 o.op st.ev st.hp g ∧ ∀ v hp' kb, g v hp' kb → ordB P b0 n0 ops ms bls K r ((st.after hp' kb).put o.dst v)
    else ∃ v, yA P ops o st v ∧ (bls.getD k false = true → ∀ q, yA P ops o (st.after (st.hp.set b0 q) none) v) ∧ ordB P b0 n0 ops ms bls K r (st.put o.dst v)
def Ol (P : Program) (b0 : Nat) (n0 : Nat) (ops : List Oper) (ms bls : List Bool) (K : St → Prop) (ord : List Nat) (_t : Tok (ops, ord, K)) (st : St) : Prop := ordB P b0 n0 ops ms bls K ord st
section
variable {b0 : Nat} {n0 : Nat} {ops : List Oper} {ms bls : List Bool} {K : St → Prop} {k : Nat} {r : List Nat} {st : St} {t : Tok (ops, k :: r, K)} {o : Oper}
end
attribute [irreducible] Ol
end Go.Abs
/- The abstract layer, part ZJ: what a function makes beside blocks that it changes is told as lists that nobody writes. -/
set_option linter.unusedSimpArgs false
set_option linter.unusedVariables false
namespace Go.Abs
open Go
section
variable {P : Program}
theorem freeze_more {E E' : Env P} {hp0 hp new : List Blk} (hlen : hp0.length = hp.length) (H' : HRel E' (hp ++ new)) (F' : Fr E hp0 E' (hp ++ new)) (hf : ∀ q ∈ new, allBelow 0 q.els = true) (hflat : ∀ b ∈ hp, allBelow hp.length b.els = true)
    (d : Nat) (r0 : AV) (hb : below new.length r0 = true) (v : Value) (hv : RV E' (ren (fun i => i + hp.length) r0) v) :
    ∃ E2 : Env P, E2.w = E'.w ∧ RV E2 (view d new r0) v ∧ HRel E2 hp ∧ Fr E hp0 E2 hp := by
  have hlt : ∀ (b : Nat) blk, hp[b]? = some blk → b < hp.length ∧ (hp ++ new)[b]? = some blk := fun b blk h => by
    have := (List.getElem?_eq_some_iff.1 h).1
    exact ⟨this, by rw [List.getElem?_append_left this]; exact h⟩
  have hnew : ∀ (b : Nat) blk, new[b]? = some blk → (hp ++ new)[b + hp.length]? = some blk := fun b blk h => by
    rw [List.getElem?_append_right (by omega), show b + hp.length - hp.length = b from by omega]; exact h
  let En : Env P := E'.ren new.length fun i => i + hp.length
  have Hn : HRel En new := by
    refine ⟨rfl, fun b blk h => H'.wd _ blk (hnew b blk h), ?_, ?_, fun b blk h hl hF => H'.apart _ blk (hnew b blk h) hl hF, H'.old, H'.laid⟩
    · intro b blk h hl
      refine (H'.holds _ blk (hnew b blk h) hl).keepE rfl fun e he j x hx u h4 => ?_
      have hbe : below 0 e = true := by
        have := hf blk (List.mem_of_getElem? h)
        simp only [allBelow, List.all_eq_true] at this
        exact this e he
      obtain ⟨_, h5⟩ := ren_cells (π := fun b => b) (below_mono0 (N := 0) (fun b => b) e hbe).1
      obtain ⟨c', h6, h7⟩ := h5 j x hx
      rw [ren_id 0 hbe, hx] at h6
      cases h6
      exact (h7 h4).mono ⟨fun _ h => h, fun _ _ => rfl, Nat.zero_le _, fun _ hb => absurd hb (Nat.not_lt_zero _), fun _ hb => absurd hb (Nat.not_lt_zero _), fun _ => Nat.le_refl _⟩
    · intro b b' blk blk' h1 h2 h3 h4 h5
      have := H'.inj _ _ blk blk' (hnew _ _ h1) h2 (hnew _ _ h3) h4 h5
      omega
  let E2 : Env P := { E' with F := fun c => E'.F c ∨ ∃ b, Live new b ∧ E'.ρ (b + hp.length) = c, N := hp.length }
  have leN : (E'.ren hp.length fun b => b).le E2 := ⟨fun _ h => .inl h, fun _ _ => rfl, Nat.le_refl _, fun _ _ => rfl, fun _ _ => rfl, fun _ => Nat.le_refl _⟩
  have H2 : HRel E2 hp := by
    refine ⟨rfl, fun b blk h => H'.wd b blk (hlt b blk h).2, ?_, ?_, ?_, ?_, H'.laid.keep (fun c h => .inl h) (fun _ _ => rfl)⟩
    · intro b blk h hlv
      refine (H'.holds b blk (hlt b blk h).2 hlv).keepE rfl fun e he j x hx u h4 => ?_
      have hbe : below hp.length e = true := by
        have := hflat blk (List.mem_of_getElem? h)
        simp only [allBelow, List.all_eq_true] at this
        exact this e he
      obtain ⟨_, h5⟩ := ren_cells (π := fun b => b) hbe
      obtain ⟨c', h6, h7⟩ := h5 j x hx
      rw [ren_id _ hbe, hx] at h6
      cases h6
      exact (h7 h4).mono leN
    · intro b b' blk blk' h1 h2 h3 h4 h5
      exact H'.inj b b' blk blk' (hlt _ _ h1).2 h2 (hlt _ _ h3).2 h4 h5
    · intro b blk h hlv hF
      rcases hF with h1 | ⟨b', ⟨q, hq, hl⟩, h1⟩
      · exact H'.apart b blk (hlt b blk h).2 hlv h1
      · have := H'.inj b (b' + hp.length) blk q (hlt b blk h).2 hlv (hnew b' q hq) hl h1.symm
        have := (hlt b blk h).1
        omega
    · rintro c (h | ⟨b', ⟨q, hq, hl⟩, rfl⟩)
      · exact H'.old c h
      · exact (H'.holds _ q (hnew b' q hq) hl).lt
  have F2 : Fr E hp0 E2 hp :=
    { size := F'.size, os := F'.os, tape := F'.tape, output := F'.output, block := F'.block, len := Nat.le_of_eq hlen, ρ := F'.ρ, wd := F'.wd, csz := F'.csz
      F := fun c h => .inl (F'.F c h)
      F' := fun c hc => by
        rcases hc with h | ⟨b', ⟨q, hq, hl⟩, rfl⟩
        · exact F'.F' c h
        · rcases F'.live (b' + hp.length) ⟨q, hnew b' q hq, hl⟩ with ⟨h1, _⟩ | ⟨_, h2⟩
          · exact absurd h1 (by omega)
          · exact .inr h2
      live := fun b ⟨blk, h, hlv⟩ => F'.live b ⟨blk, (hlt b blk h).2, hlv⟩ }
  refine ⟨E2, rfl, ?_, H2, F2⟩
  have h1 := RV.unren (E := E') (N := new.length) (π := fun i => i + hp.length) hb hv
  have h2 := (view_sound Hn d r0).1 v h1
  refine h2.mono ⟨fun c hc => ?_, fun _ _ => rfl, Nat.zero_le _, fun _ hb => absurd hb (Nat.not_lt_zero _), fun _ hb => absurd hb (Nat.not_lt_zero _), fun _ => Nat.le_refl _⟩
  rcases hc with h | ⟨b, hl, rfl⟩
  · exact .inl h
  · exact .inr ⟨b, hl, rfl⟩

theorem CallA.freezeN {f : FuncId} {args : List AV} {hp0 : List Blk} {Q0 Q : AV → List Blk → Prop} (d : Nat) (h : CallA P f args hp0 Q0)
    (hq : ∀ r' hp', Q0 r' hp' → ∃ hp new r0, hp' = hp ++ new ∧ hp0.length = hp.length ∧ (∀ q ∈ new, allBelow 0 q.els = true) ∧ (∀ b ∈ hp, allBelow hp.length b.els = true) ∧ r' = ren (fun i => i + hp.length) r0 ∧ below new.length r0 = true ∧ Q (view d new r0) hp) : CallA P f args hp0 Q := by
  intro E vs H hl hrv
  refine (h E vs H hl hrv).mono ?_
  rintro v w' ⟨r', hp', E', rfl, q0, hv', H', F'⟩
  obtain ⟨hp, new, r0, rfl, hlen, hf, hflat, rfl, hb, hQ⟩ := hq r' hp' q0
  obtain ⟨E2, e1, e2, e3, e4⟩ := freeze_more hlen H' F' hf hflat d r0 hb v hv'
  exact ⟨_, hp, E2, e1, hQ, e2, e3, e4⟩
end
section
variable {P : Program} {b0 : Nat} {n0 : Nat} {ops : List Oper} {ms bls : List Bool} {K : St → Prop} {k : Nat} {r : List Nat} {st : St} {t : Tok (ops, k :: r, K)} {o : Oper}
end
end Go.Abs
/- The abstract layer, part ZK: at the head of a loop blocks of plain values may be told as lists that nobody writes any more, wherever they are named. -/
set_option linter.unusedSimpArgs false
set_option linter.unusedVariables false
namespace Go.Abs
open Go
def FrzC (new : List Blk) (N : Nat) (a b : AV) : Prop := b = .any ∨ (below N a = true ∧ b = a) ∨ ∃ d d' r0, a = ren (fun i => i + N) r0 ∧ below new.length r0 = true ∧ b = nilD d' (view d new r0)
def FrzV (new : List Blk) (N : Nat) (a b : AV) : Prop := FrzC new N a b ∨ ∃ l l2, a = .agg l ∧ b = .agg l2 ∧ l.length = l2.length ∧ ∀ (i : Nat) x y, l[i]? = some x → l2[i]? = some y → FrzC new N x y
structure FrzB (new : List Blk) (N : Nat) (q q2 : Blk) : Prop where
  map : 0 < q.w ∨ q2 = q
  ty : q2.ty = q.ty
  w : q2.w = q.w
  live : q2.live = q.live
  els : ∀ (i : Nat) e2, q2.els[i]? = some e2 → ∃ e, q.els[i]? = some e ∧ e.cells.length = e2.cells.length ∧ ∀ (j : Nat) x y, e.cells[j]? = some x → e2.cells[j]? = some y → FrzC new N x y
def FrzHp (new : List Blk) (N : Nat) : List Blk → List Blk → Prop
  | [], [] => True
  | q :: l, q2 :: l2 => FrzB new N q q2 ∧ FrzHp new N l l2
  | _, _ => False
def FrzTm (new : List Blk) (N : Nat) : List AV → List AV → Prop
  | [], [] => True
  | a :: l, b :: l2 => FrzV new N a b ∧ FrzTm new N l l2
  | _, _ => False
theorem FrzHp.get {new : List Blk} {N : Nat} : ∀ {l l2 : List Blk}, FrzHp new N l l2 → l2.length = l.length ∧ ∀ (i : Nat) q2, l2[i]? = some q2 → ∃ q, l[i]? = some q ∧ FrzB new N q q2
  | [], [], _ => ⟨rfl, by simp⟩
  | q :: l, q2 :: l2, h => by
    obtain ⟨h1, h2⟩ := FrzHp.get h.2
    refine ⟨by simp [h1], fun i q' hq => ?_⟩
    cases i with
    | zero => simp at hq; subst hq; exact ⟨q, rfl, h.1⟩
    | succ i => simpa using h2 i q' (by simpa using hq)
  | [], _ :: _, h => h.elim
  | _ :: _, [], h => h.elim
theorem FrzTm.get {new : List Blk} {N : Nat} : ∀ {l l2 : List AV}, FrzTm new N l l2 → l2.length = l.length ∧ ∀ (i : Nat) b, l2[i]? = some b → ∃ a, l[i]? = some a ∧ FrzV new N a b
  | [], [], _ => ⟨rfl, by simp⟩
  | q :: l, q2 :: l2, h => by
    obtain ⟨h1, h2⟩ := FrzTm.get h.2
    refine ⟨by simp [h1], fun i q' hq => ?_⟩
    cases i with
    | zero => simp at hq; subst hq; exact ⟨q, rfl, h.1⟩
    | succ i => simpa using h2 i q' (by simpa using hq)
  | [], _ :: _, h => h.elim
  | _ :: _, [], h => h.elim
theorem weak_freeze {n0 : Nat} {K K2 new : List Blk} {tm tm2 : List AV} (hn : n0 ≤ K.length) (hf : ∀ q ∈ new, allBelow 0 q.els = true) (hK : FrzHp new K.length K K2) (ht : FrzTm new K.length tm tm2) : Weak n0 ⟨tm, K ++ new⟩ ⟨tm2, K2⟩ := by
  intro P E0 hp0 E a hn0 hs
  have H := hs.hr
  have F := hs.fr
  obtain ⟨kl, kg⟩ := hK.get
  obtain ⟨tl, tg⟩ := ht.get
  have hlt : ∀ (b : Nat) blk, K[b]? = some blk → b < K.length ∧ (K ++ new)[b]? = some blk := fun b blk h => by
    have := (List.getElem?_eq_some_iff.1 h).1
    exact ⟨this, by rw [List.getElem?_append_left this]; exact h⟩
  have hnew : ∀ (b : Nat) blk, new[b]? = some blk → (K ++ new)[b + K.length]? = some blk := fun b blk h => by
    rw [List.getElem?_append_right (by omega), show b + K.length - K.length = b from by omega]; exact h
  let En : Env P := E.ren new.length fun i => i + K.length
  have Hn : HRel En new := by
    refine ⟨rfl, fun b blk h => H.wd _ blk (hnew b blk h), ?_, ?_, fun b blk h hl hF => H.apart _ blk (hnew b blk h) hl hF, H.old, H.laid⟩
    · intro b blk h hl
      refine (H.holds _ blk (hnew b blk h) hl).keepE rfl fun e he j x hx u h4 => ?_
      have hbe : below 0 e = true := by
        have := hf blk (List.mem_of_getElem? h)
        simp only [allBelow, List.all_eq_true] at this
        exact this e he
      obtain ⟨_, h5⟩ := ren_cells (π := fun b => b) (below_mono0 (N := 0) (fun b => b) e hbe).1
      obtain ⟨c', h6, h7⟩ := h5 j x hx
      rw [ren_id 0 hbe, hx] at h6
      cases h6
      exact (h7 h4).mono ⟨fun _ h => h, fun _ _ => rfl, Nat.zero_le _, fun _ hb => absurd hb (Nat.not_lt_zero _), fun _ hb => absurd hb (Nat.not_lt_zero _), fun _ => Nat.le_refl _⟩
    · intro b b' blk blk' h1 h2 h3 h4 h5
      have := H.inj _ _ blk blk' (hnew _ _ h1) h2 (hnew _ _ h3) h4 h5
      omega
  let E2 : Env P := { E with F := fun c => E.F c ∨ ∃ b, Live new b ∧ E.ρ (b + K.length) = c, N := K.length }
  have leN : (E.ren K.length fun b => b).le E2 := ⟨fun _ h => .inl h, fun _ _ => rfl, Nat.le_refl _, fun _ _ => rfl, fun _ _ => rfl, fun _ => Nat.le_refl _⟩
  have frzC : ∀ x y u, FrzC new K.length x y → RV E x u → RV E2 y u := by
    intro x y u h hr
    rcases h with rfl | ⟨hb, rfl⟩ | ⟨d, d', r0, rfl, hb, rfl⟩
    · exact .any _
    · have : RV (E.ren K.length fun b => b) y u := RV.unren hb (by rw [ren_id _ hb]; exact hr)
      exact this.mono leN
    · have h1 : RV En r0 u := RV.unren hb hr
      have h2 := (view_sound Hn d r0).1 u h1
      refine RV.nil d' (h2.mono ⟨fun c hc => ?_, fun _ _ => rfl, Nat.zero_le _, fun _ hb => absurd hb (Nat.not_lt_zero _), fun _ hb => absurd hb (Nat.not_lt_zero _), fun _ => Nat.le_refl _⟩)
      rcases hc with h | ⟨b, hl, rfl⟩
      · exact .inl h
      · exact .inr ⟨b, hl, rfl⟩
  have frzV : ∀ x y u, FrzV new K.length x y → RV E x u → RV E2 y u := by
    intro x y u h hr
    rcases h with h | ⟨l, l2, rfl, rfl, hl, hc⟩
    · exact frzC x y u h hr
    · cases hr with
      | agg _ vs hls hv =>
        refine .agg l2 vs (hl ▸ hls) fun i y u hy hu => ?_
        have hi : i < l.length := by rw [hl]; exact (List.getElem?_eq_some_iff.1 hy).1
        exact frzC _ y u (hc i l[i] y (List.getElem?_eq_getElem hi) hy) (hv i l[i] u (List.getElem?_eq_getElem hi) hu)
  have old : ∀ c, E2.F c → c < E.w.heap.size := by
    rintro c (h | ⟨b', ⟨q, hq, hl⟩, rfl⟩)
    · exact H.old c h
    · exact (H.holds _ q (hnew b' q hq) hl).lt
  have H2 : HRel E2 K2 := by
    refine ⟨kl.symm, fun b blk h => ?_, ?_, ?_, ?_, old, H.laid.keep (fun c h => .inl h) (fun _ _ => rfl)⟩
    · obtain ⟨q, hq, hB⟩ := kg b blk h
      rw [hB.w]
      exact H.wd b q (hlt b q hq).2
    · intro b blk h hlv
      obtain ⟨q, hq, hB⟩ := kg b blk h
      have hold := H.holds b q (hlt b q hq).2 (hB.live ▸ hlv)
      refine ⟨fun h0 => ?_, fun h0 => ?_⟩
      rotate_left
      · rcases hB.map with h3 | h3
        · rw [hB.w] at h0; omega
        · rw [h3] at h0 ⊢; exact hold.map h0
      obtain ⟨cs, h1, h2⟩ := hold.cells (hB.w ▸ h0)
      refine ⟨cs, by rw [hB.ty]; exact h1, fun i e2 he2 => ?_⟩
      obtain ⟨e, he, hl, hc⟩ := hB.els i e2 he2
      refine ⟨by rw [← hl, hB.w]; exact (h2 i e he).1, fun j y hy => ?_⟩
      have hj : j < e.cells.length := by rw [hl]; exact (List.getElem?_eq_some_iff.1 hy).1
      obtain ⟨u, h3, h4⟩ := (h2 i e he).2 j e.cells[j] (List.getElem?_eq_getElem hj)
      exact ⟨u, by rw [hB.w]; exact h3, frzC _ y u (hc j _ y (List.getElem?_eq_getElem hj) hy) h4⟩
    · intro b b' blk blk' h1 h2 h3 h4 h5
      obtain ⟨q, hq, hB⟩ := kg b blk h1
      obtain ⟨q', hq', hB'⟩ := kg b' blk' h3
      exact H.inj b b' q q' (hlt _ _ hq).2 (hB.live ▸ h2) (hlt _ _ hq').2 (hB'.live ▸ h4) h5
    · intro b blk h hlv hF
      obtain ⟨q, hq, hB⟩ := kg b blk h
      rcases hF with h1 | ⟨b', ⟨q', hq', hl⟩, h1⟩
      · exact H.apart b q (hlt b q hq).2 (hB.live ▸ hlv) h1
      · have := H.inj b (b' + K.length) q q' (hlt b q hq).2 (hB.live ▸ hlv) (hnew b' q' hq') hl h1.symm
        have := (hlt b q hq).1
        omega
  have F2 : Fr E0 hp0 E2 K2 :=
    { size := F.size, os := F.os, tape := F.tape, output := F.output, block := F.block, len := by rw [hn0, kl]; exact hn, ρ := F.ρ, wd := F.wd, csz := F.csz
      F := fun c h => .inl (F.F c h)
      F' := fun c hc => by
        rcases hc with h | ⟨b', ⟨q, hq, hl⟩, rfl⟩
        · exact F.F' c h
        · rcases F.live (b' + K.length) ⟨q, hnew b' q hq, hl⟩ with ⟨h1, _⟩ | ⟨_, h2⟩
          · exact absurd h1 (by omega)
          · exact .inr h2
      live := fun b ⟨blk, h, hlv⟩ => by
        obtain ⟨q, hq, hB⟩ := kg b blk h
        exact F.live b ⟨q, (hlt b q hq).2, hB.live ▸ hlv⟩ }
  exact ⟨E2, rfl, H2, F2, tl.trans hs.len, fun i v u h1 h2 => by
    obtain ⟨x, hx, hv⟩ := tg i v h1
    exact frzV x v u hv (hs.tm i x u hx h2), hs.df⟩
theorem Weak.and {n0 : Nat} {a b c : St} (h1 : Weak n0 a b) (h2 : Weak n0 b c) : Weak n0 a c := by
  intro P E0 hp0 E s hn hs
  obtain ⟨E1, e1, s1⟩ := h1 P E0 hp0 E s hn hs
  obtain ⟨E2, e2, s2⟩ := h2 P E0 hp0 E1 s hn s1
  exact ⟨E2, e2.trans e1, s2⟩
theorem frzTm_any {new : List Blk} {N : Nat} {a : AV} {l l2 : List AV} (h : FrzTm new N l l2) : FrzTm new N (a :: l) (.any :: l2) := ⟨.inl (.inl rfl), h⟩
theorem frzTm_keep {new : List Blk} {N : Nat} {a : AV} {l l2 : List AV} (hb : below N a = true) (h : FrzTm new N l l2) : FrzTm new N (a :: l) (a :: l2) := ⟨.inl (.inr (.inl ⟨hb, rfl⟩)), h⟩
theorem frzB_keep {new : List Blk} {N : Nat} {q : Blk} (hb : ∀ e ∈ q.els, ∀ c ∈ e.cells, below N c = true) : FrzB new N q q :=
  ⟨.inr rfl, rfl, rfl, rfl, fun i e h => ⟨e, h, rfl, fun j x y hx hy => by
    rw [hx] at hy
    cases hy
    exact .inr (.inl ⟨hb e (List.mem_of_getElem? h) x (List.mem_of_getElem? hx), rfl⟩)⟩⟩
end Go.Abs
/- The abstract layer, part ZL: a known block, told with its first elements alone. -/
namespace Go.Abs
open Go
variable {P : Program}

theorem cut_get {hp : List Blk} {b : Nat} {blk : Blk} (m : Nat) (hb : hp[b]? = some blk) {b' : Nat} {q : Blk} (h : (hp.set b { blk with els := blk.els.take m })[b']? = some q) :
    ∃ q0, hp[b']? = some q0 ∧ q0.w = q.w ∧ q0.live = q.live ∧ q0.ty = q.ty ∧ ∀ (i : Nat) e, q.els[i]? = some e → q0.els[i]? = some e := by
  by_cases hbb : b = b'
  · subst hbb
    rw [List.getElem?_set_self (List.getElem?_eq_some_iff.1 hb).1] at h
    simp only [Option.some.injEq] at h
    subst h
    refine ⟨blk, hb, rfl, rfl, rfl, fun i e he => ?_⟩
    have he' : (blk.els.take m)[i]? = some e := he
    rw [List.getElem?_take] at he'
    split at he'
    · exact he'
    · simp at he'
  · rw [List.getElem?_set_ne hbb] at h
    exact ⟨q, h, rfl, rfl, rfl, fun _ _ he => he⟩
theorem HRel.cut {E : Env P} {hp : List Blk} (H : HRel E hp) {b : Nat} {blk : Blk} (m : Nat) (hb : hp[b]? = some blk) (hw : 0 < blk.w) : HRel E (hp.set b { blk with els := blk.els.take m }) where
  N := by rw [List.length_set]; exact H.N
  wd := fun b' q h => by
    obtain ⟨q0, h1, h2, _⟩ := cut_get m hb h
    rw [H.wd b' q0 h1, h2]
  holds := fun b' q h hl => by
    obtain ⟨q0, h1, h2, h3, h4, h5⟩ := cut_get m hb h
    have hold := H.holds b' q0 h1 (by rw [h3]; exact hl)
    refine ⟨fun h0 => ?_, fun h0 => ?_⟩
    · obtain ⟨cs, g1, g2⟩ := hold.cells (h2 ▸ h0)
      exact ⟨cs, h4 ▸ g1, fun i e he => by rw [← h2]; exact g2 i e (h5 i e he)⟩
    · by_cases hbb : b = b'
      · subst hbb
        rw [hb] at h1
        cases h1
        omega
      · rw [List.getElem?_set_ne hbb, h1] at h
        cases h
        exact hold.map h0
  inj := fun b' b'' q q' h hl h' hl' he => by
    obtain ⟨q0, h1, _, h3, _⟩ := cut_get m hb h
    obtain ⟨q1, h1', _, h3', _⟩ := cut_get m hb h'
    exact H.inj b' b'' q0 q1 h1 (by rw [h3]; exact hl) h1' (by rw [h3']; exact hl') he
  apart := fun b' q h hl => by
    obtain ⟨q0, h1, _, h3, _⟩ := cut_get m hb h
    exact H.apart b' q0 h1 (by rw [h3]; exact hl)
  old := H.old
  laid := H.laid
theorem Fr.cut {E E0 : Env P} {hp0 hp : List Blk} (F : Fr E0 hp0 E hp) {b : Nat} {blk : Blk} (m : Nat) (hb : hp[b]? = some blk) : Fr E0 hp0 E (hp.set b { blk with els := blk.els.take m }) where
  size := F.size
  os := F.os
  tape := F.tape
  output := F.output
  block := F.block
  len := by rw [List.length_set]; exact F.len
  ρ := F.ρ
  wd := F.wd
  F := F.F
  F' := F.F'
  live := fun b' ⟨q, h, hl⟩ => by
    obtain ⟨q0, h1, _, h3, _⟩ := cut_get m hb h
    exact F.live b' ⟨q0, h1, by rw [h3]; exact hl⟩
  csz := F.csz
theorem PostR.cut {n0 : Nat} {r : AV} {hp : List Blk} {Q : AV → List Blk → Prop} (b m : Nat) {blk : Blk} (hb : hp[b]? = some blk) (hw0 : 0 < blk.w) (h : PostR n0 r (hp.set b { blk with els := blk.els.take m }) Q) : PostR n0 r hp Q := by
  obtain ⟨r2, hp2, hw, hq⟩ := h
  exact ⟨r2, hp2, fun P E0 hp0 E v hn H F hv => hw P E0 hp0 E v hn (H.cut m hb hw0) (F.cut m hb) hv, hq⟩
theorem Weak.cut {n0 : Nat} {tm : List AV} {hp : List Blk} {st2 : St} (b m : Nat) {blk : Blk} (hb : hp[b]? = some blk) (hw0 : 0 < blk.w) (h : Weak n0 ⟨tm, hp.set b { blk with els := blk.els.take m }⟩ st2) : Weak n0 ⟨tm, hp⟩ st2 := by
  intro P E0 hp0 E a hn hs
  exact h P E0 hp0 E a hn ⟨hs.hr.cut m hb hw0, hs.fr.cut m hb, hs.len, hs.tm, hs.df⟩
end Go.Abs
/- The abstract layer, part ZM: drawn regions in which appends and other operations that change memory float beside quiet operations that do not mind. -/
set_option linter.unusedSimpArgs false
set_option linter.unusedVariables false
namespace Go.Abs
open Go
variable {P : Program}
section
variable {P : Program}

def stepM (P : Program) (n0 : Nat) (ops : List Oper) (ms : List Nat) (bks : List (Option Nat)) (Hs Hw : List Blk → Prop) (i : Nat) (K : St → Prop) (st : St) : Prop :=
  match ops[i]? with
  | none => K st
  | some o => o.guard = none ∧ match ms.getD i 1 with
    | 0 | 3 | 5 => ∃ v, Yields P o st.ev st.hp v ∧ K (st.put o.dst v)
    | 4 => ∃ g : AV → List Blk → Option Nat → Prop, opA P n0 o.op st.ev st.hp g ∧ ∀ v hp' kb, g v hp' kb → (kb = none ∨ kb = bks.getD i none) ∧ Hw hp' ∧ K ((st.after hp' kb).put o.dst v)
    | 2 => ∃ g : AV → List Blk → Option Nat → Prop, opA P n0 o.op st.ev st.hp g ∧ ∀ v hp' kb, g v hp' kb → (kb = none ∨ kb = bks.getD i none) ∧ Hs hp' ∧ K ((st.after hp' kb).put o.dst v)
    | _ => ∃ k : AV → List Blk → Option Nat → Prop, opA P n0 o.op st.ev st.hp k ∧ ∀ v hp' kb, k v hp' kb → K ((st.after hp' kb).put o.dst v)
def anyM (P : Program) (n0 : Nat) (ops : List Oper) (ms : List Nat) (bks : List (Option Nat)) (Hs Hw : List Blk → Prop) (K : St → Prop) : Nat → Array Bool → St → Prop
  | 0, listed, st => Region.ready .any ops.toArray listed = [] ∧ K st
  | fuel + 1, listed, st =>
    (Region.ready .any ops.toArray listed = [] → K st) ∧ ∀ i ∈ Region.ready .any ops.toArray listed, stepM P n0 ops ms bks Hs Hw i (anyM P n0 ops ms bks Hs Hw K fuel (listed.setIfInBounds i true)) st

def boolM3 (ms : List Nat) : List Bool := ms.map fun m => m != 0 && m != 3 && m != 5
theorem boolM3_get (ms : List Nat) (i : Nat) : (boolM3 ms).getD i true = (ms.getD i 1 != 0 && ms.getD i 1 != 3 && ms.getD i 1 != 5) := by
  simp only [boolM3, List.getD_eq_getElem?_getD, List.getElem?_map]
  cases ms[i]? <;> rfl
theorem stepM_stepA {n0 : Nat} {ops : List Oper} {ms : List Nat} {bks : List (Option Nat)} {Hs Hw : List Blk → Prop} {i : Nat} {K K' : St → Prop} {st : St} (hK : ∀ st, K st → K' st) (h : stepM P n0 ops ms bks Hs Hw i K st) : stepA P n0 ops (boolM3 ms) i K' st := by
  unfold stepM at h
  unfold stepA
  cases ho : ops[i]? with
  | none => rw [ho] at h; exact hK _ h
  | some o =>
    rw [ho] at h
    obtain ⟨hg, h⟩ := h
    have hw : wantedA ops o st = some true := by simp [wantedA, hg]
    simp only [boolM3_get]
    split at h
    · rename_i h0
      rw [h0]
      obtain ⟨v, hy, hk⟩ := h
      simp only [bne_self_eq_false, Bool.false_and, Bool.false_eq_true, if_false]
      exact ⟨v, .inl ⟨hw, hy⟩, hK _ hk⟩
    · rename_i h0
      rw [h0]
      obtain ⟨v, hy, hk⟩ := h
      simp only [bne_self_eq_false, Bool.and_false, Bool.false_and, Bool.false_eq_true, if_false]
      exact ⟨v, .inl ⟨hw, hy⟩, hK _ hk⟩
    · rename_i h0
      rw [h0]
      obtain ⟨v, hy, hk⟩ := h
      simp only [bne_self_eq_false, Bool.and_false, Bool.false_eq_true, if_false]
      exact ⟨v, .inl ⟨hw, hy⟩, hK _ hk⟩
    · rename_i h0
      rw [h0]
      obtain ⟨g, hop, hk⟩ := h
      simp only [show ((4 : Nat) != 0 && (4 : Nat) != 3 && (4 : Nat) != 5) = true from rfl, if_true]
      exact .inl ⟨hw, g, hop, fun v hp' kb hv => hK _ (hk v hp' kb hv).2.2⟩
    · rename_i h0
      rw [h0]
      obtain ⟨g, hop, hk⟩ := h
      simp only [show ((2 : Nat) != 0 && (2 : Nat) != 3 && (2 : Nat) != 5) = true from rfl, if_true]
      exact .inl ⟨hw, g, hop, fun v hp' kb hv => hK _ (hk v hp' kb hv).2.2⟩
    · rename_i h0 h3 h5 h4 h2
      have : (ms.getD i 1 != 0 && ms.getD i 1 != 3 && ms.getD i 1 != 5) = true := by rw [bne_iff_ne.2 h0, bne_iff_ne.2 h3, bne_iff_ne.2 h5]; rfl
      rw [this]
      obtain ⟨k, hop, hk⟩ := h
      simp only [if_true]
      exact .inl ⟨hw, k, hop, fun v hp' kb hv => hK _ (hk v hp' kb hv)⟩
theorem anyM_anyA {n0 : Nat} {ops : List Oper} {ms : List Nat} {bks : List (Option Nat)} {Hs Hw : List Blk → Prop} {K : St → Prop} : ∀ (fuel : Nat) (listed : Array Bool) (st : St), anyM P n0 ops ms bks Hs Hw K fuel listed st → anyA P n0 ops (boolM3 ms) K fuel listed st
  | 0, listed, st, h => h
  | fuel + 1, listed, st, h => ⟨h.1, fun i hi => stepM_stepA (fun st' h' => anyM_anyA fuel _ st' h') (h.2 i hi)⟩

def FreeM (ops : List Oper) (ms : List Nat) (bks : List (Option Nat)) (fx : List Nat) (listed : Array Bool) (i : Nat) (oi : Oper) : Prop :=
  ∃ D : List Nat, Waits ops listed i D ∧ ∀ j oj, ops[j]? = some oj → j ≠ i → listed.getD j true = false → j ∉ D → (∀ e ∈ oj.after, Region.binds .any e = true → e.on ≠ i) →
    oi.apart ops.toArray oj = true ∧ ((ms.getD j 1 = 0 ∨ ms.getD j 1 = 3 ∨ ms.getD j 1 = 5) ∨ ((ms.getD i 1 ≠ 3 ∧ ms.getD j 1 = 2 ∨ ms.getD i 1 = 5 ∧ ms.getD j 1 = 4) ∧ ∀ b, bks.getD j none = some b → b ∈ fx))

def Fixed (fx : List Nat) (v : AV) : Prop := ∀ b ∈ fx, kill b v = v
theorem getD_map_kill (b : Nat) (l : List AV) (t : Nat) : (l.map (kill b)).getD t .any = kill b (l.getD t .any) := by
  simp only [List.getD_eq_getElem?_getD, List.getElem?_map]
  cases l[t]? <;> rfl
theorem St.ev_after_fixed (st : St) (hp : List Blk) {kb : Option Nat} {x : Operand} (h : ∀ b, kb = some b → kill b (st.ev x) = st.ev x) : (st.after hp kb).ev x = st.ev x := by
  cases kb with
  | none => exact St.ev_after st hp x
  | some b =>
    cases x with
    | tmp t =>
      show (st.tm.map (kill b)).getD t .any = _
      rw [getD_map_kill]
      exact h b rfl
    | _ => rfl
theorem put_after_fixed (st : St) (hp : List Blk) (kb : Option Nat) (d : Option Tmp) {v : AV} (h : ∀ b, kb = some b → kill b v = v) : (st.put d v).after hp kb = (st.after hp kb).put d v := by
  cases kb with
  | none => exact put_after st hp d v
  | some b =>
    cases d with
    | none => rfl
    | some t =>
      simp only [St.put, St.after, List.map_set]
      rw [h b rfl]
theorem after_hpM (st : St) (hp : List Blk) (kb : Option Nat) : (st.after hp kb).hp = hp := by cases kb <;> rfl

theorem anyM_first {n0 : Nat} {ops : List Oper} {ms : List Nat} {bks : List (Option Nat)} {fx : List Nat} {Hs Hw : List Blk → Prop} {K : St → Prop} {i : Nat} {oi : Oper} {v : AV} (hi : ops[i]? = some oi) (hm : ms.getD i 1 = 0 ∨ ms.getD i 1 = 3 ∨ ms.getD i 1 = 5) (hgi : oi.guard = none) (hv : Fixed fx v) :
    ∀ (fuel : Nat) (listed : Array Bool) (st : St), FreeM ops ms bks fx listed i oi → i ∈ Region.ready .any ops.toArray listed → (∀ hp, (hp = st.hp ∨ (ms.getD i 1 ≠ 3 ∧ Hs hp) ∨ (ms.getD i 1 = 5 ∧ Hw hp)) → Yields P oi st.ev hp v) → (∀ x ∈ oi.op.operands, Fixed fx (st.ev x)) →
      anyM P n0 ops ms bks Hs Hw K fuel (listed.setIfInBounds i true) (st.put oi.dst v) → anyM P n0 ops ms bks Hs Hw K (fuel + 1) listed st := by
  have self : ∀ (fuel : Nat) (listed : Array Bool) (st : St), Yields P oi st.ev st.hp v → anyM P n0 ops ms bks Hs Hw K fuel (listed.setIfInBounds i true) (st.put oi.dst v) → stepM P n0 ops ms bks Hs Hw i (anyM P n0 ops ms bks Hs Hw K fuel (listed.setIfInBounds i true)) st := by
    intro fuel listed st hy H
    unfold stepM
    simp only [hi]
    rcases hm with hm | hm | hm <;> rw [hm] <;> exact ⟨hgi, v, hy, H⟩
  intro fuel
  induction fuel with
  | zero =>
    intro listed st _ hr hy hx H
    refine ⟨fun h => (by rw [h] at hr; cases hr), fun j hj => ?_⟩
    by_cases hji : j = i
    · subst hji; exact self 0 listed st (hy _ (.inl rfl)) H
    · have := ready_mono hj hji
      rw [H.1] at this
      cases this
  | succ fuel ih =>
    intro listed st hfree hr hy hx H
    refine ⟨fun h => (by rw [h] at hr; cases hr), fun j hj => ?_⟩
    by_cases hji : j = i
    · subst hji; exact self _ listed st (hy _ (.inl rfl)) H
    · have h1 := H.2 j (ready_mono hj hji)
      obtain ⟨hjun, oj, hoj, hall⟩ := mem_ready.1 hj
      have hoj' : ops[j]? = some oj := by simpa using hoj
      have hnot : ∀ e ∈ oj.after, Region.binds .any e = true → e.on ≠ i := fun e he hb heq => by
        have h1 := hall e he hb
        have h0 := (mem_ready.1 hr).1
        rw [heq] at h1
        rcases Nat.lt_or_ge i listed.size with h' | h'
        · simp [h'] at h0 h1; rw [h0] at h1; cases h1
        · simp [Array.getElem?_eq_none h'] at h1
      obtain ⟨D, hwait, hfree⟩ := hfree
      have hjD : j ∉ D := fun hD => by
        obtain ⟨_, oj', hoj'', e, he, hb, hc⟩ := hwait j hD
        have : oj' = oj := by rw [hoj'] at hoj''; cases hoj''; rfl
        subst this
        rcases hc with hc | hc
        · exact hnot e he hb hc
        · have h1 := hall e he hb
          have h0 := (hwait e.on hc).1
          rcases Nat.lt_or_ge e.on listed.size with h' | h'
          · simp [h'] at h0 h1; rw [h0] at h1; cases h1
          · simp [Array.getElem?_eq_none h'] at h1
      obtain ⟨hap, hmj⟩ := hfree j oj hoj' hji hjun hjD hnot
      obtain ⟨a1, a2, a3⟩ := Oper.apart_spec hap
      have hfree' : FreeM ops ms bks fx (listed.setIfInBounds j true) i oi := ⟨D, fun d hd => by
        have hne : j ≠ d := fun h => hjD (h ▸ hd)
        obtain ⟨w1, w2⟩ := hwait d hd
        exact ⟨by rw [getD_set_ne true hne]; exact w1, w2⟩, fun k ok hk hki hun hkD hno => by
        refine hfree k ok hk hki ?_ hkD hno
        by_cases hjk : j = k
        · subst hjk; exact hjun
        · rw [getD_set_ne true hjk] at hun; exact hun⟩
      unfold stepM at h1 ⊢
      simp only [hoj'] at h1 ⊢
      obtain ⟨hgj, h1⟩ := h1
      refine ⟨hgj, ?_⟩
      have evj : ∀ x ∈ oj.op.operands, (st.put oi.dst v).ev x = st.ev x := ev_apart (ops := ops) a1
      rcases hmj with hmj | ⟨hmj, hbk⟩
      · have h1' : ∃ u, Yields P oj (st.put oi.dst v).ev (st.put oi.dst v).hp u ∧ anyM P n0 ops ms bks Hs Hw K fuel ((listed.setIfInBounds i true).setIfInBounds j true) ((st.put oi.dst v).put oj.dst u) := by
          rcases hmj with hmj | hmj | hmj <;> simp only [hmj] at h1 <;> exact h1
        suffices h2 : ∃ u, Yields P oj st.ev st.hp u ∧ anyM P n0 ops ms bks Hs Hw K (fuel + 1) (listed.setIfInBounds j true) (st.put oj.dst u) by
          rcases hmj with hmj | hmj | hmj <;> simp only [hmj] <;> exact h2
        clear h1
        have h1 := h1'
        obtain ⟨u, hu, hK⟩ := h1
        rw [put_hp] at hu
        refine ⟨u, hu.congr evj, ?_⟩
        have ex : ∀ x ∈ oi.op.operands, (st.put oj.dst u).ev x = st.ev x := fun x hx' => ev_apart (ops := ops) a3 x hx'
        refine ih (listed.setIfInBounds j true) (st.put oj.dst u) hfree' (ready_mono hr (Ne.symm hji)) (fun hp hh => (hy hp (by rw [put_hp] at hh; exact hh)).congr fun x hx' => (ex x hx').symm) (fun x hx' => by rw [ex x hx']; exact hx x hx') ?_
        rw [Array.setIfInBounds_comm _ _ hji, St.put_comm st u v (fun d hd he => a2 d he hd)]
        exact hK
      · have fin : ∀ (u : AV) (hp' : List Blk) (kb : Option Nat), (kb = none ∨ kb = bks.getD j none) → ((ms.getD i 1 ≠ 3 ∧ Hs hp') ∨ (ms.getD i 1 = 5 ∧ Hw hp')) → anyM P n0 ops ms bks Hs Hw K fuel ((listed.setIfInBounds i true).setIfInBounds j true) (((st.put oi.dst v).after hp' kb).put oj.dst u) → anyM P n0 ops ms bks Hs Hw K (fuel + 1) (listed.setIfInBounds j true) ((st.after hp' kb).put oj.dst u) := by
          intro u hp' kb hkb hh hK
          have hkf : ∀ w, Fixed fx w → ∀ b, kb = some b → kill b w = w := fun w hw b hb => by
            rcases hkb with h | h
            · rw [h] at hb; cases hb
            · exact hw b (hbk b (by rw [← h]; exact hb))
          have ex : ∀ x ∈ oi.op.operands, ((st.after hp' kb).put oj.dst u).ev x = st.ev x := fun x hx' => by
            rw [ev_apart (ops := ops) a3 x hx']
            exact St.ev_after_fixed st hp' (hkf _ (hx x hx'))
          refine ih (listed.setIfInBounds j true) ((st.after hp' kb).put oj.dst u) hfree' (ready_mono hr (Ne.symm hji)) (fun hp hh' => (hy hp (.inr (by
            rcases hh' with h | h
            · rw [h, put_hp, after_hpM]; exact hh
            · exact h))).congr fun x hx' => (ex x hx').symm) (fun x hx' => by rw [ex x hx']; exact hx x hx') ?_
          rw [Array.setIfInBounds_comm _ _ hji, St.put_comm _ u v (fun d hd he => a2 d he hd), ← put_after_fixed st hp' kb oi.dst (hkf _ hv)]
          exact hK
        rcases hmj with ⟨hm3, hmj⟩ | ⟨hm5, hmj⟩
        · simp only [hmj] at h1 ⊢
          obtain ⟨g, hop, hK⟩ := h1
          rw [put_hp] at hop
          refine ⟨g, opA_congr evj hop, fun u hp' kb hq => ?_⟩
          obtain ⟨hkb, hh, hK⟩ := hK u hp' kb hq
          exact ⟨hkb, hh, fin u hp' kb hkb (.inl ⟨hm3, hh⟩) hK⟩
        · simp only [hmj] at h1 ⊢
          obtain ⟨g, hop, hK⟩ := h1
          rw [put_hp] at hop
          refine ⟨g, opA_congr evj hop, fun u hp' kb hq => ?_⟩
          obtain ⟨hkb, hw, hK⟩ := hK u hp' kb hq
          exact ⟨hkb, hw, fin u hp' kb hkb (.inr ⟨hm5, hw⟩) hK⟩

def freeMB (ops : Array Oper) (ms : List Nat) (bks : List (Option Nat)) (fx : List Nat) (listed : Array Bool) (k : Nat) : Bool :=
  match ops[k]? with
  | none => false
  | some o => lateOk ops listed k (lateOf ops listed k) && (List.range ops.size).all fun j =>
    j == k || listed.getD j true || (lateOf ops listed k).contains j ||
    match ops[j]? with
    | none => true
    | some oj => (oj.after.any fun e => Region.binds .any e && e.on == k) || (o.apart ops oj && ((ms.getD j 1 == 0 || (ms.getD j 1 == 3 || ms.getD j 1 == 5)) || ((ms.getD k 1 != 3 && ms.getD j 1 == 2 || ms.getD k 1 == 5 && ms.getD j 1 == 4) && match bks.getD j none with
      | none => true
      | some b => fx.contains b)))
theorem freeMB_spec {ops : List Oper} {ms : List Nat} {bks : List (Option Nat)} {fx : List Nat} {listed : Array Bool} {k : Nat} {o : Oper} (hk : ops[k]? = some o) (h : freeMB ops.toArray ms bks fx listed k = true) : FreeM ops ms bks fx listed k o := by
  unfold freeMB at h
  have hk' : ops.toArray[k]? = some o := by simpa using hk
  rw [hk'] at h
  simp only [Bool.and_eq_true] at h
  refine ⟨_, lateOk_spec h.1, ?_⟩
  have h := h.2
  intro j oj hoj hjk hun hD hno
  simp only [List.all_eq_true, List.mem_range] at h
  have hj : j < ops.toArray.size := by
    have := (List.getElem?_eq_some_iff.1 hoj).1
    simpa using this
  have h1 := h j hj
  have hoj' : ops.toArray[j]? = some oj := by simpa using hoj
  rw [hoj', hun] at h1
  have hjk' : (j == k) = false := by simpa using hjk
  have hD' : (lateOf ops.toArray listed k).contains j = false := by simpa using hD
  rw [hjk', hD'] at h1
  simp only [Bool.false_or, Bool.or_eq_true, Bool.and_eq_true, beq_iff_eq, bne_iff_ne] at h1
  rcases h1 with h1 | ⟨h1, h2⟩
  · exfalso
    rw [Array.any_eq_true] at h1
    obtain ⟨m, hm, he⟩ := h1
    simp only [Bool.and_eq_true, beq_iff_eq] at he
    exact hno _ (Array.getElem_mem hm) he.1 he.2
  · refine ⟨h1, h2.imp id fun ⟨h3, h4⟩ => ⟨h3, fun b hb => ?_⟩⟩
    rw [hb] at h4
    simpa using h4

def ordOkM (ops : Array Oper) (ms : List Nat) (bks : List (Option Nat)) (fx : List (List Nat)) : List Nat → Array Bool → Bool
  | [], listed => (Region.ready .any ops listed).isEmpty
  | k :: r, listed => (if ms.getD k 1 == 0 || (ms.getD k 1 == 3 || ms.getD k 1 == 5) then (Region.ready .any ops listed).contains k && freeMB ops ms bks (fx.getD k []) listed k else Region.ready .any ops listed == [k]) && ordOkM ops ms bks fx r (listed.setIfInBounds k true)
def ordM (P : Program) (n0 : Nat) (ops : List Oper) (ms : List Nat) (bks : List (Option Nat)) (fx : List (List Nat)) (Hs Hw : List Blk → Prop) (K : St → Prop) : List Nat → St → Prop
  | [], st => K st
  | k :: r, st => ∃ o, ops[k]? = some o ∧ o.guard = none ∧ match ms.getD k 1 with
    | 0 => ∃ v, Hs st.hp ∧ (∀ hp, Hs hp → Yields P o st.ev hp v) ∧ (Fixed (fx.getD k []) v ∧ ∀ x ∈ o.op.operands, Fixed (fx.getD k []) (st.ev x)) ∧ ordM P n0 ops ms bks fx Hs Hw K r (st.put o.dst v)
    | 3 => ∃ v, Yields P o st.ev st.hp v ∧ fx.getD k [] = [] ∧ ordM P n0 ops ms bks fx Hs Hw K r (st.put o.dst v)
    | 5 => ∃ v, Hw st.hp ∧ (∀ hp, Hw hp → Yields P o st.ev hp v) ∧ (Fixed (fx.getD k []) v ∧ ∀ x ∈ o.op.operands, Fixed (fx.getD k []) (st.ev x)) ∧ ordM P n0 ops ms bks fx Hs Hw K r (st.put o.dst v)
    | 4 => ∃ g : AV → List Blk → Option Nat → Prop, opA P n0 o.op st.ev st.hp g ∧ ∀ v hp' kb, g v hp' kb → (kb = none ∨ kb = bks.getD k none) ∧ Hw hp' ∧ ordM P n0 ops ms bks fx Hs Hw K r ((st.after hp' kb).put o.dst v)
    | 2 => ∃ g : AV → List Blk → Option Nat → Prop, opA P n0 o.op st.ev st.hp g ∧ ∀ v hp' kb, g v hp' kb → (kb = none ∨ kb = bks.getD k none) ∧ Hs hp' ∧ ordM P n0 ops ms bks fx Hs Hw K r ((st.after hp' kb).put o.dst v)
    | _ => ∃ g : AV → List Blk → Option Nat → Prop, opA P n0 o.op st.ev st.hp g ∧ ∀ v hp' kb, g v hp' kb → ordM P n0 ops ms bks fx Hs Hw K r ((st.after hp' kb).put o.dst v)
theorem anyM_ord {n0 : Nat} {ops : List Oper} {ms : List Nat} {bks : List (Option Nat)} {fx : List (List Nat)} {Hs Hw : List Blk → Prop} {K : St → Prop} (hsw : ∀ hp, Hs hp → Hw hp) : ∀ (ord : List Nat) (listed : Array Bool) (st : St), ordOkM ops.toArray ms bks fx ord listed = true → ordM P n0 ops ms bks fx Hs Hw K ord st → anyM P n0 ops ms bks Hs Hw K ord.length listed st
  | [], listed, st, hB, h => ⟨by simpa [ordOkM] using hB, h⟩
  | k :: r, listed, st, hB, h => by
    obtain ⟨o, ho, hg, h⟩ := h
    simp only [ordOkM, Bool.and_eq_true] at hB
    obtain ⟨hB1, hB2⟩ := hB
    split at h
    · rename_i hm
      obtain ⟨v, hh, hy, ⟨hv, hx⟩, hK⟩ := h
      rw [hm] at hB1
      simp only [beq_self_eq_true, Bool.true_or, if_true, Bool.and_eq_true] at hB1
      exact anyM_first ho (.inl hm) hg hv r.length listed st (freeMB_spec ho hB1.2) (by simpa using hB1.1) (fun hp h => hy hp (by rcases h with h | h | h; exact h ▸ hh; exact h.2; rw [hm] at h; cases h.1)) hx (anyM_ord hsw r _ _ hB2 hK)
    · rename_i hm
      obtain ⟨v, hy, hfx, hK⟩ := h
      rw [hm] at hB1
      simp only [beq_self_eq_true, Bool.true_or, Bool.or_true, if_true, Bool.and_eq_true] at hB1
      have hF := freeMB_spec ho hB1.2
      rw [hfx] at hF
      exact anyM_first ho (.inr (.inl hm)) hg (fun b hb => by cases hb) r.length listed st hF (by simpa using hB1.1) (fun hp h => by rcases h with h | h | h; exact h ▸ hy; exact absurd hm h.1; rw [hm] at h; cases h.1) (fun x _ b hb => by cases hb) (anyM_ord hsw r _ _ hB2 hK)
    · rename_i hm
      obtain ⟨v, hw, hy, ⟨hv, hx⟩, hK⟩ := h
      rw [hm] at hB1
      simp only [beq_self_eq_true, Bool.or_true, if_true, Bool.and_eq_true] at hB1
      exact anyM_first ho (.inr (.inr hm)) hg hv r.length listed st (freeMB_spec ho hB1.2) (by simpa using hB1.1) (fun hp h => hy hp (by rcases h with h | h | h; exact h ▸ hw; exact hsw _ h.2; exact h.2)) hx (anyM_ord hsw r _ _ hB2 hK)
    · rename_i hm
      obtain ⟨g, hop, hK⟩ := h
      rw [hm] at hB1
      simp only [show ((4 : Nat) == 0 || ((4 : Nat) == 3 || (4 : Nat) == 5)) = false from rfl, Bool.false_eq_true, if_false, beq_iff_eq] at hB1
      refine ⟨fun h => (by rw [hB1] at h; cases h), fun i hi => ?_⟩
      rw [hB1] at hi
      have : i = k := by simpa using hi
      subst this
      unfold stepM
      simp only [ho, hm]
      exact ⟨hg, g, hop, fun v hp' kb hq => ⟨(hK v hp' kb hq).1, (hK v hp' kb hq).2.1, anyM_ord hsw r _ _ hB2 (hK v hp' kb hq).2.2⟩⟩
    · rename_i hm
      obtain ⟨g, hop, hK⟩ := h
      rw [hm] at hB1
      simp only [show ((2 : Nat) == 0 || ((2 : Nat) == 3 || (2 : Nat) == 5)) = false from rfl, Bool.false_eq_true, if_false, beq_iff_eq] at hB1
      refine ⟨fun h => (by rw [hB1] at h; cases h), fun i hi => ?_⟩
      rw [hB1] at hi
      have : i = k := by simpa using hi
      subst this
      unfold stepM
      simp only [ho, hm]
      exact ⟨hg, g, hop, fun v hp' kb hq => ⟨(hK v hp' kb hq).1, (hK v hp' kb hq).2.1, anyM_ord hsw r _ _ hB2 (hK v hp' kb hq).2.2⟩⟩
    · rename_i hm hm3 hm5 hm4 hm2
      obtain ⟨g, hop, hK⟩ := h
      have hm' : (ms.getD k 1 == 0 || (ms.getD k 1 == 3 || ms.getD k 1 == 5)) = false := by rw [beq_false_of_ne hm, beq_false_of_ne hm3, beq_false_of_ne hm5]; rfl
      rw [hm'] at hB1
      simp only [Bool.false_eq_true, if_false, beq_iff_eq] at hB1
      refine ⟨fun h => (by rw [hB1] at h; cases h), fun i hi => ?_⟩
      rw [hB1] at hi
      have : i = k := by simpa using hi
      subst this
      unfold stepM
      simp only [ho]
      refine ⟨hg, ?_⟩
      exact ⟨g, hop, fun v hp' kb hv => anyM_ord hsw r _ _ hB2 (hK v hp' kb hv)⟩

def Om (P : Program) (n0 : Nat) (ops : List Oper) (ms : List Nat) (bks : List (Option Nat)) (fx : List (List Nat)) (Hs Hw : List Blk → Prop) (K : St → Prop) (ord : List Nat) (_t : Tok (ops, ord, K)) (st : St) : Prop := ordM P n0 ops ms bks fx Hs Hw K ord st
theorem go_float2 (hm : P.follows .mixedOrders = true) {n0 : Nat} {id : Nat} {ops : Array Oper} {Q : Ex → St → Prop} {st : St} {t} (Hs Hw : List Blk → Prop) (ord : List Nat) (ms : List Nat) (bks : List (Option Nat)) (fx : List (List Nat)) (hsw : ∀ hp, Hs hp → Hw hp)
    (hok : (ord.length == ops.size && ordOkM ops ms bks fx ord (Array.replicate ops.size false)) = true) (h : Om P n0 ops.toList ms bks fx Hs Hw (Q .normal) ord .mk st) : Lp P n0 (.region id ops true) Q t st := by
  delta Lp
  simp only [Bool.and_eq_true, beq_iff_eq] at hok
  intro E0 hp0 E a hn hs
  subst hn
  have h1 := anyM_anyA _ _ _ (anyM_ord hsw (P := P) (n0 := hp0.length) (ops := ops.toList) (ms := ms) (bks := bks) (fx := fx) (Hs := Hs) (Hw := Hw) (K := Q .normal) ord (Array.replicate ops.size false) st (by simpa using hok.2) h)
  rw [hok.1] at h1
  refine wp_region_any hm ?_
  have hs' : SR E0 hp0 (E.with { E.w with drawn := E.w.drawn + 1 }) st a := ⟨hs.hr.with (Same.drew _ _), hs.fr.with (Same.drew _ _), hs.len, fun i v u a1 a2 => (hs.tm i v u a1 a2).mono (Env.le_with (Same.drew _ _)), hs.df⟩
  have h2 := anyA_sound (P := P) (Q := liftQ E0 hp0 Q) (fun E st a hs hk => ⟨.normal, st, E, rfl, rfl, hs, hk⟩) _ _ _ st a hs' h1
  rw [show ops.toList.toArray = ops from by simp] at h2
  exact h2

theorem go_float (hm : P.follows .mixedOrders = true) {n0 : Nat} {id : Nat} {ops : Array Oper} {Q : Ex → St → Prop} {st : St} {t} (Hs : List Blk → Prop) (ord : List Nat) (ms : List Nat) (bks : List (Option Nat)) (fx : List (List Nat))
    (hok : (ord.length == ops.size && ordOkM ops ms bks fx ord (Array.replicate ops.size false)) = true) (h : Om P n0 ops.toList ms bks fx Hs (fun _ => True) (Q .normal) ord .mk st) : Lp P n0 (.region id ops true) Q t st :=
  go_float2 hm Hs (fun _ => True) ord ms bks fx (fun _ _ => trivial) hok h

section
variable {n0 : Nat} {ops : List Oper} {ms : List Nat} {bks : List (Option Nat)} {fx : List (List Nat)} {Hs Hw : List Blk → Prop} {K : St → Prop} {k : Nat} {r : List Nat} {st : St} {t : Tok (ops, k :: r, K)} {o : Oper}
theorem om_nil {t : Tok (ops, ([] : List Nat), K)} (h : K st) : Om P n0 ops ms bks fx Hs Hw K [] t st := h
theorem om_quiet (ho : ops[k]? = some o) (hg : o.guard = none) (hm : ms.getD k 1 = 0) (hh : Hs st.hp) {v : AV} (hq : ∀ hp, Hs hp → quietA P o.op st.ev hp (fun v' => v' = v)) (hf : Fixed (fx.getD k []) v ∧ ∀ x ∈ o.op.operands, Fixed (fx.getD k []) (st.ev x)) (h : Om P n0 ops ms bks fx Hs Hw K r .mk (st.put o.dst v)) : Om P n0 ops ms bks fx Hs Hw K (k :: r) t st :=
  ⟨o, ho, hg, by
    rw [hm]
    refine ⟨v, hh, fun hp hp' => ?_, hf, h⟩
    obtain ⟨v', h1, h2⟩ := Yields.quiet (hq hp hp')
    subst h1
    exact h2⟩
theorem om_calm (ho : ops[k]? = some o) (hg : o.guard = none) (hm : ms.getD k 1 = 3) (hx : fx.getD k [] = []) (h : quietA P o.op st.ev st.hp (fun v => Om P n0 ops ms bks fx Hs Hw K r .mk (st.put o.dst v))) : Om P n0 ops ms bks fx Hs Hw K (k :: r) t st :=
  ⟨o, ho, hg, by
    rw [hm]
    obtain ⟨v, h1, h2⟩ := Yields.quiet h
    exact ⟨v, h2, hx, h1⟩⟩
theorem om_calmF (ho : ops[k]? = some o) (hg : o.guard = none) (hm : ms.getD k 1 = 3) (hx : fx.getD k [] = []) (q : Blk) (d : Nat) (r0 : AV) (hl : q.live = true) (hf : allBelow 0 q.els = true) (hflat : ∀ b ∈ st.hp, allBelow st.hp.length b.els = true) (hb : below 1 r0 = true)
    (hop : opA P st.hp.length o.op st.ev st.hp (Cn (fun v hp' kb => v = ren (fun i => [st.hp.length].getD i 0) r0 ∧ hp' = st.hp ++ [q] ∧ kb = none) .mk)) (h : Om P n0 ops ms bks fx Hs Hw K r .mk (st.put o.dst (view d [q] r0))) : Om P n0 ops ms bks fx Hs Hw K (k :: r) t st :=
  ⟨o, ho, hg, by rw [hm]; exact ⟨_, Yields.fresh q hl hf hflat d r0 hb (by rw [Cn_eq] at hop; exact hop), hx, h⟩⟩
theorem om_still (ho : ops[k]? = some o) (hg : o.guard = none) (hm : ms.getD k 1 = 0) (hx : fx.getD k [] = []) (hh : Hs st.hp) {v : AV} (hq : ∀ hp, Hs hp → quietA P o.op st.ev hp (fun v' => v' = v)) (h : Om P n0 ops ms bks fx Hs Hw K r .mk (st.put o.dst v)) : Om P n0 ops ms bks fx Hs Hw K (k :: r) t st :=
  om_quiet ho hg hm hh hq (by rw [hx]; exact ⟨fun b hb => (by cases hb), fun x _ b hb => (by cases hb)⟩) h
theorem om_fresh (ho : ops[k]? = some o) (hg : o.guard = none) (hm : ms.getD k 1 = 0) (hh : Hs st.hp) (q : Blk) (d : Nat) (r0 : AV) (hl : q.live = true) (hf : allBelow 0 q.els = true) (hb : below 1 r0 = true) (hflat : ∀ hp, Hs hp → ∀ b ∈ hp, allBelow hp.length b.els = true)
    (hop : ∀ hp, Hs hp → opA P hp.length o.op st.ev hp (Cn (fun v hp' kb => v = ren (fun i => [hp.length].getD i 0) r0 ∧ hp' = hp ++ [q] ∧ kb = none) .mk))
    (hfx : Fixed (fx.getD k []) (view d [q] r0) ∧ ∀ x ∈ o.op.operands, Fixed (fx.getD k []) (st.ev x)) (h : Om P n0 ops ms bks fx Hs Hw K r .mk (st.put o.dst (view d [q] r0))) : Om P n0 ops ms bks fx Hs Hw K (k :: r) t st :=
  ⟨o, ho, hg, by
    rw [hm]
    exact ⟨_, hh, fun hp hp' => Yields.fresh q hl hf (hflat hp hp') d r0 hb (by have := hop hp hp'; rw [Cn_eq] at this; exact this), hfx, h⟩⟩
theorem om_float (ho : ops[k]? = some o) (hg : o.guard = none) (hm : ms.getD k 1 = 2) (h : opA P n0 o.op st.ev st.hp (Cn (fun v hp' kb => (kb = none ∨ kb = bks.getD k none) ∧ Hs hp' ∧ Om P n0 ops ms bks fx Hs Hw K r .mk ((st.after hp' kb).put o.dst v)) .mk)) : Om P n0 ops ms bks fx Hs Hw K (k :: r) t st :=
  ⟨o, ho, hg, by rw [hm]; exact ⟨_, h, fun v hp' kb hv => by rw [Cn_go] at hv; exact hv⟩⟩
theorem om_blind (ho : ops[k]? = some o) (hg : o.guard = none) (hm : ms.getD k 1 = 5) {v : AV} (hq : ∀ hp, quietA P o.op st.ev hp (fun v' => v' = v)) (hf : Fixed (fx.getD k []) v ∧ ∀ x ∈ o.op.operands, Fixed (fx.getD k []) (st.ev x)) (h : Om P n0 ops ms bks fx Hs (fun _ => True) K r .mk (st.put o.dst v)) : Om P n0 ops ms bks fx Hs (fun _ => True) K (k :: r) t st :=
  ⟨o, ho, hg, by
    rw [hm]
    refine ⟨v, trivial, fun hp _ => ?_, hf, h⟩
    obtain ⟨v', h1, h2⟩ := Yields.quiet (hq hp)
    subst h1
    exact h2⟩
theorem om_free (ho : ops[k]? = some o) (hg : o.guard = none) (hm : ms.getD k 1 = 4) (h : opA P n0 o.op st.ev st.hp (Cn (fun v hp' kb => (kb = none ∨ kb = bks.getD k none) ∧ Om P n0 ops ms bks fx Hs (fun _ => True) K r .mk ((st.after hp' kb).put o.dst v)) .mk)) : Om P n0 ops ms bks fx Hs (fun _ => True) K (k :: r) t st :=
  ⟨o, ho, hg, by rw [hm]; exact ⟨_, h, fun v hp' kb hv => by rw [Cn_go] at hv; exact ⟨hv.1, trivial, hv.2⟩⟩⟩
theorem om_one (ho : ops[k]? = some o) (hg : o.guard = none) (hm : ms.getD k 1 = 1) (h : opA P n0 o.op st.ev st.hp (Cn (fun v hp' kb => Om P n0 ops ms bks fx Hs Hw K r .mk ((st.after hp' kb).put o.dst v)) .mk)) : Om P n0 ops ms bks fx Hs Hw K (k :: r) t st :=
  ⟨o, ho, hg, by rw [hm]; exact ⟨_, h, fun v hp' kb hv => by rw [Cn_go] at hv; exact hv⟩⟩
end
end
attribute [irreducible] Om
end Go.Abs
/- The abstract layer, part ZN: floats as rational numbers: how far off what is rounded may be, and which bounds it keeps. Of no program. -/
set_option linter.unusedSimpArgs false
set_option linter.unusedVariables false
namespace Go.Abs
open Go

def p2 (e : Int) : Rat := (2 : Rat) ^ e
theorem p2_pos (e : Int) : 0 < p2 e := Rat.zpow_pos (by decide)
theorem p2_add (a b : Int) : p2 (a + b) = p2 a * p2 b := Rat.zpow_add (by decide) a b
theorem p2_nat (n : Nat) : p2 (n : Int) = ((2 ^ n : Nat) : Rat) := by
  unfold p2
  rw [Rat.zpow_natCast]
  induction n with
  | zero => rfl
  | succ n ih => rw [Rat.pow_succ, ih, Nat.pow_succ, Rat.natCast_mul]; rfl
theorem p2_one_le (n : Nat) : 1 ≤ p2 (n : Int) := by
  rw [p2_nat]
  exact_mod_cast Nat.one_le_two_pow
theorem p2_mono {a b : Int} (h : a ≤ b) : p2 a ≤ p2 b := by
  have e : b = a + ((b - a).toNat : Int) := by omega
  rw [e, p2_add]
  have := p2_one_le (b - a).toNat
  have := p2_pos a
  have h2 := Rat.mul_le_mul_of_nonneg_left (c := p2 a) (p2_one_le (b - a).toNat) (Rat.le_of_lt (p2_pos a))
  grind
def sg (s : Bool) : Rat := if s then -1 else 1
def fval (k : FloatKind) (x : Nat) : Rat := match k.decode x with
  | .number s m e => sg s * ((m : Rat) * p2 e)
  | _ => 0
def least (k : FloatKind) : Int := match k with | .f32 => -149 | .f64 => -1074
def fb (k : FloatKind) : Nat := match k with | .f32 => 23 | .f64 => 52
def top (k : FloatKind) : Int := match k with | .f32 => 127 | .f64 => 1023
structure Grid (k : FloatKind) (v : Rat) (last : Int) (kept : Nat) : Prop where
  low : least k ≤ last
  cap : kept ≤ 2 * 2 ^ fb k
  ge : (2 * (kept : Rat) - 1) * p2 last ≤ 2 * v
  le : 2 * v ≤ (2 * (kept : Rat) + 1) * p2 last
  big : last = least k ∨ (p2 (fb k + last) ≤ v ∧ 2 ^ fb k ≤ kept)
  evh : 2 * v = (2 * (kept : Rat) + 1) * p2 last → kept % 2 = 0
  evl : 2 * v = (2 * (kept : Rat) - 1) * p2 last → kept % 2 = 0
theorem cast_le {a b : Nat} (h : a ≤ b) : (a : Rat) ≤ (b : Rat) := by exact_mod_cast h
theorem mul_cancel {a b u : Rat} (hu : 0 < u) (h : a * u = b * u) : a = b := by
  have e1 : a * u / u = a := Rat.mul_div_cancel (by grind)
  have e2 : b * u / u = b := Rat.mul_div_cancel (by grind)
  rw [← e1, ← e2, h]
theorem nat_of_mul {a b : Nat} {u : Rat} (hu : 0 < u) (h : (2 * (a : Rat) - 1) * u ≤ 2 * (b : Rat) * u) : a ≤ b := by
  apply Classical.byContradiction
  intro hn
  have h1 := cast_le (show b + 1 ≤ a by omega)
  rw [Rat.natCast_add] at h1
  have t1 : ((1 : Nat) : Rat) = 1 := rfl
  rw [t1] at h1
  have h2 := Rat.mul_le_mul_of_nonneg_right (show 2 * (b : Rat) + 1 ≤ 2 * (a : Rat) - 1 by grind) (Rat.le_of_lt hu)
  grind
theorem mul_le_r {a b u : Rat} (hu : 0 ≤ u) (h : a ≤ b) : a * u ≤ b * u := Rat.mul_le_mul_of_nonneg_right h hu
theorem p2_shift (j : Nat) {t last : Int} (h : last ≤ t) : (j : Rat) * p2 t = ((j * 2 ^ (t - last).toNat : Nat) : Rat) * p2 last := by
  rw [Rat.natCast_mul, ← p2_nat, show t = last + ((t - last).toNat : Int) by omega, p2_add]
  rw [show last + ((t - last).toNat : Int) - last = ((t - last).toNat : Int) by omega, Int.toNat_natCast]
  grind
theorem small_lt (k : FloatKind) {j : Nat} {t last : Int} (hj : j < 2 ^ (fb k + 1)) (h : t < last) : (j : Rat) * p2 t + p2 t ≤ p2 (fb k + last) := by
  have h1 := cast_le (show j + 1 ≤ 2 ^ (fb k + 1) by omega)
  rw [← p2_nat, Rat.natCast_add] at h1
  have t1 : ((1 : Nat) : Rat) = 1 := rfl
  rw [t1] at h1
  have h2 := mul_le_r (Rat.le_of_lt (p2_pos t)) h1
  rw [← p2_add] at h2
  have h3 := p2_mono (show ((fb k + 1 : Nat) : Int) + t ≤ fb k + last by omega)
  grind
theorem Grid.up {k : FloatKind} {v : Rat} {last : Int} {kept : Nat} (G : Grid k v last kept) {j : Nat} {t : Int} (hj : j < 2 ^ (fb k + 1)) (ht : least k ≤ t) (h : v ≤ (j : Rat) * p2 t) : (kept : Rat) * p2 last ≤ (j : Rat) * p2 t := by
  have hu := p2_pos last
  by_cases c : last ≤ t
  · rw [p2_shift j c] at h ⊢
    have hg := G.ge
    have hk := nat_of_mul hu (a := kept) (b := j * 2 ^ (t - last).toNat) (by grind)
    exact mul_le_r (Rat.le_of_lt hu) (cast_le hk)
  · rcases G.big with hb | ⟨hb, _⟩
    · omega
    · have := small_lt k hj (show t < last by omega)
      have := p2_pos t
      grind
theorem Grid.lo {k : FloatKind} {v : Rat} {last : Int} {kept : Nat} (G : Grid k v last kept) {j : Nat} {t : Int} (hj : j < 2 ^ (fb k + 1)) (ht : least k ≤ t) (h : (j : Rat) * p2 t ≤ v) : (j : Rat) * p2 t ≤ (kept : Rat) * p2 last := by
  have hu := p2_pos last
  by_cases c : last ≤ t
  · rw [p2_shift j c] at h ⊢
    have hg := G.le
    have hk := nat_of_mul hu (a := j * 2 ^ (t - last).toNat) (b := kept) (by grind)
    exact mul_le_r (Rat.le_of_lt hu) (cast_le hk)
  · rcases G.big with hb | ⟨_, hb⟩
    · omega
    · have h1 := small_lt k hj (show t < last by omega)
      have h2 := mul_le_r (Rat.le_of_lt hu) (cast_le hb)
      rw [← p2_nat, ← p2_add] at h2
      have := p2_pos t
      grind
def Rep (k : FloatKind) (B : Rat) : Prop := ∃ (s : Bool) (j : Nat) (t : Int), j < 2 ^ (fb k + 1) ∧ least k ≤ t ∧ B = sg s * ((j : Rat) * p2 t)
def ab (v : Rat) : Rat := if 0 ≤ v then v else -v
theorem le_ab (v : Rat) : v ≤ ab v ∧ -v ≤ ab v := by unfold ab; split <;> grind
theorem ab_le {v B : Rat} (h1 : v ≤ B) (h2 : -B ≤ v) : ab v ≤ B := by unfold ab; split <;> grind
theorem Rep.neg {k : FloatKind} {B : Rat} (h : Rep k B) : Rep k (-B) := by
  obtain ⟨s, j, t, h1, h2, rfl⟩ := h
  refine ⟨!s, j, t, h1, h2, ?_⟩
  cases s <;> simp [sg] <;> grind
def Nr (k : FloatKind) (v y : Rat) : Prop := (v = 0 ∧ y = 0) ∨ ∃ (s : Bool) (w : Rat) (last : Int) (kept : Nat), 0 ≤ w ∧ v = sg s * w ∧ Grid k w last kept ∧ y = sg s * ((kept : Rat) * p2 last)
structure Rn (k : FloatKind) (v : Rat) (x : Nat) : Prop where
  nr : Nr k v (fval k x)
  fin : finB k x = true
  can : canon k x = x
  up : ∀ B, Rep k B → v ≤ B → fval k x ≤ B
  lo : ∀ B, Rep k B → B ≤ v → B ≤ fval k x
  e1 : fval k x - v ≤ p2 (-(fb k + 1 : Nat)) * ab v + p2 (least k - 1)
  e2 : v - fval k x ≤ p2 (-(fb k + 1 : Nat)) * ab v + p2 (least k - 1)
theorem mag_nonneg (j : Nat) (t : Int) : 0 ≤ (j : Rat) * p2 t := Rat.mul_nonneg (by exact_mod_cast Nat.zero_le j) (Rat.le_of_lt (p2_pos t))
theorem Rn.same {k : FloatKind} {v : Rat} {x : Nat} (h : Rn k v x) (hr : Rep k v) : fval k x = v := by
  have h1 := h.up v hr (by grind)
  have h2 := h.lo v hr (by grind)
  grind
theorem Grid.mono {k : FloatKind} {v w : Rat} {l1 l2 : Int} {k1 k2 : Nat} (G : Grid k v l1 k1) (H : Grid k w l2 k2) (h : v ≤ w) : (k1 : Rat) * p2 l1 ≤ (k2 : Rat) * p2 l2 := by
  have u1 := p2_pos l1
  have u2 := p2_pos l2
  rcases Int.lt_trichotomy l1 l2 with hl | hl | hl
  · -- the finer grid ends where the coarser one begins
    rcases H.big with hb | ⟨_, hb⟩
    · have := G.low; omega
    · have a1 := mul_le_r (Rat.le_of_lt u1) (cast_le G.cap)
      have a2 := mul_le_r (Rat.le_of_lt u2) (cast_le hb)
      rw [← p2_nat, ← p2_add] at a2
      rw [show 2 * 2 ^ fb k = 2 ^ (fb k + 1) by rw [Nat.pow_succ]; omega, ← p2_nat, ← p2_add] at a1
      have := p2_mono (show ((fb k + 1 : Nat) : Int) + l1 ≤ fb k + l2 by omega)
      grind
  · subst hl
    by_cases c : k1 ≤ k2
    · exact mul_le_r (Rat.le_of_lt u1) (cast_le c)
    · exfalso
      have a1 := G.ge
      have a2 := H.le
      have c1 := mul_le_r (Rat.le_of_lt u1) (cast_le (show k2 + 1 ≤ k1 by omega))
      have one : ((1 : Nat) : Rat) = 1 := rfl
      rw [Rat.natCast_add, one] at c1
      have e1 : (k1 : Rat) * p2 l1 = ((k2 : Rat) + 1) * p2 l1 := by grind
      have e2 : (k1 : Rat) = ((k2 + 1 : Nat) : Rat) := by
        rw [Rat.natCast_add, one]
        exact mul_cancel u1 e1
      have e3 : k1 = k2 + 1 := by exact_mod_cast e2
      have p1 := G.evl (by grind)
      have p3 := H.evh (by grind)
      omega
  · -- the first lies at the end of the second's grid
    rcases G.big with hb | ⟨hb, hk⟩
    · have := H.low; omega
    · have B := p2_add (fb k : Int) l1
      rw [p2_nat] at B
      have x2 := H.lo (j := 2 ^ fb k) (t := l1) (Nat.pow_lt_pow_right (by decide) (by omega)) G.low (by grind)
      by_cases c : k1 ≤ 2 ^ fb k
      · have := mul_le_r (Rat.le_of_lt u1) (cast_le c)
        grind
      · exfalso
        have one : ((1 : Nat) : Rat) = 1 := rfl
        have two : ((2 : Nat) : Rat) = 2 := rfl
        have c1 := mul_le_r (Rat.le_of_lt u1) (cast_le (show 2 ^ fb k + 1 ≤ k1 by omega))
        rw [Rat.natCast_add, one] at c1
        have a1 := G.ge
        have a2 := H.le
        have b1 := mul_le_r (Rat.le_of_lt u2) (cast_le H.cap)
        rw [Rat.natCast_mul, two] at b1
        have hm := p2_mono (show 1 + l2 ≤ l1 by omega)
        rw [p2_add, show p2 1 = 2 from rfl] at hm
        have b2 := Rat.mul_le_mul_of_nonneg_left hm (show (0 : Rat) ≤ ((2 ^ fb k : Nat) : Rat) by exact_mod_cast Nat.zero_le _)
        grind
theorem Grid.zero {k : FloatKind} {v : Rat} {l : Int} {q : Nat} (G : Grid k v l q) (h : v ≤ 0) : (q : Rat) * p2 l = 0 := by
  have a := G.up (j := 0) (t := least k) (Nat.two_pow_pos _) (Int.le_refl _) (by
    have e0 : ((0 : Nat) : Rat) * p2 (least k) = 0 := by simp
    rw [e0]; exact h)
  have e0 : ((0 : Nat) : Rat) * p2 (least k) = 0 := by simp
  rw [e0] at a
  have := mag_nonneg q l
  grind
theorem Nr.mono {k : FloatKind} {v w x y : Rat} (G : Nr k v x) (H : Nr k w y) (h : v ≤ w) : x ≤ y := by
  rcases G with ⟨rfl, rfl⟩ | ⟨s, a, l1, k1, a0, rfl, G, rfl⟩ <;> rcases H with ⟨rfl, rfl⟩ | ⟨t, b, l2, k2, b0, rfl, H, rfl⟩
  · exact Rat.le_refl
  · have m := mag_nonneg k2 l2
    cases t <;> simp only [sg, Bool.false_eq_true, if_false, if_true] at h ⊢
    · grind
    · have := H.zero (by grind); grind
  · have m := mag_nonneg k1 l1
    cases s <;> simp only [sg, Bool.false_eq_true, if_false, if_true] at h ⊢
    · have := G.zero (by grind); grind
    · grind
  · have m := mag_nonneg k1 l1
    have m2 := mag_nonneg k2 l2
    cases s <;> cases t <;> simp only [sg, Bool.false_eq_true, if_false, if_true] at h ⊢
    · have := G.mono H (by grind); grind
    · have := G.zero (by grind); have := H.zero (by grind); grind
    · grind
    · have := H.mono G (by grind); grind
theorem Rn.mono {k : FloatKind} {v w : Rat} {x y : Nat} (r : Rn k v x) (t : Rn k w y) (h : v ≤ w) : fval k x ≤ fval k y := r.nr.mono t.nr h
theorem Rn.bound {k : FloatKind} {v : Rat} {x : Nat} (h : Rn k v x) {B : Rat} (hB : Rep k B) (hv : ab v ≤ B) : ab (fval k x) ≤ B := by
  have a := le_ab v
  have h1 := h.up B hB (by grind)
  have h2 := h.lo (-B) hB.neg (by grind)
  exact ab_le h1 h2
end Go.Abs
/- The abstract layer, part ZO: 32-bit words and their values; relative errors; small integers as floats. Of no program. -/
set_option maxRecDepth 10000
set_option maxHeartbeats 2000000
set_option linter.unusedSimpArgs false
set_option linter.unusedVariables false
namespace Go.Abs
open Go


structure NN (x : Nat) : Prop where
  fin : finB .f32 x = true
  lt : x < 4294967296
  ne : x ≠ 2147483648
structure Pw (x : Nat) : Prop where
  fin : finB .f32 x = true
  lt : x < 4294967296
  pos : 0 < fval .f32 x
end Go.Abs
