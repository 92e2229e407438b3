/- The abstract layer, part Z4: calls whose result is told by a property; branches whose way is known; bytes. -/
import Derived.Test.YtdhomifcjakbgaaDoorAbsZ
set_option linter.unusedSimpArgs false
set_option linter.unusedVariables false
namespace Go.Abs
open Go
variable {P : Program}

theorem br_no {c : Bool} {x y : Prop} {t : Tok x} {u : Tok y} (hc : c = false) (hy : y) : Br c x y t u := by subst hc; exact br_intro (fun h => by cases h) (fun _ => hy)
theorem br_yes {c : Bool} {x y : Prop} {t : Tok x} {u : Tok y} (hc : c = true) (hx : x) : Br c x y t u := by subst hc; exact br_intro (fun _ => hx) (fun h => by cases h)

section
variable {P : Program} {f : FuncId} {args : List AV} {hp : List Blk} {Q Q0 : AV → List Blk → Prop} {t : Tok Q}
/-- A call that makes new blocks of plain values; its result is told by a property. -/
theorem call_newQ (h : CallA P f args [] Q0) (ha : args.all (below 0) = true) (hQ : ∀ r new, Q0 r new → (∀ q ∈ new, allBelow 0 q.els = true) ∧ Q (ren (fun b => b + hp.length) r) (hp ++ new)) : CallP P f args hp Q t := by
  refine call_at (CallA.lift ha (h.mono ?_))
  intro r new h0
  obtain ⟨hf, hq⟩ := hQ r new h0
  rw [joinHp_flat hf]
  exact hq
/-- A call that reads known blocks and makes new ones; its result is told by a property. -/
theorem call_lentQ (d : Nat) {args' : List AV} (hv : args.map (view d hp) = args') (h : CallA P f args' [] Q0) (hQ : ∀ r new, Q0 r new → clean r = true ∧ new.all cleanB = true ∧ (∀ q ∈ new, allBelow 0 q.els = true) ∧ Q (ren (fun b => b + hp.length) r) (hp ++ new)) : CallP P f args hp Q t := by
  refine call_at (CallA.borrow d ?_)
  rw [hv]
  refine h.mono ?_
  intro r new h0
  obtain ⟨h1, h2, hf, hq⟩ := hQ r new h0
  exact ⟨⟨h1, h2⟩, by rw [joinHp_flat hf]; exact hq⟩
/-- A call that is handed some blocks and may make new ones; its result is told by a property. -/
theorem call_handedQ (σ : List Nat) {args' : List AV} {hps : List Blk} (h : CallA P f args' hps Q0) (hn : σ.Nodup) (S : SubF hp σ hps) (ha : args = args'.map (ren fun i => σ.getD i 0)) (hb : args'.all (below σ.length) = true)
    (hQ : ∀ r hps', Q0 r hps' → (∀ q ∈ hps', allBelow 0 q.els = true) ∧ Q (ren (upName σ hp.length) r) (putF σ hps' hp ++ hps'.drop σ.length)) : CallP P f args hp Q t := by
  refine call_at (CallA.sub σ (S.sub hn) ha hb (h.mono ?_))
  intro r hps' h0
  obtain ⟨hf, hq⟩ := hQ r hps' h0
  have e : subHp σ hp hps' = putF σ hps' hp ++ hps'.drop σ.length := by
    unfold subHp
    rw [putBack_flat _ _ _ _ hf]
    congr 1
    have : ∀ l : List Blk, (∀ q ∈ l, allBelow 0 q.els = true) → l.map (renB (upName σ hp.length)) = l := by
      intro l
      induction l with
      | nil => intro _; rfl
      | cons q l ih => intro hl; rw [List.map_cons, renB_flat (hl q (by simp)), ih fun x hx => hl x (by simp [hx])]
    exact this _ fun q hq => hf q (List.mem_of_mem_drop hq)
  rw [e]
  exact hq
end

theorem allBelow_cons {N : Nat} {a : AV} {l : List AV} : allBelow N (a :: l) = (below N a && allBelow N l) := rfl
theorem allBelow_nil {N : Nat} : allBelow N [] = true := rfl

/-! A state told by names of one's choice; blocks may name one another. -/
def SubG (π : Nat → Nat) (N : Nat) (hp : List Blk) : List Nat → List Blk → Prop
  | [], [] => True
  | s :: σ, r :: l => (hp[s]? = some (renB π r) ∧ allBelow N r.els = true) ∧ SubG π N hp σ l
  | _, _ => False
theorem SubG.len {π : Nat → Nat} {N : Nat} {hp : List Blk} : ∀ {σ : List Nat} {l : List Blk}, SubG π N hp σ l → l.length = σ.length
  | [], [], _ => rfl
  | s :: σ, r :: l, h => by simp [SubG.len h.2]
  | [], _ :: _, h => h.elim
  | _ :: _, [], h => h.elim
theorem SubG.get {π : Nat → Nat} {N : Nat} {hp : List Blk} : ∀ {σ : List Nat} {l : List Blk}, SubG π N hp σ l → ∀ (i : Nat) r, l[i]? = some r → hp[σ.getD i 0]? = some (renB π r) ∧ allBelow N r.els = true
  | [], [], _, i, r, h => by simp at h
  | s :: σ, q :: l, h, 0, r, hr => by simp at hr; subst hr; simpa using h.1
  | s :: σ, q :: l, h, i + 1, r, hr => by simpa using SubG.get h.2 i r (by simpa using hr)
  | [], _ :: _, h, _, _, _ => h.elim
  | _ :: _, [], h, _, _, _ => h.elim
theorem getD_inj {σ : List Nat} (hn : σ.Nodup) : ∀ b b', b < σ.length → b' < σ.length → σ.getD b 0 = σ.getD b' 0 → b = b' := by
  intro b b' h1 h2 e
  simp only [List.getD_eq_getElem?_getD, List.getElem?_eq_getElem h1, List.getElem?_eq_getElem h2, Option.getD_some] at e
  have hne := List.pairwise_iff_getElem.1 hn
  rcases Nat.lt_trichotomy b b' with hlt | he | hlt
  · exact absurd e (hne b b' h1 h2 hlt)
  · exact he
  · exact absurd e.symm (hne b' b h2 h1 hlt)
theorem SubG.le {σ : List Nat} {n0 : Nat} {hp hp2 : List Blk} (hn : σ.Nodup) (h0 : n0 ≤ σ.length) (hlow : ∀ b, b < n0 → σ.getD b 0 = b) (S : SubG (fun i => σ.getD i 0) σ.length hp σ hp2) : LeHp σ.length (fun i => σ.getD i 0) n0 hp hp2 := by
  refine ⟨S.len, h0, hlow, getD_inj hn, fun b r hr => ?_⟩
  obtain ⟨h1, h2⟩ := S.get b r hr
  exact ⟨_, h1, rfl, fun hl => ⟨hl, rfl, rfl, by simpa [allBelow] using h2⟩⟩
theorem weak_names (σ : List Nat) {n0 : Nat} {st st2 : St} (hn : σ.Nodup) (h0 : n0 ≤ σ.length) (hlow : ∀ b, b < n0 → σ.getD b 0 = b) (S : SubG (fun i => σ.getD i 0) σ.length st.hp σ st2.hp) (ht : LeTm σ.length (fun i => σ.getD i 0) st.tm st2.tm) : Weak n0 st st2 :=
  weak_ren σ.length (fun i => σ.getD i 0) ht (S.le hn h0 hlow)
theorem PostR.tell (σ : List Nat) {n0 : Nat} {r r2 : AV} {hp hp2 : List Blk} {Q : AV → List Blk → Prop} (hn : σ.Nodup) (h0 : n0 ≤ σ.length) (hlow : ∀ b, b < n0 → σ.getD b 0 = b) (S : SubG (fun i => σ.getD i 0) σ.length hp σ hp2) (hr : r = ren (fun i => σ.getD i 0) r2) (hb : below σ.length r2 = true) (h : Q r2 hp2) : PostR n0 r hp Q :=
  PostR.names (fun i => σ.getD i 0) r2 hp2 (.inr ⟨hr, by rw [S.len]; exact hb⟩) (by have := S.le hn h0 hlow; rwa [← S.len] at this) h

theorem allW_int (k : IntKind) (n : Int) : AllW 1 [AV.int k n] = True := by
  simp only [eq_iff_iff, iff_true]
  intro a ha
  simp only [List.mem_singleton] at ha
  subst ha
  exact ⟨rfl, rfl⟩

/-! Integers of any kind. -/
def kint (k : IntKind) (l : List Int) : List AV := l.map (AV.int k)
section
variable {k : IntKind} {l : List Int}
theorem kint_len : (kint k l).length = l.length := by simp [kint]
theorem kint_get (i : Nat) (h : i < (kint k l).length) : (kint k l)[i] = .int k (l[i]'(by simpa [kint] using h)) := by simp [kint]
theorem kint_snoc (n : Int) : kint k l ++ [AV.int k n] = kint k (l ++ [n]) := by simp [kint]
theorem kint_kill (b : Nat) : (kint k l).map (kill b) = kint k l := by simp [kint, kill, killM, killL]
theorem kint_below (N : Nat) : allBelow N (kint k l) = true := by simp [allBelow, kint, below, belowM, belowL]
theorem kint_ren (π : Nat → Nat) : (kint k l).map (ren π) = kint k l := by simp [kint, ren, renM, renL]
theorem kint_view (d : Nat) (hp : List Blk) : (kint k l).map (view d hp) = kint k l := by
  simp only [kint, List.map_map]
  exact List.map_congr_left fun x _ => view_int d hp k x
theorem kint_allW : AllW 1 (kint k l) := by intro a ha; simp only [kint, List.mem_map] at ha; obtain ⟨x, _, rfl⟩ := ha; exact ⟨rfl, rfl⟩
end
theorem ofT_kint {P : Program} {m : Nat} {t e : TypeId} {k : IntKind} {a : AV} (ht : P.underlying t = some (.slice e)) (he : P.underlying e = some (.int k)) (h : OfT P (m + 2) t [a]) : ∃ xs : List Int, a = .ro (kint k xs) ∧ xs.length ≤ maxLen ∧ ∀ x ∈ xs, (Lit.int k x).wf = true := by
  unfold OfT at h
  rw [ht] at h
  obtain ⟨els, h0, hl, h⟩ := h
  have key : ∀ els : List AV, (∀ a ∈ els, OfT P (m + 1) e a.cells ∧ ((∃ fs, P.underlying e = some (.struct fs)) → ∃ c, a = .agg c) ∧ ((∀ fs, P.underlying e ≠ some (.struct fs)) → a.one = true)) → ∃ xs : List Int, els = kint k xs ∧ ∀ x ∈ xs, (Lit.int k x).wf = true := by
    intro els
    induction els with
    | nil => intro _; exact ⟨[], rfl, by simp⟩
    | cons a els ih =>
      intro h
      obtain ⟨xs, h1, h2⟩ := ih fun b hb => h b (by simp [hb])
      obtain ⟨h3, _, h4⟩ := h a (by simp)
      have h5 := h4 (by rw [he]; intro fs h; cases h)
      unfold OfT at h3
      rw [he] at h3
      obtain ⟨z, h6, h7⟩ := h3
      have : a = .int k z := by cases a <;> simp_all [AV.cells, AV.one]
      exact ⟨z :: xs, by simp [kint, this, h1], by simp only [List.mem_cons, forall_eq_or_imp]; exact ⟨h7, h2⟩⟩
  obtain ⟨xs, rfl, h2⟩ := key els h
  refine ⟨xs, by simpa using h0, by simpa [kint_len] using hl, h2⟩
end Go.Abs
