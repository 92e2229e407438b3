/- The abstract layer: parts Z4 Z5 Z6 Z7 Z8 Z9 ZA ZB ZC ZD ZE ZF ZG ZH ZI ZJ ZK ZL. -/
import Derived.Test.YtimnfechlomkpaaAbsM2
import Derived.Lib.Bytealg
import Derived.Sort.OwnSortedInts
import Derived.Lib.ItoaNum
import Derived.Lib.LaidTab
import Derived.Below
import Derived.Lib.Join
import Derived.Sort.Grow
import Derived.Deep.Draws
import Derived.Lib.Strings
import Derived.Lib.Split
import Derived.Lib.SplitLaws
import Derived.Lib.CountLaws
import Derived.Lib.IndexMore
/- The abstract layer, part Z4: calls whose result is told by a property; branches whose way is known; bytes. -/
set_option linter.unusedSimpArgs false
set_option linter.unusedVariables false
namespace Go.Abs
open Go
variable {P : Program}

theorem br_no {c : Bool} {x y : Prop} {t : Tok x} {u : Tok y} (hc : c = false) (hy : y) : Br c x y t u := by subst hc; exact br_intro (fun h => by cases h) (fun _ => hy)
theorem br_yes {c : Bool} {x y : Prop} {t : Tok x} {u : Tok y} (hc : c = true) (hx : x) : Br c x y t u := by subst hc; exact br_intro (fun _ => hx) (fun h => by cases h)

section
variable {P : Program} {f : FuncId} {args : List AV} {hp : List Blk} {Q Q0 : AV → List Blk → Prop} {t : Tok Q}
theorem call_newQ (h : CallA P f args [] Q0) (ha : args.all (below 0) = true) (hQ : ∀ r new, Q0 r new → (∀ q ∈ new, allBelow 0 q.els = true) ∧ Q (ren (fun b => b + hp.length) r) (hp ++ new)) : CallP P f args hp Q t := by
  refine call_at (CallA.lift ha (h.mono ?_))
  intro r new h0
  obtain ⟨hf, hq⟩ := hQ r new h0
  rw [joinHp_flat hf]
  exact hq
theorem call_handedQ (σ : List Nat) {args' : List AV} {hps : List Blk} (h : CallA P f args' hps Q0) (hn : σ.Nodup) (S : SubF hp σ hps) (ha : args = args'.map (ren fun i => σ.getD i 0)) (hb : args'.all (below σ.length) = true)
    (hQ : ∀ r hps', Q0 r hps' → (∀ q ∈ hps', allBelow 0 q.els = true) ∧ Q (ren (upName σ hp.length) r) (putF σ hps' hp ++ hps'.drop σ.length)) : CallP P f args hp Q t := by
  refine call_at (CallA.sub σ (S.sub hn) ha hb (h.mono ?_))
  intro r hps' h0
  obtain ⟨hf, hq⟩ := hQ r hps' h0
  have e : subHp σ hp hps' = putF σ hps' hp ++ hps'.drop σ.length := by
    unfold subHp
    rw [putBack_flat _ _ _ _ hf]
    congr 1
    have : ∀ l : List Blk, (∀ q ∈ l, allBelow 0 q.els = true) → l.map (renB (upName σ hp.length)) = l := by
      intro l
      induction l with
      | nil => intro _; rfl
      | cons q l ih => intro hl; rw [List.map_cons, renB_flat (hl q (by simp)), ih fun x hx => hl x (by simp [hx])]
    exact this _ fun q hq => hf q (List.mem_of_mem_drop hq)
  rw [e]
  exact hq
end

theorem allBelow_cons {N : Nat} {a : AV} {l : List AV} : allBelow N (a :: l) = (below N a && allBelow N l) := rfl
theorem allBelow_nil {N : Nat} : allBelow N [] = true := rfl

def SubG (π : Nat → Nat) (N : Nat) (hp : List Blk) : List Nat → List Blk → Prop
  | [], [] => True
  | s :: σ, r :: l => (hp[s]? = some (renB π r) ∧ allBelow N r.els = true) ∧ SubG π N hp σ l
  | _, _ => False
theorem SubG.len {π : Nat → Nat} {N : Nat} {hp : List Blk} : ∀ {σ : List Nat} {l : List Blk}, SubG π N hp σ l → l.length = σ.length
  | [], [], _ => rfl
  | s :: σ, r :: l, h => by simp [SubG.len h.2]
  | [], _ :: _, h => h.elim
  | _ :: _, [], h => h.elim
theorem SubG.get {π : Nat → Nat} {N : Nat} {hp : List Blk} : ∀ {σ : List Nat} {l : List Blk}, SubG π N hp σ l → ∀ (i : Nat) r, l[i]? = some r → hp[σ.getD i 0]? = some (renB π r) ∧ allBelow N r.els = true
  | [], [], _, i, r, h => by simp at h
  | s :: σ, q :: l, h, 0, r, hr => by simp at hr; subst hr; simpa using h.1
  | s :: σ, q :: l, h, i + 1, r, hr => by simpa using SubG.get h.2 i r (by simpa using hr)
  | [], _ :: _, h, _, _, _ => h.elim
  | _ :: _, [], h, _, _, _ => h.elim
theorem getD_inj {σ : List Nat} (hn : σ.Nodup) : ∀ b b', b < σ.length → b' < σ.length → σ.getD b 0 = σ.getD b' 0 → b = b' := by
  intro b b' h1 h2 e
  simp only [List.getD_eq_getElem?_getD, List.getElem?_eq_getElem h1, List.getElem?_eq_getElem h2, Option.getD_some] at e
  have hne := List.pairwise_iff_getElem.1 hn
  rcases Nat.lt_trichotomy b b' with hlt | he | hlt
  · exact absurd e (hne b b' h1 h2 hlt)
  · exact he
  · exact absurd e.symm (hne b' b h2 h1 hlt)
theorem SubG.le {σ : List Nat} {n0 : Nat} {hp hp2 : List Blk} (hn : σ.Nodup) (h0 : n0 ≤ σ.length) (hlow : ∀ b, b < n0 → σ.getD b 0 = b) (S : SubG (fun i => σ.getD i 0) σ.length hp σ hp2) : LeHp σ.length (fun i => σ.getD i 0) n0 hp hp2 := by
  refine ⟨S.len, h0, hlow, getD_inj hn, fun b r hr => ?_⟩
  obtain ⟨h1, h2⟩ := S.get b r hr
  exact ⟨_, h1, rfl, fun hl => ⟨hl, rfl, rfl, by simpa [allBelow] using h2⟩⟩
theorem PostR.tell (σ : List Nat) {n0 : Nat} {r r2 : AV} {hp hp2 : List Blk} {Q : AV → List Blk → Prop} (hn : σ.Nodup) (h0 : n0 ≤ σ.length) (hlow : ∀ b, b < n0 → σ.getD b 0 = b) (S : SubG (fun i => σ.getD i 0) σ.length hp σ hp2) (hr : r = ren (fun i => σ.getD i 0) r2) (hb : below σ.length r2 = true) (h : Q r2 hp2) : PostR n0 r hp Q :=
  PostR.names (fun i => σ.getD i 0) r2 hp2 (.inr ⟨hr, by rw [S.len]; exact hb⟩) (by have := S.le hn h0 hlow; rwa [← S.len] at this) h

theorem allW_int (k : IntKind) (n : Int) : AllW 1 [AV.int k n] = True := by
  simp only [eq_iff_iff, iff_true]
  intro a ha
  simp only [List.mem_singleton] at ha
  subst ha
  exact ⟨rfl, rfl⟩

def kint (k : IntKind) (l : List Int) : List AV := l.map (AV.int k)
section
variable {k : IntKind} {l : List Int}
theorem kint_len : (kint k l).length = l.length := by simp [kint]
theorem kint_get (i : Nat) (h : i < (kint k l).length) : (kint k l)[i] = .int k (l[i]'(by simpa [kint] using h)) := by simp [kint]
theorem kint_below (N : Nat) : allBelow N (kint k l) = true := by simp [allBelow, kint, below, belowM, belowL]
theorem kint_ren (π : Nat → Nat) : (kint k l).map (ren π) = kint k l := by simp [kint, ren, renM, renL]
end
theorem ofT_kint {P : Program} {m : Nat} {t e : TypeId} {k : IntKind} {a : AV} (ht : P.underlying t = some (.slice e)) (he : P.underlying e = some (.int k)) (h : OfT P (m + 2) t [a]) : ∃ xs : List Int, a = .ro (kint k xs) ∧ xs.length ≤ maxLen ∧ ∀ x ∈ xs, (Lit.int k x).wf = true := by
  unfold OfT at h
  rw [ht] at h
  obtain ⟨els, h0, hl, h⟩ := h
  have key : ∀ els : List AV, (∀ a ∈ els, OfT P (m + 1) e a.cells ∧ ((∃ fs, P.underlying e = some (.struct fs)) → ∃ c, a = .agg c) ∧ ((∀ fs, P.underlying e ≠ some (.struct fs)) → a.one = true)) → ∃ xs : List Int, els = kint k xs ∧ ∀ x ∈ xs, (Lit.int k x).wf = true := by
    intro els
    induction els with
    | nil => intro _; exact ⟨[], rfl, by simp⟩
    | cons a els ih =>
      intro h
      obtain ⟨xs, h1, h2⟩ := ih fun b hb => h b (by simp [hb])
      obtain ⟨h3, _, h4⟩ := h a (by simp)
      have h5 := h4 (by rw [he]; intro fs h; cases h)
      unfold OfT at h3
      rw [he] at h3
      obtain ⟨z, h6, h7⟩ := h3
      have : a = .int k z := by cases a <;> simp_all [AV.cells, AV.one]
      exact ⟨z :: xs, by simp [kint, this, h1], by simp only [List.mem_cons, forall_eq_or_imp]; exact ⟨h7, h2⟩⟩
  obtain ⟨xs, rfl, h2⟩ := key els h
  refine ⟨xs, by simpa using h0, by simpa [kint_len] using hl, h2⟩
end Go.Abs
/- The abstract layer, part Z5: drawn regions in an order of one's choice; new blocks told as what nobody writes. -/
set_option linter.unusedSimpArgs false
set_option linter.unusedVariables false
namespace Go.Abs
open Go
variable {P : Program}
theorem Cn_eq {g : AV → List Blk → Option Nat → Prop} {t : Tok g} : Cn g t = g := by delta Cn; rfl
section
variable {P : Program}

theorem freeze_one {E E' : Env P} {hp : List Blk} {q : Blk} (H : HRel E hp) (H' : HRel E' (hp ++ [q])) (F' : Fr E hp E' (hp ++ [q])) (hl : q.live = true) (hf : allBelow 0 q.els = true) (hflat : ∀ b ∈ hp, allBelow hp.length b.els = true)
    (d : Nat) (r0 : AV) (hb : below 1 r0 = true) (v : Value) (hv : RV E' (ren (fun i => [hp.length].getD i 0) r0) v) :
    ∃ E2 : Env P, E2.w = E'.w ∧ RV E2 (view d [q] r0) v ∧ HRel E2 hp ∧ Fr E hp E2 hp ∧ E.le E2 := by
  have hq : (hp ++ [q])[hp.length]? = some q := by simp
  have hlt : ∀ (b : Nat) blk, hp[b]? = some blk → b < hp.length ∧ (hp ++ [q])[b]? = some blk := fun b blk h => by
    have := (List.getElem?_eq_some_iff.1 h).1
    exact ⟨this, by rw [List.getElem?_append_left this]; exact h⟩
  let E2 : Env P := { E' with F := fun c => E'.F c ∨ c = E'.ρ hp.length, N := hp.length }
  have leN : (E'.ren hp.length fun b => b).le E2 := ⟨fun _ h => .inl h, fun _ _ => rfl, Nat.le_refl _, fun _ _ => rfl, fun _ _ => rfl, fun _ => Nat.le_refl _⟩
  have H2 : HRel E2 hp := by
    refine ⟨rfl, fun b blk h => H'.wd b blk (hlt b blk h).2, ?_, ?_, ?_, ?_, H'.laid.keep (fun c h => .inl h) (fun _ _ => rfl)⟩
    · intro b blk h hlv
      obtain ⟨cs, h1, h2⟩ := (H'.holds b blk (hlt b blk h).2 hlv).cells
      refine ⟨cs, h1, fun i e he => ⟨(h2 i e he).1, fun j x hx => ?_⟩⟩
      obtain ⟨u, h3, h4⟩ := (h2 i e he).2 j x hx
      refine ⟨u, h3, ?_⟩
      have hbe : below hp.length e = true := by
        have := hflat blk (List.mem_of_getElem? h)
        simp only [allBelow, List.all_eq_true] at this
        exact this e (List.mem_of_getElem? he)
      obtain ⟨_, h5⟩ := ren_cells (π := fun b => b) hbe
      obtain ⟨c', h6, h7⟩ := h5 j x hx
      rw [ren_id _ hbe, hx] at h6
      cases h6
      exact (h7 h4).mono leN
    · intro b b' blk blk' h1 h2 h3 h4 h5
      exact H'.inj b b' blk blk' (hlt _ _ h1).2 h2 (hlt _ _ h3).2 h4 h5
    · intro b blk h hlv hF
      rcases hF with h1 | h1
      · exact H'.apart b blk (hlt b blk h).2 hlv h1
      · have := H'.inj b hp.length blk q (hlt b blk h).2 hlv hq hl h1
        have := (hlt b blk h).1
        omega
    · rintro c (h | rfl)
      · exact H'.old c h
      · obtain ⟨cs, h1, _⟩ := (H'.holds _ q hq hl).cells
        exact (Row.lt h1)
  have F2 : Fr E hp E2 hp :=
    { size := F'.size, os := F'.os, tape := F'.tape, output := F'.output, block := F'.block, len := Nat.le_refl _, ρ := F'.ρ, wd := F'.wd, csz := F'.csz
      F := fun c h => .inl (F'.F c h)
      F' := fun c hc => by
        rcases hc with h | rfl
        · exact F'.F' c h
        · rcases F'.live hp.length ⟨q, hq, hl⟩ with ⟨h1, _⟩ | ⟨_, h2⟩
          · exact absurd h1 (Nat.lt_irrefl _)
          · exact .inr h2
      live := fun b ⟨blk, h, hlv⟩ => .inl ⟨(hlt b blk h).1, blk, h, hlv⟩ }
  refine ⟨E2, rfl, ?_, H2, F2, F2.le H H2⟩
  have S : Sub [hp.length] (hp ++ [q]) [q] := SubF.sub (by simp) ⟨⟨hq, hf⟩, trivial⟩
  have Hq := S.hrel H'
  have h1 := RV.unren (E := E') (N := 1) (π := fun i => [hp.length].getD i 0) hb hv
  have h2 := (view_sound Hq d r0).1 v h1
  refine h2.mono ⟨fun c hc => ?_, fun _ _ => rfl, Nat.zero_le _, fun _ hb => absurd hb (Nat.not_lt_zero _), fun _ hb => absurd hb (Nat.not_lt_zero _), fun _ => Nat.le_refl _⟩
  rcases hc with h | ⟨b, ⟨bk, hbk, _⟩, rfl⟩
  · exact .inl h
  · have : b = 0 := by
      have := (List.getElem?_eq_some_iff.1 hbk).1
      simpa using this
    subst this
    exact .inr rfl

theorem Yields.fresh {o : Oper} {f : Operand → AV} {hp : List Blk} (q : Blk) (hl : q.live = true) (hf : allBelow 0 q.els = true) (hflat : ∀ b ∈ hp, allBelow hp.length b.els = true) (d : Nat) (r0 : AV) (hb : below 1 r0 = true)
    (h : opA P hp.length o.op f hp (fun v hp' kb => v = ren (fun i => [hp.length].getD i 0) r0 ∧ hp' = hp ++ [q] ∧ kb = none)) : Yields P o f hp (view d [q] r0) := by
  intro E g H hr hcst
  have := opA_sound (E0 := E) (hp0 := hp) H (Fr.refl E hp) hr hcst h
  unfold Runs at this ⊢
  have conv : ∀ u w', OpPost E E hp (fun v hp' kb => v = ren (fun i => [hp.length].getD i 0) r0 ∧ hp' = hp ++ [q] ∧ kb = none) u w' → ∃ E', E'.w = w' ∧ RV E' (view d [q] r0) u ∧ HRel E' hp ∧ Fr E hp E' hp ∧ E.le E' := by
    rintro u w' ⟨E', av, hp', kb, hl'⟩
    obtain ⟨rfl, rfl, rfl⟩ := hl'.k
    obtain ⟨E2, h1, h2, h3, h4, h5⟩ := freeze_one H hl'.hr hl'.fr hl hf hflat d r0 hb u hl'.rv
    exact ⟨E2, h1.trans hl'.w, h2, h3, h4, h5⟩
  split at this
  · exact conv _ _ this
  · exact conv _ _ this
  · exact this.mono fun e w'' ⟨v, he, hp⟩ => ⟨v, he, conv _ _ hp⟩
  · exact this.elim

theorem Yields.bare {o : Oper} {f : Operand → AV} {hp : List Blk} {t e : TypeId} (ho : o.op = .buildSlice t 0 #[]) (hd : P.underlying t = some (.slice e)) (hpos : 0 < P.cellsOf e) (hflat : ∀ b ∈ hp, allBelow hp.length b.els = true) : Yields P o f hp .nils := by
  intro E g H hr hcst
  have run : (Instr.buildSlice t 0 #[]).run P E.w = .ok (.slice (some ⟨E.w.heap.size, 0, none⟩) 0 0) { E.w with heap := E.w.heap.push (.cells #[] e) } := by
    have hc : ¬ (0 : Nat) > 2 ^ 24 := by omega
    simp only [Instr.buildSlice, Sem.run_bind, run_underlying' hd, Result.andThen_ok, run_sizeOf_pos hpos, Nat.zero_mul, hc, if_false, if_true, Sem.run_pure]
    have e0 : (Array.map (fun x => (#[] : Array Value)[x % (#[] : Array Value).size]!) (Array.range 0)) = #[] := by simp
    rw [e0]
    rfl
  obtain ⟨E', h1, h2, h3, h4, _⟩ := new_block H (Fr.refl E hp) { ty := e, w := P.cellsOf e, els := [], live := true } #[] rfl _ (Same.refl _) (fun i e he => by simp at he)
  obtain ⟨E2, k1, _, k2, k3, k4⟩ := freeze_one H h2 h3 rfl rfl hflat 0 .any rfl undef (.any _)
  unfold Runs
  have hx : (execOp g o).run P E.w = .ok (.value (.slice (some ⟨E.w.heap.size, 0, none⟩) 0 0)) { E.w with heap := E.w.heap.push (.cells #[] e) } := by
    simp only [execOp, ho]
    simp [Sem.run_bind, run]
  rw [hx]
  exact ⟨E2, k1.trans h1, .nils _, k2, k3, k4⟩

def ordA (P : Program) (n0 : Nat) (ops : List Oper) (ms : List Bool) (K : St → Prop) : List Nat → St → Prop
  | [], st => K st
  | k :: r, st => ∃ o, ops[k]? = some o ∧ o.guard = none ∧
    if ms.getD k true then ∃ g : AV → List Blk → Option Nat → Prop, opA P n0 o.op st.ev st.hp g ∧ ∀ v hp' kb, g v hp' kb → ordA P n0 ops ms K r ((st.after hp' kb).put o.dst v)
    else ∃ v, Yields P o st.ev st.hp v ∧ ordA P n0 ops ms K r (st.put o.dst v)

def Od (P : Program) (n0 : Nat) (ops : List Oper) (ms : List Bool) (K : St → Prop) (ord : List Nat) (_t : Tok (ops, ord, K)) (st : St) : Prop := ordA P n0 ops ms K ord st

section
variable {n0 : Nat} {ops : List Oper} {ms : List Bool} {K : St → Prop} {k : Nat} {r : List Nat} {st : St} {t : Tok (ops, k :: r, K)} {o : Oper}
end
end
attribute [irreducible] Od
end Go.Abs
/- The abstract layer, part Z6: a function's code, piece by piece: what comes later stands apart; ways that meet again. -/
set_option linter.unusedSimpArgs false
set_option linter.unusedVariables false
namespace Go.Abs
open Go
variable {P : Program}
section
variable {P : Program}
theorem V_def {md : Nat → List Bool} {n0 : Nat} {c : Code} {Q : Ex → St → Prop} {t} {st : St} : V P md n0 c Q t st = vc P md n0 c st Q := by delta V; rfl
theorem Lp_def {n0 : Nat} {c : Code} {Q : Ex → St → Prop} {t} {st : St} : Lp P n0 c Q t st = CodeA P n0 c st Q := by delta Lp; rfl
theorem callA_code {f : FuncId} {fn : Func} {c : Code} {args : List AV} {hp : List Blk} {Q : AV → List Blk → Prop} (hf : P.funcs[f]? = some fn) (hb : fn.body = some c) (hgo : isGo P f)
    (h : CodeA P hp.length c ⟨args ++ List.replicate (fn.ntmps - args.length) .any, hp⟩ (retQ P fn hp.length Q)) : CallA P f args hp Q := by
  refine fun E vs H hl hrv => .inl ⟨hgo, ?_⟩
  refine calls_of_wp hf hb ?_
  have hs : SR E hp E ⟨args ++ List.replicate (fn.ntmps - args.length) .any, hp⟩ { tmps := vs.toArray ++ Array.replicate (fn.ntmps - vs.toArray.size) undef, defers := [] } := by
    refine ⟨H, Fr.refl E hp, by simp [hl], fun i v u h1 h2 => ?_, rfl⟩
    simp only [List.getElem?_append] at h1
    by_cases hi : i < args.length
    · rw [if_pos hi] at h1
      have h2' : vs[i]? = some u := by
        have hlt : i < vs.toArray.size := by simp [hl]; exact hi
        rw [Array.getElem?_append_left hlt] at h2
        simpa using h2
      exact hrv i v u h1 h2'
    · rw [if_neg hi] at h1
      rw [List.getElem?_replicate] at h1
      split at h1
      · cases h1; exact .any _
      · cases h1
  refine wp_mono (h E hp E _ rfl hs) fun e a' w' ⟨ex, st', E', he, hw, hs', hq⟩ => ?_
  subst he; subst hw
  have fin : (resL P fn.results.toList st' fun l => ∃ r2 hp2, WeakR hp.length (oneA l) st'.hp r2 hp2 ∧ Q r2 hp2) → a'.defers = [] ∧ ∃ v, (results fn a'.tmps).run P E'.w = .ok v E'.w ∧ ∃ v', Ending.returned v = .returned v' ∧ ∃ r hp' E'', E''.w = E'.w ∧ Q r hp' ∧ RV E'' r v' ∧ HRel E'' hp' ∧ Fr E hp E'' hp' := by
    intro hres
    obtain ⟨l, v, ⟨r2, hp2, hwk, hQ⟩, hrun, hv⟩ := run_results (P := P) hs' hres
    obtain ⟨E2, hw2, H2, F2, hv2⟩ := hwk _ E hp E' v rfl hs'.hr hs'.fr hv
    exact ⟨hs'.df, v, hrun, v, rfl, r2, hp2, E2, hw2, hQ, hv2, H2, F2⟩
  cases ex with
  | normal => exact fin hq
  | ret => exact fin hq
  | exit i => exact hq.elim

theorem go_pieces {f : FuncId} {fn : Func} {c : Code} {args : List AV} {hp : List Blk} {Q : AV → List Blk → Prop} (hf : P.funcs[f]? = some fn) (hb : fn.body = some c) (hgo : isGo P f)
    (h : Lp P hp.length c (retQ P fn hp.length Q) .mk ⟨args ++ List.replicate (fn.ntmps - args.length) .any, hp⟩) : CallP P f args hp Q .mk := by
  rw [Lp_def] at h
  delta CallP
  exact callA_code hf hb hgo h

variable {n0 : Nat} {Q : Ex → St → Prop} {st : St}
theorem lp_whole (hm : P.follows .mixedOrders = true) {md : Nat → List Bool} {c : Code} {t} (hok : modesOk md c = true) (h : V P md n0 c Q .mk st) : Lp P n0 c Q t st := by
  rw [V_def] at h
  rw [Lp_def]
  exact vc_sound hm c st Q hok h
theorem code_seq {a b : Code} (h : CodeA P n0 a st fun e st' => match e with
    | .normal => CodeA P n0 b st' Q
    | .exit i => Q (.exit i) st'
    | .ret => Q .ret st') : CodeA P n0 (.seq a b) st Q := by
  intro E0 hp0 E s hn hs
  refine wp_seq (wp_mono (h E0 hp0 E s hn hs) fun e a' w' ⟨ex, st', E', he, hw, hs', hq⟩ => ?_)
  subst he; subst hw
  cases ex with
  | normal => exact hq E0 hp0 E' a' hn hs'
  | exit i => exact ⟨.exit i, st', E', rfl, rfl, hs', hq⟩
  | ret => exact ⟨.ret, st', E', rfl, rfl, hs', hq⟩
theorem lp_seq (hm : P.follows .mixedOrders = true) {md : Nat → List Bool} {a b : Code} {t} (hok : modesOk md a = true)
    (h : ∀ Z : St → Prop, (∀ st', Lp P n0 b Q .mk st' → Z st') → V P md n0 a (fun e st' => match e with
      | .normal => Z st'
      | .exit i => Q (.exit i) st'
      | .ret => Q .ret st') .mk st) : Lp P n0 (.seq a b) Q t st := by
  have h1 := h (fun st' => CodeA P n0 b st' Q) (fun st' hl => by rw [Lp_def] at hl; exact hl)
  rw [V_def] at h1
  rw [Lp_def]
  exact code_seq (vc_sound hm a st _ hok h1)
end
end Go.Abs
/- The abstract layer, part Z7: drawn regions in which a call changes memory beside quiet operations that do not mind. -/
set_option linter.unusedSimpArgs false
set_option linter.unusedVariables false
namespace Go.Abs
open Go
variable {P : Program}
section
variable {P : Program}

def CallAt (P : Program) (o : Oper) (f : Operand → AV) (hp : List Blk) (Q : AV → List Blk → Prop) : Prop :=
  (∃ (c : Call) (gf : Operand) (fid : FuncId) (caps : List AV), o.op = .call c ∧ c.callee = .value gf ∧ f gf = .fn fid caps ∧ CallA P fid (c.args.toList.map f ++ caps) hp Q) ∨
  (∃ t len parts, o.op = .buildSlice t len parts ∧ ∀ n0, opA P n0 o.op f hp (fun v hp' kb => Q v hp' ∧ kb = none))
theorem CallAt.congr {o : Oper} {f f' : Operand → AV} {hp : List Blk} {Q : AV → List Blk → Prop} (h : CallAt P o f hp Q) (he : ∀ x ∈ o.op.operands, f x = f' x) : CallAt P o f' hp Q := by
  rcases h with ⟨c, gf, fid, caps, h1, h2, h3, h4⟩ | ⟨t, len, parts, h1, h2⟩
  · refine .inl ⟨c, gf, fid, caps, h1, h2, by rw [← he gf (by simp [h1, Op.operands, Call.operands, h2])]; exact h3, ?_⟩
    have : c.args.toList.map f' = c.args.toList.map f := by
      apply List.map_congr_left
      intro x hx
      exact (he x (by
        simp only [h1, Op.operands, Call.operands, h2]
        simp at hx ⊢
        exact .inr hx)).symm
    rw [this]
    exact h4
  · refine .inr ⟨t, len, parts, h1, fun n0 => ?_⟩
    have h3 := h2 n0
    rw [h1] at h3 he ⊢
    have e : (parts.toList.map fun p => (p.1, f p.2)) = parts.toList.map fun p => (p.1, f' p.2) := by
      apply List.map_congr_left
      intro p hp
      rw [he p.2 (by simp only [Op.operands]; simp; exact ⟨p.1, by simpa using hp⟩)]
    simp only [opA] at h3 ⊢
    simp only [e] at h3
    exact h3

theorem St.ev_after (st : St) (hp : List Blk) (x : Operand) : (st.after hp none).ev x = st.ev x := by
  cases x <;> rfl
theorem put_after (st : St) (hp : List Blk) (d : Option Tmp) (v : AV) : (st.put d v).after hp none = (st.after hp none).put d v := by
  cases d <;> rfl
theorem put_hp (st : St) (d : Option Tmp) (v : AV) : (st.put d v).hp = st.hp := by cases d <;> rfl
theorem ev_apart {ops : List Oper} {o : Oper} {st : St} {d : Option Tmp} {v : AV} (h : ∀ t, d = some t → t ∉ o.looksAt ops.toArray) : ∀ x ∈ o.op.operands, (st.put d v).ev x = st.ev x := fun x hx => St.ev_put fun t ht e => h t ht (by
    subst e
    simp only [Oper.looksAt, List.mem_append, List.mem_filterMap]
    exact .inl ⟨.tmp t, by simpa using hx, rfl⟩)

def ordH (P : Program) (n0 : Nat) (ops : List Oper) (ms : List Nat) (Hs : List Blk → Prop) (K : St → Prop) : List Nat → St → Prop
  | [], st => K st
  | k :: r, st => ∃ o, ops[k]? = some o ∧ o.guard = none ∧ match ms.getD k 1 with
    | 0 => ∃ v, Hs st.hp ∧ (∀ hp, Hs hp → Yields P o st.ev hp v) ∧ ordH P n0 ops ms Hs K r (st.put o.dst v)
    | 2 => ∃ Q, CallAt P o st.ev st.hp Q ∧ ∀ v hp', Q v hp' → Hs hp' ∧ ordH P n0 ops ms Hs K r ((st.after hp' none).put o.dst v)
    | _ => ∃ g : AV → List Blk → Option Nat → Prop, opA P n0 o.op st.ev st.hp g ∧ ∀ v hp' kb, g v hp' kb → ordH P n0 ops ms Hs K r ((st.after hp' kb).put o.dst v)
def Oh (P : Program) (n0 : Nat) (ops : List Oper) (ms : List Nat) (Hs : List Blk → Prop) (K : St → Prop) (ord : List Nat) (_t : Tok (ops, ord, K)) (st : St) : Prop := ordH P n0 ops ms Hs K ord st
section
variable {n0 : Nat} {ops : List Oper} {ms : List Nat} {Hs : List Blk → Prop} {K : St → Prop} {k : Nat} {r : List Nat} {st : St} {t : Tok (ops, k :: r, K)} {o : Oper}
end
end
attribute [irreducible] Oh
theorem CallA.freezeQ {P : Program} (d : Nat) {f : FuncId} {args : List AV} {Q0 : AV → List Blk → Prop} (h : CallA P f args [] Q0) : CallA P f args [] (fun r hp => ∃ r0 new, Q0 r0 new ∧ r = view d new r0 ∧ hp = []) := by
  intro E vs H hl hrv
  refine (h E vs H hl hrv).mono ?_
  rintro v w' ⟨r', hp', E', hw, hq, hv, H', F'⟩
  refine ⟨_, [], E'.lent hp', hw, ⟨r', hp', hq, rfl, rfl⟩, (view_sound H' d r').1 v hv, ?_, ?_⟩
  · exact ⟨rfl, by simp, by simp, by simp, by simp, fun c hc => by
      rcases hc with h1 | ⟨b, ⟨q, hq, hlv⟩, rfl⟩
      · exact H'.old c h1
      · obtain ⟨cs', g2, _⟩ := (H'.holds b q hq hlv).cells
        exact (Row.lt g2), H'.laid.keep (fun c h => .inl h) (fun _ _ => rfl)⟩
  · exact { size := F'.size, os := F'.os, tape := F'.tape, output := F'.output, block := F'.block, len := Nat.le_refl _, ρ := fun b hb => absurd hb (Nat.not_lt_zero _), wd := fun b hb => absurd hb (Nat.not_lt_zero _),
            F := fun c hc => .inl (F'.F c hc)
            F' := fun c hc => by
              rcases hc with h1 | ⟨b, hb, rfl⟩
              · exact F'.F' c h1
              · rcases F'.live b hb with ⟨h2, _⟩ | ⟨_, h3⟩
                · exact absurd h2 (Nat.not_lt_zero _)
                · exact .inr h3
            live := fun b ⟨q, hq, _⟩ => by simp at hq
            csz := F'.csz }
end Go.Abs
/- The greatest of a number, another and that one turned about. -/
set_option linter.unusedVariables false
namespace Go.Abs
open Go
variable {P : Program}

end Go.Abs
/- The abstract layer, part Z9: places of bytes in strings, answered in place. -/
set_option linter.unusedSimpArgs false
set_option linter.unusedVariables false
namespace Go.Abs
open Go
variable {P : Program}

section
variable {P : Program}
theorem RV.two {E : Env P} {a b : AV} {vs : List Value} (hl : vs.length = 2) (hv : ∀ (i : Nat) x v, [a, b][i]? = some x → vs[i]? = some v → RV E x v) : ∃ v u, vs = [v, u] ∧ RV E a v ∧ RV E b u := by
  match vs, hl with
  | [v, u], _ => exact ⟨v, u, rfl, hv 0 a v rfl rfl, hv 1 b u rfl rfl⟩
end

end Go.Abs
/- The abstract layer, part ZA: a drawn region whose operations make blocks of their own, told by a plan: what each operation yields; its end told by names of one's choice, ahead of the last operation. -/
set_option linter.unusedSimpArgs false
set_option linter.unusedVariables false
namespace Go.Abs
open Go
variable {P : Program}

def namesL : AV → List Nat
  | .sl b _ _ | .ptr b _ _ => [b]
  | _ => []
def namesM : AV → List Nat
  | .agg l | .fn _ l => l.flatMap namesL
  | v => namesL v
def names : AV → List Nat
  | .tup l => l.flatMap namesM
  | v => namesM v
section
variable {P : Program} {n0 : Nat}
theorem quietA_congr {op : Op} {f f' : Operand → AV} {hp : List Blk} {k : AV → Prop} (he : ∀ x ∈ op.operands, f x = f' x) (h : quietA P op f hp k) : quietA P op f' hp k := by
  cases op with
  | move x => simp only [quietA] at h ⊢; rw [← he x (by simp [Op.operands])]; exact h
  | assign x => simp only [quietA] at h ⊢; rw [← he x (by simp [Op.operands])]; exact h
  | pick c a b => simp only [quietA] at h ⊢; rw [← he c (by simp [Op.operands]), ← he a (by simp [Op.operands]), ← he b (by simp [Op.operands])]; exact h
  | build t parts =>
    simp only [quietA] at h ⊢
    have e : (parts.toList.map fun p => (p.1, f' p.2)) = parts.toList.map fun p => (p.1, f p.2) := List.map_congr_left fun p hp => by rw [he p.2 (by simp only [Op.operands]; simpa using ⟨p.1, by simpa using hp⟩)]
    rw [e]
    exact h
  | load t a => simp only [quietA] at h ⊢; rw [← he a (by simp [Op.operands])]; exact h
  | nilCheck x => simp only [quietA] at h ⊢; rw [← he x (by simp [Op.operands])]; exact h
  | binOp o t x y t' => simp only [quietA] at h ⊢; rw [← he x (by simp [Op.operands]), ← he y (by simp [Op.operands])]; exact h
  | unOp o t x => simp only [quietA] at h ⊢; rw [← he x (by simp [Op.operands])]; exact h
  | convert s d x => simp only [quietA] at h ⊢; rw [← he x (by simp [Op.operands])]; exact h
  | makeFunc c first cap =>
    cases c with
    | func g =>
      simp only [quietA] at h ⊢
      have e : cap.toList.map f' = cap.toList.map f := List.map_congr_left fun x hx => (he x (by simp [Op.operands]; simp at hx; simp [hx])).symm
      rw [e]
      exact h
    | _ => exact h.elim
  | slice t x lo hi mx =>
    cases mx with
    | some m => exact h.elim
    | none =>
      simp only [quietA] at h ⊢
      have e1 : lo.map f' = lo.map f := by
        cases lo with
        | none => rfl
        | some a => simp [he a (by simp [Op.operands])]
      have e2 : hi.map f' = hi.map f := by
        cases hi with
        | none => rfl
        | some a => simp [he a (by simp [Op.operands])]
      rw [← he x (by simp [Op.operands]), e1, e2]
      exact h
  | fieldAddr s x i => simp only [quietA] at h ⊢; rw [← he x (by simp [Op.operands])]; exact h
  | field t x i => simp only [quietA] at h ⊢; rw [← he x (by simp [Op.operands])]; exact h
  | indexAddr t x ix => simp only [quietA] at h ⊢; rw [← he x (by simp [Op.operands]), ← he ix (by simp [Op.operands])]; exact h
  | index t x ix => simp only [quietA] at h ⊢; rw [← he x (by simp [Op.operands]), ← he ix (by simp [Op.operands])]; exact h
  | extract x i => simp only [quietA] at h ⊢; rw [← he x (by simp [Op.operands])]; exact h
  | call c =>
    obtain ⟨callee, args, ts⟩ := c
    cases callee with
    | builtin b =>
      simp only [quietA] at h ⊢
      have e : args.toList.map f' = args.toList.map f := List.map_congr_left fun x hx => (he x (by simp [Op.operands, Call.operands]; simpa using hx)).symm
      rw [e]
      exact h
    | _ => exact h.elim
  | _ => exact h.elim
theorem opA_congr {op : Op} {f f' : Operand → AV} {hp : List Blk} {k : AV → List Blk → Option Nat → Prop} (he : ∀ x ∈ op.operands, f x = f' x) (h : opA P n0 op f hp k) : opA P n0 op f' hp k := by
  cases op with
  | alloc t => exact h
  | box t x => simp only [opA] at h ⊢; rw [← he x (by simp [Op.operands])]; exact h
  | buildSlice t len parts =>
    simp only [opA] at h ⊢
    have e : (parts.toList.map fun p => (p.1, f' p.2)) = parts.toList.map fun p => (p.1, f p.2) := List.map_congr_left fun p hp => by rw [he p.2 (by simp only [Op.operands]; simpa using ⟨p.1, by simpa using hp⟩)]
    rw [e]
    exact h
  | store t a x => simp only [opA] at h ⊢; rw [← he a (by simp [Op.operands]), ← he x (by simp [Op.operands])]; exact h
  | makeSlice t l c => simp only [opA] at h ⊢; rw [← he l (by simp [Op.operands]), ← he c (by simp [Op.operands])]; exact h
  | call c =>
    obtain ⟨callee, args, ts⟩ := c
    cases callee with
    | value g =>
      simp only [opA] at h ⊢
      have e : args.toList.map f' = args.toList.map f := List.map_congr_left fun x hx => (he x (by simp [Op.operands, Call.operands]; simp at hx; simp [hx])).symm
      rw [← he g (by simp [Op.operands, Call.operands]), e]
      exact h
    | builtin b =>
      have e : args.toList.map f' = args.toList.map f := List.map_congr_left fun x hx => (he x (by simp [Op.operands, Call.operands]; simpa using hx)).symm
      by_cases hb : b = .append
      · subst hb
        obtain ⟨l⟩ := args
        simp only [opA] at h ⊢
        match l, he, h with
        | [s, x], he, h => simp only [] at h ⊢; rw [← he s (by simp [Op.operands, Call.operands]), ← he x (by simp [Op.operands, Call.operands])]; exact h
        | [], _, h => exact h.elim
        | [_], _, h => exact h.elim
        | _ :: _ :: _ :: _, _, h => exact h.elim
      · by_cases hb2 : b = .clear
        · subst hb2
          obtain ⟨l⟩ := args
          simp only [opA] at h ⊢
          match l, he, h with
          | [x], he, h => simp only [] at h ⊢; rw [← he x (by simp [Op.operands, Call.operands])]; exact h
          | [], _, h => exact h.elim
          | _ :: _ :: _, _, h => exact h.elim
        · cases b <;> first | exact absurd rfl hb | exact absurd rfl hb2 | (simp only [opA] at h ⊢; rw [e]; exact h)
    | _ => exact h.elim
  | move x => exact quietA_congr (P := P) (hp := hp) (k := fun v => k v hp none) he h
  | assign x => exact quietA_congr (P := P) (hp := hp) (k := fun v => k v hp none) he h
  | pick c a b => exact quietA_congr (P := P) (hp := hp) (k := fun v => k v hp none) he h
  | build t parts => exact quietA_congr (P := P) (hp := hp) (k := fun v => k v hp none) he h
  | load t a => exact quietA_congr (P := P) (hp := hp) (k := fun v => k v hp none) he h
  | nilCheck x => exact quietA_congr (P := P) (hp := hp) (k := fun v => k v hp none) he h
  | binOp o t x y t' => exact quietA_congr (P := P) (hp := hp) (k := fun v => k v hp none) he h
  | unOp o t x => exact quietA_congr (P := P) (hp := hp) (k := fun v => k v hp none) he h
  | convert s d x => simp only [opA] at h ⊢; rw [← he x (by simp [Op.operands])]; exact h
  | makeFunc c first cap => exact quietA_congr (P := P) (hp := hp) (k := fun v => k v hp none) he h
  | slice t x lo hi mx => exact quietA_congr (P := P) (hp := hp) (k := fun v => k v hp none) he h
  | fieldAddr s x i => exact quietA_congr (P := P) (hp := hp) (k := fun v => k v hp none) he h
  | field t x i => exact quietA_congr (P := P) (hp := hp) (k := fun v => k v hp none) he h
  | indexAddr t x ix => exact quietA_congr (P := P) (hp := hp) (k := fun v => k v hp none) he h
  | index t x ix => exact quietA_congr (P := P) (hp := hp) (k := fun v => k v hp none) he h
  | extract x i => exact quietA_congr (P := P) (hp := hp) (k := fun v => k v hp none) he h
  | _ => exact h.elim
end

section
variable {P : Program} {n0 : Nat}
theorem Weak.refl {st : St} : Weak n0 st st := fun _ _ _ E _ _ hs => ⟨E, rfl, hs⟩
end

def plName (N0 : Nat) (nm : Nat → Nat) (b : Nat) : Nat := if b < N0 then b else nm (b - N0)
abbrev PEs := List (Nat × AV × Option Blk)
def PEs.v (pv : PEs) (i : Nat) : AV := (pv.getD i (0, .any, none)).2.1
def PEs.b (pv : PEs) (i : Nat) : Option Blk := (pv.getD i (0, .any, none)).2.2
def PEs.uses (N0 : Nat) (pv : PEs) (i : Nat) : List Nat := (names (pv.v i)).filterMap fun b => if N0 ≤ b ∧ b ≠ N0 + i then some (b - N0) else none
def edgeOn (o : Oper) (i : Nat) : Bool := o.after.any fun e => Region.binds .any e && e.on == i
def slotP (π : Nat → Nat) (tm : List AV) : PEs → Nat → AV
  | [], t => tm.getD t .any
  | (d, v, _) :: r, t => if d = t then ren π v else slotP π tm r t
def evP (π : Nat → Nat) (tm : List AV) (pv : PEs) : Operand → AV
  | .tmp t => slotP π tm pv t
  | .const v => ofV v
  | .func f => .fn f []
  | .global _ => .any
def oldOk (hp : List Blk) : Nat → List Blk → Prop
  | _, [] => True
  | k, b :: r => hp[k]? = some b ∧ oldOk hp (k + 1) r
def newOk (hp : List Blk) (nm : Nat → Nat) (o : Oper) : Nat → PEs → Prop
  | _, [] => True
  | k, (_, _, some b) :: r => (edgeOn o k = true → hp[nm k]? = some b) ∧ newOk hp nm o (k + 1) r
  | k, (_, _, none) :: r => newOk hp nm o (k + 1) r
section
variable {P : Program} {n0 : Nat}
def HopAt (P : Program) (n0 : Nat) (ops : List Oper) (ms : List Bool) (st0 : St) (pv : PEs) (i : Nat) : Prop :=
  ∀ o, ops[i]? = some o → ∀ (nm : Nat → Nat) (hp : List Blk), oldOk hp 0 st0.hp → newOk hp nm o 0 pv → st0.hp.length ≤ hp.length →
    (ms.getD i true = true ∧ opA P n0 o.op (evP (plName st0.hp.length nm) st0.tm pv) hp (Cn (fun v hp' kb => kb = none ∧ match pv.b i with
      | none => v = ren (plName st0.hp.length nm) (pv.v i) ∧ hp' = hp
      | some b => v = ren (plName st0.hp.length (upd nm i hp.length)) (pv.v i) ∧ hp' = hp ++ [b]) .mk)) ∨
    (ms.getD i true = false ∧ pv.b i = none ∧ Yields P o (evP (plName st0.hp.length nm) st0.tm pv) hp (ren (plName st0.hp.length nm) (pv.v i)))
def HopsFrom (P : Program) (n0 : Nat) (ops : List Oper) (ms : List Bool) (st0 : St) (pv : PEs) : Nat → Nat → Prop
  | _, 0 => True
  | k, n + 1 => HopAt P n0 ops ms st0 pv k ∧ HopsFrom P n0 ops ms st0 pv (k + 1) n
theorem HopsFrom.get {ops : List Oper} {ms : List Bool} {st0 : St} {pv : PEs} : ∀ {n k : Nat}, HopsFrom P n0 ops ms st0 pv k n → ∀ i, k ≤ i → i < k + n → HopAt P n0 ops ms st0 pv i
  | 0, k, _, i, h1, h2 => by omega
  | n + 1, k, h, i, h1, h2 => by
    by_cases he : i = k
    · subst he; exact h.1
    · exact h.2.get i (by omega) (by omega)

section
variable {ops : List Oper} {ms : List Bool} {st0 : St} {pv : PEs} {k n : Nat}
end
end
end Go.Abs
/- The abstract layer, part ZB: a call that reads known blocks; what it makes is told as lists that nobody writes any more. -/
set_option linter.unusedSimpArgs false
set_option linter.unusedVariables false
namespace Go.Abs
open Go
variable {P : Program}
section
variable {P : Program}
end
end Go.Abs
/- The abstract layer, part ZC: numbers that are not negative: sums, products and quotients keep it. Of no program. -/
set_option linter.unusedSimpArgs false
set_option linter.unusedVariables false
namespace Go.Abs
open Go
variable {P : Program}

end Go.Abs
/- The abstract layer, part ZD: the library's sort, by the kit's contract. -/
set_option linter.unusedSimpArgs false
set_option linter.unusedVariables false
namespace Go.Abs
open Go
variable {P : Program}

theorem HRel.extend {E : Env P} {hp : List Blk} (H : HRel E hp) {w' : World} (hs : E.w.heap.size ≤ w'.heap.size) (hh : ∀ c, c < E.w.heap.size → w'.heap[c]? = E.w.heap[c]?) (h1 : w'.os = E.w.os) (h2 : w'.tape = E.w.tape) (h3 : w'.output = E.w.output) :
    HRel (E.with w') hp ∧ (∀ {E0 : Env P} {hp0 : List Blk}, Fr E0 hp0 E hp → Fr E0 hp0 (E.with w') hp) ∧ E.le (E.with w') := by
  have hcsz : ∀ c, csz E.w c ≤ csz w' c := fun c => by
    by_cases hc : c < E.w.heap.size
    · unfold csz; rw [hh c hc]; exact Nat.le_refl _
    · unfold csz
      rw [Array.getElem?_eq_none (by omega)]
      exact Nat.zero_le _
  have le : E.le (E.with w') := ⟨fun _ h => h, fun c hc => hh c (H.old c hc), Nat.le_refl _, fun _ _ => rfl, fun _ _ => rfl, hcsz⟩
  refine ⟨⟨H.N, H.wd, fun b blk hb hl => ?_, H.inj, H.apart, fun c hc => Nat.lt_of_lt_of_le (H.old c hc) hs, H.laidLe le⟩, ?_, le⟩
  · obtain ⟨cs, h4, h5⟩ := (H.holds b blk hb hl).cells
    refine ⟨cs, ?_, fun i e he => ⟨(h5 i e he).1, fun j x hx => ?_⟩⟩
    · show Row w'.heap[E.ρ b]? _ _
      rw [hh _ (Row.lt h4)]
      exact h4
    · obtain ⟨v, h6, h7⟩ := (h5 i e he).2 j x hx
      exact ⟨v, h6, h7.mono le⟩
  · intro E0 hp0 F
    exact { size := Nat.le_trans F.size hs, os := h1.trans F.os, tape := h2.trans F.tape, output := h3.trans F.output
            block := fun c hc hn => by
              show w'.heap[c]? = _
              rw [hh c (Nat.lt_of_lt_of_le hc F.size)]
              exact F.block c hc hn
            len := F.len, ρ := F.ρ, wd := F.wd, F := F.F, F' := F.F', live := F.live, csz := fun c => Nat.le_trans (F.csz c) (hcsz c) }

end Go.Abs
/- The abstract layer, part ZE: numerals by the kit's contract; bytes; places in strings. -/
set_option linter.unusedSimpArgs false
set_option linter.unusedVariables false
namespace Go.Abs
open Go Go.RowKit
variable {P : Program}

end Go.Abs
/- The abstract layer, part ZF: a block of the caller's is taken over: it is dead, and a new one lies in its place. -/
set_option linter.unusedSimpArgs false
set_option linter.unusedVariables false
namespace Go.Abs
open Go
variable {P : Program}

structure LeHpW (N : Nat) (π : Nat → Nat) (n0 : Nat) (hp hp2 : List Blk) : Prop where
  len : hp2.length = N
  hn0 : n0 ≤ N
  low : ∀ b, b < n0 → π b = b
  inj : ∀ (b b' : Nat) r r', hp2[b]? = some r → r.live = true → hp2[b']? = some r' → r'.live = true → π b = π b' → b = b'
  blk : ∀ (b : Nat) r, hp2[b]? = some r → ∃ q, hp[π b]? = some q ∧ q.w = r.w ∧ (r.live = true → q.live = true ∧ q.ty = r.ty ∧ q.els = r.els.map (ren π) ∧ ∀ e ∈ r.els, below N e = true)
theorem LeHpW.sound {N : Nat} {π : Nat → Nat} {n0 : Nat} {hp hp2 : List Blk} (h : LeHpW N π n0 hp hp2) {E0 : Env P} {hp0 : List Blk} {E : Env P} (hn : hp0.length = n0) (H : HRel E hp) (F : Fr E0 hp0 E hp) : HRel (E.ren N π) hp2 ∧ Fr E0 hp0 (E.ren N π) hp2 := by
  have lt : ∀ (b : Nat) r, hp2[b]? = some r → b < N := fun b r hb => by rw [← h.len]; exact (List.getElem?_eq_some_iff.1 hb).1
  refine ⟨⟨h.len.symm, ?_, ?_, ?_, ?_, H.old, H.laid⟩, ?_⟩
  · intro b r hb
    obtain ⟨q, hq, hw, _⟩ := h.blk b r hb
    show E.wd (π b) = r.w
    rw [H.wd (π b) q hq, hw]
  · intro b r hb hl
    obtain ⟨q, hq, hw, hx⟩ := h.blk b r hb
    obtain ⟨hql, hty, hels, hbel⟩ := hx hl
    obtain ⟨cs, h1, h2⟩ := (H.holds (π b) q hq hql).cells
    refine ⟨cs, by rw [← hty]; exact h1, fun i e he => ?_⟩
    have hbe := hbel e (List.mem_of_getElem? he)
    obtain ⟨k1, k2⟩ := ren_cells (π := π) hbe
    have hqe : q.els[i]? = some (Abs.ren π e) := by rw [hels]; simp [he]
    obtain ⟨h3, h4⟩ := h2 i _ hqe
    refine ⟨by rw [← hw, ← h3, k1], fun j c hc => ?_⟩
    obtain ⟨c', hc', k3⟩ := k2 j c hc
    obtain ⟨v, h5, h6⟩ := h4 j c' hc'
    exact ⟨v, by rw [← hw]; exact h5, k3 h6⟩
  · intro b b' r r' hb hl hb' hl' he
    obtain ⟨q, hq, _, hx⟩ := h.blk b r hb
    obtain ⟨q', hq', _, hx'⟩ := h.blk b' r' hb'
    exact h.inj b b' r r' hb hl hb' hl' (H.inj (π b) (π b') q q' hq (hx hl).1 hq' (hx' hl').1 he)
  · intro b r hb hl
    obtain ⟨q, hq, _, hx⟩ := h.blk b r hb
    exact H.apart (π b) q hq (hx hl).1
  · exact {
      size := F.size
      os := F.os
      tape := F.tape
      output := F.output
      block := F.block
      len := by rw [hn, h.len]; exact h.hn0
      ρ := fun b hb => by show E.ρ (π b) = _; rw [h.low b (by omega)]; exact F.ρ b hb
      wd := fun b hb => by show E.wd (π b) = _; rw [h.low b (by omega)]; exact F.wd b hb
      F := F.F
      F' := F.F'
      live := fun b ⟨r, hb, hl⟩ => by
        obtain ⟨q, hq, _, hx⟩ := h.blk b r hb
        have hlive := F.live (π b) ⟨q, hq, (hx hl).1⟩
        by_cases hbn : b < n0
        · rw [h.low b hbn] at hlive
          rcases hlive with h1 | ⟨h1, _⟩
          · exact .inl h1
          · omega
        · rcases hlive with ⟨h1, h2⟩ | ⟨_, h2⟩
          · exact .inr ⟨by omega, .inr ⟨π b, h2, (F.ρ (π b) h1).symm⟩⟩
          · exact .inr ⟨by omega, h2⟩
      csz := F.csz }
end Go.Abs
/- The abstract layer, part ZG: strings.Cut, TrimSuffix and Split, by the kit's own contracts. -/
set_option linter.unusedSimpArgs false
set_option linter.unusedVariables false
namespace Go.Abs
open Go
variable {P : Program}

def words (sep s : List UInt8) : List (List UInt8) := (Lib.splitB ⟨sep.toArray⟩ 0 (Lib.countB ⟨s.toArray⟩ ⟨sep.toArray⟩) ⟨s.toArray⟩).map (·.data.toList)
end Go.Abs
/- The abstract layer, part ZH: nil slices told as empty lists; a block that holds nothing; heaps whose blocks name one another. -/
set_option linter.unusedSimpArgs false
set_option linter.unusedVariables false
namespace Go.Abs
open Go
variable {P : Program}

def nilD : Nat → AV → AV
  | 0, a => a
  | d + 1, a => match a with
    | .nils => .ro []
    | .agg l => .agg (l.map (nilD d))
    | .tup l => .tup (l.map (nilD d))
    | .ro l => .ro (l.map (nilD d))
    | .rop l => .rop (l.map (nilD d))
    | a => a
theorem nilD_cells (d : Nat) (e : AV) : (nilD d e).cells.length = e.cells.length ∧ ∀ (j : Nat) c, (nilD d e).cells[j]? = some c → ∃ d' c0, e.cells[j]? = some c0 ∧ d' ≤ d ∧ c = nilD d' c0 := by
  cases d with
  | zero => exact ⟨rfl, fun j c h => ⟨0, c, h, Nat.le_refl _, rfl⟩⟩
  | succ d =>
    cases e with
    | agg l =>
      refine ⟨by simp [nilD, AV.cells], fun j c h => ?_⟩
      simp only [nilD, AV.cells, List.getElem?_map, Option.map_eq_some_iff] at h
      obtain ⟨c0, h1, rfl⟩ := h
      exact ⟨d, c0, h1, Nat.le_succ _, rfl⟩
    | _ =>
      refine ⟨rfl, fun j c h => ?_⟩
      cases j with
      | zero => cases h; exact ⟨d + 1, _, rfl, Nat.le_refl _, rfl⟩
      | succ j => cases h
theorem RV.nil : ∀ (d : Nat) {E : Env P} {a : AV} {v : Value}, RV E a v → RV E (nilD d a) v := by
  intro d
  induction d using Nat.strongRecOn with
  | _ d ih =>
  intro E a v h
  match d, ih with
  | 0, _ => exact h
  | d + 1, ih =>
  cases h with
  | nils a => exact .roNil a 0
  | roNil a cap => exact .roNil a cap
  | agg l vs hl h =>
    refine .agg _ vs (by rw [List.length_map]; exact hl) fun i x v h1 h2 => ?_
    rw [List.getElem?_map, Option.map_eq_some_iff] at h1
    obtain ⟨y, h3, rfl⟩ := h1
    exact ih d (by omega) (h i y v h3 h2)
  | tup l vs hl h =>
    refine .tup _ vs (by rw [List.length_map]; exact hl) fun i x v h1 h2 => ?_
    rw [List.getElem?_map, Option.map_eq_some_iff] at h1
    obtain ⟨y, h3, rfl⟩ := h1
    exact ih d (by omega) (h i y v h3 h2)
  | ro l b off cap wd val hF hcap hmax hw hc hv =>
    have hlen : (l.map (nilD d)).length = l.length := List.length_map _
    show RV E (.ro (l.map (nilD d))) _
    rw [← hlen]
    refine .ro _ b off cap wd val hF (by rw [hlen]; exact hcap) hmax (fun i e he => ?_) (fun i e he j c hj => ?_) (fun i e he j c hj => ?_)
    all_goals
      rw [List.getElem?_map, Option.map_eq_some_iff] at he
      obtain ⟨e0, h1, rfl⟩ := he
    · rw [(nilD_cells d e0).1]; exact hw i e0 h1
    · obtain ⟨d', c0, h2, _, _⟩ := (nilD_cells d e0).2 j c hj
      exact hc i e0 h1 j c0 h2
    · obtain ⟨d', c0, h2, h3, rfl⟩ := (nilD_cells d e0).2 j c hj
      exact ih d' (by omega) (hv i e0 h1 j c0 h2)
  | any v => exact .any v
  | bool b => exact .bool b
  | int k n => exact .int k n
  | flt k x b h => exact .flt k x b h
  | cpx k x y a b h h' => exact .cpx k x y a b h h'
  | str s => exact .str s
  | sl b i n off cap hb ho hcap hmax hroom => exact .sl b i n off cap hb ho hcap hmax hroom
  | ptr b i j hb => exact .ptr b i j hb
  | rop l b off val hF hc hv =>
    refine .rop _ b off val hF (fun j c hj => ?_) (fun j c hj => ?_)
    all_goals
      rw [List.getElem?_map, Option.map_eq_some_iff] at hj
      obtain ⟨c0, h1, rfl⟩ := hj
    · exact hc j c0 h1
    · exact ih d (by omega) (hv j c0 h1)
  | nilp => exact .nilp
  | fn f l vs hl h => exact .fn f l vs hl h
  | nilf => exact .nilf
theorem CallA.nil (d : Nat) {f : FuncId} {args args' : List AV} {hp : List Blk} {Q : AV → List Blk → Prop} (ha : args.map (nilD d) = args') (h : CallA P f args' hp Q) : CallA P f args hp Q := by
  subst ha
  intro E vs H hl hrv
  refine h E vs H (by rw [List.length_map]; exact hl) fun i a v h1 h2 => ?_
  rw [List.getElem?_map, Option.map_eq_some_iff] at h1
  obtain ⟨y, h3, rfl⟩ := h1
  exact (hrv i y v h3 h2).nil d
section
variable {f : FuncId} {args : List AV} {hp : List Blk} {Q : AV → List Blk → Prop} {t : Tok Q} {g : AV → Prop} {u : Tok g}
end

def deadB : Blk := { ty := 0, w := 1, els := [], live := false }
def Env.more (E : Env P) : Env P := { E with N := E.N + 1, wd := fun b => if b = E.N then 1 else E.wd b }
theorem Env.le_more (E : Env P) : E.le E.more :=
  ⟨fun _ h => h, fun _ _ => rfl, Nat.le_succ _, fun _ _ => rfl, fun b hb => by show (if b = E.N then 1 else E.wd b) = _; rw [if_neg (by omega)], fun _ => Nat.le_refl _⟩
theorem dead_get {hp : List Blk} {b : Nat} {blk : Blk} (h : (hp ++ [deadB])[b]? = some blk) : hp[b]? = some blk ∨ (b = hp.length ∧ blk = deadB) := by
  rcases Nat.lt_trichotomy b hp.length with hb | hb | hb
  · rw [List.getElem?_append_left hb] at h; exact .inl h
  · rw [List.getElem?_append_right (by omega), hb] at h
    simp at h
    exact .inr ⟨hb, h.symm⟩
  · rw [List.getElem?_append_right (by omega)] at h
    rw [List.getElem?_eq_none (by simp; omega)] at h
    cases h
theorem HRel.dead {E : Env P} {hp : List Blk} (H : HRel E hp) : HRel E.more (hp ++ [deadB]) := by
  have live : ∀ {b : Nat} {blk : Blk}, (hp ++ [deadB])[b]? = some blk → blk.live = true → hp[b]? = some blk := fun h hl => by
    rcases dead_get h with h | ⟨_, rfl⟩
    · exact h
    · cases hl
  refine ⟨by show E.N + 1 = _; rw [H.N]; simp, fun b blk hb => ?_, fun b blk hb hl => ?_, fun b b' blk blk' h1 h2 h3 h4 h5 => H.inj b b' blk blk' (live h1 h2) h2 (live h3 h4) h4 h5, fun b blk hb hl => H.apart b blk (live hb hl) hl, H.old, H.laid⟩
  · show (if b = E.N then 1 else E.wd b) = _
    rcases dead_get hb with h | ⟨rfl, rfl⟩
    · have := (List.getElem?_eq_some_iff.1 h).1
      rw [if_neg (by rw [H.N]; omega)]
      exact H.wd b blk h
    · rw [if_pos H.N.symm]; rfl
  · obtain ⟨cs, h1, h2⟩ := (H.holds b blk (live hb hl) hl).cells
    refine ⟨cs, h1, fun i e he => ⟨(h2 i e he).1, fun j x hx => ?_⟩⟩
    obtain ⟨v, h3, h4⟩ := (h2 i e he).2 j x hx
    exact ⟨v, h3, h4.mono E.le_more⟩
theorem Fr.dead {E0 E : Env P} {hp0 hp : List Blk} (H : HRel E hp) (F : Fr E0 hp0 E hp) : Fr E0 hp0 E.more (hp ++ [deadB]) :=
  { size := F.size, os := F.os, tape := F.tape, output := F.output, block := F.block
    len := by rw [List.length_append]; have := F.len; omega
    ρ := F.ρ
    wd := fun b hb => by
      show (if b = E.N then 1 else E.wd b) = _
      rw [if_neg (by rw [H.N]; have := F.len; omega)]
      exact F.wd b hb
    F := F.F, F' := F.F'
    live := fun b ⟨blk, hb, hl⟩ => by
      rcases dead_get hb with h | ⟨_, rfl⟩
      · exact F.live b ⟨blk, h, hl⟩
      · cases hl
    csz := F.csz }
theorem PostR.dead {n0 : Nat} {r : AV} {hp : List Blk} {Q : AV → List Blk → Prop} (h : Q r (hp ++ [deadB])) : PostR n0 r hp Q :=
  ⟨r, hp ++ [deadB], fun P E0 hp0 E v hn H F hv => ⟨E.more, rfl, H.dead, F.dead H, hv.mono E.le_more⟩, h⟩

theorem WeakR.trans {n0 : Nat} {r1 r2 r3 : AV} {h1 h2 h3 : List Blk} (g : WeakR n0 r1 h1 r2 h2) (k : WeakR n0 r2 h2 r3 h3) : WeakR n0 r1 h1 r3 h3 := by
  intro P E0 hp0 E v hn H F hv
  obtain ⟨E1, e1, H1, F1, v1⟩ := g P E0 hp0 E v hn H F hv
  obtain ⟨E2, e2, H2, F2, v2⟩ := k P E0 hp0 E1 v hn H1 F1 v1
  exact ⟨E2, e2.trans e1, H2, F2, v2⟩
def SameTm : List AV → List AV → Prop
  | [], [] => True
  | a :: l, b :: m => (b = .any ∨ a = b) ∧ SameTm l m
  | _, _ => False
theorem SameTm.len : ∀ {l m : List AV}, SameTm l m → l.length = m.length
  | [], [], _ => rfl
  | a :: l, b :: m, h => by simp [SameTm.len h.2]
  | [], _ :: _, h => h.elim
  | _ :: _, [], h => h.elim
theorem SameTm.get : ∀ {l m : List AV}, SameTm l m → ∀ (i : Nat) b, m[i]? = some b → b = .any ∨ l[i]? = some b
  | [], [], _, i, b, h => by simp at h
  | a :: l, b :: m, h, 0, x, hx => by
    simp at hx; subst hx
    rcases h.1 with h1 | rfl
    · exact .inl h1
    · exact .inr rfl
  | a :: l, b :: m, h, i + 1, x, hx => by simpa using SameTm.get h.2 i x (by simpa using hx)
  | [], _ :: _, h, _, _, _ => h.elim
  | _ :: _, [], h, _, _, _ => h.elim
theorem Weak.trans {n0 : Nat} {a b c : St} (h : Weak n0 a b) (g : Weak n0 b c) : Weak n0 a c := by
  intro P E0 hp0 E act hn hs
  obtain ⟨E1, h1, h2⟩ := h P E0 hp0 E act hn hs
  obtain ⟨E2, h3, h4⟩ := g P E0 hp0 E1 act hn h2
  exact ⟨E2, h3.trans h1, h4⟩
end Go.Abs
/- The abstract layer, part ZI: a drawn region with a store that may come before operations that look at no memory; guards are told one by one. -/
set_option linter.unusedSimpArgs false
set_option linter.unusedVariables false
namespace Go.Abs
open Go
variable {P : Program}

def ordB (P : Program) (b0 : Nat) (n0 : Nat) (ops : List Oper) (ms bls : List Bool) (K : St → Prop) : List Nat → St → Prop
  | [], st => K st
  | k :: r, st => ∃ o, ops[k]? = some o ∧
    if ms.getD k true then wantedA ops o st = some true ∧ ∃ g : AV → List Blk → Option Nat → Prop, opA P n0 o.op st.ev st.hp g ∧ ∀ v hp' kb, g v hp' kb → ordB P b0 n0 ops ms bls K r ((st.after hp' kb).put o.dst v)
    else ∃ v, yA P ops o st v ∧ (bls.getD k false = true → ∀ q, yA P ops o (st.after (st.hp.set b0 q) none) v) ∧ ordB P b0 n0 ops ms bls K r (st.put o.dst v)
def Ol (P : Program) (b0 : Nat) (n0 : Nat) (ops : List Oper) (ms bls : List Bool) (K : St → Prop) (ord : List Nat) (_t : Tok (ops, ord, K)) (st : St) : Prop := ordB P b0 n0 ops ms bls K ord st
section
variable {b0 : Nat} {n0 : Nat} {ops : List Oper} {ms bls : List Bool} {K : St → Prop} {k : Nat} {r : List Nat} {st : St} {t : Tok (ops, k :: r, K)} {o : Oper}
end
attribute [irreducible] Ol
end Go.Abs
/- The abstract layer, part ZJ: what a function makes beside blocks that it changes is told as lists that nobody writes. -/
set_option linter.unusedSimpArgs false
set_option linter.unusedVariables false
namespace Go.Abs
open Go
section
variable {P : Program}
end
section
variable {P : Program} {b0 : Nat} {n0 : Nat} {ops : List Oper} {ms bls : List Bool} {K : St → Prop} {k : Nat} {r : List Nat} {st : St} {t : Tok (ops, k :: r, K)} {o : Oper}
end
end Go.Abs
/- The abstract layer, part ZK: at the head of a loop blocks of plain values may be told as lists that nobody writes any more, wherever they are named. -/
set_option linter.unusedSimpArgs false
set_option linter.unusedVariables false
namespace Go.Abs
open Go
def FrzC (new : List Blk) (N : Nat) (a b : AV) : Prop := b = .any ∨ (below N a = true ∧ b = a) ∨ ∃ d d' r0, a = ren (fun i => i + N) r0 ∧ below new.length r0 = true ∧ b = nilD d' (view d new r0)
def FrzV (new : List Blk) (N : Nat) (a b : AV) : Prop := FrzC new N a b ∨ ∃ l l2, a = .agg l ∧ b = .agg l2 ∧ l.length = l2.length ∧ ∀ (i : Nat) x y, l[i]? = some x → l2[i]? = some y → FrzC new N x y
structure FrzB (new : List Blk) (N : Nat) (q q2 : Blk) : Prop where
  ty : q2.ty = q.ty
  w : q2.w = q.w
  live : q2.live = q.live
  els : ∀ (i : Nat) e2, q2.els[i]? = some e2 → ∃ e, q.els[i]? = some e ∧ e.cells.length = e2.cells.length ∧ ∀ (j : Nat) x y, e.cells[j]? = some x → e2.cells[j]? = some y → FrzC new N x y
def FrzHp (new : List Blk) (N : Nat) : List Blk → List Blk → Prop
  | [], [] => True
  | q :: l, q2 :: l2 => FrzB new N q q2 ∧ FrzHp new N l l2
  | _, _ => False
def FrzTm (new : List Blk) (N : Nat) : List AV → List AV → Prop
  | [], [] => True
  | a :: l, b :: l2 => FrzV new N a b ∧ FrzTm new N l l2
  | _, _ => False
theorem FrzHp.get {new : List Blk} {N : Nat} : ∀ {l l2 : List Blk}, FrzHp new N l l2 → l2.length = l.length ∧ ∀ (i : Nat) q2, l2[i]? = some q2 → ∃ q, l[i]? = some q ∧ FrzB new N q q2
  | [], [], _ => ⟨rfl, by simp⟩
  | q :: l, q2 :: l2, h => by
    obtain ⟨h1, h2⟩ := FrzHp.get h.2
    refine ⟨by simp [h1], fun i q' hq => ?_⟩
    cases i with
    | zero => simp at hq; subst hq; exact ⟨q, rfl, h.1⟩
    | succ i => simpa using h2 i q' (by simpa using hq)
  | [], _ :: _, h => h.elim
  | _ :: _, [], h => h.elim
theorem FrzTm.get {new : List Blk} {N : Nat} : ∀ {l l2 : List AV}, FrzTm new N l l2 → l2.length = l.length ∧ ∀ (i : Nat) b, l2[i]? = some b → ∃ a, l[i]? = some a ∧ FrzV new N a b
  | [], [], _ => ⟨rfl, by simp⟩
  | q :: l, q2 :: l2, h => by
    obtain ⟨h1, h2⟩ := FrzTm.get h.2
    refine ⟨by simp [h1], fun i q' hq => ?_⟩
    cases i with
    | zero => simp at hq; subst hq; exact ⟨q, rfl, h.1⟩
    | succ i => simpa using h2 i q' (by simpa using hq)
  | [], _ :: _, h => h.elim
  | _ :: _, [], h => h.elim
theorem weak_freeze {n0 : Nat} {K K2 new : List Blk} {tm tm2 : List AV} (hn : n0 ≤ K.length) (hf : ∀ q ∈ new, allBelow 0 q.els = true) (hK : FrzHp new K.length K K2) (ht : FrzTm new K.length tm tm2) : Weak n0 ⟨tm, K ++ new⟩ ⟨tm2, K2⟩ := by
  intro P E0 hp0 E a hn0 hs
  have H := hs.hr
  have F := hs.fr
  obtain ⟨kl, kg⟩ := hK.get
  obtain ⟨tl, tg⟩ := ht.get
  have hlt : ∀ (b : Nat) blk, K[b]? = some blk → b < K.length ∧ (K ++ new)[b]? = some blk := fun b blk h => by
    have := (List.getElem?_eq_some_iff.1 h).1
    exact ⟨this, by rw [List.getElem?_append_left this]; exact h⟩
  have hnew : ∀ (b : Nat) blk, new[b]? = some blk → (K ++ new)[b + K.length]? = some blk := fun b blk h => by
    rw [List.getElem?_append_right (by omega), show b + K.length - K.length = b from by omega]; exact h
  let En : Env P := E.ren new.length fun i => i + K.length
  have Hn : HRel En new := by
    refine ⟨rfl, fun b blk h => H.wd _ blk (hnew b blk h), ?_, ?_, fun b blk h hl hF => H.apart _ blk (hnew b blk h) hl hF, H.old, H.laid⟩
    · intro b blk h hl
      obtain ⟨cs, h1, h2⟩ := (H.holds _ blk (hnew b blk h) hl).cells
      refine ⟨cs, h1, fun i e he => ⟨(h2 i e he).1, fun j x hx => ?_⟩⟩
      obtain ⟨u, h3, h4⟩ := (h2 i e he).2 j x hx
      refine ⟨u, h3, ?_⟩
      have hbe : below 0 e = true := by
        have := hf blk (List.mem_of_getElem? h)
        simp only [allBelow, List.all_eq_true] at this
        exact this e (List.mem_of_getElem? he)
      obtain ⟨_, h5⟩ := ren_cells (π := fun b => b) (below_mono0 (N := 0) (fun b => b) e hbe).1
      obtain ⟨c', h6, h7⟩ := h5 j x hx
      rw [ren_id 0 hbe, hx] at h6
      cases h6
      exact (h7 h4).mono ⟨fun _ h => h, fun _ _ => rfl, Nat.zero_le _, fun _ hb => absurd hb (Nat.not_lt_zero _), fun _ hb => absurd hb (Nat.not_lt_zero _), fun _ => Nat.le_refl _⟩
    · intro b b' blk blk' h1 h2 h3 h4 h5
      have := H.inj _ _ blk blk' (hnew _ _ h1) h2 (hnew _ _ h3) h4 h5
      omega
  let E2 : Env P := { E with F := fun c => E.F c ∨ ∃ b, Live new b ∧ E.ρ (b + K.length) = c, N := K.length }
  have leN : (E.ren K.length fun b => b).le E2 := ⟨fun _ h => .inl h, fun _ _ => rfl, Nat.le_refl _, fun _ _ => rfl, fun _ _ => rfl, fun _ => Nat.le_refl _⟩
  have frzC : ∀ x y u, FrzC new K.length x y → RV E x u → RV E2 y u := by
    intro x y u h hr
    rcases h with rfl | ⟨hb, rfl⟩ | ⟨d, d', r0, rfl, hb, rfl⟩
    · exact .any _
    · have : RV (E.ren K.length fun b => b) y u := RV.unren hb (by rw [ren_id _ hb]; exact hr)
      exact this.mono leN
    · have h1 : RV En r0 u := RV.unren hb hr
      have h2 := (view_sound Hn d r0).1 u h1
      refine RV.nil d' (h2.mono ⟨fun c hc => ?_, fun _ _ => rfl, Nat.zero_le _, fun _ hb => absurd hb (Nat.not_lt_zero _), fun _ hb => absurd hb (Nat.not_lt_zero _), fun _ => Nat.le_refl _⟩)
      rcases hc with h | ⟨b, hl, rfl⟩
      · exact .inl h
      · exact .inr ⟨b, hl, rfl⟩
  have frzV : ∀ x y u, FrzV new K.length x y → RV E x u → RV E2 y u := by
    intro x y u h hr
    rcases h with h | ⟨l, l2, rfl, rfl, hl, hc⟩
    · exact frzC x y u h hr
    · cases hr with
      | agg _ vs hls hv =>
        refine .agg l2 vs (hl ▸ hls) fun i y u hy hu => ?_
        have hi : i < l.length := by rw [hl]; exact (List.getElem?_eq_some_iff.1 hy).1
        exact frzC _ y u (hc i l[i] y (List.getElem?_eq_getElem hi) hy) (hv i l[i] u (List.getElem?_eq_getElem hi) hu)
  have old : ∀ c, E2.F c → c < E.w.heap.size := by
    rintro c (h | ⟨b', ⟨q, hq, hl⟩, rfl⟩)
    · exact H.old c h
    · obtain ⟨cs, h1, _⟩ := (H.holds _ q (hnew b' q hq) hl).cells
      exact (Row.lt h1)
  have H2 : HRel E2 K2 := by
    refine ⟨kl.symm, fun b blk h => ?_, ?_, ?_, ?_, old, H.laid.keep (fun c h => .inl h) (fun _ _ => rfl)⟩
    · obtain ⟨q, hq, hB⟩ := kg b blk h
      rw [hB.w]
      exact H.wd b q (hlt b q hq).2
    · intro b blk h hlv
      obtain ⟨q, hq, hB⟩ := kg b blk h
      obtain ⟨cs, h1, h2⟩ := (H.holds b q (hlt b q hq).2 (hB.live ▸ hlv)).cells
      refine ⟨cs, by rw [hB.ty]; exact h1, fun i e2 he2 => ?_⟩
      obtain ⟨e, he, hl, hc⟩ := hB.els i e2 he2
      refine ⟨by rw [← hl, hB.w]; exact (h2 i e he).1, fun j y hy => ?_⟩
      have hj : j < e.cells.length := by rw [hl]; exact (List.getElem?_eq_some_iff.1 hy).1
      obtain ⟨u, h3, h4⟩ := (h2 i e he).2 j e.cells[j] (List.getElem?_eq_getElem hj)
      exact ⟨u, by rw [hB.w]; exact h3, frzC _ y u (hc j _ y (List.getElem?_eq_getElem hj) hy) h4⟩
    · intro b b' blk blk' h1 h2 h3 h4 h5
      obtain ⟨q, hq, hB⟩ := kg b blk h1
      obtain ⟨q', hq', hB'⟩ := kg b' blk' h3
      exact H.inj b b' q q' (hlt _ _ hq).2 (hB.live ▸ h2) (hlt _ _ hq').2 (hB'.live ▸ h4) h5
    · intro b blk h hlv hF
      obtain ⟨q, hq, hB⟩ := kg b blk h
      rcases hF with h1 | ⟨b', ⟨q', hq', hl⟩, h1⟩
      · exact H.apart b q (hlt b q hq).2 (hB.live ▸ hlv) h1
      · have := H.inj b (b' + K.length) q q' (hlt b q hq).2 (hB.live ▸ hlv) (hnew b' q' hq') hl h1.symm
        have := (hlt b q hq).1
        omega
  have F2 : Fr E0 hp0 E2 K2 :=
    { size := F.size, os := F.os, tape := F.tape, output := F.output, block := F.block, len := by rw [hn0, kl]; exact hn, ρ := F.ρ, wd := F.wd, csz := F.csz
      F := fun c h => .inl (F.F c h)
      F' := fun c hc => by
        rcases hc with h | ⟨b', ⟨q, hq, hl⟩, rfl⟩
        · exact F.F' c h
        · rcases F.live (b' + K.length) ⟨q, hnew b' q hq, hl⟩ with ⟨h1, _⟩ | ⟨_, h2⟩
          · exact absurd h1 (by omega)
          · exact .inr h2
      live := fun b ⟨blk, h, hlv⟩ => by
        obtain ⟨q, hq, hB⟩ := kg b blk h
        exact F.live b ⟨q, (hlt b q hq).2, hB.live ▸ hlv⟩ }
  exact ⟨E2, rfl, H2, F2, tl.trans hs.len, fun i v u h1 h2 => by
    obtain ⟨x, hx, hv⟩ := tg i v h1
    exact frzV x v u hv (hs.tm i x u hx h2), hs.df⟩
theorem Weak.and {n0 : Nat} {a b c : St} (h1 : Weak n0 a b) (h2 : Weak n0 b c) : Weak n0 a c := by
  intro P E0 hp0 E s hn hs
  obtain ⟨E1, e1, s1⟩ := h1 P E0 hp0 E s hn hs
  obtain ⟨E2, e2, s2⟩ := h2 P E0 hp0 E1 s hn s1
  exact ⟨E2, e2.trans e1, s2⟩
theorem frzTm_any {new : List Blk} {N : Nat} {a : AV} {l l2 : List AV} (h : FrzTm new N l l2) : FrzTm new N (a :: l) (.any :: l2) := ⟨.inl (.inl rfl), h⟩
theorem frzTm_keep {new : List Blk} {N : Nat} {a : AV} {l l2 : List AV} (hb : below N a = true) (h : FrzTm new N l l2) : FrzTm new N (a :: l) (a :: l2) := ⟨.inl (.inr (.inl ⟨hb, rfl⟩)), h⟩
end Go.Abs
/- The abstract layer, part ZL: a known block, told with its first elements alone. -/
namespace Go.Abs
open Go
variable {P : Program}

theorem cut_get {hp : List Blk} {b : Nat} {blk : Blk} (m : Nat) (hb : hp[b]? = some blk) {b' : Nat} {q : Blk} (h : (hp.set b { blk with els := blk.els.take m })[b']? = some q) :
    ∃ q0, hp[b']? = some q0 ∧ q0.w = q.w ∧ q0.live = q.live ∧ q0.ty = q.ty ∧ ∀ (i : Nat) e, q.els[i]? = some e → q0.els[i]? = some e := by
  by_cases hbb : b = b'
  · subst hbb
    rw [List.getElem?_set_self (List.getElem?_eq_some_iff.1 hb).1] at h
    simp only [Option.some.injEq] at h
    subst h
    refine ⟨blk, hb, rfl, rfl, rfl, fun i e he => ?_⟩
    have he' : (blk.els.take m)[i]? = some e := he
    rw [List.getElem?_take] at he'
    split at he'
    · exact he'
    · simp at he'
  · rw [List.getElem?_set_ne hbb] at h
    exact ⟨q, h, rfl, rfl, rfl, fun _ _ he => he⟩
theorem HRel.cut {E : Env P} {hp : List Blk} (H : HRel E hp) {b : Nat} {blk : Blk} (m : Nat) (hb : hp[b]? = some blk) : HRel E (hp.set b { blk with els := blk.els.take m }) where
  N := by rw [List.length_set]; exact H.N
  wd := fun b' q h => by
    obtain ⟨q0, h1, h2, _⟩ := cut_get m hb h
    rw [H.wd b' q0 h1, h2]
  holds := fun b' q h hl => by
    obtain ⟨q0, h1, h2, h3, h4, h5⟩ := cut_get m hb h
    obtain ⟨cs, g1, g2⟩ := (H.holds b' q0 h1 (by rw [h3]; exact hl)).cells
    exact ⟨cs, h4 ▸ g1, fun i e he => by rw [← h2]; exact g2 i e (h5 i e he)⟩
  inj := fun b' b'' q q' h hl h' hl' he => by
    obtain ⟨q0, h1, _, h3, _⟩ := cut_get m hb h
    obtain ⟨q1, h1', _, h3', _⟩ := cut_get m hb h'
    exact H.inj b' b'' q0 q1 h1 (by rw [h3]; exact hl) h1' (by rw [h3']; exact hl') he
  apart := fun b' q h hl => by
    obtain ⟨q0, h1, _, h3, _⟩ := cut_get m hb h
    exact H.apart b' q0 h1 (by rw [h3]; exact hl)
  old := H.old
  laid := H.laid
theorem Fr.cut {E E0 : Env P} {hp0 hp : List Blk} (F : Fr E0 hp0 E hp) {b : Nat} {blk : Blk} (m : Nat) (hb : hp[b]? = some blk) : Fr E0 hp0 E (hp.set b { blk with els := blk.els.take m }) where
  size := F.size
  os := F.os
  tape := F.tape
  output := F.output
  block := F.block
  len := by rw [List.length_set]; exact F.len
  ρ := F.ρ
  wd := F.wd
  F := F.F
  F' := F.F'
  live := fun b' ⟨q, h, hl⟩ => by
    obtain ⟨q0, h1, _, h3, _⟩ := cut_get m hb h
    exact F.live b' ⟨q0, h1, by rw [h3]; exact hl⟩
  csz := F.csz
theorem PostR.cut {n0 : Nat} {r : AV} {hp : List Blk} {Q : AV → List Blk → Prop} (b m : Nat) {blk : Blk} (hb : hp[b]? = some blk) (h : PostR n0 r (hp.set b { blk with els := blk.els.take m }) Q) : PostR n0 r hp Q := by
  obtain ⟨r2, hp2, hw, hq⟩ := h
  exact ⟨r2, hp2, fun P E0 hp0 E v hn H F hv => hw P E0 hp0 E v hn (H.cut m hb) (F.cut m hb) hv, hq⟩
theorem Weak.cut {n0 : Nat} {tm : List AV} {hp : List Blk} {st2 : St} (b m : Nat) {blk : Blk} (hb : hp[b]? = some blk) (h : Weak n0 ⟨tm, hp.set b { blk with els := blk.els.take m }⟩ st2) : Weak n0 ⟨tm, hp⟩ st2 := by
  intro P E0 hp0 E a hn hs
  exact h P E0 hp0 E a hn ⟨hs.hr.cut m hb, hs.fr.cut m hb, hs.len, hs.tm, hs.df⟩
end Go.Abs
