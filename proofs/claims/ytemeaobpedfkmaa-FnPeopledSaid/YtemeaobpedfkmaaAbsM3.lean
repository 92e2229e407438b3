/- The abstract layer: parts Z4 Z5 Z6 Z7 Z8 Z9 ZA ZB ZC ZD ZE ZF ZG ZH ZI ZJ ZK ZL. -/
import Derived.Test.YtemeaobpedfkmaaAbsM2
import Derived.Lib.Bytealg
import Derived.Sort.OwnSortedInts
import Derived.Lib.ItoaNum
import Derived.Lib.LaidTab
import Derived.Below
import Derived.Lib.Join
import Derived.Sort.Grow
import Derived.Deep.Draws
import Derived.Lib.Strings
import Derived.Lib.Split
import Derived.Lib.SplitLaws
import Derived.Lib.CountLaws
import Derived.Lib.IndexMore
/- The abstract layer, part Z4: calls whose result is told by a property; branches whose way is known; bytes. -/
set_option linter.unusedSimpArgs false
set_option linter.unusedVariables false
namespace Go.Abs
open Go
variable {P : Program}

theorem br_no {c : Bool} {x y : Prop} {t : Tok x} {u : Tok y} (hc : c = false) (hy : y) : Br c x y t u := by subst hc; exact br_intro (fun h => by cases h) (fun _ => hy)
theorem br_yes {c : Bool} {x y : Prop} {t : Tok x} {u : Tok y} (hc : c = true) (hx : x) : Br c x y t u := by subst hc; exact br_intro (fun _ => hx) (fun h => by cases h)

section
variable {P : Program} {f : FuncId} {args : List AV} {hp : List Blk} {Q Q0 : AV → List Blk → Prop} {t : Tok Q}
theorem call_handedQ (σ : List Nat) {args' : List AV} {hps : List Blk} (h : CallA P f args' hps Q0) (hn : σ.Nodup) (S : SubF hp σ hps) (ha : args = args'.map (ren fun i => σ.getD i 0)) (hb : args'.all (below σ.length) = true)
    (hQ : ∀ r hps', Q0 r hps' → (∀ q ∈ hps', allBelow 0 q.els = true) ∧ Q (ren (upName σ hp.length) r) (putF σ hps' hp ++ hps'.drop σ.length)) : CallP P f args hp Q t := by
  refine call_at (CallA.sub σ (S.sub hn) ha hb (h.mono ?_))
  intro r hps' h0
  obtain ⟨hf, hq⟩ := hQ r hps' h0
  have e : subHp σ hp hps' = putF σ hps' hp ++ hps'.drop σ.length := by
    unfold subHp
    rw [putBack_flat _ _ _ _ hf]
    congr 1
    have : ∀ l : List Blk, (∀ q ∈ l, allBelow 0 q.els = true) → l.map (renB (upName σ hp.length)) = l := by
      intro l
      induction l with
      | nil => intro _; rfl
      | cons q l ih => intro hl; rw [List.map_cons, renB_flat (hl q (by simp)), ih fun x hx => hl x (by simp [hx])]
    exact this _ fun q hq => hf q (List.mem_of_mem_drop hq)
  rw [e]
  exact hq
end

theorem allBelow_cons {N : Nat} {a : AV} {l : List AV} : allBelow N (a :: l) = (below N a && allBelow N l) := rfl
theorem allBelow_nil {N : Nat} : allBelow N [] = true := rfl

def SubG (π : Nat → Nat) (N : Nat) (hp : List Blk) : List Nat → List Blk → Prop
  | [], [] => True
  | s :: σ, r :: l => (hp[s]? = some (renB π r) ∧ allBelow N r.els = true) ∧ SubG π N hp σ l
  | _, _ => False
theorem SubG.len {π : Nat → Nat} {N : Nat} {hp : List Blk} : ∀ {σ : List Nat} {l : List Blk}, SubG π N hp σ l → l.length = σ.length
  | [], [], _ => rfl
  | s :: σ, r :: l, h => by simp [SubG.len h.2]
  | [], _ :: _, h => h.elim
  | _ :: _, [], h => h.elim
theorem SubG.get {π : Nat → Nat} {N : Nat} {hp : List Blk} : ∀ {σ : List Nat} {l : List Blk}, SubG π N hp σ l → ∀ (i : Nat) r, l[i]? = some r → hp[σ.getD i 0]? = some (renB π r) ∧ allBelow N r.els = true
  | [], [], _, i, r, h => by simp at h
  | s :: σ, q :: l, h, 0, r, hr => by simp at hr; subst hr; simpa using h.1
  | s :: σ, q :: l, h, i + 1, r, hr => by simpa using SubG.get h.2 i r (by simpa using hr)
  | [], _ :: _, h, _, _, _ => h.elim
  | _ :: _, [], h, _, _, _ => h.elim
theorem getD_inj {σ : List Nat} (hn : σ.Nodup) : ∀ b b', b < σ.length → b' < σ.length → σ.getD b 0 = σ.getD b' 0 → b = b' := by
  intro b b' h1 h2 e
  simp only [List.getD_eq_getElem?_getD, List.getElem?_eq_getElem h1, List.getElem?_eq_getElem h2, Option.getD_some] at e
  have hne := List.pairwise_iff_getElem.1 hn
  rcases Nat.lt_trichotomy b b' with hlt | he | hlt
  · exact absurd e (hne b b' h1 h2 hlt)
  · exact he
  · exact absurd e.symm (hne b' b h2 h1 hlt)
theorem SubG.le {σ : List Nat} {n0 : Nat} {hp hp2 : List Blk} (hn : σ.Nodup) (h0 : n0 ≤ σ.length) (hlow : ∀ b, b < n0 → σ.getD b 0 = b) (S : SubG (fun i => σ.getD i 0) σ.length hp σ hp2) : LeHp σ.length (fun i => σ.getD i 0) n0 hp hp2 := by
  refine ⟨S.len, h0, hlow, getD_inj hn, fun b r hr => ?_⟩
  obtain ⟨h1, h2⟩ := S.get b r hr
  exact ⟨_, h1, rfl, fun hl => ⟨hl, rfl, rfl, by simpa [allBelow] using h2⟩⟩
theorem weak_names (σ : List Nat) {n0 : Nat} {st st2 : St} (hn : σ.Nodup) (h0 : n0 ≤ σ.length) (hlow : ∀ b, b < n0 → σ.getD b 0 = b) (S : SubG (fun i => σ.getD i 0) σ.length st.hp σ st2.hp) (ht : LeTm σ.length (fun i => σ.getD i 0) st.tm st2.tm) : Weak n0 st st2 :=
  weak_ren σ.length (fun i => σ.getD i 0) ht (S.le hn h0 hlow)
theorem PostR.tell (σ : List Nat) {n0 : Nat} {r r2 : AV} {hp hp2 : List Blk} {Q : AV → List Blk → Prop} (hn : σ.Nodup) (h0 : n0 ≤ σ.length) (hlow : ∀ b, b < n0 → σ.getD b 0 = b) (S : SubG (fun i => σ.getD i 0) σ.length hp σ hp2) (hr : r = ren (fun i => σ.getD i 0) r2) (hb : below σ.length r2 = true) (h : Q r2 hp2) : PostR n0 r hp Q :=
  PostR.names (fun i => σ.getD i 0) r2 hp2 (.inr ⟨hr, by rw [S.len]; exact hb⟩) (by have := S.le hn h0 hlow; rwa [← S.len] at this) h

theorem allW_int (k : IntKind) (n : Int) : AllW 1 [AV.int k n] = True := by
  simp only [eq_iff_iff, iff_true]
  intro a ha
  simp only [List.mem_singleton] at ha
  subst ha
  exact ⟨rfl, rfl⟩

def kint (k : IntKind) (l : List Int) : List AV := l.map (AV.int k)
section
variable {k : IntKind} {l : List Int}
theorem kint_len : (kint k l).length = l.length := by simp [kint]
theorem kint_get (i : Nat) (h : i < (kint k l).length) : (kint k l)[i] = .int k (l[i]'(by simpa [kint] using h)) := by simp [kint]
theorem kint_below (N : Nat) : allBelow N (kint k l) = true := by simp [allBelow, kint, below, belowM, belowL]
theorem kint_ren (π : Nat → Nat) : (kint k l).map (ren π) = kint k l := by simp [kint, ren, renM, renL]
end
theorem ofT_kint {P : Program} {m : Nat} {t e : TypeId} {k : IntKind} {a : AV} (ht : P.underlying t = some (.slice e)) (he : P.underlying e = some (.int k)) (h : OfT P (m + 2) t [a]) : ∃ xs : List Int, a = .ro (kint k xs) ∧ xs.length ≤ maxLen ∧ ∀ x ∈ xs, (Lit.int k x).wf = true := by
  unfold OfT at h
  rw [ht] at h
  obtain ⟨els, h0, hl, h⟩ := h
  have key : ∀ els : List AV, (∀ a ∈ els, OfT P (m + 1) e a.cells ∧ ((∃ fs, P.underlying e = some (.struct fs)) → ∃ c, a = .agg c) ∧ ((∀ fs, P.underlying e ≠ some (.struct fs)) → a.one = true)) → ∃ xs : List Int, els = kint k xs ∧ ∀ x ∈ xs, (Lit.int k x).wf = true := by
    intro els
    induction els with
    | nil => intro _; exact ⟨[], rfl, by simp⟩
    | cons a els ih =>
      intro h
      obtain ⟨xs, h1, h2⟩ := ih fun b hb => h b (by simp [hb])
      obtain ⟨h3, _, h4⟩ := h a (by simp)
      have h5 := h4 (by rw [he]; intro fs h; cases h)
      unfold OfT at h3
      rw [he] at h3
      obtain ⟨z, h6, h7⟩ := h3
      have : a = .int k z := by cases a <;> simp_all [AV.cells, AV.one]
      exact ⟨z :: xs, by simp [kint, this, h1], by simp only [List.mem_cons, forall_eq_or_imp]; exact ⟨h7, h2⟩⟩
  obtain ⟨xs, rfl, h2⟩ := key els h
  refine ⟨xs, by simpa using h0, by simpa [kint_len] using hl, h2⟩
end Go.Abs
/- The abstract layer, part Z5: drawn regions in an order of one's choice; new blocks told as what nobody writes. -/
set_option linter.unusedSimpArgs false
set_option linter.unusedVariables false
namespace Go.Abs
open Go
variable {P : Program}
theorem Cn_eq {g : AV → List Blk → Option Nat → Prop} {t : Tok g} : Cn g t = g := by delta Cn; rfl
section
variable {P : Program}

theorem freeze_one {E E' : Env P} {hp : List Blk} {q : Blk} (H : HRel E hp) (H' : HRel E' (hp ++ [q])) (F' : Fr E hp E' (hp ++ [q])) (hl : q.live = true) (hf : allBelow 0 q.els = true) (hflat : ∀ b ∈ hp, allBelow hp.length b.els = true)
    (d : Nat) (r0 : AV) (hb : below 1 r0 = true) (v : Value) (hv : RV E' (ren (fun i => [hp.length].getD i 0) r0) v) :
    ∃ E2 : Env P, E2.w = E'.w ∧ RV E2 (view d [q] r0) v ∧ HRel E2 hp ∧ Fr E hp E2 hp ∧ E.le E2 := by
  have hq : (hp ++ [q])[hp.length]? = some q := by simp
  have hlt : ∀ (b : Nat) blk, hp[b]? = some blk → b < hp.length ∧ (hp ++ [q])[b]? = some blk := fun b blk h => by
    have := (List.getElem?_eq_some_iff.1 h).1
    exact ⟨this, by rw [List.getElem?_append_left this]; exact h⟩
  let E2 : Env P := { E' with F := fun c => E'.F c ∨ c = E'.ρ hp.length, N := hp.length }
  have leN : (E'.ren hp.length fun b => b).le E2 := ⟨fun _ h => .inl h, fun _ _ => rfl, Nat.le_refl _, fun _ _ => rfl, fun _ _ => rfl, fun _ => Nat.le_refl _⟩
  have H2 : HRel E2 hp := by
    refine ⟨rfl, fun b blk h => H'.wd b blk (hlt b blk h).2, ?_, ?_, ?_, ?_, H'.laid.keep (fun c h => .inl h) (fun _ _ => rfl)⟩
    · intro b blk h hlv
      obtain ⟨cs, h1, h2⟩ := (H'.holds b blk (hlt b blk h).2 hlv).cells
      refine ⟨cs, h1, fun i e he => ⟨(h2 i e he).1, fun j x hx => ?_⟩⟩
      obtain ⟨u, h3, h4⟩ := (h2 i e he).2 j x hx
      refine ⟨u, h3, ?_⟩
      have hbe : below hp.length e = true := by
        have := hflat blk (List.mem_of_getElem? h)
        simp only [allBelow, List.all_eq_true] at this
        exact this e (List.mem_of_getElem? he)
      obtain ⟨_, h5⟩ := ren_cells (π := fun b => b) hbe
      obtain ⟨c', h6, h7⟩ := h5 j x hx
      rw [ren_id _ hbe, hx] at h6
      cases h6
      exact (h7 h4).mono leN
    · intro b b' blk blk' h1 h2 h3 h4 h5
      exact H'.inj b b' blk blk' (hlt _ _ h1).2 h2 (hlt _ _ h3).2 h4 h5
    · intro b blk h hlv hF
      rcases hF with h1 | h1
      · exact H'.apart b blk (hlt b blk h).2 hlv h1
      · have := H'.inj b hp.length blk q (hlt b blk h).2 hlv hq hl h1
        have := (hlt b blk h).1
        omega
    · rintro c (h | rfl)
      · exact H'.old c h
      · obtain ⟨cs, h1, _⟩ := (H'.holds _ q hq hl).cells
        exact (Row.lt h1)
  have F2 : Fr E hp E2 hp :=
    { size := F'.size, os := F'.os, tape := F'.tape, output := F'.output, block := F'.block, len := Nat.le_refl _, ρ := F'.ρ, wd := F'.wd, csz := F'.csz
      F := fun c h => .inl (F'.F c h)
      F' := fun c hc => by
        rcases hc with h | rfl
        · exact F'.F' c h
        · rcases F'.live hp.length ⟨q, hq, hl⟩ with ⟨h1, _⟩ | ⟨_, h2⟩
          · exact absurd h1 (Nat.lt_irrefl _)
          · exact .inr h2
      live := fun b ⟨blk, h, hlv⟩ => .inl ⟨(hlt b blk h).1, blk, h, hlv⟩ }
  refine ⟨E2, rfl, ?_, H2, F2, F2.le H H2⟩
  have S : Sub [hp.length] (hp ++ [q]) [q] := SubF.sub (by simp) ⟨⟨hq, hf⟩, trivial⟩
  have Hq := S.hrel H'
  have h1 := RV.unren (E := E') (N := 1) (π := fun i => [hp.length].getD i 0) hb hv
  have h2 := (view_sound Hq d r0).1 v h1
  refine h2.mono ⟨fun c hc => ?_, fun _ _ => rfl, Nat.zero_le _, fun _ hb => absurd hb (Nat.not_lt_zero _), fun _ hb => absurd hb (Nat.not_lt_zero _), fun _ => Nat.le_refl _⟩
  rcases hc with h | ⟨b, ⟨bk, hbk, _⟩, rfl⟩
  · exact .inl h
  · have : b = 0 := by
      have := (List.getElem?_eq_some_iff.1 hbk).1
      simpa using this
    subst this
    exact .inr rfl

theorem Yields.fresh {o : Oper} {f : Operand → AV} {hp : List Blk} (q : Blk) (hl : q.live = true) (hf : allBelow 0 q.els = true) (hflat : ∀ b ∈ hp, allBelow hp.length b.els = true) (d : Nat) (r0 : AV) (hb : below 1 r0 = true)
    (h : opA P hp.length o.op f hp (fun v hp' kb => v = ren (fun i => [hp.length].getD i 0) r0 ∧ hp' = hp ++ [q] ∧ kb = none)) : Yields P o f hp (view d [q] r0) := by
  intro E g H hr hcst
  have := opA_sound (E0 := E) (hp0 := hp) H (Fr.refl E hp) hr hcst h
  unfold Runs at this ⊢
  have conv : ∀ u w', OpPost E E hp (fun v hp' kb => v = ren (fun i => [hp.length].getD i 0) r0 ∧ hp' = hp ++ [q] ∧ kb = none) u w' → ∃ E', E'.w = w' ∧ RV E' (view d [q] r0) u ∧ HRel E' hp ∧ Fr E hp E' hp ∧ E.le E' := by
    rintro u w' ⟨E', av, hp', kb, hl'⟩
    obtain ⟨rfl, rfl, rfl⟩ := hl'.k
    obtain ⟨E2, h1, h2, h3, h4, h5⟩ := freeze_one H hl'.hr hl'.fr hl hf hflat d r0 hb u hl'.rv
    exact ⟨E2, h1.trans hl'.w, h2, h3, h4, h5⟩
  split at this
  · exact conv _ _ this
  · exact conv _ _ this
  · exact this.mono fun e w'' ⟨v, he, hp⟩ => ⟨v, he, conv _ _ hp⟩
  · exact this.elim

theorem Yields.bare {o : Oper} {f : Operand → AV} {hp : List Blk} {t e : TypeId} (ho : o.op = .buildSlice t 0 #[]) (hd : P.underlying t = some (.slice e)) (hpos : 0 < P.cellsOf e) (hflat : ∀ b ∈ hp, allBelow hp.length b.els = true) : Yields P o f hp .nils := by
  intro E g H hr hcst
  have run : (Instr.buildSlice t 0 #[]).run P E.w = .ok (.slice (some ⟨E.w.heap.size, 0, none⟩) 0 0) { E.w with heap := E.w.heap.push (.cells #[] e) } := by
    have hc : ¬ (0 : Nat) > 2 ^ 24 := by omega
    simp only [Instr.buildSlice, Sem.run_bind, run_underlying' hd, Result.andThen_ok, run_sizeOf_pos hpos, Nat.zero_mul, hc, if_false, if_true, Sem.run_pure]
    have e0 : (Array.map (fun x => (#[] : Array Value)[x % (#[] : Array Value).size]!) (Array.range 0)) = #[] := by simp
    rw [e0]
    rfl
  obtain ⟨E', h1, h2, h3, h4, _⟩ := new_block H (Fr.refl E hp) { ty := e, w := P.cellsOf e, els := [], live := true } #[] rfl _ (Same.refl _) (fun i e he => by simp at he)
  obtain ⟨E2, k1, _, k2, k3, k4⟩ := freeze_one H h2 h3 rfl rfl hflat 0 .any rfl undef (.any _)
  unfold Runs
  have hx : (execOp g o).run P E.w = .ok (.value (.slice (some ⟨E.w.heap.size, 0, none⟩) 0 0)) { E.w with heap := E.w.heap.push (.cells #[] e) } := by
    simp only [execOp, ho]
    simp [Sem.run_bind, run]
  rw [hx]
  exact ⟨E2, k1.trans h1, .nils _, k2, k3, k4⟩

def ordA (P : Program) (n0 : Nat) (ops : List Oper) (ms : List Bool) (K : St → Prop) : List Nat → St → Prop
  | [], st => K st
  | k :: r, st => ∃ o, ops[k]? = some o ∧ o.guard = none ∧
    if ms.getD k true then ∃ g : AV → List Blk → Option Nat → Prop, opA P n0 o.op st.ev st.hp g ∧ ∀ v hp' kb, g v hp' kb → ordA P n0 ops ms K r ((st.after hp' kb).put o.dst v)
    else ∃ v, Yields P o st.ev st.hp v ∧ ordA P n0 ops ms K r (st.put o.dst v)

def Od (P : Program) (n0 : Nat) (ops : List Oper) (ms : List Bool) (K : St → Prop) (ord : List Nat) (_t : Tok (ops, ord, K)) (st : St) : Prop := ordA P n0 ops ms K ord st

section
variable {n0 : Nat} {ops : List Oper} {ms : List Bool} {K : St → Prop} {k : Nat} {r : List Nat} {st : St} {t : Tok (ops, k :: r, K)} {o : Oper}
end
end
attribute [irreducible] Od
end Go.Abs
/- The abstract layer, part Z6: a function's code, piece by piece: what comes later stands apart; ways that meet again. -/
set_option linter.unusedSimpArgs false
set_option linter.unusedVariables false
namespace Go.Abs
open Go
variable {P : Program}
section
variable {P : Program}
theorem V_def {md : Nat → List Bool} {n0 : Nat} {c : Code} {Q : Ex → St → Prop} {t} {st : St} : V P md n0 c Q t st = vc P md n0 c st Q := by delta V; rfl
theorem Lp_def {n0 : Nat} {c : Code} {Q : Ex → St → Prop} {t} {st : St} : Lp P n0 c Q t st = CodeA P n0 c st Q := by delta Lp; rfl
theorem callA_code {f : FuncId} {fn : Func} {c : Code} {args : List AV} {hp : List Blk} {Q : AV → List Blk → Prop} (hf : P.funcs[f]? = some fn) (hb : fn.body = some c) (hgo : isGo P f)
    (h : CodeA P hp.length c ⟨args ++ List.replicate (fn.ntmps - args.length) .any, hp⟩ (retQ P fn hp.length Q)) : CallA P f args hp Q := by
  refine fun E vs H hl hrv => .inl ⟨hgo, ?_⟩
  refine calls_of_wp hf hb ?_
  have hs : SR E hp E ⟨args ++ List.replicate (fn.ntmps - args.length) .any, hp⟩ { tmps := vs.toArray ++ Array.replicate (fn.ntmps - vs.toArray.size) undef, defers := [] } := by
    refine ⟨H, Fr.refl E hp, by simp [hl], fun i v u h1 h2 => ?_, rfl⟩
    simp only [List.getElem?_append] at h1
    by_cases hi : i < args.length
    · rw [if_pos hi] at h1
      have h2' : vs[i]? = some u := by
        have hlt : i < vs.toArray.size := by simp [hl]; exact hi
        rw [Array.getElem?_append_left hlt] at h2
        simpa using h2
      exact hrv i v u h1 h2'
    · rw [if_neg hi] at h1
      rw [List.getElem?_replicate] at h1
      split at h1
      · cases h1; exact .any _
      · cases h1
  refine wp_mono (h E hp E _ rfl hs) fun e a' w' ⟨ex, st', E', he, hw, hs', hq⟩ => ?_
  subst he; subst hw
  have fin : (resL P fn.results.toList st' fun l => ∃ r2 hp2, WeakR hp.length (oneA l) st'.hp r2 hp2 ∧ Q r2 hp2) → a'.defers = [] ∧ ∃ v, (results fn a'.tmps).run P E'.w = .ok v E'.w ∧ ∃ v', Ending.returned v = .returned v' ∧ ∃ r hp' E'', E''.w = E'.w ∧ Q r hp' ∧ RV E'' r v' ∧ HRel E'' hp' ∧ Fr E hp E'' hp' := by
    intro hres
    obtain ⟨l, v, ⟨r2, hp2, hwk, hQ⟩, hrun, hv⟩ := run_results (P := P) hs' hres
    obtain ⟨E2, hw2, H2, F2, hv2⟩ := hwk _ E hp E' v rfl hs'.hr hs'.fr hv
    exact ⟨hs'.df, v, hrun, v, rfl, r2, hp2, E2, hw2, hQ, hv2, H2, F2⟩
  cases ex with
  | normal => exact fin hq
  | ret => exact fin hq
  | exit i => exact hq.elim

theorem go_pieces {f : FuncId} {fn : Func} {c : Code} {args : List AV} {hp : List Blk} {Q : AV → List Blk → Prop} (hf : P.funcs[f]? = some fn) (hb : fn.body = some c) (hgo : isGo P f)
    (h : Lp P hp.length c (retQ P fn hp.length Q) .mk ⟨args ++ List.replicate (fn.ntmps - args.length) .any, hp⟩) : CallP P f args hp Q .mk := by
  rw [Lp_def] at h
  delta CallP
  exact callA_code hf hb hgo h

variable {n0 : Nat} {Q : Ex → St → Prop} {st : St}
theorem lp_whole (hm : P.follows .mixedOrders = true) {md : Nat → List Bool} {c : Code} {t} (hok : modesOk md c = true) (h : V P md n0 c Q .mk st) : Lp P n0 c Q t st := by
  rw [V_def] at h
  rw [Lp_def]
  exact vc_sound hm c st Q hok h
theorem code_seq {a b : Code} (h : CodeA P n0 a st fun e st' => match e with
    | .normal => CodeA P n0 b st' Q
    | .exit i => Q (.exit i) st'
    | .ret => Q .ret st') : CodeA P n0 (.seq a b) st Q := by
  intro E0 hp0 E s hn hs
  refine wp_seq (wp_mono (h E0 hp0 E s hn hs) fun e a' w' ⟨ex, st', E', he, hw, hs', hq⟩ => ?_)
  subst he; subst hw
  cases ex with
  | normal => exact hq E0 hp0 E' a' hn hs'
  | exit i => exact ⟨.exit i, st', E', rfl, rfl, hs', hq⟩
  | ret => exact ⟨.ret, st', E', rfl, rfl, hs', hq⟩
theorem lp_seq (hm : P.follows .mixedOrders = true) {md : Nat → List Bool} {a b : Code} {t} (hok : modesOk md a = true)
    (h : ∀ Z : St → Prop, (∀ st', Lp P n0 b Q .mk st' → Z st') → V P md n0 a (fun e st' => match e with
      | .normal => Z st'
      | .exit i => Q (.exit i) st'
      | .ret => Q .ret st') .mk st) : Lp P n0 (.seq a b) Q t st := by
  have h1 := h (fun st' => CodeA P n0 b st' Q) (fun st' hl => by rw [Lp_def] at hl; exact hl)
  rw [V_def] at h1
  rw [Lp_def]
  exact code_seq (vc_sound hm a st _ hok h1)
end
end Go.Abs
/- The abstract layer, part Z7: drawn regions in which a call changes memory beside quiet operations that do not mind. -/
set_option linter.unusedSimpArgs false
set_option linter.unusedVariables false
namespace Go.Abs
open Go
variable {P : Program}
section
variable {P : Program}

def CallAt (P : Program) (o : Oper) (f : Operand → AV) (hp : List Blk) (Q : AV → List Blk → Prop) : Prop :=
  (∃ (c : Call) (gf : Operand) (fid : FuncId) (caps : List AV), o.op = .call c ∧ c.callee = .value gf ∧ f gf = .fn fid caps ∧ CallA P fid (c.args.toList.map f ++ caps) hp Q) ∨
  (∃ t len parts, o.op = .buildSlice t len parts ∧ ∀ n0, opA P n0 o.op f hp (fun v hp' kb => Q v hp' ∧ kb = none))
theorem CallAt.congr {o : Oper} {f f' : Operand → AV} {hp : List Blk} {Q : AV → List Blk → Prop} (h : CallAt P o f hp Q) (he : ∀ x ∈ o.op.operands, f x = f' x) : CallAt P o f' hp Q := by
  rcases h with ⟨c, gf, fid, caps, h1, h2, h3, h4⟩ | ⟨t, len, parts, h1, h2⟩
  · refine .inl ⟨c, gf, fid, caps, h1, h2, by rw [← he gf (by simp [h1, Op.operands, Call.operands, h2])]; exact h3, ?_⟩
    have : c.args.toList.map f' = c.args.toList.map f := by
      apply List.map_congr_left
      intro x hx
      exact (he x (by
        simp only [h1, Op.operands, Call.operands, h2]
        simp at hx ⊢
        exact .inr hx)).symm
    rw [this]
    exact h4
  · refine .inr ⟨t, len, parts, h1, fun n0 => ?_⟩
    have h3 := h2 n0
    rw [h1] at h3 he ⊢
    have e : (parts.toList.map fun p => (p.1, f p.2)) = parts.toList.map fun p => (p.1, f' p.2) := by
      apply List.map_congr_left
      intro p hp
      rw [he p.2 (by simp only [Op.operands]; simp; exact ⟨p.1, by simpa using hp⟩)]
    simp only [opA] at h3 ⊢
    simp only [e] at h3
    exact h3

def stepH (P : Program) (n0 : Nat) (ops : List Oper) (ms : List Nat) (Hs : List Blk → Prop) (i : Nat) (K : St → Prop) (st : St) : Prop :=
  match ops[i]? with
  | none => K st
  | some o => o.guard = none ∧ match ms.getD i 1 with
    | 0 => ∃ v, Yields P o st.ev st.hp v ∧ K (st.put o.dst v)
    | 2 => ∃ Q, CallAt P o st.ev st.hp Q ∧ ∀ r hp', Q r hp' → Hs hp' ∧ K ((st.after hp' none).put o.dst r)
    | _ => ∃ k : AV → List Blk → Option Nat → Prop, opA P n0 o.op st.ev st.hp k ∧ ∀ v hp' kb, k v hp' kb → K ((st.after hp' kb).put o.dst v)
def anyH (P : Program) (n0 : Nat) (ops : List Oper) (ms : List Nat) (Hs : List Blk → Prop) (K : St → Prop) : Nat → Array Bool → St → Prop
  | 0, listed, st => Region.ready .any ops.toArray listed = [] ∧ K st
  | fuel + 1, listed, st =>
    (Region.ready .any ops.toArray listed = [] → K st) ∧ ∀ i ∈ Region.ready .any ops.toArray listed, stepH P n0 ops ms Hs i (anyH P n0 ops ms Hs K fuel (listed.setIfInBounds i true)) st

theorem opA_callAt {n0 : Nat} {o : Oper} {f : Operand → AV} {hp : List Blk} {Q : AV → List Blk → Prop} (h : CallAt P o f hp Q) : opA P n0 o.op f hp (fun v hp' kb => Q v hp' ∧ kb = none) := by
  rcases h with ⟨c, gf, fid, caps, h1, h2, h3, h4⟩ | ⟨t, len, parts, h1, h2⟩
  · obtain ⟨callee, args, ts⟩ := c
    simp only at h2
    subst h2
    rw [h1]
    simp only [opA, h3]
    exact h4.mono fun r hp' hq => ⟨hq, trivial⟩
  · exact h2 n0
def boolMs (ms : List Nat) : List Bool := ms.map fun m => m != 0
theorem boolMs_get (ms : List Nat) (i : Nat) : (boolMs ms).getD i true = (ms.getD i 1 != 0) := by
  simp only [boolMs, List.getD_eq_getElem?_getD, List.getElem?_map]
  cases ms[i]? <;> rfl
theorem stepH_stepA {n0 : Nat} {ops : List Oper} {ms : List Nat} {Hs : List Blk → Prop} {i : Nat} {K K' : St → Prop} {st : St} (hK : ∀ st, K st → K' st) (h : stepH P n0 ops ms Hs i K st) : stepA P n0 ops (boolMs ms) i K' st := by
  unfold stepH at h
  unfold stepA
  cases ho : ops[i]? with
  | none => rw [ho] at h; exact hK _ h
  | some o =>
    rw [ho] at h
    obtain ⟨hg, h⟩ := h
    have hw : wantedA ops o st = some true := by simp [wantedA, hg]
    simp only [boolMs_get]
    split at h
    · rename_i h0
      rw [h0]
      obtain ⟨v, hy, hk⟩ := h
      simp only [bne_self_eq_false, Bool.false_eq_true, if_false]
      exact ⟨v, .inl ⟨hw, hy⟩, hK _ hk⟩
    · rename_i h0
      rw [h0]
      obtain ⟨Q, hc, hk⟩ := h
      simp only [show ((2 : Nat) != 0) = true from rfl, if_true]
      refine .inl ⟨hw, _, opA_callAt hc, ?_⟩
      rintro v hp' kb ⟨hq, rfl⟩
      exact hK _ (hk v hp' hq).2
    · rename_i h0 h2
      have : (ms.getD i 1 != 0) = true := bne_iff_ne.2 h0
      rw [this]
      obtain ⟨k, hop, hk⟩ := h
      simp only [if_true]
      exact .inl ⟨hw, k, hop, fun v hp' kb hv => hK _ (hk v hp' kb hv)⟩
theorem anyH_anyA {n0 : Nat} {ops : List Oper} {ms : List Nat} {Hs : List Blk → Prop} {K : St → Prop} : ∀ (fuel : Nat) (listed : Array Bool) (st : St), anyH P n0 ops ms Hs K fuel listed st → anyA P n0 ops (boolMs ms) K fuel listed st
  | 0, listed, st, h => h
  | fuel + 1, listed, st, h => ⟨h.1, fun i hi => stepH_stepA (fun st' h' => anyH_anyA fuel _ st' h') (h.2 i hi)⟩

def FreeH (ops : List Oper) (ms : List Nat) (listed : Array Bool) (i : Nat) (oi : Oper) : Prop :=
  ∃ D : List Nat, Waits ops listed i D ∧ ∀ j oj, ops[j]? = some oj → j ≠ i → listed.getD j true = false → j ∉ D → (∀ e ∈ oj.after, Region.binds .any e = true → e.on ≠ i) → oi.apart ops.toArray oj = true ∧ (ms.getD j 1 = 0 ∨ ms.getD j 1 = 2)

theorem St.ev_after (st : St) (hp : List Blk) (x : Operand) : (st.after hp none).ev x = st.ev x := by
  cases x <;> rfl
theorem put_after (st : St) (hp : List Blk) (d : Option Tmp) (v : AV) : (st.put d v).after hp none = (st.after hp none).put d v := by
  cases d <;> rfl
theorem put_hp (st : St) (d : Option Tmp) (v : AV) : (st.put d v).hp = st.hp := by cases d <;> rfl
theorem ev_apart {ops : List Oper} {o : Oper} {st : St} {d : Option Tmp} {v : AV} (h : ∀ t, d = some t → t ∉ o.looksAt ops.toArray) : ∀ x ∈ o.op.operands, (st.put d v).ev x = st.ev x := fun x hx => St.ev_put fun t ht e => h t ht (by
    subst e
    simp only [Oper.looksAt, List.mem_append, List.mem_filterMap]
    exact .inl ⟨.tmp t, by simpa using hx, rfl⟩)

theorem anyH_first {n0 : Nat} {ops : List Oper} {ms : List Nat} {Hs : List Blk → Prop} {K : St → Prop} {i : Nat} {oi : Oper} {v : AV} (hi : ops[i]? = some oi) (hm : ms.getD i 1 = 0) (hgi : oi.guard = none) :
    ∀ (fuel : Nat) (listed : Array Bool) (st : St), FreeH ops ms listed i oi → i ∈ Region.ready .any ops.toArray listed → (∀ hp, Hs hp → Yields P oi st.ev hp v) → Hs st.hp →
      anyH P n0 ops ms Hs K fuel (listed.setIfInBounds i true) (st.put oi.dst v) → anyH P n0 ops ms Hs K (fuel + 1) listed st := by
  have self : ∀ (fuel : Nat) (listed : Array Bool) (st : St), Yields P oi st.ev st.hp v → anyH P n0 ops ms Hs K fuel (listed.setIfInBounds i true) (st.put oi.dst v) → stepH P n0 ops ms Hs i (anyH P n0 ops ms Hs K fuel (listed.setIfInBounds i true)) st := by
    intro fuel listed st hy H
    unfold stepH
    simp only [hi, hm]
    exact ⟨hgi, v, hy, H⟩
  intro fuel
  induction fuel with
  | zero =>
    intro listed st _ hr hy hs H
    refine ⟨fun h => (by rw [h] at hr; cases hr), fun j hj => ?_⟩
    by_cases hji : j = i
    · subst hji; exact self 0 listed st (hy _ hs) H
    · have := ready_mono hj hji
      rw [H.1] at this
      cases this
  | succ fuel ih =>
    intro listed st hfree hr hy hs H
    refine ⟨fun h => (by rw [h] at hr; cases hr), fun j hj => ?_⟩
    by_cases hji : j = i
    · subst hji; exact self _ listed st (hy _ hs) H
    · have h1 := H.2 j (ready_mono hj hji)
      obtain ⟨hjun, oj, hoj, hall⟩ := mem_ready.1 hj
      have hoj' : ops[j]? = some oj := by simpa using hoj
      have hnot : ∀ e ∈ oj.after, Region.binds .any e = true → e.on ≠ i := fun e he hb heq => by
        have h1 := hall e he hb
        have h0 := (mem_ready.1 hr).1
        rw [heq] at h1
        rcases Nat.lt_or_ge i listed.size with h' | h'
        · simp [h'] at h0 h1; rw [h0] at h1; cases h1
        · simp [Array.getElem?_eq_none h'] at h1
      obtain ⟨D, hwait, hfree⟩ := hfree
      have hjD : j ∉ D := fun hD => by
        obtain ⟨_, oj', hoj'', e, he, hb, hc⟩ := hwait j hD
        have : oj' = oj := by rw [hoj'] at hoj''; cases hoj''; rfl
        subst this
        rcases hc with hc | hc
        · exact hnot e he hb hc
        · have h1 := hall e he hb
          have h0 := (hwait e.on hc).1
          rcases Nat.lt_or_ge e.on listed.size with h' | h'
          · simp [h'] at h0 h1; rw [h0] at h1; cases h1
          · simp [Array.getElem?_eq_none h'] at h1
      obtain ⟨hap, hmj⟩ := hfree j oj hoj' hji hjun hjD hnot
      obtain ⟨a1, a2, a3⟩ := Oper.apart_spec hap
      have hfree' : FreeH ops ms (listed.setIfInBounds j true) i oi := ⟨D, fun d hd => by
        have hne : j ≠ d := fun h => hjD (h ▸ hd)
        obtain ⟨w1, w2⟩ := hwait d hd
        exact ⟨by rw [getD_set_ne true hne]; exact w1, w2⟩, fun k ok hk hki hun hkD hno => by
        refine hfree k ok hk hki ?_ hkD hno
        by_cases hjk : j = k
        · subst hjk; exact hjun
        · rw [getD_set_ne true hjk] at hun; exact hun⟩
      unfold stepH at h1 ⊢
      simp only [hoj'] at h1 ⊢
      obtain ⟨hgj, h1⟩ := h1
      refine ⟨hgj, ?_⟩
      have evj : ∀ x ∈ oj.op.operands, (st.put oi.dst v).ev x = st.ev x := ev_apart (ops := ops) a1
      rcases hmj with hmj | hmj
      · simp only [hmj] at h1 ⊢
        obtain ⟨u, hu, hK⟩ := h1
        rw [put_hp] at hu
        refine ⟨u, hu.congr evj, ?_⟩
        refine ih (listed.setIfInBounds j true) (st.put oj.dst u) hfree' (ready_mono hr (Ne.symm hji)) (fun hp hh => (hy hp hh).congr fun x hx => (ev_apart (ops := ops) a3 x hx).symm) (by rw [put_hp]; exact hs) ?_
        rw [Array.setIfInBounds_comm _ _ hji, St.put_comm st u v (fun d hd he => a2 d he hd)]
        exact hK
      · simp only [hmj] at h1 ⊢
        obtain ⟨Q, hc, hK⟩ := h1
        rw [put_hp] at hc
        refine ⟨Q, hc.congr evj, fun r hp' hq => ?_⟩
        obtain ⟨hh, hK⟩ := hK r hp' hq
        refine ⟨hh, ?_⟩
        refine ih (listed.setIfInBounds j true) ((st.after hp' none).put oj.dst r) hfree' (ready_mono hr (Ne.symm hji)) (fun hp hh' => (hy hp hh').congr fun x hx => ?_) (by rw [put_hp]; exact hh) ?_
        · rw [ev_apart (ops := ops) a3 x hx, St.ev_after]
        · rw [Array.setIfInBounds_comm _ _ hji, St.put_comm _ r v (fun d hd he => a2 d he hd), ← put_after]
          exact hK

def freeHB (ops : Array Oper) (ms : List Nat) (listed : Array Bool) (k : Nat) : Bool :=
  match ops[k]? with
  | none => false
  | some o => lateOk ops listed k (lateOf ops listed k) && (List.range ops.size).all fun j =>
    j == k || listed.getD j true || (lateOf ops listed k).contains j ||
    match ops[j]? with
    | none => true
    | some oj => (oj.after.any fun e => Region.binds .any e && e.on == k) || (o.apart ops oj && (ms.getD j 1 == 0 || ms.getD j 1 == 2))
theorem freeHB_spec {ops : List Oper} {ms : List Nat} {listed : Array Bool} {k : Nat} {o : Oper} (hk : ops[k]? = some o) (h : freeHB ops.toArray ms listed k = true) : FreeH ops ms listed k o := by
  unfold freeHB at h
  have hk' : ops.toArray[k]? = some o := by simpa using hk
  rw [hk'] at h
  simp only [Bool.and_eq_true] at h
  refine ⟨_, lateOk_spec h.1, ?_⟩
  have h := h.2
  intro j oj hoj hjk hun hD hno
  simp only [List.all_eq_true, List.mem_range] at h
  have hj : j < ops.toArray.size := by
    have := (List.getElem?_eq_some_iff.1 hoj).1
    simpa using this
  have h1 := h j hj
  have hoj' : ops.toArray[j]? = some oj := by simpa using hoj
  rw [hoj', hun] at h1
  have hjk' : (j == k) = false := by simpa using hjk
  have hD' : (lateOf ops.toArray listed k).contains j = false := by simpa using hD
  rw [hjk', hD'] at h1
  simp only [Bool.false_or, Bool.or_eq_true, Bool.and_eq_true, beq_iff_eq] at h1
  rcases h1 with h1 | ⟨h1, h2⟩
  · exfalso
    rw [Array.any_eq_true] at h1
    obtain ⟨m, hm, he⟩ := h1
    simp only [Bool.and_eq_true, beq_iff_eq] at he
    exact hno _ (Array.getElem_mem hm) he.1 he.2
  · exact ⟨h1, h2⟩

def ordOkH (ops : Array Oper) (ms : List Nat) : List Nat → Array Bool → Bool
  | [], listed => (Region.ready .any ops listed).isEmpty
  | k :: r, listed => (if ms.getD k 1 == 0 then (Region.ready .any ops listed).contains k && freeHB ops ms listed k else Region.ready .any ops listed == [k]) && ordOkH ops ms r (listed.setIfInBounds k true)
def ordH (P : Program) (n0 : Nat) (ops : List Oper) (ms : List Nat) (Hs : List Blk → Prop) (K : St → Prop) : List Nat → St → Prop
  | [], st => K st
  | k :: r, st => ∃ o, ops[k]? = some o ∧ o.guard = none ∧ match ms.getD k 1 with
    | 0 => ∃ v, Hs st.hp ∧ (∀ hp, Hs hp → Yields P o st.ev hp v) ∧ ordH P n0 ops ms Hs K r (st.put o.dst v)
    | 2 => ∃ Q, CallAt P o st.ev st.hp Q ∧ ∀ v hp', Q v hp' → Hs hp' ∧ ordH P n0 ops ms Hs K r ((st.after hp' none).put o.dst v)
    | _ => ∃ g : AV → List Blk → Option Nat → Prop, opA P n0 o.op st.ev st.hp g ∧ ∀ v hp' kb, g v hp' kb → ordH P n0 ops ms Hs K r ((st.after hp' kb).put o.dst v)
theorem anyH_ord {n0 : Nat} {ops : List Oper} {ms : List Nat} {Hs : List Blk → Prop} {K : St → Prop} : ∀ (ord : List Nat) (listed : Array Bool) (st : St), ordOkH ops.toArray ms ord listed = true → ordH P n0 ops ms Hs K ord st → anyH P n0 ops ms Hs K ord.length listed st
  | [], listed, st, hB, h => ⟨by simpa [ordOkH] using hB, h⟩
  | k :: r, listed, st, hB, h => by
    obtain ⟨o, ho, hg, h⟩ := h
    simp only [ordOkH, Bool.and_eq_true] at hB
    obtain ⟨hB1, hB2⟩ := hB
    split at h
    · rename_i hm
      obtain ⟨v, hh, hy, hK⟩ := h
      rw [hm] at hB1
      simp only [beq_self_eq_true, if_true, Bool.and_eq_true] at hB1
      exact anyH_first ho hm hg r.length listed st (freeHB_spec ho hB1.2) (by simpa using hB1.1) hy hh (anyH_ord r _ _ hB2 hK)
    · rename_i hm
      obtain ⟨Q, hc, hK⟩ := h
      rw [hm] at hB1
      simp only [show ((2 : Nat) == 0) = false from rfl, Bool.false_eq_true, if_false, beq_iff_eq] at hB1
      refine ⟨fun h => (by rw [hB1] at h; cases h), fun i hi => ?_⟩
      rw [hB1] at hi
      have : i = k := by simpa using hi
      subst this
      unfold stepH
      simp only [ho, hm]
      exact ⟨hg, Q, hc, fun v hp' hq => ⟨(hK v hp' hq).1, anyH_ord r _ _ hB2 (hK v hp' hq).2⟩⟩
    · rename_i hm hm2
      obtain ⟨g, hop, hK⟩ := h
      have hm' : (ms.getD k 1 == 0) = false := beq_false_of_ne hm
      rw [hm'] at hB1
      simp only [Bool.false_eq_true, if_false, beq_iff_eq] at hB1
      refine ⟨fun h => (by rw [hB1] at h; cases h), fun i hi => ?_⟩
      rw [hB1] at hi
      have : i = k := by simpa using hi
      subst this
      unfold stepH
      simp only [ho]
      refine ⟨hg, ?_⟩
      exact ⟨g, hop, fun v hp' kb hv => anyH_ord r _ _ hB2 (hK v hp' kb hv)⟩

def Oh (P : Program) (n0 : Nat) (ops : List Oper) (ms : List Nat) (Hs : List Blk → Prop) (K : St → Prop) (ord : List Nat) (_t : Tok (ops, ord, K)) (st : St) : Prop := ordH P n0 ops ms Hs K ord st
theorem go_calls (hm : P.follows .mixedOrders = true) {n0 : Nat} {id : Nat} {ops : Array Oper} {Q : Ex → St → Prop} {st : St} {t} (Hs : List Blk → Prop) (ord : List Nat) (ms : List Nat)
    (hok : (ord.length == ops.size && ordOkH ops ms ord (Array.replicate ops.size false)) = true) (h : Oh P n0 ops.toList ms Hs (Q .normal) ord .mk st) : Lp P n0 (.region id ops true) Q t st := by
  delta Lp
  simp only [Bool.and_eq_true, beq_iff_eq] at hok
  intro E0 hp0 E a hn hs
  subst hn
  have h1 := anyH_anyA _ _ _ (anyH_ord (P := P) (n0 := hp0.length) (ops := ops.toList) (ms := ms) (Hs := Hs) (K := Q .normal) ord (Array.replicate ops.size false) st (by simpa using hok.2) h)
  rw [hok.1] at h1
  refine wp_region_any hm ?_
  have hs' : SR E0 hp0 (E.with { E.w with drawn := E.w.drawn + 1 }) st a := ⟨hs.hr.with (Same.drew _ _), hs.fr.with (Same.drew _ _), hs.len, fun i v u a1 a2 => (hs.tm i v u a1 a2).mono (Env.le_with (Same.drew _ _)), hs.df⟩
  have h2 := anyA_sound (P := P) (Q := liftQ E0 hp0 Q) (fun E st a hs hk => ⟨.normal, st, E, rfl, rfl, hs, hk⟩) _ _ _ st a hs' h1
  rw [show ops.toList.toArray = ops from by simp] at h2
  exact h2

section
variable {n0 : Nat} {ops : List Oper} {ms : List Nat} {Hs : List Blk → Prop} {K : St → Prop} {k : Nat} {r : List Nat} {st : St} {t : Tok (ops, k :: r, K)} {o : Oper}
theorem oh_nil {t : Tok (ops, ([] : List Nat), K)} (h : K st) : Oh P n0 ops ms Hs K [] t st := h
theorem oh_quiet (ho : ops[k]? = some o) (hg : o.guard = none) (hm : ms.getD k 1 = 0) (hh : Hs st.hp) {v : AV} (hq : ∀ hp, Hs hp → quietA P o.op st.ev hp (fun v' => v' = v)) (h : Oh P n0 ops ms Hs K r .mk (st.put o.dst v)) : Oh P n0 ops ms Hs K (k :: r) t st :=
  ⟨o, ho, hg, by
    rw [hm]
    refine ⟨v, hh, fun hp hp' => ?_, h⟩
    obtain ⟨v', h1, h2⟩ := Yields.quiet (hq hp hp')
    subst h1
    exact h2⟩
theorem oh_call (ho : ops[k]? = some o) (hg : o.guard = none) (hm : ms.getD k 1 = 2) {gf : Operand} {args : Array Operand} {ts : Array TypeId} (hop : o.op = .call { callee := .value gf, args := args, argTypes := ts }) {fid : FuncId} {caps : List AV} (hfn : st.ev gf = .fn fid caps) 
    (hc : CallP P fid (args.toList.map st.ev ++ caps) st.hp (fun v hp' => Hs hp' ∧ Oh P n0 ops ms Hs K r .mk ((st.after hp' none).put o.dst v)) .mk) : Oh P n0 ops ms Hs K (k :: r) t st :=
  ⟨o, ho, hg, by
    rw [hm]
    delta CallP at hc
    exact ⟨_, .inl ⟨_, gf, fid, caps, hop, rfl, hfn, hc⟩, fun v hp' hq => hq⟩⟩
theorem oh_fresh (ho : ops[k]? = some o) (hg : o.guard = none) (hm : ms.getD k 1 = 0) (hh : Hs st.hp) (q : Blk) (d : Nat) (r0 : AV) (hl : q.live = true) (hf : allBelow 0 q.els = true) (hb : below 1 r0 = true) (hflat : ∀ hp, Hs hp → ∀ b ∈ hp, allBelow hp.length b.els = true)
    (hop : ∀ hp, Hs hp → opA P hp.length o.op st.ev hp (Cn (fun v hp' kb => v = ren (fun i => [hp.length].getD i 0) r0 ∧ hp' = hp ++ [q] ∧ kb = none) .mk)) (h : Oh P n0 ops ms Hs K r .mk (st.put o.dst (view d [q] r0))) : Oh P n0 ops ms Hs K (k :: r) t st :=
  ⟨o, ho, hg, by
    rw [hm]
    exact ⟨_, hh, fun hp hp' => Yields.fresh q hl hf (hflat hp hp') d r0 hb (by have := hop hp hp'; rw [Cn_eq] at this; exact this), h⟩⟩
theorem oh_one (ho : ops[k]? = some o) (hg : o.guard = none) (hm : ms.getD k 1 = 1) (h : opA P n0 o.op st.ev st.hp (Cn (fun v hp' kb => Oh P n0 ops ms Hs K r .mk ((st.after hp' kb).put o.dst v)) .mk)) : Oh P n0 ops ms Hs K (k :: r) t st :=
  ⟨o, ho, hg, by rw [hm]; exact ⟨_, h, fun v hp' kb hv => by rw [Cn_go] at hv; exact hv⟩⟩
end
end
attribute [irreducible] Oh
theorem CallA.freezeQ {P : Program} (d : Nat) {f : FuncId} {args : List AV} {Q0 : AV → List Blk → Prop} (h : CallA P f args [] Q0) : CallA P f args [] (fun r hp => ∃ r0 new, Q0 r0 new ∧ r = view d new r0 ∧ hp = []) := by
  intro E vs H hl hrv
  refine (h E vs H hl hrv).mono ?_
  rintro v w' ⟨r', hp', E', hw, hq, hv, H', F'⟩
  refine ⟨_, [], E'.lent hp', hw, ⟨r', hp', hq, rfl, rfl⟩, (view_sound H' d r').1 v hv, ?_, ?_⟩
  · exact ⟨rfl, by simp, by simp, by simp, by simp, fun c hc => by
      rcases hc with h1 | ⟨b, ⟨q, hq, hlv⟩, rfl⟩
      · exact H'.old c h1
      · obtain ⟨cs', g2, _⟩ := (H'.holds b q hq hlv).cells
        exact (Row.lt g2), H'.laid.keep (fun c h => .inl h) (fun _ _ => rfl)⟩
  · exact { size := F'.size, os := F'.os, tape := F'.tape, output := F'.output, block := F'.block, len := Nat.le_refl _, ρ := fun b hb => absurd hb (Nat.not_lt_zero _), wd := fun b hb => absurd hb (Nat.not_lt_zero _),
            F := fun c hc => .inl (F'.F c hc)
            F' := fun c hc => by
              rcases hc with h1 | ⟨b, hb, rfl⟩
              · exact F'.F' c h1
              · rcases F'.live b hb with ⟨h2, _⟩ | ⟨_, h3⟩
                · exact absurd h2 (Nat.not_lt_zero _)
                · exact .inr h3
            live := fun b ⟨q, hq, _⟩ => by simp at hq
            csz := F'.csz }
end Go.Abs
/- The greatest of a number, another and that one turned about. -/
set_option linter.unusedVariables false
namespace Go.Abs
open Go
variable {P : Program}

end Go.Abs
/- The abstract layer, part Z9: places of bytes in strings, answered in place. -/
set_option linter.unusedSimpArgs false
set_option linter.unusedVariables false
namespace Go.Abs
open Go
variable {P : Program}

section
variable {P : Program}
theorem RV.two {E : Env P} {a b : AV} {vs : List Value} (hl : vs.length = 2) (hv : ∀ (i : Nat) x v, [a, b][i]? = some x → vs[i]? = some v → RV E x v) : ∃ v u, vs = [v, u] ∧ RV E a v ∧ RV E b u := by
  match vs, hl with
  | [v, u], _ => exact ⟨v, u, rfl, hv 0 a v rfl rfl, hv 1 b u rfl rfl⟩
end

end Go.Abs
/- The abstract layer, part ZA: a drawn region whose operations make blocks of their own, told by a plan: what each operation yields; its end told by names of one's choice, ahead of the last operation. -/
set_option linter.unusedSimpArgs false
set_option linter.unusedVariables false
namespace Go.Abs
open Go
variable {P : Program}

def namesL : AV → List Nat
  | .sl b _ _ | .ptr b _ _ => [b]
  | _ => []
def namesM : AV → List Nat
  | .agg l | .fn _ l => l.flatMap namesL
  | v => namesL v
def names : AV → List Nat
  | .tup l => l.flatMap namesM
  | v => namesM v
theorem renL_names {π π' : Nat → Nat} (a : AV) (h : ∀ b ∈ namesL a, π b = π' b) : renL π a = renL π' a := by
  cases a <;> first | rfl | (simp only [namesL, List.mem_singleton, forall_eq] at h; simp only [renL, h])
theorem renM_names {π π' : Nat → Nat} (a : AV) (h : ∀ b ∈ namesM a, π b = π' b) : renM π a = renM π' a := by
  cases a with
  | agg l =>
    simp only [namesM, List.mem_flatMap] at h
    simp only [renM, AV.agg.injEq]
    exact List.map_congr_left fun x hx => renL_names x fun b hb => h b ⟨x, hx, hb⟩
  | fn f l =>
    simp only [namesM, List.mem_flatMap] at h
    simp only [renM, AV.fn.injEq, true_and]
    exact List.map_congr_left fun x hx => renL_names x fun b hb => h b ⟨x, hx, hb⟩
  | _ => first | rfl | (simp only [namesM, namesL, List.mem_singleton, forall_eq] at h; simp only [renM, renL, h])
theorem ren_names {π π' : Nat → Nat} (a : AV) (h : ∀ b ∈ names a, π b = π' b) : ren π a = ren π' a := by
  cases a with
  | tup l =>
    simp only [names, List.mem_flatMap] at h
    simp only [ren, AV.tup.injEq]
    exact List.map_congr_left fun x hx => renM_names x fun b hb => h b ⟨x, hx, hb⟩
  | agg l => exact renM_names (.agg l) h
  | fn f l => exact renM_names (.fn f l) h
  | _ => first | rfl | (simp only [names, namesM, namesL, List.mem_singleton, forall_eq] at h; simp only [ren, renM, renL, h])
theorem ren_comp (π σ : Nat → Nat) (a : AV) : ren π (ren σ a) = ren (fun b => π (σ b)) a := by
  have hL : ∀ a, renL π (renL σ a) = renL (fun b => π (σ b)) a := fun a => by cases a <;> rfl
  have hM : ∀ a, renM π (renM σ a) = renM (fun b => π (σ b)) a := fun a => by
    cases a with
    | agg l => simp [renM, hL]
    | fn f l => simp [renM, hL]
    | _ => rfl
  cases a with
  | tup l => simp [ren, hM]
  | agg l => exact hM (.agg l)
  | fn f l => exact hM (.fn f l)
  | _ => rfl

section
variable {P : Program} {n0 : Nat}
theorem quietA_congr {op : Op} {f f' : Operand → AV} {hp : List Blk} {k : AV → Prop} (he : ∀ x ∈ op.operands, f x = f' x) (h : quietA P op f hp k) : quietA P op f' hp k := by
  cases op with
  | move x => simp only [quietA] at h ⊢; rw [← he x (by simp [Op.operands])]; exact h
  | assign x => simp only [quietA] at h ⊢; rw [← he x (by simp [Op.operands])]; exact h
  | pick c a b => simp only [quietA] at h ⊢; rw [← he c (by simp [Op.operands]), ← he a (by simp [Op.operands]), ← he b (by simp [Op.operands])]; exact h
  | build t parts =>
    simp only [quietA] at h ⊢
    have e : (parts.toList.map fun p => (p.1, f' p.2)) = parts.toList.map fun p => (p.1, f p.2) := List.map_congr_left fun p hp => by rw [he p.2 (by simp only [Op.operands]; simpa using ⟨p.1, by simpa using hp⟩)]
    rw [e]
    exact h
  | load t a => simp only [quietA] at h ⊢; rw [← he a (by simp [Op.operands])]; exact h
  | nilCheck x => simp only [quietA] at h ⊢; rw [← he x (by simp [Op.operands])]; exact h
  | binOp o t x y t' => simp only [quietA] at h ⊢; rw [← he x (by simp [Op.operands]), ← he y (by simp [Op.operands])]; exact h
  | unOp o t x => simp only [quietA] at h ⊢; rw [← he x (by simp [Op.operands])]; exact h
  | convert s d x => simp only [quietA] at h ⊢; rw [← he x (by simp [Op.operands])]; exact h
  | makeFunc c first cap =>
    cases c with
    | func g =>
      simp only [quietA] at h ⊢
      have e : cap.toList.map f' = cap.toList.map f := List.map_congr_left fun x hx => (he x (by simp [Op.operands]; simp at hx; simp [hx])).symm
      rw [e]
      exact h
    | _ => exact h.elim
  | slice t x lo hi mx =>
    cases mx with
    | some m => exact h.elim
    | none =>
      simp only [quietA] at h ⊢
      have e1 : lo.map f' = lo.map f := by
        cases lo with
        | none => rfl
        | some a => simp [he a (by simp [Op.operands])]
      have e2 : hi.map f' = hi.map f := by
        cases hi with
        | none => rfl
        | some a => simp [he a (by simp [Op.operands])]
      rw [← he x (by simp [Op.operands]), e1, e2]
      exact h
  | fieldAddr s x i => simp only [quietA] at h ⊢; rw [← he x (by simp [Op.operands])]; exact h
  | field t x i => simp only [quietA] at h ⊢; rw [← he x (by simp [Op.operands])]; exact h
  | indexAddr t x ix => simp only [quietA] at h ⊢; rw [← he x (by simp [Op.operands]), ← he ix (by simp [Op.operands])]; exact h
  | index t x ix => simp only [quietA] at h ⊢; rw [← he x (by simp [Op.operands]), ← he ix (by simp [Op.operands])]; exact h
  | extract x i => simp only [quietA] at h ⊢; rw [← he x (by simp [Op.operands])]; exact h
  | call c =>
    obtain ⟨callee, args, ts⟩ := c
    cases callee with
    | builtin b =>
      simp only [quietA] at h ⊢
      have e : args.toList.map f' = args.toList.map f := List.map_congr_left fun x hx => (he x (by simp [Op.operands, Call.operands]; simpa using hx)).symm
      rw [e]
      exact h
    | _ => exact h.elim
  | _ => exact h.elim
theorem opA_congr {op : Op} {f f' : Operand → AV} {hp : List Blk} {k : AV → List Blk → Option Nat → Prop} (he : ∀ x ∈ op.operands, f x = f' x) (h : opA P n0 op f hp k) : opA P n0 op f' hp k := by
  cases op with
  | alloc t => exact h
  | box t x => simp only [opA] at h ⊢; rw [← he x (by simp [Op.operands])]; exact h
  | buildSlice t len parts =>
    simp only [opA] at h ⊢
    have e : (parts.toList.map fun p => (p.1, f' p.2)) = parts.toList.map fun p => (p.1, f p.2) := List.map_congr_left fun p hp => by rw [he p.2 (by simp only [Op.operands]; simpa using ⟨p.1, by simpa using hp⟩)]
    rw [e]
    exact h
  | store t a x => simp only [opA] at h ⊢; rw [← he a (by simp [Op.operands]), ← he x (by simp [Op.operands])]; exact h
  | makeSlice t l c => simp only [opA] at h ⊢; rw [← he l (by simp [Op.operands]), ← he c (by simp [Op.operands])]; exact h
  | call c =>
    obtain ⟨callee, args, ts⟩ := c
    cases callee with
    | value g =>
      simp only [opA] at h ⊢
      have e : args.toList.map f' = args.toList.map f := List.map_congr_left fun x hx => (he x (by simp [Op.operands, Call.operands]; simp at hx; simp [hx])).symm
      rw [← he g (by simp [Op.operands, Call.operands]), e]
      exact h
    | builtin b =>
      have e : args.toList.map f' = args.toList.map f := List.map_congr_left fun x hx => (he x (by simp [Op.operands, Call.operands]; simpa using hx)).symm
      by_cases hb : b = .append
      · subst hb
        obtain ⟨l⟩ := args
        simp only [opA] at h ⊢
        match l, he, h with
        | [s, x], he, h => simp only [] at h ⊢; rw [← he s (by simp [Op.operands, Call.operands]), ← he x (by simp [Op.operands, Call.operands])]; exact h
        | [], _, h => exact h.elim
        | [_], _, h => exact h.elim
        | _ :: _ :: _ :: _, _, h => exact h.elim
      · by_cases hb2 : b = .clear
        · subst hb2
          obtain ⟨l⟩ := args
          simp only [opA] at h ⊢
          match l, he, h with
          | [x], he, h => simp only [] at h ⊢; rw [← he x (by simp [Op.operands, Call.operands])]; exact h
          | [], _, h => exact h.elim
          | _ :: _ :: _, _, h => exact h.elim
        · cases b <;> first | exact absurd rfl hb | exact absurd rfl hb2 | (simp only [opA] at h ⊢; rw [e]; exact h)
    | _ => exact h.elim
  | move x => exact quietA_congr (P := P) (hp := hp) (k := fun v => k v hp none) he h
  | assign x => exact quietA_congr (P := P) (hp := hp) (k := fun v => k v hp none) he h
  | pick c a b => exact quietA_congr (P := P) (hp := hp) (k := fun v => k v hp none) he h
  | build t parts => exact quietA_congr (P := P) (hp := hp) (k := fun v => k v hp none) he h
  | load t a => exact quietA_congr (P := P) (hp := hp) (k := fun v => k v hp none) he h
  | nilCheck x => exact quietA_congr (P := P) (hp := hp) (k := fun v => k v hp none) he h
  | binOp o t x y t' => exact quietA_congr (P := P) (hp := hp) (k := fun v => k v hp none) he h
  | unOp o t x => exact quietA_congr (P := P) (hp := hp) (k := fun v => k v hp none) he h
  | convert s d x => simp only [opA] at h ⊢; rw [← he x (by simp [Op.operands])]; exact h
  | makeFunc c first cap => exact quietA_congr (P := P) (hp := hp) (k := fun v => k v hp none) he h
  | slice t x lo hi mx => exact quietA_congr (P := P) (hp := hp) (k := fun v => k v hp none) he h
  | fieldAddr s x i => exact quietA_congr (P := P) (hp := hp) (k := fun v => k v hp none) he h
  | field t x i => exact quietA_congr (P := P) (hp := hp) (k := fun v => k v hp none) he h
  | indexAddr t x ix => exact quietA_congr (P := P) (hp := hp) (k := fun v => k v hp none) he h
  | index t x ix => exact quietA_congr (P := P) (hp := hp) (k := fun v => k v hp none) he h
  | extract x i => exact quietA_congr (P := P) (hp := hp) (k := fun v => k v hp none) he h
  | _ => exact h.elim
end

section
variable {P : Program} {n0 : Nat}
def AnyS (P : Program) (n0 : Nat) (ops : List Oper) (Q : Ex → St → Prop) (fuel : Nat) (listed : Array Bool) (st : St) : Prop :=
  ∀ (E0 : Env P) (hp0 : List Blk) (E : Env P) (a : Act), hp0.length = n0 → SR E0 hp0 E st a → wpAny P .any ops.toArray (liftQ E0 hp0 Q) fuel listed a E.w
theorem Weak.refl {st : St} : Weak n0 st st := fun _ _ _ E _ _ hs => ⟨E, rfl, hs⟩
theorem anyS_by {ops : List Oper} {Q : Ex → St → Prop} {ms : List Bool} (I : Array Bool → St → Prop)
    (step : ∀ listed st i, listed.size = ops.length → I listed st → i ∈ Region.ready .any ops.toArray listed → ∃ st1, Weak n0 st st1 ∧ stepA P n0 ops ms i (fun st' => I (listed.setIfInBounds i true) st') st1)
    (fin : ∀ listed st, listed.size = ops.length → I listed st → Region.ready .any ops.toArray listed = [] → Q .normal st) : ∀ (fuel : Nat) (listed : Array Bool) (st : St), listed.size = ops.length → ops.length ≤ fuel + listed.toList.count true → I listed st → AnyS P n0 ops Q fuel listed st
  | 0, listed, st, hs, hf, hI => by
    have h0 : Region.ready .any ops.toArray listed = [] := by
      cases hr : Region.ready .any ops.toArray listed with
      | nil => rfl
      | cons i l =>
        exfalso
        have := count_lt _ i (ready_false hs (by rw [hr]; exact List.mem_cons_self))
        simp at this hf
        omega
    exact fun E0 hp0 E a hn hsr => ⟨h0, .normal, st, E, rfl, rfl, hsr, fin listed st hs hI h0⟩
  | fuel + 1, listed, st, hs, hf, hI => fun E0 hp0 E a hn hsr => ⟨fun h0 => ⟨.normal, st, E, rfl, rfl, hsr, fin listed st hs hI h0⟩, fun i hi => by
      obtain ⟨st1, hw, h1⟩ := step listed st i hs hI hi
      obtain ⟨E2, e, hsr2⟩ := hw _ E0 hp0 E a hn hsr
      rw [← e]
      rw [← hn] at h1
      refine stepA_sound (K' := wpAny P .any ops.toArray (liftQ E0 hp0 Q) fuel (listed.setIfInBounds i true)) (fun E3 st3 a3 hs3 hI3 => ?_) hsr2 h1
      exact anyS_by I step fin fuel _ st3 (by simpa using hs) (by
        have := count_set _ i (ready_false hs hi)
        rw [show (listed.setIfInBounds i true).toList = listed.toList.set i true from by simp, this]
        omega) hI3 E0 hp0 E3 a3 hn hs3⟩
theorem anyS_region (hm : P.follows .mixedOrders = true) {id : Nat} {ops : Array Oper} {Q : Ex → St → Prop} {st : St} {t} (h : AnyS P n0 ops.toList Q ops.size (Array.replicate ops.size false) st) : Lp P n0 (.region id ops true) Q t st := by
  delta Lp
  intro E0 hp0 E a hn hs
  refine wp_region_any hm ?_
  have hs' : SR E0 hp0 (E.with { E.w with drawn := E.w.drawn + 1 }) st a := ⟨hs.hr.with (Same.drew _ _), hs.fr.with (Same.drew _ _), hs.len, fun i v u a1 a2 => (hs.tm i v u a1 a2).mono (Env.le_with (Same.drew _ _)), hs.df⟩
  have h2 := h E0 hp0 _ a hn hs'
  rw [show ops.toList.toArray = ops from by simp] at h2
  exact h2

theorem plan_run {ops : List Oper} {pl : Plan} {ms : List Bool} {st0 st1 : St} {Q : Ex → St → Prop} (L : Nat) (oL : Oper) (hL : ops[L]? = some oL) (hmL : ms.getD L true = true)
    (hg : ∀ o ∈ ops, o.guard = none)
    (hd : ∀ (i j : Nat) (oi oj : Oper) (d : Nat), ops[i]? = some oi → ops[j]? = some oj → oi.dst = some d → oj.dst = some d → i = j)
    (hlen : ∀ (i : Nat) (o : Oper) (d : Nat), ops[i]? = some o → o.dst = some d → d < st0.tm.length)
    (hdst : ∀ (i : Nat) (o : Oper), ops[i]? = some o → i ≠ L → ∃ d, o.dst = some d)
    (huses : ∀ (j : Nat) (o : Oper), ops[j]? = some o → ∀ i ∈ pl.uses j, ∃ e ∈ o.after, Region.binds .any e = true ∧ e.on = i)
    (hloc : ∀ j nm nm', (∀ i ∈ pl.uses j, nm i = nm' i) → (pl.fresh j ≠ none → nm j = nm' j) → pl.val j nm = pl.val j nm')
    (hlast : ∀ i, i < ops.length → i ≠ L → ∃ e ∈ oL.after, Region.binds .any e = true ∧ e.on = i)
    (hback : ∀ (j : Nat) (o : Oper), ops[j]? = some o → ∀ e ∈ o.after, Region.binds .any e = true → e.on < j)
    (hop : ∀ (i : Nat) (o : Oper) listed nm st, ops[i]? = some o → i ≠ L → Mid ops pl st0 listed nm st → (∀ e ∈ o.after, Region.binds .any e = true → On listed e.on) →
      (ms.getD i true = true ∧ opA P n0 o.op st.ev st.hp (fun v hp' kb => kb = none ∧ match pl.fresh i with
        | none => v = pl.val i nm ∧ hp' = st.hp
        | some b => v = pl.val i (upd nm i st.hp.length) ∧ hp' = st.hp ++ [b])) ∨ (ms.getD i true = false ∧ pl.fresh i = none ∧ Yields P o st.ev st.hp (pl.val i nm)))
    (hweak : ∀ listed nm st, Mid ops pl st0 listed nm st → (∀ i, i < ops.length → i ≠ L → On listed i) → Weak n0 st st1)
    (hend : opA P n0 oL.op st1.ev st1.hp (fun v hp' kb => Q .normal ((st1.after hp' kb).put oL.dst v))) :
    AnyS P n0 ops Q ops.length (Array.replicate ops.length false) st0 := by
  have hLlt : L < ops.length := (List.getElem?_eq_some_iff.1 hL).1
  refine anyS_by (ms := ms) (fun listed st => (¬ On listed L ∧ ∃ nm, Mid ops pl st0 listed nm st) ∨ (On listed L ∧ (∀ i, i < ops.length → On listed i) ∧ Q .normal st)) ?_ ?_ _ _ _ (by simp) (by simp) ?_
  · intro listed st i hs hI hr
    have hf := ready_false hs hr
    obtain ⟨hi, o, ho, hall⟩ := mem_ready.1 hr
    have ho' : ops[i]? = some o := by simpa using ho
    have hilt : i < ops.length := (List.getElem?_eq_some_iff.1 ho').1
    have onI : On (listed.setIfInBounds i true) i := by
      unfold On
      simp [hs, hilt]
    have hnot : ¬ On listed i := by
      unfold On
      simp [Array.getD, hs, hilt] at hi ⊢
      simp [hi]
    rcases hI with ⟨hnL, nm, M⟩ | ⟨_, hA, _⟩
    · by_cases hiL : i = L
      · subst hiL
        rw [hL] at ho'; cases ho'
        have hall' : ∀ j, j < ops.length → j ≠ i → On listed j := fun j hj hne => by
          obtain ⟨e, he, hb, rfl⟩ := hlast j hj hne
          exact hall e he hb
        refine ⟨st1, hweak listed nm st M hall', ?_⟩
        unfold stepA
        rw [hL]
        simp only [hmL, if_true]
        exact .inl ⟨by simp [wantedA, hg oL (List.mem_of_getElem? hL)], _, hend, fun v hp' kb hk => .inr ⟨onI, fun j hj => by
          by_cases hji : j = i
          · subst hji; exact onI
          · exact getD_set_true (hall' j hj hji), hk⟩⟩
      · refine ⟨st, Weak.refl, ?_⟩
        have hw : wantedA ops o st = some true := by simp [wantedA, hg o (List.mem_of_getElem? ho')]
        obtain ⟨d, hdd⟩ := hdst i o ho' hiL
        have next : ∀ v hp', (match pl.fresh i with
            | none => v = pl.val i nm ∧ hp' = st.hp
            | some b => v = pl.val i (upd nm i st.hp.length) ∧ hp' = st.hp ++ [b]) → (¬ On (listed.setIfInBounds i true) L ∧ ∃ nm, Mid ops pl st0 (listed.setIfInBounds i true) nm { tm := st.tm.set d v, hp := hp' }) := by
          intro v hp' hk
          obtain ⟨nm', M'⟩ := M.step hd hlen huses hloc ho' hi hdd hall hs hk
          refine ⟨?_, nm', M'⟩
          unfold On at hnL ⊢
          rw [getD_set_ne false hiL]; exact hnL
        unfold stepA
        rw [ho']
        simp only []
        rcases hop i o listed nm st ho' hiL M hall with ⟨hm, h⟩ | ⟨hm, hfr, h⟩
        · rw [if_pos hm]
          refine .inl ⟨hw, _, h, fun v hp' kb ⟨hkb, hk⟩ => ?_⟩
          subst hkb
          rw [hdd]
          exact .inl (next v hp' hk)
        · rw [hm]
          simp only [Bool.false_eq_true, if_false]
          refine ⟨_, .inl ⟨hw, h⟩, ?_⟩
          rw [hdd]
          exact .inl (next _ st.hp (by rw [hfr]; exact ⟨rfl, rfl⟩))
    · exact absurd (hA i hilt) hnot
  · intro listed st hs hI hr
    rcases hI with ⟨hnL, nm, M⟩ | ⟨_, _, hk⟩
    · exfalso
      have all : ∀ n i, i < n → i < ops.length → On listed i := by
        intro n
        induction n with
        | zero => intro i hi; omega
        | succ n ih =>
          intro i hi hl
          apply Classical.byContradiction
          intro hno
          have hmem : i ∈ Region.ready .any ops.toArray listed := by
            refine mem_ready.2 ⟨?_, ops[i], by simp [hl], fun e he hb => ih _ (by have := hback i ops[i] (List.getElem?_eq_getElem hl) e he hb; omega) (by have := hback i ops[i] (List.getElem?_eq_getElem hl) e he hb; omega)⟩
            unfold On at hno
            simp [Array.getD, hs, hl] at hno ⊢
            exact hno
          rw [hr] at hmem
          cases hmem
      exact hnL (all (L + 1) L (by omega) hLlt)
    · exact hk
  · exact .inl ⟨noOn _ _, fun i => i, rfl, fun i o d _ hon => absurd hon (noOn _ _), fun d _ => rfl, Nat.le_refl _, fun b _ => rfl, fun i b _ hon => absurd hon (noOn _ _), fun i j _ _ hon => absurd hon (noOn _ _), fun j o _ hon => absurd hon (noOn _ _)⟩
end

def plName (N0 : Nat) (nm : Nat → Nat) (b : Nat) : Nat := if b < N0 then b else nm (b - N0)
abbrev PEs := List (Nat × AV × Option Blk)
def PEs.v (pv : PEs) (i : Nat) : AV := (pv.getD i (0, .any, none)).2.1
def PEs.b (pv : PEs) (i : Nat) : Option Blk := (pv.getD i (0, .any, none)).2.2
def PEs.uses (N0 : Nat) (pv : PEs) (i : Nat) : List Nat := (names (pv.v i)).filterMap fun b => if N0 ≤ b ∧ b ≠ N0 + i then some (b - N0) else none
def planOf (N0 : Nat) (pv : PEs) : Plan where
  val i nm := ren (plName N0 nm) (pv.v i)
  fresh := pv.b
  uses := pv.uses N0
def edgeOn (o : Oper) (i : Nat) : Bool := o.after.any fun e => Region.binds .any e && e.on == i
theorem edgeOn_spec {o : Oper} {i : Nat} (h : edgeOn o i = true) : ∃ e ∈ o.after, Region.binds .any e = true ∧ e.on = i := by
  unfold edgeOn at h
  rw [Array.any_eq_true] at h
  obtain ⟨m, hm, he⟩ := h
  simp only [Bool.and_eq_true, beq_iff_eq] at he
  exact ⟨_, Array.getElem_mem hm, he.1, he.2⟩
def freeSlot (ops : List Oper) (j d : Nat) : Bool := (List.range ops.length).all fun i => i == j || ((ops[i]?).bind (·.dst)) != some d
def edgeBack (o : Oper) (j : Nat) : Bool := o.after.all fun e => !(Region.binds .any e) || decide (e.on < j)
def looksOk (ops : List Oper) (o : Oper) : Bool := o.op.operands.all fun x => match x with
  | .tmp t => (List.range ops.length).all fun i => ((ops[i]?).bind (·.dst)) != some t || edgeOn o i
  | _ => true
def planAt (ops : List Oper) (N0 ntm : Nat) (pv : PEs) (j : Nat) : Bool :=
  match ops[j]?, pv[j]? with
  | some o, some (d, v, b) => o.guard.isNone && o.dst == some d && decide (d < ntm) && freeSlot ops j d && ((pv.uses N0 j).all fun i => edgeOn o i) && (!((names v).contains (N0 + j)) || b.isSome) && edgeBack o j && looksOk ops o
  | _, _ => false
def planLast (ops : List Oper) (ntm : Nat) (L : Nat) : Bool :=
  match ops[L]? with
  | some o => ops.length == L + 1 && o.guard.isNone && edgeBack o L && ((List.range L).all fun i => edgeOn o i) && (match o.dst with
    | some d => decide (d < ntm) && freeSlot ops L d
    | none => true)
  | none => false
def planOk (ops : List Oper) (N0 ntm : Nat) (pv : PEs) : Bool := planLast ops ntm pv.length && (List.range pv.length).all fun j => planAt ops N0 ntm pv j
def slotP (π : Nat → Nat) (tm : List AV) : PEs → Nat → AV
  | [], t => tm.getD t .any
  | (d, v, _) :: r, t => if d = t then ren π v else slotP π tm r t
def evP (π : Nat → Nat) (tm : List AV) (pv : PEs) : Operand → AV
  | .tmp t => slotP π tm pv t
  | .const v => ofV v
  | .func f => .fn f []
  | .global _ => .any
def oldOk (hp : List Blk) : Nat → List Blk → Prop
  | _, [] => True
  | k, b :: r => hp[k]? = some b ∧ oldOk hp (k + 1) r
def newOk (hp : List Blk) (nm : Nat → Nat) (o : Oper) : Nat → PEs → Prop
  | _, [] => True
  | k, (_, _, some b) :: r => (edgeOn o k = true → hp[nm k]? = some b) ∧ newOk hp nm o (k + 1) r
  | k, (_, _, none) :: r => newOk hp nm o (k + 1) r
theorem slotP_at {π : Nat → Nat} {tm : List AV} {t : Nat} {v : AV} {b : Option Blk} : ∀ {pv : PEs} {i : Nat}, pv[i]? = some (t, v, b) → (∀ (j : Nat) e, pv[j]? = some e → e.1 = t → j = i) → slotP π tm pv t = ren π v
  | [], i, h, _ => by simp at h
  | (d, u, c) :: r, 0, h, _ => by simp at h; simp [slotP, h]
  | (d, u, c) :: r, i + 1, h, hu => by
    have hd : d ≠ t := fun e => by have := hu 0 (d, u, c) rfl e; omega
    simp only [slotP, hd, if_false]
    exact slotP_at (by simpa using h) fun j e hj he => by have := hu (j + 1) e (by simpa using hj) he; omega
theorem slotP_rest {π : Nat → Nat} {tm : List AV} {t : Nat} : ∀ {pv : PEs}, (∀ (j : Nat) e, pv[j]? = some e → e.1 ≠ t) → slotP π tm pv t = tm.getD t .any
  | [], _ => rfl
  | (d, u, c) :: r, hu => by
    have hd : d ≠ t := hu 0 (d, u, c) rfl
    simp only [slotP, hd, if_false]
    exact slotP_rest fun j e hj => hu (j + 1) e (by simpa using hj)
theorem oldOk_of {hp : List Blk} : ∀ (r : List Blk) (k : Nat), (∀ b, k ≤ b → b < k + r.length → hp[b]? = r[b - k]?) → oldOk hp k r
  | [], _, _ => trivial
  | b :: r, k, h => ⟨by have := h k (Nat.le_refl _) (by simp); simpa using this, oldOk_of r (k + 1) fun c h1 h2 => by
      have := h c (by omega) (by simp; omega)
      rw [this, show c - k = (c - (k + 1)) + 1 from by omega]
      simp⟩
theorem newOk_of {hp : List Blk} {nm : Nat → Nat} {o : Oper} : ∀ (r : PEs) (k : Nat), (∀ (i : Nat) e b, r[i]? = some e → e.2.2 = some b → edgeOn o (k + i) = true → hp[nm (k + i)]? = some b) → newOk hp nm o k r
  | [], _, _ => trivial
  | (d, v, some b) :: r, k, h => ⟨fun he => h 0 (d, v, some b) b rfl rfl he, newOk_of r (k + 1) fun i e b hi he hg => by
      have := h (i + 1) e b (by simpa using hi) he (by rw [show k + (i + 1) = k + 1 + i from by omega]; exact hg)
      rwa [show k + (i + 1) = k + 1 + i from by omega] at this⟩
  | (d, v, none) :: r, k, h => newOk_of r (k + 1) fun i e b hi he hg => by
      have := h (i + 1) e b (by simpa using hi) he (by rw [show k + (i + 1) = k + 1 + i from by omega]; exact hg)
      rwa [show k + (i + 1) = k + 1 + i from by omega] at this

theorem names_lt {N : Nat} (a : AV) (h : below N a = true) : ∀ b ∈ names a, b < N := by
  have hL : ∀ a, belowL N a = true → ∀ b ∈ namesL a, b < N := fun a h b hb => by
    cases a <;> first | (simp [namesL] at hb; done) | (simp only [namesL, List.mem_singleton] at hb; subst hb; simpa [belowL] using h)
  have hM : ∀ a, belowM N a = true → ∀ b ∈ namesM a, b < N := fun a h b hb => by
    cases a with
    | agg l =>
      simp only [belowM, List.all_eq_true] at h
      simp only [namesM, List.mem_flatMap] at hb
      obtain ⟨x, hx, hb⟩ := hb
      exact hL x (h x hx) b hb
    | fn f l =>
      simp only [belowM, List.all_eq_true] at h
      simp only [namesM, List.mem_flatMap] at hb
      obtain ⟨x, hx, hb⟩ := hb
      exact hL x (h x hx) b hb
    | _ => first | (simp [namesM, namesL] at hb; done) | (simp only [namesM, namesL, List.mem_singleton] at hb; subst hb; simpa [belowM, belowL] using h)
  intro b hb
  cases a with
  | tup l =>
    simp only [below, List.all_eq_true] at h
    simp only [names, List.mem_flatMap] at hb
    obtain ⟨x, hx, hb⟩ := hb
    exact hM x (h x hx) b hb
  | agg l => exact hM (.agg l) h b hb
  | fn f l => exact hM (.fn f l) h b hb
  | _ => first | (simp [names, namesM, namesL] at hb; done) | (simp only [names, namesM, namesL, List.mem_singleton] at hb; subst hb; simpa [below, belowM, belowL] using h)
theorem below_le {N M : Nat} (hle : N ≤ M) (a : AV) (h : below N a = true) : below M a = true := by
  have hL : ∀ a, belowL N a = true → belowL M a = true := fun a h => by
    cases a <;> first | exact h | (simp only [belowL, decide_eq_true_eq] at h ⊢; omega)
  have hM : ∀ a, belowM N a = true → belowM M a = true := fun a h => by
    cases a with
    | agg l => simp only [belowM, List.all_eq_true] at h ⊢; exact fun x hx => hL x (h x hx)
    | fn f l => simp only [belowM, List.all_eq_true] at h ⊢; exact fun x hx => hL x (h x hx)
    | _ => first | exact h | (simp only [belowM, belowL, decide_eq_true_eq] at h ⊢; omega)
  cases a with
  | tup l => simp only [below, List.all_eq_true] at h ⊢; exact fun x hx => hM x (h x hx)
  | agg l => exact hM (.agg l) h
  | fn f l => exact hM (.fn f l) h
  | _ => first | exact h | (simp only [below, belowM, belowL, decide_eq_true_eq] at h ⊢; omega)
theorem ren_same (a : AV) : ∀ {N : Nat}, below N a = true → ∀ {π : Nat → Nat}, (∀ b, b < N → π b = b) → ren π a = a := by
  intro N h π hπ
  have e : ren π a = ren (fun b => b) a := ren_names a fun b hb => hπ b (names_lt a h b hb)
  rw [e]
  exact ren_id N h

def endName (N0 : Nat) (ps : List Nat) (c : Nat) : Nat := if c < N0 then c else N0 + ps.getD (c - N0) 0
def finAt (N0 : Nat) (ps : List Nat) (tm : List AV) : PEs → Nat → AV → Prop
  | [], t, b => tm.getD t .any = b ∧ below N0 b = true
  | (d, v, _) :: r, t, b => if d = t then v = ren (endName N0 ps) b ∧ below (N0 + ps.length) b = true else finAt N0 ps tm r t b
def finOk (N0 : Nat) (ps : List Nat) (tm : List AV) (pv : PEs) : Nat → List AV → Prop
  | _, [] => True
  | t, b :: r => (b = .any ∨ finAt N0 ps tm pv t b) ∧ finOk N0 ps tm pv (t + 1) r
theorem finOk_nil {N0 : Nat} {ps : List Nat} {tm : List AV} {pv : PEs} {t : Nat} : finOk N0 ps tm pv t [] := trivial
theorem finOk_any {N0 : Nat} {ps : List Nat} {tm m : List AV} {pv : PEs} {t : Nat} (h : finOk N0 ps tm pv (t + 1) m) : finOk N0 ps tm pv t (.any :: m) := ⟨.inl rfl, h⟩
theorem finOk_val {N0 : Nat} {ps : List Nat} {tm m : List AV} {pv : PEs} {t : Nat} {b : AV} (hb : finAt N0 ps tm pv t b) (h : finOk N0 ps tm pv (t + 1) m) : finOk N0 ps tm pv t (b :: m) := ⟨.inr hb, h⟩
theorem finOk_get {N0 : Nat} {ps : List Nat} {tm : List AV} {pv : PEs} : ∀ {m : List AV} {t : Nat}, finOk N0 ps tm pv t m → ∀ (i : Nat) b, m[i]? = some b → b = .any ∨ finAt N0 ps tm pv (t + i) b
  | [], t, _, i, b, h => by simp at h
  | c :: m, t, hf, 0, b, h => by simp at h; subst h; exact hf.1
  | c :: m, t, hf, i + 1, b, h => by
    have := finOk_get hf.2 i b (by simpa using h)
    rwa [show t + 1 + i = t + (i + 1) from by omega] at this
theorem finAt_slot {N0 : Nat} {ps : List Nat} {tm : List AV} {nm : Nat → Nat} {t : Nat} {b : AV} : ∀ {pv : PEs}, finAt N0 ps tm pv t b → slotP (plName N0 nm) tm pv t = ren (planName N0 nm ps) b ∧ below (N0 + ps.length) b = true
  | [], h => ⟨by
      show tm.getD t .any = _
      rw [h.1]
      exact (ren_same b h.2 fun c hc => by simp [planName, hc]).symm, below_le (by omega) b h.2⟩
  | (d, v, c) :: r, h => by
    unfold finAt at h
    unfold slotP
    by_cases hd : d = t
    · rw [if_pos hd] at h ⊢
      refine ⟨?_, h.2⟩
      rw [h.1, ren_comp]
      refine ren_names b fun c _ => ?_
      simp only [plName, endName, planName]
      by_cases hc : c < N0
      · simp [hc]
      · simp [hc, Nat.not_lt.2 (Nat.le_add_right N0 _)]
    · rw [if_neg hd] at h ⊢
      exact finAt_slot h

section
variable {P : Program} {n0 : Nat}
def HopAt (P : Program) (n0 : Nat) (ops : List Oper) (ms : List Bool) (st0 : St) (pv : PEs) (i : Nat) : Prop :=
  ∀ o, ops[i]? = some o → ∀ (nm : Nat → Nat) (hp : List Blk), oldOk hp 0 st0.hp → newOk hp nm o 0 pv → st0.hp.length ≤ hp.length →
    (ms.getD i true = true ∧ opA P n0 o.op (evP (plName st0.hp.length nm) st0.tm pv) hp (Cn (fun v hp' kb => kb = none ∧ match pv.b i with
      | none => v = ren (plName st0.hp.length nm) (pv.v i) ∧ hp' = hp
      | some b => v = ren (plName st0.hp.length (upd nm i hp.length)) (pv.v i) ∧ hp' = hp ++ [b]) .mk)) ∨
    (ms.getD i true = false ∧ pv.b i = none ∧ Yields P o (evP (plName st0.hp.length nm) st0.tm pv) hp (ren (plName st0.hp.length nm) (pv.v i)))
def HopsFrom (P : Program) (n0 : Nat) (ops : List Oper) (ms : List Bool) (st0 : St) (pv : PEs) : Nat → Nat → Prop
  | _, 0 => True
  | k, n + 1 => HopAt P n0 ops ms st0 pv k ∧ HopsFrom P n0 ops ms st0 pv (k + 1) n
theorem HopsFrom.get {ops : List Oper} {ms : List Bool} {st0 : St} {pv : PEs} : ∀ {n k : Nat}, HopsFrom P n0 ops ms st0 pv k n → ∀ i, k ≤ i → i < k + n → HopAt P n0 ops ms st0 pv i
  | 0, k, _, i, h1, h2 => by omega
  | n + 1, k, h, i, h1, h2 => by
    by_cases he : i = k
    · subst he; exact h.1
    · exact h.2.get i (by omega) (by omega)

theorem go_plan (hm : P.follows .mixedOrders = true) {id : Nat} {ops : Array Oper} {Q : Ex → St → Prop} {st0 : St} {t} (ms : List Bool) (pv : PEs) (ps : List Nat) (bs : List Blk) (m : List AV) (oL : Oper)
    (hok : planOk ops.toList st0.hp.length st0.tm.length pv = true) (hL : ops.toList[pv.length]? = some oL) (hmL : ms.getD pv.length true = true) (hn0 : n0 ≤ st0.hp.length)
    (hflat : ∀ r ∈ st0.hp, allBelow 0 r.els = true) (hbs : ∀ r ∈ bs, allBelow 0 r.els = true)
    (hnd : ps.Nodup) (hps : ps.map pv.b = bs.map some) (hLd : (oL.dst.map fun d => m.getD d .any).getD .any = .any) (hfin : m.length = st0.tm.length ∧ finOk st0.hp.length ps st0.tm pv 0 m)
    (hops : HopsFrom P n0 ops.toList ms st0 pv 0 pv.length)
    (hend : opA P n0 oL.op (St.mk m (st0.hp ++ bs)).ev (st0.hp ++ bs) (Cn (fun v hp' kb => Q .normal (((St.mk m (st0.hp ++ bs)).after hp' kb).put oL.dst v)) .mk)) : Lp P n0 (.region id ops true) Q t st0 := by
  refine anyS_region hm ?_
  obtain ⟨opl⟩ := ops
  simp only [List.size_toArray] at *
  simp only [planOk, Bool.and_eq_true, List.all_eq_true, List.mem_range] at hok
  obtain ⟨hlast, hall⟩ := hok
  unfold planLast at hlast
  rw [hL] at hlast
  simp only [Bool.and_eq_true, beq_iff_eq] at hlast
  obtain ⟨⟨⟨⟨hsize, hgL⟩, hbL⟩, heL⟩, hdL⟩ := hlast
  simp only [List.all_eq_true, List.mem_range] at heL
  have gl : ∀ (i : Nat) o, opl[i]? = some o → i < pv.length ∨ (i = pv.length ∧ o = oL) := fun i o h => by
    have := (List.getElem?_eq_some_iff.1 h).1
    by_cases hi : i < pv.length
    · exact .inl hi
    · have e : i = pv.length := by omega
      subst e
      rw [hL] at h
      cases h
      exact .inr ⟨rfl, rfl⟩
  have at_ : ∀ (i : Nat) o, opl[i]? = some o → i < pv.length → ∃ d v b, pv[i]? = some (d, v, b) ∧ o.guard = none ∧ o.dst = some d ∧ d < st0.tm.length ∧ freeSlot opl i d = true ∧ (∀ k ∈ pv.uses st0.hp.length i, edgeOn o k = true) ∧ (st0.hp.length + i ∈ names v → b ≠ none) ∧ edgeBack o i = true ∧ looksOk opl o = true := by
    intro i o ho hi
    have h := hall i hi
    unfold planAt at h
    rw [ho] at h
    cases hp : pv[i]? with
    | none => rw [hp] at h; cases h
    | some e =>
      obtain ⟨d, v, b⟩ := e
      rw [hp] at h
      simp only [Bool.and_eq_true, beq_iff_eq, decide_eq_true_eq, List.all_eq_true, Bool.or_eq_true, Bool.not_eq_true', Option.isNone_iff_eq_none] at h
      obtain ⟨⟨⟨⟨⟨⟨⟨h1, h2⟩, h3⟩, h4⟩, h5⟩, h6⟩, h7⟩, h8⟩ := h
      refine ⟨d, v, b, rfl, h1, h2, h3, h4, h5, fun hmem => ?_, h7, h8⟩
      rcases h6 with h6 | h6
      · have : (names v).contains (st0.hp.length + i) = true := by simpa using hmem
        rw [this] at h6; cases h6
      · intro e; rw [e] at h6; cases h6
  have pvv : ∀ {i : Nat} {d v b}, pv[i]? = some (d, v, b) → pv.v i = v ∧ pv.b i = b := fun {i d v b} h => by
    simp [PEs.v, PEs.b, List.getD_eq_getElem?_getD, h]
  have back : ∀ (j : Nat) (o : Oper), opl[j]? = some o → ∀ e ∈ o.after, Region.binds .any e = true → e.on < j := by
    intro j o ho e he hb
    have hbk : edgeBack o j = true := by
      rcases gl j o ho with hj | ⟨hj, rfl⟩
      · obtain ⟨d, v, b, _, _, _, _, _, _, _, h7, _⟩ := at_ j o ho hj
        exact h7
      · rw [hj]; exact hbL
    unfold edgeBack at hbk
    rw [Array.all_eq_true] at hbk
    obtain ⟨k, hk, rfl⟩ := Array.getElem_of_mem he
    have := hbk k hk
    simp only [hb, Bool.not_true, Bool.false_or, decide_eq_true_eq] at this
    exact this
  have dsts : ∀ (i : Nat) (o : Oper) (d : Nat), opl[i]? = some o → o.dst = some d → d < st0.tm.length ∧ freeSlot opl i d = true := by
    intro i o d ho hd
    rcases gl i o ho with hj | ⟨hj, rfl⟩
    · obtain ⟨d', v, b, _, _, h2, h3, h4, _⟩ := at_ i o ho hj
      rw [hd] at h2; cases h2
      exact ⟨h3, h4⟩
    · rw [hd] at hdL
      simp only [Bool.and_eq_true, decide_eq_true_eq] at hdL
      rw [hj]; exact hdL
  have hdd : ∀ (i j : Nat) (oi oj : Oper) (d : Nat), opl[i]? = some oi → opl[j]? = some oj → oi.dst = some d → oj.dst = some d → i = j := by
    intro i j oi oj d hi hj h1 h2
    have := (dsts i oi d hi h1).2
    unfold freeSlot at this
    simp only [List.all_eq_true, List.mem_range, Bool.or_eq_true, beq_iff_eq, bne_iff_ne, ne_eq] at this
    rcases this j (List.getElem?_eq_some_iff.1 hj).1 with h | h
    · exact h.symm
    · simp [hj, h2] at h
  have slots : ∀ {listed nm st} (M : Mid opl (planOf st0.hp.length pv) st0 listed nm st) (t : Nat), (∀ (i : Nat) oi, opl[i]? = some oi → oi.dst = some t → On listed i ∧ i < pv.length) → st.tm.getD t .any = slotP (plName st0.hp.length nm) st0.tm pv t := by
    intro listed nm st M t hon
    by_cases hex : ∃ (i : Nat) (oi : Oper), opl[i]? = some oi ∧ oi.dst = some t
    · obtain ⟨i, oi, hi, hd⟩ := hex
      obtain ⟨h1, h2⟩ := hon i oi hi hd
      obtain ⟨d, v, b, hp, _, hd', _⟩ := at_ i oi hi h2
      rw [hd] at hd'; cases hd'
      rw [M.slot i oi t hi h1 hd, slotP_at hp fun j e hj he => ?_]
      · show ren _ (pv.v i) = _
        rw [(pvv hp).1]
      · have hjl : j < pv.length := (List.getElem?_eq_some_iff.1 hj).1
        have hoj : opl[j]? = some (opl[j]'(by omega)) := List.getElem?_eq_getElem (by omega)
        obtain ⟨d2, v2, b2, hp2, _, hd2, _⟩ := at_ j _ hoj hjl
        rw [hj] at hp2
        cases hp2
        simp only at he
        subst he
        exact hdd j i _ oi d2 hoj hi hd2 hd
    · rw [M.rest t fun i oi hi hd => hex ⟨i, oi, hi, hd⟩, slotP_rest fun j e hj he => ?_]
      have hjl : j < pv.length := (List.getElem?_eq_some_iff.1 hj).1
      have hoj : opl[j]? = some (opl[j]'(by omega)) := List.getElem?_eq_getElem (by omega)
      obtain ⟨d2, v2, b2, hp2, _, hd2, _⟩ := at_ j _ hoj hjl
      rw [hj] at hp2
      cases hp2
      exact hex ⟨j, _, hoj, by rw [hd2, ← he]⟩
  refine plan_run (pl := planOf st0.hp.length pv) (ms := ms) (st1 := St.mk m (st0.hp ++ bs)) pv.length oL hL hmL ?_ hdd ?_ ?_ ?_ ?_ ?_ back ?_ ?_ (by simpa only [Cn_eq] using hend)
  · intro o ho
    obtain ⟨i, hi⟩ := List.getElem?_of_mem ho
    rcases gl i o hi with hj | ⟨_, rfl⟩
    · obtain ⟨d, v, b, _, h1, _⟩ := at_ i o hi hj
      exact h1
    · simpa using hgL
  · intro i o d ho hd; exact (dsts i o d ho hd).1
  · intro i o ho hne
    rcases gl i o ho with hj | ⟨hj, _⟩
    · obtain ⟨d, v, b, _, _, h2, _⟩ := at_ i o ho hj
      exact ⟨d, h2⟩
    · exact absurd hj hne
  · intro j o ho i hi
    rcases gl j o ho with hj | ⟨hj, _⟩
    · obtain ⟨d, v, b, _, _, _, _, _, h5, _⟩ := at_ j o ho hj
      exact edgeOn_spec (h5 i hi)
    · exfalso
      have hi' : i ∈ pv.uses st0.hp.length j := hi
      have e : pv.v j = .any := by simp [PEs.v, List.getD_eq_getElem?_getD, hj]
      simp [PEs.uses, e, names, namesM, namesL] at hi'
  · intro j nm nm' h1 h2
    show ren _ (pv.v j) = ren _ (pv.v j)
    refine ren_names _ fun b hb => ?_
    simp only [plName]
    by_cases hc : b < st0.hp.length
    · simp [hc]
    · simp only [hc, if_false]
      by_cases he : b = st0.hp.length + j
      · have hj : j < pv.length := by
          apply Decidable.byContradiction
          intro hn
          have e : pv.v j = .any := by simp [PEs.v, List.getD_eq_getElem?_getD, List.getElem?_eq_none (Nat.le_of_not_lt hn)]
          rw [e] at hb
          simp [names, namesM, namesL] at hb
        have hoj : opl[j]? = some (opl[j]'(by omega)) := List.getElem?_eq_getElem (by omega)
        obtain ⟨d, v, bb, hp, _, _, _, _, _, h6, _⟩ := at_ j _ hoj hj
        have h7 := h6 (by rw [← he, ← (pvv hp).1]; exact hb)
        rw [show b - st0.hp.length = j from by omega]
        exact h2 (by show pv.b j ≠ none; rw [(pvv hp).2]; exact h7)
      · refine h1 _ ?_
        show _ ∈ pv.uses st0.hp.length j
        simp only [PEs.uses, List.mem_filterMap]
        exact ⟨b, hb, by rw [if_pos ⟨by omega, he⟩]⟩
  · intro i hi hne
    exact edgeOn_spec (heL i (by omega))
  · intro i o listed nm st ho hne M hedge
    rcases gl i o ho with hj | ⟨hj, _⟩
    · obtain ⟨d, v, b, hp, _, h2, _, _, _, _, _, hlk⟩ := at_ i o ho hj
      have hev : ∀ x ∈ o.op.operands, evP (plName st0.hp.length nm) st0.tm pv x = st.ev x := by
        intro x hx
        cases x with
        | tmp t =>
          refine (slots M t fun k ok hk hd => ?_).symm
          unfold looksOk at hlk
          rw [Array.all_eq_true] at hlk
          obtain ⟨q, hq, e⟩ := Array.getElem_of_mem hx
          have h := hlk q hq
          rw [e] at h
          simp only [List.all_eq_true, List.mem_range, Bool.or_eq_true, bne_iff_ne, ne_eq] at h
          rcases h k (List.getElem?_eq_some_iff.1 hk).1 with h | h
          · simp [hk, hd] at h
          · obtain ⟨ed, he, hb, rfl⟩ := edgeOn_spec h
            have := back i o ho ed he hb
            exact ⟨hedge ed he hb, by omega⟩
        | _ => rfl
      have hold : oldOk st.hp 0 st0.hp := oldOk_of _ _ fun b _ hb => by rw [M.old b (by omega)]; simp
      have hnew : newOk st.hp nm o 0 pv := newOk_of _ _ fun k e bb hk hb he => by
        rw [Nat.zero_add] at he ⊢
        obtain ⟨ed, hee, hbb, rfl⟩ := edgeOn_spec he
        have hkl := (List.getElem?_eq_some_iff.1 hk).1
        obtain ⟨d', v', b'⟩ := e
        simp only at hb
        subst hb
        exact (M.blk ed.on bb (by omega) (hedge ed hee hbb) (pvv hk).2).2
      rcases hops.get i (Nat.zero_le _) (by omega) o ho nm st.hp hold hnew M.more with ⟨h1, h2⟩ | ⟨h1, h2, h3⟩
      · rw [Cn_eq] at h2
        exact .inl ⟨h1, opA_congr hev h2⟩
      · exact .inr ⟨h1, h2, h3.congr hev⟩
    · exact absurd hj hne
  · intro listed nm st M hon
    refine M.weak hn0 hflat ps bs hnd (by have := congrArg List.length hps; simpa using this.symm) ?_ hbs m hfin.1 ?_
    · intro j i hj
      have hb : (ps.map pv.b)[j]? = some (pv.b i) := by simp [hj]
      rw [hps] at hb
      have hbj : bs[j]? = pv.b i := by
        cases hc : bs[j]? with
        | none => simp [hc] at hb
        | some c => simp [hc] at hb; exact hb
      have hi : i < pv.length := by
        apply Decidable.byContradiction
        intro hn
        have e : pv.b i = none := by simp [PEs.b, List.getD_eq_getElem?_getD, List.getElem?_eq_none (Nat.le_of_not_lt hn)]
        rw [e] at hb
        simp at hb
      exact ⟨by omega, hon i (by omega) (by omega), hbj.symm⟩
    · intro i b hi
      rcases finOk_get hfin.2 i b hi with rfl | h
      · exact .inl rfl
      · rw [Nat.zero_add] at h
        by_cases hany : b = .any
        · exact .inl hany
        · right
          by_cases hex : ∃ (k : Nat) (ok : Oper), opl[k]? = some ok ∧ ok.dst = some i ∧ k = pv.length
          · exfalso
            obtain ⟨k, ok, hk, hd, e⟩ := hex
            subst e
            rw [hL] at hk
            cases hk
            have := hLd
            rw [hd, Option.map_some, Option.getD_some] at this
            rw [List.getD_eq_getElem?_getD, hi, Option.getD_some] at this
            exact hany this
          · obtain ⟨h1, h2⟩ := finAt_slot (nm := nm) h
            refine ⟨?_, h2⟩
            rw [← h1]
            refine slots M i fun k ok hk hd => ?_
            rcases gl k ok hk with hj | ⟨hj, _⟩
            · exact ⟨hon k (by omega) (by omega), hj⟩
            · exact absurd ⟨k, ok, hk, hd, hj⟩ hex

section
variable {ops : List Oper} {ms : List Bool} {st0 : St} {pv : PEs} {k n : Nat}
theorem hops_nil : HopsFrom P n0 ops ms st0 pv k 0 := trivial
theorem hops_op {o : Oper} {d : Nat} {v : AV} (ho : ops[k]? = some o) (hm : ms.getD k true = true) (hv : pv[k]? = some (d, v, none))
    (h : ∀ (nm : Nat → Nat) (hp : List Blk), oldOk hp 0 st0.hp → newOk hp nm o 0 pv → st0.hp.length ≤ hp.length →
      opA P n0 o.op (evP (plName st0.hp.length nm) st0.tm pv) hp (Cn (fun w hp' kb => kb = none ∧ w = ren (plName st0.hp.length nm) v ∧ hp' = hp) .mk))
    (hr : HopsFrom P n0 ops ms st0 pv (k + 1) n) : HopsFrom P n0 ops ms st0 pv k (n + 1) := by
  refine ⟨fun o' ho' nm hp h1 h2 h3 => ?_, hr⟩
  rw [ho] at ho'
  cases ho'
  have h4 := h nm hp h1 h2 h3
  have e1 : pv.v k = v := by simp [PEs.v, List.getD_eq_getElem?_getD, hv]
  have e2 : pv.b k = none := by simp [PEs.b, List.getD_eq_getElem?_getD, hv]
  refine .inl ⟨hm, ?_⟩
  rw [e1, e2]
  exact h4
theorem hops_new {o : Oper} {d : Nat} {v : AV} {b : Blk} (ho : ops[k]? = some o) (hm : ms.getD k true = true) (hv : pv[k]? = some (d, v, some b))
    (h : ∀ (nm : Nat → Nat) (hp : List Blk), oldOk hp 0 st0.hp → newOk hp nm o 0 pv → st0.hp.length ≤ hp.length →
      opA P n0 o.op (evP (plName st0.hp.length nm) st0.tm pv) hp (Cn (fun w hp' kb => kb = none ∧ w = ren (plName st0.hp.length (upd nm k hp.length)) v ∧ hp' = hp ++ [b]) .mk))
    (hr : HopsFrom P n0 ops ms st0 pv (k + 1) n) : HopsFrom P n0 ops ms st0 pv k (n + 1) := by
  refine ⟨fun o' ho' nm hp h1 h2 h3 => ?_, hr⟩
  rw [ho] at ho'
  cases ho'
  have h4 := h nm hp h1 h2 h3
  have e1 : pv.v k = v := by simp [PEs.v, List.getD_eq_getElem?_getD, hv]
  have e2 : pv.b k = some b := by simp [PEs.b, List.getD_eq_getElem?_getD, hv]
  refine .inl ⟨hm, ?_⟩
  rw [e1, e2]
  exact h4
end
theorem Yields.bare2 {o : Oper} {f : Operand → AV} {hp : List Blk} {t e : TypeId} (ho : o.op = .buildSlice t 0 #[]) (hd : P.underlying t = some (.slice e)) (hpos : 0 < P.cellsOf e) : Yields P o f hp .nils := by
  intro E g H hr hcst
  have run : (Instr.buildSlice t 0 #[]).run P E.w = .ok (.slice (some ⟨E.w.heap.size, 0, none⟩) 0 0) { E.w with heap := E.w.heap.push (.cells #[] e) } := by
    have hc : ¬ (0 : Nat) > 2 ^ 24 := by omega
    simp only [Instr.buildSlice, Sem.run_bind, run_underlying' hd, Result.andThen_ok, run_sizeOf_pos hpos, Nat.zero_mul, hc, if_false, if_true, Sem.run_pure]
    have e0 : (Array.map (fun x => (#[] : Array Value)[x % (#[] : Array Value).size]!) (Array.range 0)) = #[] := by simp
    rw [e0]
    rfl
  have old : ∀ c, c < E.w.heap.size → (E.w.heap.push (.cells #[] e))[c]? = E.w.heap[c]? := fun c hc => by
    rw [Array.getElem?_push]
    simp [show c ≠ E.w.heap.size from by omega]
  let E2 : Env P := { E with w := { E.w with heap := E.w.heap.push (.cells #[] e) } }
  have le : E.le E2 := ⟨fun _ h => h, fun c hc => old c (H.old c hc), Nat.le_refl _, fun _ _ => rfl, fun _ _ => rfl, fun c => csz_push E.w _ c⟩
  have H2 : HRel E2 hp := by
    refine ⟨H.N, H.wd, fun b blk hb hl => ?_, H.inj, H.apart, fun c hc => by have := H.old c hc; simp [E2]; omega, H.laidLe le⟩
    obtain ⟨cs, h1, h2⟩ := (H.holds b blk hb hl).cells
    refine ⟨cs, ?_, fun i e he => ⟨(h2 i e he).1, fun j x hx => ?_⟩⟩
    · show Row (E.w.heap.push (.cells #[] e))[E.ρ b]? _ _
      rw [old _ (Row.lt h1)]
      exact h1
    · obtain ⟨v, h3, h4⟩ := (h2 i e he).2 j x hx
      exact ⟨v, h3, h4.mono le⟩
  have F2 : Fr E hp E2 hp :=
    { size := by simp [E2], os := rfl, tape := rfl, output := rfl, block := fun c hc _ => old c hc, len := Nat.le_refl _, ρ := fun _ _ => rfl, wd := fun _ _ => rfl, F := fun _ h => h, F' := fun c h => .inl h
      live := fun b hb => .inl ⟨by obtain ⟨blk, h1, _⟩ := hb; exact (List.getElem?_eq_some_iff.1 h1).1, hb⟩, csz := fun c => csz_push E.w _ c }
  unfold Runs
  have hx : (execOp g o).run P E.w = .ok (.value (.slice (some ⟨E.w.heap.size, 0, none⟩) 0 0)) { E.w with heap := E.w.heap.push (.cells #[] e) } := by
    simp only [execOp, ho]
    simp [Sem.run_bind, run]
  rw [hx]
  exact ⟨E2, rfl, .nils _, H2, F2, le⟩
theorem hops_bare {ops : List Oper} {ms : List Bool} {st0 : St} {pv : PEs} {k n : Nat} {o : Oper} {d : Nat} {ty e : TypeId} (ho : ops[k]? = some o) (hm : ms.getD k true = false) (hv : pv[k]? = some (d, .nils, none))
    (hop : o.op = .buildSlice ty 0 #[]) (hd : P.underlying ty = some (.slice e)) (hpos : 0 < P.cellsOf e)
    (hr : HopsFrom P n0 ops ms st0 pv (k + 1) n) : HopsFrom P n0 ops ms st0 pv k (n + 1) := by
  refine ⟨fun o' ho' nm hp h1 h2 h3 => ?_, hr⟩
  rw [ho] at ho'
  cases ho'
  have e1 : pv.v k = .nils := by simp [PEs.v, List.getD_eq_getElem?_getD, hv]
  have e2 : pv.b k = none := by simp [PEs.b, List.getD_eq_getElem?_getD, hv]
  refine .inr ⟨hm, e2, ?_⟩
  rw [e1]
  exact Yields.bare2 hop hd hpos
end
end Go.Abs
/- The abstract layer, part ZB: a call that reads known blocks; what it makes is told as lists that nobody writes any more. -/
set_option linter.unusedSimpArgs false
set_option linter.unusedVariables false
namespace Go.Abs
open Go
variable {P : Program}
theorem view_ptr (d : Nat) (hp : List Blk) (b i j : Nat) : view (d + 1) hp (.ptr b i j) = match hp[b]? with
  | some blk => if blk.live then (match blk.els[i]? with
    | some e => .rop ((e.cells.drop j).map (view d hp))
    | none => .any) else .any
  | none => .any := rfl
section
variable {P : Program}
end
end Go.Abs
/- The abstract layer, part ZC: numbers that are not negative: sums, products and quotients keep it. Of no program. -/
set_option linter.unusedSimpArgs false
set_option linter.unusedVariables false
namespace Go.Abs
open Go
variable {P : Program}

def GeZ (k : FloatKind) (x : Nat) : Prop := ∀ s m e, k.decode x = .number s m e → s = false ∨ m = 0
theorem gez_of_notfin {k : FloatKind} {x : Nat} (h : finB k x = false) : GeZ k x := by
  intro s m e hd
  unfold finB at h
  rw [hd] at h
  cases h
theorem inf_lt (k : FloatKind) : k.format.infRung < k.format.signWeight := by cases k <;> decide
theorem read_word (k : FloatKind) (neg : Bool) (r : Nat) (h : r ≤ k.format.infRung) : (∃ m e, k.format.read (k.format.word neg r) = .number neg m e ∧ (r = 0 → m = 0)) ∨ k.format.read (k.format.word neg r) = .infinity neg := by
  have hlt := inf_lt k
  have hpos : 0 < k.format.signWeight := Nat.lt_of_le_of_lt (Nat.zero_le _) hlt
  have h1 : k.format.word neg r % k.format.signWeight = r := by
    unfold Ieee.Format.word
    split
    · rw [Nat.add_mod_left, Nat.mod_eq_of_lt (by omega)]
    · exact Nat.mod_eq_of_lt (by omega)
  have h2 : (k.format.word neg r / k.format.signWeight % 2 == 1) = neg := by
    unfold Ieee.Format.word
    cases neg
    · rw [if_neg (by decide), Nat.div_eq_of_lt (by omega)]; rfl
    · rw [if_pos rfl, Nat.add_div_left _ hpos, Nat.div_eq_of_lt (by omega)]; rfl
  unfold Ieee.Format.read
  simp only [h1, h2]
  have hb : 0 < k.format.binade := by cases k <;> decide
  split
  · exact .inl ⟨r, _, rfl, fun h => h⟩
  · rename_i hr
    split
    · exact .inl ⟨_, _, rfl, fun h => by omega⟩
    · split
      · exact .inr rfl
      · rename_i h3 h4
        exact absurd (Nat.le_antisymm h (by omega)) h4
theorem nearest_word (k : FloatKind) (neg : Bool) (m : Nat) (e : Int) : ∃ r, k.format.nearest neg m e = k.format.word neg r ∧ r ≤ k.format.infRung ∧ (m = 0 → r = 0) := by
  unfold Ieee.Format.nearest
  split
  · exact ⟨0, rfl, Nat.zero_le _, fun _ => rfl⟩
  · rename_i h
    exact ⟨_, rfl, Nat.min_le_right _ _, fun h0 => absurd h0 h⟩
theorem gez_write (k : FloatKind) {s : Bool} {m : Nat} {e : Int} (h : s = false ∨ m = 0) : GeZ k (canon k (k.format.write (.number s m e))) := by
  intro s' m' e' hd
  have hn : (k.decode (canon k (k.format.write (.number s m e)))).isNaN = false := by rw [hd]; rfl
  rw [decode_canon_not hn] at hd
  obtain ⟨r, h1, h2, h3⟩ := nearest_word k s m e
  have hd' : k.format.read (k.format.word s r) = .number s' m' e' := by rw [← h1]; exact hd
  rcases read_word k s r h2 with ⟨m2, e2, h4, h5⟩ | h4
  · rw [h4] at hd'
    cases hd'
    rcases h with h | h
    · exact .inl h
    · exact .inr (h5 (h3 h))
  · rw [h4] at hd'
    cases hd'
theorem gez_fnum {k : FloatKind} {d : Option Ieee.Datum} (h : ∀ s m e, d = some (.number s m e) → s = false ∨ m = 0) (hn : ∀ s t, d ≠ some (.nan s t)) : GeZ k (fnum k (d.map k.format.write)) := by
  cases d with
  | none => exact gez_of_notfin (fin_nan k)
  | some d =>
    cases d with
    | number s m e => exact gez_write k (h s m e rfl)
    | infinity s => exact gez_of_notfin (fin_inf k s)
    | nan s t => exact absurd rfl (hn s t)
theorem signed_ge {s : Bool} {m n : Nat} (h : s = false ∨ m = 0) : 0 ≤ Ieee.signed s m n := by
  unfold Ieee.signed
  rcases h with h | h
  · subst h; rw [if_neg (by decide)]; exact Int.natCast_nonneg _
  · subst h; simp
theorem gez_add {k : FloatKind} {x y : Nat} (hx : GeZ k x) (hy : GeZ k y) : GeZ k (fadd k x y) := by
  unfold fadd Ieee.Format.add
  rw [format_read, format_read]
  refine gez_fnum ?_ ?_
  · intro s m e hd
    cases h1 : k.decode x with
    | nan a b => rw [h1] at hd; cases h2 : k.decode y <;> rw [h2] at hd <;> cases hd
    | infinity a =>
      rw [h1] at hd
      cases h2 : k.decode y with
      | infinity b =>
        rw [h2] at hd
        simp only [Ieee.Datum.sum] at hd
        split at hd <;> cases hd
      | _ => rw [h2] at hd; cases hd
    | number a b c =>
      rw [h1] at hd
      cases h2 : k.decode y with
      | number a' b' c' =>
        rw [h2] at hd
        simp only [Ieee.Datum.sum, Option.some.injEq, Ieee.Datum.number.injEq] at hd
        obtain ⟨hs, hm, _⟩ := hd
        have g1 := signed_ge (n := (c - min c c').toNat) (hx a b c h1)
        have g2 := signed_ge (n := (c' - min c c').toNat) (hy a' b' c' h2)
        rw [← hs, ← hm]
        split
        · rename_i h0
          right
          rw [h0]; rfl
        · left
          exact decide_eq_false (by omega)
      | _ => rw [h2] at hd; cases hd
  · intro s t hd
    cases h1 : k.decode x <;> rw [h1] at hd <;> cases h2 : k.decode y <;> rw [h2] at hd <;> simp only [Ieee.Datum.sum] at hd <;> first | (cases hd; done) | (split at hd <;> cases hd)
theorem gez_mul {k : FloatKind} {x y : Nat} (hx : GeZ k x) (hy : GeZ k y) : GeZ k (fmul k x y) := by
  unfold fmul Ieee.Format.mul
  rw [format_read, format_read]
  refine gez_fnum ?_ ?_
  · intro s m e hd
    cases h1 : k.decode x with
    | nan a b => rw [h1] at hd; cases h2 : k.decode y <;> rw [h2] at hd <;> cases hd
    | infinity a =>
      rw [h1] at hd
      cases h2 : k.decode y with
      | number a' b' c' =>
        rw [h2] at hd
        simp only [Ieee.Datum.product] at hd
        split at hd <;> cases hd
      | _ => rw [h2] at hd; cases hd
    | number a b c =>
      rw [h1] at hd
      cases h2 : k.decode y with
      | number a' b' c' =>
        rw [h2] at hd
        simp only [Ieee.Datum.product, Option.some.injEq, Ieee.Datum.number.injEq] at hd
        obtain ⟨hs, hm, _⟩ := hd
        rcases hx a b c h1 with g1 | g1
        · rcases hy a' b' c' h2 with g2 | g2
          · left; rw [← hs, g1, g2]; rfl
          · right; rw [← hm, g2, Nat.mul_zero]
        · right; rw [← hm, g1, Nat.zero_mul]
      | infinity a' =>
        rw [h2] at hd
        simp only [Ieee.Datum.product] at hd
        split at hd <;> cases hd
      | nan a' b' => rw [h2] at hd; cases hd
  · intro s t hd
    cases h1 : k.decode x <;> rw [h1] at hd <;> cases h2 : k.decode y <;> rw [h2] at hd <;> simp only [Ieee.Datum.product] at hd <;> first | (cases hd; done) | (split at hd <;> cases hd)
theorem gez_div {k : FloatKind} {x y : Nat} (hx : GeZ k x) (hy : GeZ k y) : GeZ k (fdiv k x y) := by
  unfold fdiv Ieee.Format.div
  rw [format_read, format_read]
  refine gez_fnum ?_ ?_
  · intro s m e hd
    cases h1 : k.decode x with
    | nan a b => rw [h1] at hd; cases h2 : k.decode y <;> rw [h2] at hd <;> cases hd
    | infinity a =>
      rw [h1] at hd
      cases h2 : k.decode y <;> rw [h2] at hd <;> cases hd
    | number a b c =>
      rw [h1] at hd
      cases h2 : k.decode y with
      | number a' b' c' =>
        rw [h2] at hd
        simp only [Ieee.Datum.quotient] at hd
        split at hd
        · split at hd <;> cases hd
        · rename_i hn
          simp only [Option.some.injEq, Ieee.Datum.number.injEq] at hd
          obtain ⟨hs, hm, _⟩ := hd
          rcases hy a' b' c' h2 with g2 | g2
          · rcases hx a b c h1 with g1 | g1
            · left; rw [← hs, g1, g2]; rfl
            · right; rw [← hm, g1]; simp
          · exact absurd g2 hn
      | infinity a' =>
        rw [h2] at hd
        simp only [Ieee.Datum.quotient, Option.some.injEq, Ieee.Datum.number.injEq] at hd
        exact .inr hd.2.1.symm
      | nan a' b' => rw [h2] at hd; cases hd
  · intro s t hd
    cases h1 : k.decode x <;> rw [h1] at hd <;> cases h2 : k.decode y <;> rw [h2] at hd <;> simp only [Ieee.Datum.quotient] at hd <;> first | (cases hd; done) | (split at hd <;> first | (cases hd; done) | (split at hd <;> cases hd))
theorem gez_zero (k : FloatKind) : GeZ k 0 := by
  intro s m e h
  rw [decode_zero] at h
  cases h
  exact .inl rfl
theorem fge_gez (k : FloatKind) {x : Nat} (h : fge k x 0 = true) : GeZ k x := by
  intro s m e hd
  unfold fge Ieee.Format.order at h
  rw [format_read, format_read, hd, decode_zero] at h
  simp only [Ieee.Datum.order] at h
  cases s with
  | false => exact .inl rfl
  | true =>
    right
    apply Classical.byContradiction
    intro hm
    have h0 : Ieee.signed false 0 (k.format.leastPlace - min e k.format.leastPlace).toNat = 0 := by simp [Ieee.signed]
    have hneg : Ieee.signed true m (e - min e k.format.leastPlace).toNat < 0 := by
      simp only [Ieee.signed, if_true]
      have : 0 < m <<< (e - min e k.format.leastPlace).toNat := by rw [Nat.shiftLeft_eq]; exact Nat.mul_pos (Nat.pos_of_ne_zero hm) (Nat.two_pow_pos _)
      omega
    rw [h0, (Int.compare_eq_lt).2 hneg] at h
    simp at h
theorem gez_fge (k : FloatKind) {x : Nat} (hf : finB k x = true) (h : GeZ k x) : fge k x 0 = true := by
  unfold finB at hf
  cases hd : k.decode x with
  | nan s t => rw [hd] at hf; cases hf
  | infinity s => rw [hd] at hf; cases hf
  | number s m e =>
    have hs := h s m e hd
    unfold fge Ieee.Format.order
    rw [format_read, format_read, hd, decode_zero]
    simp only [Ieee.Datum.order]
    have h0 : Ieee.signed false 0 (k.format.leastPlace - min e k.format.leastPlace).toNat = 0 := by simp [Ieee.signed]
    have hp := signed_ge (n := (e - min e k.format.leastPlace).toNat) hs
    rw [h0]
    rcases Int.lt_or_eq_of_le hp with hlt | heq
    · rw [(Int.compare_eq_gt).2 hlt]; rfl
    · rw [← heq]; rfl
theorem okN_iff (x : Nat) : okN x = true ↔ finB .f32 x = true ∧ GeZ .f32 x := by
  unfold okN
  rw [Bool.and_eq_true]
  exact ⟨fun ⟨a, b⟩ => ⟨a, fge_gez _ b⟩, fun ⟨a, b⟩ => ⟨a, gez_fge _ a b⟩⟩
theorem okS_gez {x : Nat} (h : okS x = true) : GeZ .f32 x := by
  unfold okS at h
  rw [Bool.and_eq_true] at h
  exact fge_gez _ h.1
theorem sumF_fin : ∀ (xs : List Nat) (a : Nat), finB .f32 (xs.foldl (fadd .f32) a) = true → finB .f32 a = true ∧ ∀ x ∈ xs, finB .f32 x = true
  | [], a, h => ⟨h, by simp⟩
  | x :: xs, a, h => by
    obtain ⟨h1, h2⟩ := sumF_fin xs (fadd .f32 a x) h
    have ha : finB .f32 a = true := by
      cases hc : finB .f32 a with
      | true => rfl
      | false => rw [fin_add_left _ _ _ hc] at h1; cases h1
    have hx : finB .f32 x = true := by
      cases hc : finB .f32 x with
      | true => rfl
      | false => rw [fin_add_right _ _ _ hc] at h1; cases h1
    exact ⟨ha, fun y hy => by
      rcases List.mem_cons.1 hy with rfl | hy
      · exact hx
      · exact h2 y hy⟩
end Go.Abs
/- The abstract layer, part ZD: the library's sort, by the kit's contract. -/
set_option linter.unusedSimpArgs false
set_option linter.unusedVariables false
namespace Go.Abs
open Go
variable {P : Program}

theorem HRel.extend {E : Env P} {hp : List Blk} (H : HRel E hp) {w' : World} (hs : E.w.heap.size ≤ w'.heap.size) (hh : ∀ c, c < E.w.heap.size → w'.heap[c]? = E.w.heap[c]?) (h1 : w'.os = E.w.os) (h2 : w'.tape = E.w.tape) (h3 : w'.output = E.w.output) :
    HRel (E.with w') hp ∧ (∀ {E0 : Env P} {hp0 : List Blk}, Fr E0 hp0 E hp → Fr E0 hp0 (E.with w') hp) ∧ E.le (E.with w') := by
  have hcsz : ∀ c, csz E.w c ≤ csz w' c := fun c => by
    by_cases hc : c < E.w.heap.size
    · unfold csz; rw [hh c hc]; exact Nat.le_refl _
    · unfold csz
      rw [Array.getElem?_eq_none (by omega)]
      exact Nat.zero_le _
  have le : E.le (E.with w') := ⟨fun _ h => h, fun c hc => hh c (H.old c hc), Nat.le_refl _, fun _ _ => rfl, fun _ _ => rfl, hcsz⟩
  refine ⟨⟨H.N, H.wd, fun b blk hb hl => ?_, H.inj, H.apart, fun c hc => Nat.lt_of_lt_of_le (H.old c hc) hs, H.laidLe le⟩, ?_, le⟩
  · obtain ⟨cs, h4, h5⟩ := (H.holds b blk hb hl).cells
    refine ⟨cs, ?_, fun i e he => ⟨(h5 i e he).1, fun j x hx => ?_⟩⟩
    · show Row w'.heap[E.ρ b]? _ _
      rw [hh _ (Row.lt h4)]
      exact h4
    · obtain ⟨v, h6, h7⟩ := (h5 i e he).2 j x hx
      exact ⟨v, h6, h7.mono le⟩
  · intro E0 hp0 F
    exact { size := Nat.le_trans F.size hs, os := h1.trans F.os, tape := h2.trans F.tape, output := h3.trans F.output
            block := fun c hc hn => by
              show w'.heap[c]? = _
              rw [hh c (Nat.lt_of_lt_of_le hc F.size)]
              exact F.block c hc hn
            len := F.len, ρ := F.ρ, wd := F.wd, F := F.F, F' := F.F', live := F.live, csz := fun c => Nat.le_trans (F.csz c) (hcsz c) }

end Go.Abs
/- The abstract layer, part ZE: numerals by the kit's contract; bytes; places in strings. -/
set_option linter.unusedSimpArgs false
set_option linter.unusedVariables false
namespace Go.Abs
open Go Go.RowKit
variable {P : Program}

theorem HRel.err {E : Env P} {hp : List Blk} (H : HRel E hp) {n : String} (hn : n ∈ errs) {g : Nat} (hg : P.globalNamed n = some g) : ∃ v, E.w.cell? ⟨g, 0, none⟩ = some v ∧ isErr v := by
  obtain ⟨_, v, ty, fr, h, h2⟩ := H.laid.2.1 _ hn g hg
  exact ⟨v, by simp [World.cell?, h], h2⟩
end Go.Abs
/- The abstract layer, part ZF: a block of the caller's is taken over: it is dead, and a new one lies in its place. -/
set_option linter.unusedSimpArgs false
set_option linter.unusedVariables false
namespace Go.Abs
open Go
variable {P : Program}

structure LeHpW (N : Nat) (π : Nat → Nat) (n0 : Nat) (hp hp2 : List Blk) : Prop where
  len : hp2.length = N
  hn0 : n0 ≤ N
  low : ∀ b, b < n0 → π b = b
  inj : ∀ (b b' : Nat) r r', hp2[b]? = some r → r.live = true → hp2[b']? = some r' → r'.live = true → π b = π b' → b = b'
  blk : ∀ (b : Nat) r, hp2[b]? = some r → ∃ q, hp[π b]? = some q ∧ q.w = r.w ∧ (r.live = true → q.live = true ∧ q.ty = r.ty ∧ q.els = r.els.map (ren π) ∧ ∀ e ∈ r.els, below N e = true)
theorem LeHpW.sound {N : Nat} {π : Nat → Nat} {n0 : Nat} {hp hp2 : List Blk} (h : LeHpW N π n0 hp hp2) {E0 : Env P} {hp0 : List Blk} {E : Env P} (hn : hp0.length = n0) (H : HRel E hp) (F : Fr E0 hp0 E hp) : HRel (E.ren N π) hp2 ∧ Fr E0 hp0 (E.ren N π) hp2 := by
  have lt : ∀ (b : Nat) r, hp2[b]? = some r → b < N := fun b r hb => by rw [← h.len]; exact (List.getElem?_eq_some_iff.1 hb).1
  refine ⟨⟨h.len.symm, ?_, ?_, ?_, ?_, H.old, H.laid⟩, ?_⟩
  · intro b r hb
    obtain ⟨q, hq, hw, _⟩ := h.blk b r hb
    show E.wd (π b) = r.w
    rw [H.wd (π b) q hq, hw]
  · intro b r hb hl
    obtain ⟨q, hq, hw, hx⟩ := h.blk b r hb
    obtain ⟨hql, hty, hels, hbel⟩ := hx hl
    obtain ⟨cs, h1, h2⟩ := (H.holds (π b) q hq hql).cells
    refine ⟨cs, by rw [← hty]; exact h1, fun i e he => ?_⟩
    have hbe := hbel e (List.mem_of_getElem? he)
    obtain ⟨k1, k2⟩ := ren_cells (π := π) hbe
    have hqe : q.els[i]? = some (Abs.ren π e) := by rw [hels]; simp [he]
    obtain ⟨h3, h4⟩ := h2 i _ hqe
    refine ⟨by rw [← hw, ← h3, k1], fun j c hc => ?_⟩
    obtain ⟨c', hc', k3⟩ := k2 j c hc
    obtain ⟨v, h5, h6⟩ := h4 j c' hc'
    exact ⟨v, by rw [← hw]; exact h5, k3 h6⟩
  · intro b b' r r' hb hl hb' hl' he
    obtain ⟨q, hq, _, hx⟩ := h.blk b r hb
    obtain ⟨q', hq', _, hx'⟩ := h.blk b' r' hb'
    exact h.inj b b' r r' hb hl hb' hl' (H.inj (π b) (π b') q q' hq (hx hl).1 hq' (hx' hl').1 he)
  · intro b r hb hl
    obtain ⟨q, hq, _, hx⟩ := h.blk b r hb
    exact H.apart (π b) q hq (hx hl).1
  · exact {
      size := F.size
      os := F.os
      tape := F.tape
      output := F.output
      block := F.block
      len := by rw [hn, h.len]; exact h.hn0
      ρ := fun b hb => by show E.ρ (π b) = _; rw [h.low b (by omega)]; exact F.ρ b hb
      wd := fun b hb => by show E.wd (π b) = _; rw [h.low b (by omega)]; exact F.wd b hb
      F := F.F
      F' := F.F'
      live := fun b ⟨r, hb, hl⟩ => by
        obtain ⟨q, hq, _, hx⟩ := h.blk b r hb
        have hlive := F.live (π b) ⟨q, hq, (hx hl).1⟩
        by_cases hbn : b < n0
        · rw [h.low b hbn] at hlive
          rcases hlive with h1 | ⟨h1, _⟩
          · exact .inl h1
          · omega
        · rcases hlive with ⟨h1, h2⟩ | ⟨_, h2⟩
          · exact .inr ⟨by omega, .inr ⟨π b, h2, (F.ρ (π b) h1).symm⟩⟩
          · exact .inr ⟨by omega, h2⟩
      csz := F.csz }
end Go.Abs
/- The abstract layer, part ZG: strings.Cut, TrimSuffix and Split, by the kit's own contracts. -/
set_option linter.unusedSimpArgs false
set_option linter.unusedVariables false
namespace Go.Abs
open Go
variable {P : Program}

def words (sep s : List UInt8) : List (List UInt8) := (Lib.splitB ⟨sep.toArray⟩ 0 (Lib.countB ⟨s.toArray⟩ ⟨sep.toArray⟩) ⟨s.toArray⟩).map (·.data.toList)
end Go.Abs
/- The abstract layer, part ZH: nil slices told as empty lists; a block that holds nothing; heaps whose blocks name one another. -/
set_option linter.unusedSimpArgs false
set_option linter.unusedVariables false
namespace Go.Abs
open Go
variable {P : Program}

def nilD : Nat → AV → AV
  | 0, a => a
  | d + 1, a => match a with
    | .nils => .ro []
    | .agg l => .agg (l.map (nilD d))
    | .tup l => .tup (l.map (nilD d))
    | .ro l => .ro (l.map (nilD d))
    | .rop l => .rop (l.map (nilD d))
    | a => a
theorem nilD_cells (d : Nat) (e : AV) : (nilD d e).cells.length = e.cells.length ∧ ∀ (j : Nat) c, (nilD d e).cells[j]? = some c → ∃ d' c0, e.cells[j]? = some c0 ∧ d' ≤ d ∧ c = nilD d' c0 := by
  cases d with
  | zero => exact ⟨rfl, fun j c h => ⟨0, c, h, Nat.le_refl _, rfl⟩⟩
  | succ d =>
    cases e with
    | agg l =>
      refine ⟨by simp [nilD, AV.cells], fun j c h => ?_⟩
      simp only [nilD, AV.cells, List.getElem?_map, Option.map_eq_some_iff] at h
      obtain ⟨c0, h1, rfl⟩ := h
      exact ⟨d, c0, h1, Nat.le_succ _, rfl⟩
    | _ =>
      refine ⟨rfl, fun j c h => ?_⟩
      cases j with
      | zero => cases h; exact ⟨d + 1, _, rfl, Nat.le_refl _, rfl⟩
      | succ j => cases h
theorem RV.nil : ∀ (d : Nat) {E : Env P} {a : AV} {v : Value}, RV E a v → RV E (nilD d a) v := by
  intro d
  induction d using Nat.strongRecOn with
  | _ d ih =>
  intro E a v h
  match d, ih with
  | 0, _ => exact h
  | d + 1, ih =>
  cases h with
  | nils a => exact .roNil a 0
  | roNil a cap => exact .roNil a cap
  | agg l vs hl h =>
    refine .agg _ vs (by rw [List.length_map]; exact hl) fun i x v h1 h2 => ?_
    rw [List.getElem?_map, Option.map_eq_some_iff] at h1
    obtain ⟨y, h3, rfl⟩ := h1
    exact ih d (by omega) (h i y v h3 h2)
  | tup l vs hl h =>
    refine .tup _ vs (by rw [List.length_map]; exact hl) fun i x v h1 h2 => ?_
    rw [List.getElem?_map, Option.map_eq_some_iff] at h1
    obtain ⟨y, h3, rfl⟩ := h1
    exact ih d (by omega) (h i y v h3 h2)
  | ro l b off cap wd val hF hcap hmax hw hc hv =>
    have hlen : (l.map (nilD d)).length = l.length := List.length_map _
    show RV E (.ro (l.map (nilD d))) _
    rw [← hlen]
    refine .ro _ b off cap wd val hF (by rw [hlen]; exact hcap) hmax (fun i e he => ?_) (fun i e he j c hj => ?_) (fun i e he j c hj => ?_)
    all_goals
      rw [List.getElem?_map, Option.map_eq_some_iff] at he
      obtain ⟨e0, h1, rfl⟩ := he
    · rw [(nilD_cells d e0).1]; exact hw i e0 h1
    · obtain ⟨d', c0, h2, _, _⟩ := (nilD_cells d e0).2 j c hj
      exact hc i e0 h1 j c0 h2
    · obtain ⟨d', c0, h2, h3, rfl⟩ := (nilD_cells d e0).2 j c hj
      exact ih d' (by omega) (hv i e0 h1 j c0 h2)
  | any v => exact .any v
  | bool b => exact .bool b
  | int k n => exact .int k n
  | flt k x b h => exact .flt k x b h
  | cpx k x y a b h h' => exact .cpx k x y a b h h'
  | str s => exact .str s
  | sl b i n off cap hb ho hcap hmax hroom => exact .sl b i n off cap hb ho hcap hmax hroom
  | ptr b i j hb => exact .ptr b i j hb
  | rop l b off val hF hc hv =>
    refine .rop _ b off val hF (fun j c hj => ?_) (fun j c hj => ?_)
    all_goals
      rw [List.getElem?_map, Option.map_eq_some_iff] at hj
      obtain ⟨c0, h1, rfl⟩ := hj
    · exact hc j c0 h1
    · exact ih d (by omega) (hv j c0 h1)
  | nilp => exact .nilp
  | fn f l vs hl h => exact .fn f l vs hl h
  | nilf => exact .nilf
theorem CallA.nil (d : Nat) {f : FuncId} {args args' : List AV} {hp : List Blk} {Q : AV → List Blk → Prop} (ha : args.map (nilD d) = args') (h : CallA P f args' hp Q) : CallA P f args hp Q := by
  subst ha
  intro E vs H hl hrv
  refine h E vs H (by rw [List.length_map]; exact hl) fun i a v h1 h2 => ?_
  rw [List.getElem?_map, Option.map_eq_some_iff] at h1
  obtain ⟨y, h3, rfl⟩ := h1
  exact (hrv i y v h3 h2).nil d
section
variable {f : FuncId} {args : List AV} {hp : List Blk} {Q : AV → List Blk → Prop} {t : Tok Q} {g : AV → Prop} {u : Tok g}
end

def deadB : Blk := { ty := 0, w := 1, els := [], live := false }
def Env.more (E : Env P) : Env P := { E with N := E.N + 1, wd := fun b => if b = E.N then 1 else E.wd b }
theorem Env.le_more (E : Env P) : E.le E.more :=
  ⟨fun _ h => h, fun _ _ => rfl, Nat.le_succ _, fun _ _ => rfl, fun b hb => by show (if b = E.N then 1 else E.wd b) = _; rw [if_neg (by omega)], fun _ => Nat.le_refl _⟩
theorem dead_get {hp : List Blk} {b : Nat} {blk : Blk} (h : (hp ++ [deadB])[b]? = some blk) : hp[b]? = some blk ∨ (b = hp.length ∧ blk = deadB) := by
  rcases Nat.lt_trichotomy b hp.length with hb | hb | hb
  · rw [List.getElem?_append_left hb] at h; exact .inl h
  · rw [List.getElem?_append_right (by omega), hb] at h
    simp at h
    exact .inr ⟨hb, h.symm⟩
  · rw [List.getElem?_append_right (by omega)] at h
    rw [List.getElem?_eq_none (by simp; omega)] at h
    cases h
theorem HRel.dead {E : Env P} {hp : List Blk} (H : HRel E hp) : HRel E.more (hp ++ [deadB]) := by
  have live : ∀ {b : Nat} {blk : Blk}, (hp ++ [deadB])[b]? = some blk → blk.live = true → hp[b]? = some blk := fun h hl => by
    rcases dead_get h with h | ⟨_, rfl⟩
    · exact h
    · cases hl
  refine ⟨by show E.N + 1 = _; rw [H.N]; simp, fun b blk hb => ?_, fun b blk hb hl => ?_, fun b b' blk blk' h1 h2 h3 h4 h5 => H.inj b b' blk blk' (live h1 h2) h2 (live h3 h4) h4 h5, fun b blk hb hl => H.apart b blk (live hb hl) hl, H.old, H.laid⟩
  · show (if b = E.N then 1 else E.wd b) = _
    rcases dead_get hb with h | ⟨rfl, rfl⟩
    · have := (List.getElem?_eq_some_iff.1 h).1
      rw [if_neg (by rw [H.N]; omega)]
      exact H.wd b blk h
    · rw [if_pos H.N.symm]; rfl
  · obtain ⟨cs, h1, h2⟩ := (H.holds b blk (live hb hl) hl).cells
    refine ⟨cs, h1, fun i e he => ⟨(h2 i e he).1, fun j x hx => ?_⟩⟩
    obtain ⟨v, h3, h4⟩ := (h2 i e he).2 j x hx
    exact ⟨v, h3, h4.mono E.le_more⟩
theorem Fr.dead {E0 E : Env P} {hp0 hp : List Blk} (H : HRel E hp) (F : Fr E0 hp0 E hp) : Fr E0 hp0 E.more (hp ++ [deadB]) :=
  { size := F.size, os := F.os, tape := F.tape, output := F.output, block := F.block
    len := by rw [List.length_append]; have := F.len; omega
    ρ := F.ρ
    wd := fun b hb => by
      show (if b = E.N then 1 else E.wd b) = _
      rw [if_neg (by rw [H.N]; have := F.len; omega)]
      exact F.wd b hb
    F := F.F, F' := F.F'
    live := fun b ⟨blk, hb, hl⟩ => by
      rcases dead_get hb with h | ⟨_, rfl⟩
      · exact F.live b ⟨blk, h, hl⟩
      · cases hl
    csz := F.csz }
theorem PostR.dead {n0 : Nat} {r : AV} {hp : List Blk} {Q : AV → List Blk → Prop} (h : Q r (hp ++ [deadB])) : PostR n0 r hp Q :=
  ⟨r, hp ++ [deadB], fun P E0 hp0 E v hn H F hv => ⟨E.more, rfl, H.dead, F.dead H, hv.mono E.le_more⟩, h⟩

theorem WeakR.trans {n0 : Nat} {r1 r2 r3 : AV} {h1 h2 h3 : List Blk} (g : WeakR n0 r1 h1 r2 h2) (k : WeakR n0 r2 h2 r3 h3) : WeakR n0 r1 h1 r3 h3 := by
  intro P E0 hp0 E v hn H F hv
  obtain ⟨E1, e1, H1, F1, v1⟩ := g P E0 hp0 E v hn H F hv
  obtain ⟨E2, e2, H2, F2, v2⟩ := k P E0 hp0 E1 v hn H1 F1 v1
  exact ⟨E2, e2.trans e1, H2, F2, v2⟩
def SameTm : List AV → List AV → Prop
  | [], [] => True
  | a :: l, b :: m => (b = .any ∨ a = b) ∧ SameTm l m
  | _, _ => False
theorem SameTm.len : ∀ {l m : List AV}, SameTm l m → l.length = m.length
  | [], [], _ => rfl
  | a :: l, b :: m, h => by simp [SameTm.len h.2]
  | [], _ :: _, h => h.elim
  | _ :: _, [], h => h.elim
theorem SameTm.get : ∀ {l m : List AV}, SameTm l m → ∀ (i : Nat) b, m[i]? = some b → b = .any ∨ l[i]? = some b
  | [], [], _, i, b, h => by simp at h
  | a :: l, b :: m, h, 0, x, hx => by
    simp at hx; subst hx
    rcases h.1 with h1 | rfl
    · exact .inl h1
    · exact .inr rfl
  | a :: l, b :: m, h, i + 1, x, hx => by simpa using SameTm.get h.2 i x (by simpa using hx)
  | [], _ :: _, h, _, _, _ => h.elim
  | _ :: _, [], h, _, _, _ => h.elim
theorem Weak.trans {n0 : Nat} {a b c : St} (h : Weak n0 a b) (g : Weak n0 b c) : Weak n0 a c := by
  intro P E0 hp0 E act hn hs
  obtain ⟨E1, h1, h2⟩ := h P E0 hp0 E act hn hs
  obtain ⟨E2, h3, h4⟩ := g P E0 hp0 E1 act hn h2
  exact ⟨E2, h3.trans h1, h4⟩
end Go.Abs
/- The abstract layer, part ZI: a drawn region with a store that may come before operations that look at no memory; guards are told one by one. -/
set_option linter.unusedSimpArgs false
set_option linter.unusedVariables false
namespace Go.Abs
open Go
variable {P : Program}

def ordB (P : Program) (b0 : Nat) (n0 : Nat) (ops : List Oper) (ms bls : List Bool) (K : St → Prop) : List Nat → St → Prop
  | [], st => K st
  | k :: r, st => ∃ o, ops[k]? = some o ∧
    if ms.getD k true then wantedA ops o st = some true ∧ ∃ g : AV → List Blk → Option Nat → Prop, opA P n0 o.op st.ev st.hp g ∧ ∀ v hp' kb, g v hp' kb → ordB P b0 n0 ops ms bls K r ((st.after hp' kb).put o.dst v)
    else ∃ v, yA P ops o st v ∧ (bls.getD k false = true → ∀ q, yA P ops o (st.after (st.hp.set b0 q) none) v) ∧ ordB P b0 n0 ops ms bls K r (st.put o.dst v)
def Ol (P : Program) (b0 : Nat) (n0 : Nat) (ops : List Oper) (ms bls : List Bool) (K : St → Prop) (ord : List Nat) (_t : Tok (ops, ord, K)) (st : St) : Prop := ordB P b0 n0 ops ms bls K ord st
section
variable {b0 : Nat} {n0 : Nat} {ops : List Oper} {ms bls : List Bool} {K : St → Prop} {k : Nat} {r : List Nat} {st : St} {t : Tok (ops, k :: r, K)} {o : Oper}
end
attribute [irreducible] Ol
end Go.Abs
/- The abstract layer, part ZJ: what a function makes beside blocks that it changes is told as lists that nobody writes. -/
set_option linter.unusedSimpArgs false
set_option linter.unusedVariables false
namespace Go.Abs
open Go
section
variable {P : Program}
end
section
variable {P : Program} {b0 : Nat} {n0 : Nat} {ops : List Oper} {ms bls : List Bool} {K : St → Prop} {k : Nat} {r : List Nat} {st : St} {t : Tok (ops, k :: r, K)} {o : Oper}
end
end Go.Abs
/- The abstract layer, part ZK: at the head of a loop blocks of plain values may be told as lists that nobody writes any more, wherever they are named. -/
set_option linter.unusedSimpArgs false
set_option linter.unusedVariables false
namespace Go.Abs
open Go
def FrzC (new : List Blk) (N : Nat) (a b : AV) : Prop := b = .any ∨ (below N a = true ∧ b = a) ∨ ∃ d d' r0, a = ren (fun i => i + N) r0 ∧ below new.length r0 = true ∧ b = nilD d' (view d new r0)
def FrzV (new : List Blk) (N : Nat) (a b : AV) : Prop := FrzC new N a b ∨ ∃ l l2, a = .agg l ∧ b = .agg l2 ∧ l.length = l2.length ∧ ∀ (i : Nat) x y, l[i]? = some x → l2[i]? = some y → FrzC new N x y
structure FrzB (new : List Blk) (N : Nat) (q q2 : Blk) : Prop where
  ty : q2.ty = q.ty
  w : q2.w = q.w
  live : q2.live = q.live
  els : ∀ (i : Nat) e2, q2.els[i]? = some e2 → ∃ e, q.els[i]? = some e ∧ e.cells.length = e2.cells.length ∧ ∀ (j : Nat) x y, e.cells[j]? = some x → e2.cells[j]? = some y → FrzC new N x y
def FrzHp (new : List Blk) (N : Nat) : List Blk → List Blk → Prop
  | [], [] => True
  | q :: l, q2 :: l2 => FrzB new N q q2 ∧ FrzHp new N l l2
  | _, _ => False
def FrzTm (new : List Blk) (N : Nat) : List AV → List AV → Prop
  | [], [] => True
  | a :: l, b :: l2 => FrzV new N a b ∧ FrzTm new N l l2
  | _, _ => False
theorem FrzHp.get {new : List Blk} {N : Nat} : ∀ {l l2 : List Blk}, FrzHp new N l l2 → l2.length = l.length ∧ ∀ (i : Nat) q2, l2[i]? = some q2 → ∃ q, l[i]? = some q ∧ FrzB new N q q2
  | [], [], _ => ⟨rfl, by simp⟩
  | q :: l, q2 :: l2, h => by
    obtain ⟨h1, h2⟩ := FrzHp.get h.2
    refine ⟨by simp [h1], fun i q' hq => ?_⟩
    cases i with
    | zero => simp at hq; subst hq; exact ⟨q, rfl, h.1⟩
    | succ i => simpa using h2 i q' (by simpa using hq)
  | [], _ :: _, h => h.elim
  | _ :: _, [], h => h.elim
theorem FrzTm.get {new : List Blk} {N : Nat} : ∀ {l l2 : List AV}, FrzTm new N l l2 → l2.length = l.length ∧ ∀ (i : Nat) b, l2[i]? = some b → ∃ a, l[i]? = some a ∧ FrzV new N a b
  | [], [], _ => ⟨rfl, by simp⟩
  | q :: l, q2 :: l2, h => by
    obtain ⟨h1, h2⟩ := FrzTm.get h.2
    refine ⟨by simp [h1], fun i q' hq => ?_⟩
    cases i with
    | zero => simp at hq; subst hq; exact ⟨q, rfl, h.1⟩
    | succ i => simpa using h2 i q' (by simpa using hq)
  | [], _ :: _, h => h.elim
  | _ :: _, [], h => h.elim
theorem Weak.and {n0 : Nat} {a b c : St} (h1 : Weak n0 a b) (h2 : Weak n0 b c) : Weak n0 a c := by
  intro P E0 hp0 E s hn hs
  obtain ⟨E1, e1, s1⟩ := h1 P E0 hp0 E s hn hs
  obtain ⟨E2, e2, s2⟩ := h2 P E0 hp0 E1 s hn s1
  exact ⟨E2, e2.trans e1, s2⟩
end Go.Abs
/- The abstract layer, part ZL: a known block, told with its first elements alone. -/
namespace Go.Abs
open Go
variable {P : Program}

theorem cut_get {hp : List Blk} {b : Nat} {blk : Blk} (m : Nat) (hb : hp[b]? = some blk) {b' : Nat} {q : Blk} (h : (hp.set b { blk with els := blk.els.take m })[b']? = some q) :
    ∃ q0, hp[b']? = some q0 ∧ q0.w = q.w ∧ q0.live = q.live ∧ q0.ty = q.ty ∧ ∀ (i : Nat) e, q.els[i]? = some e → q0.els[i]? = some e := by
  by_cases hbb : b = b'
  · subst hbb
    rw [List.getElem?_set_self (List.getElem?_eq_some_iff.1 hb).1] at h
    simp only [Option.some.injEq] at h
    subst h
    refine ⟨blk, hb, rfl, rfl, rfl, fun i e he => ?_⟩
    have he' : (blk.els.take m)[i]? = some e := he
    rw [List.getElem?_take] at he'
    split at he'
    · exact he'
    · simp at he'
  · rw [List.getElem?_set_ne hbb] at h
    exact ⟨q, h, rfl, rfl, rfl, fun _ _ he => he⟩
theorem HRel.cut {E : Env P} {hp : List Blk} (H : HRel E hp) {b : Nat} {blk : Blk} (m : Nat) (hb : hp[b]? = some blk) : HRel E (hp.set b { blk with els := blk.els.take m }) where
  N := by rw [List.length_set]; exact H.N
  wd := fun b' q h => by
    obtain ⟨q0, h1, h2, _⟩ := cut_get m hb h
    rw [H.wd b' q0 h1, h2]
  holds := fun b' q h hl => by
    obtain ⟨q0, h1, h2, h3, h4, h5⟩ := cut_get m hb h
    obtain ⟨cs, g1, g2⟩ := (H.holds b' q0 h1 (by rw [h3]; exact hl)).cells
    exact ⟨cs, h4 ▸ g1, fun i e he => by rw [← h2]; exact g2 i e (h5 i e he)⟩
  inj := fun b' b'' q q' h hl h' hl' he => by
    obtain ⟨q0, h1, _, h3, _⟩ := cut_get m hb h
    obtain ⟨q1, h1', _, h3', _⟩ := cut_get m hb h'
    exact H.inj b' b'' q0 q1 h1 (by rw [h3]; exact hl) h1' (by rw [h3']; exact hl') he
  apart := fun b' q h hl => by
    obtain ⟨q0, h1, _, h3, _⟩ := cut_get m hb h
    exact H.apart b' q0 h1 (by rw [h3]; exact hl)
  old := H.old
  laid := H.laid
theorem Fr.cut {E E0 : Env P} {hp0 hp : List Blk} (F : Fr E0 hp0 E hp) {b : Nat} {blk : Blk} (m : Nat) (hb : hp[b]? = some blk) : Fr E0 hp0 E (hp.set b { blk with els := blk.els.take m }) where
  size := F.size
  os := F.os
  tape := F.tape
  output := F.output
  block := F.block
  len := by rw [List.length_set]; exact F.len
  ρ := F.ρ
  wd := F.wd
  F := F.F
  F' := F.F'
  live := fun b' ⟨q, h, hl⟩ => by
    obtain ⟨q0, h1, _, h3, _⟩ := cut_get m hb h
    exact F.live b' ⟨q0, h1, by rw [h3]; exact hl⟩
  csz := F.csz
theorem PostR.cut {n0 : Nat} {r : AV} {hp : List Blk} {Q : AV → List Blk → Prop} (b m : Nat) {blk : Blk} (hb : hp[b]? = some blk) (h : PostR n0 r (hp.set b { blk with els := blk.els.take m }) Q) : PostR n0 r hp Q := by
  obtain ⟨r2, hp2, hw, hq⟩ := h
  exact ⟨r2, hp2, fun P E0 hp0 E v hn H F hv => hw P E0 hp0 E v hn (H.cut m hb) (F.cut m hb) hv, hq⟩
theorem Weak.cut {n0 : Nat} {tm : List AV} {hp : List Blk} {st2 : St} (b m : Nat) {blk : Blk} (hb : hp[b]? = some blk) (h : Weak n0 ⟨tm, hp.set b { blk with els := blk.els.take m }⟩ st2) : Weak n0 ⟨tm, hp⟩ st2 := by
  intro P E0 hp0 E a hn hs
  exact h P E0 hp0 E a hn ⟨hs.hr.cut m hb, hs.fr.cut m hb, hs.len, hs.tm, hs.df⟩
end Go.Abs
