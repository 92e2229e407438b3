/- The abstract layer: parts Z5 Z6 Z8 Z9 ZA ZB ZD ZE ZF. -/
import Derived.Test.YtigipcckflcilaaDoorAbsM2
import Derived.Lib.Bytealg
import Derived.Sort.OwnSortedInts
import Derived.Lib.ItoaNum
import Derived.Lib.LaidTab
import Derived.Below
import Derived.Lib.Join
import Derived.Sort.Grow
import Derived.Deep.Draws
/- The abstract layer, part Z5: drawn regions in an order of one's choice; new blocks told as what nobody writes. -/
set_option linter.unusedSimpArgs false
set_option linter.unusedVariables false
namespace Go.Abs
open Go
variable {P : Program}
theorem Cn_eq {g : AV → List Blk → Option Nat → Prop} {t : Tok g} : Cn g t = g := by delta Cn; rfl
section
variable {P : Program}

/-- A new block, told as what nobody writes. -/
theorem freeze_one {E E' : Env P} {hp : List Blk} {q : Blk} (H : HRel E hp) (H' : HRel E' (hp ++ [q])) (F' : Fr E hp E' (hp ++ [q])) (hl : q.live = true) (hf : allBelow 0 q.els = true) (hflat : ∀ b ∈ hp, allBelow hp.length b.els = true)
    (d : Nat) (r0 : AV) (hb : below 1 r0 = true) (v : Value) (hv : RV E' (ren (fun i => [hp.length].getD i 0) r0) v) :
    ∃ E2 : Env P, E2.w = E'.w ∧ RV E2 (view d [q] r0) v ∧ HRel E2 hp ∧ Fr E hp E2 hp ∧ E.le E2 := by
  have hq : (hp ++ [q])[hp.length]? = some q := by simp
  have hlt : ∀ (b : Nat) blk, hp[b]? = some blk → b < hp.length ∧ (hp ++ [q])[b]? = some blk := fun b blk h => by
    have := (List.getElem?_eq_some_iff.1 h).1
    exact ⟨this, by rw [List.getElem?_append_left this]; exact h⟩
  let E2 : Env P := { E' with F := fun c => E'.F c ∨ c = E'.ρ hp.length, N := hp.length }
  have leN : (E'.ren hp.length fun b => b).le E2 := ⟨fun _ h => .inl h, fun _ _ => rfl, Nat.le_refl _, fun _ _ => rfl, fun _ _ => rfl, fun _ => Nat.le_refl _⟩
  have H2 : HRel E2 hp := by
    refine ⟨rfl, fun b blk h => H'.wd b blk (hlt b blk h).2, ?_, ?_, ?_, ?_, H'.laid.keep (fun c h => .inl h) (fun _ _ => rfl)⟩
    · intro b blk h hlv
      obtain ⟨cs, h1, h2⟩ := (H'.holds b blk (hlt b blk h).2 hlv).cells
      refine ⟨cs, h1, fun i e he => ⟨(h2 i e he).1, fun j x hx => ?_⟩⟩
      obtain ⟨u, h3, h4⟩ := (h2 i e he).2 j x hx
      refine ⟨u, h3, ?_⟩
      have hbe : below hp.length e = true := by
        have := hflat blk (List.mem_of_getElem? h)
        simp only [allBelow, List.all_eq_true] at this
        exact this e (List.mem_of_getElem? he)
      obtain ⟨_, h5⟩ := ren_cells (π := fun b => b) hbe
      obtain ⟨c', h6, h7⟩ := h5 j x hx
      rw [ren_id _ hbe, hx] at h6
      cases h6
      exact (h7 h4).mono leN
    · intro b b' blk blk' h1 h2 h3 h4 h5
      exact H'.inj b b' blk blk' (hlt _ _ h1).2 h2 (hlt _ _ h3).2 h4 h5
    · intro b blk h hlv hF
      rcases hF with h1 | h1
      · exact H'.apart b blk (hlt b blk h).2 hlv h1
      · have := H'.inj b hp.length blk q (hlt b blk h).2 hlv hq hl h1
        have := (hlt b blk h).1
        omega
    · rintro c (h | rfl)
      · exact H'.old c h
      · obtain ⟨cs, h1, _⟩ := (H'.holds _ q hq hl).cells
        exact (Row.lt h1)
  have F2 : Fr E hp E2 hp :=
    { size := F'.size, os := F'.os, tape := F'.tape, output := F'.output, block := F'.block, len := Nat.le_refl _, ρ := F'.ρ, wd := F'.wd, csz := F'.csz
      F := fun c h => .inl (F'.F c h)
      F' := fun c hc => by
        rcases hc with h | rfl
        · exact F'.F' c h
        · rcases F'.live hp.length ⟨q, hq, hl⟩ with ⟨h1, _⟩ | ⟨_, h2⟩
          · exact absurd h1 (Nat.lt_irrefl _)
          · exact .inr h2
      live := fun b ⟨blk, h, hlv⟩ => .inl ⟨(hlt b blk h).1, blk, h, hlv⟩ }
  refine ⟨E2, rfl, ?_, H2, F2, F2.le H H2⟩
  have S : Sub [hp.length] (hp ++ [q]) [q] := SubF.sub (by simp) ⟨⟨hq, hf⟩, trivial⟩
  have Hq := S.hrel H'
  have h1 := RV.unren (E := E') (N := 1) (π := fun i => [hp.length].getD i 0) hb hv
  have h2 := (view_sound Hq d r0).1 v h1
  refine h2.mono ⟨fun c hc => ?_, fun _ _ => rfl, Nat.zero_le _, fun _ hb => absurd hb (Nat.not_lt_zero _), fun _ hb => absurd hb (Nat.not_lt_zero _), fun _ => Nat.le_refl _⟩
  rcases hc with h | ⟨b, ⟨bk, hbk, _⟩, rfl⟩
  · exact .inl h
  · have : b = 0 := by
      have := (List.getElem?_eq_some_iff.1 hbk).1
      simpa using this
    subst this
    exact .inr rfl

theorem Yields.fresh {o : Oper} {f : Operand → AV} {hp : List Blk} (q : Blk) (hl : q.live = true) (hf : allBelow 0 q.els = true) (hflat : ∀ b ∈ hp, allBelow hp.length b.els = true) (d : Nat) (r0 : AV) (hb : below 1 r0 = true)
    (h : opA P hp.length o.op f hp (fun v hp' kb => v = ren (fun i => [hp.length].getD i 0) r0 ∧ hp' = hp ++ [q] ∧ kb = none)) : Yields P o f hp (view d [q] r0) := by
  intro E g H hr hcst
  have := opA_sound (E0 := E) (hp0 := hp) H (Fr.refl E hp) hr hcst h
  unfold Runs at this ⊢
  have conv : ∀ u w', OpPost E E hp (fun v hp' kb => v = ren (fun i => [hp.length].getD i 0) r0 ∧ hp' = hp ++ [q] ∧ kb = none) u w' → ∃ E', E'.w = w' ∧ RV E' (view d [q] r0) u ∧ HRel E' hp ∧ Fr E hp E' hp ∧ E.le E' := by
    rintro u w' ⟨E', av, hp', kb, hl'⟩
    obtain ⟨rfl, rfl, rfl⟩ := hl'.k
    obtain ⟨E2, h1, h2, h3, h4, h5⟩ := freeze_one H hl'.hr hl'.fr hl hf hflat d r0 hb u hl'.rv
    exact ⟨E2, h1.trans hl'.w, h2, h3, h4, h5⟩
  split at this
  · exact conv _ _ this
  · exact conv _ _ this
  · exact this.mono fun e w'' ⟨v, he, hp⟩ => ⟨v, he, conv _ _ hp⟩
  · exact this.elim

/-- A slice of no elements is as nil, but for the comparison with nil. -/
theorem Yields.bare {o : Oper} {f : Operand → AV} {hp : List Blk} {t e : TypeId} (ho : o.op = .buildSlice t 0 #[]) (hd : P.underlying t = some (.slice e)) (hpos : 0 < P.cellsOf e) (hflat : ∀ b ∈ hp, allBelow hp.length b.els = true) : Yields P o f hp .nils := by
  intro E g H hr hcst
  have run : (Instr.buildSlice t 0 #[]).run P E.w = .ok (.slice (some ⟨E.w.heap.size, 0, none⟩) 0 0) { E.w with heap := E.w.heap.push (.cells #[] e) } := by
    have hc : ¬ (0 : Nat) > 2 ^ 24 := by omega
    simp only [Instr.buildSlice, Sem.run_bind, run_underlying' hd, Result.andThen_ok, run_sizeOf_pos hpos, Nat.zero_mul, hc, if_false, if_true, Sem.run_pure]
    have e0 : (Array.map (fun x => (#[] : Array Value)[x % (#[] : Array Value).size]!) (Array.range 0)) = #[] := by simp
    rw [e0]
    rfl
  obtain ⟨E', h1, h2, h3, h4, _⟩ := new_block H (Fr.refl E hp) { ty := e, w := P.cellsOf e, els := [], live := true } #[] rfl _ (Same.refl _) (fun i e he => by simp at he)
  obtain ⟨E2, k1, _, k2, k3, k4⟩ := freeze_one H h2 h3 rfl rfl hflat 0 .any rfl undef (.any _)
  unfold Runs
  have hx : (execOp g o).run P E.w = .ok (.value (.slice (some ⟨E.w.heap.size, 0, none⟩) 0 0)) { E.w with heap := E.w.heap.push (.cells #[] e) } := by
    simp only [execOp, ho]
    simp [Sem.run_bind, run]
  rw [hx]
  exact ⟨E2, k1.trans h1, .nils _, k2, k3, k4⟩

/-- The order and the modes are such that one walk serves all orders. -/
def freeZ (ops : Array Oper) (ms : List Bool) (listed : Array Bool) (k : Nat) : Bool :=
  match ops[k]? with
  | none => false
  | some o => lateOk ops listed k (lateOf ops listed k) && (List.range ops.size).all fun j =>
    j == k || listed.getD j true || (lateOf ops listed k).contains j ||
    match ops[j]? with
    | none => true
    | some oj => (oj.after.any fun e => Region.binds .any e && e.on == k) || (o.apart ops oj && !(ms.getD j true))
theorem freeZ_spec {ops : List Oper} {ms : List Bool} {listed : Array Bool} {k : Nat} {o : Oper} (hk : ops[k]? = some o) (h : freeZ ops.toArray ms listed k = true) : Free ops ms listed k o := by
  unfold freeZ at h
  have hk' : ops.toArray[k]? = some o := by simpa using hk
  rw [hk'] at h
  simp only [Bool.and_eq_true] at h
  refine ⟨_, lateOk_spec h.1, ?_⟩
  have h := h.2
  intro j oj hoj hjk hun hD hno
  simp only [List.all_eq_true, List.mem_range] at h
  have hj : j < ops.toArray.size := by
    have := (List.getElem?_eq_some_iff.1 hoj).1
    simpa using this
  have h1 := h j hj
  have hoj' : ops.toArray[j]? = some oj := by simpa using hoj
  rw [hoj', hun] at h1
  have hjk' : (j == k) = false := by simpa using hjk
  have hD' : (lateOf ops.toArray listed k).contains j = false := by simpa using hD
  rw [hjk', hD'] at h1
  simp only [Bool.false_or, Bool.or_eq_true, Bool.and_eq_true] at h1
  rcases h1 with h1 | ⟨h1, h2⟩
  · exfalso
    rw [Array.any_eq_true] at h1
    obtain ⟨m, hm, he⟩ := h1
    simp only [Bool.and_eq_true, beq_iff_eq] at he
    exact hno _ (Array.getElem_mem hm) he.1 he.2
  · exact ⟨h1, by simpa using h2⟩

def ordOk (ops : Array Oper) (ms : List Bool) : List Nat → Array Bool → Bool
  | [], listed => (Region.ready .any ops listed).isEmpty
  | k :: r, listed => (if ms.getD k true then Region.ready .any ops listed == [k] else (Region.ready .any ops listed).contains k && freeZ ops ms listed k) && ordOk ops ms r (listed.setIfInBounds k true)

/-- The operations one after another, in an order of one's choice. -/
def ordA (P : Program) (n0 : Nat) (ops : List Oper) (ms : List Bool) (K : St → Prop) : List Nat → St → Prop
  | [], st => K st
  | k :: r, st => ∃ o, ops[k]? = some o ∧ o.guard = none ∧
    if ms.getD k true then ∃ g : AV → List Blk → Option Nat → Prop, opA P n0 o.op st.ev st.hp g ∧ ∀ v hp' kb, g v hp' kb → ordA P n0 ops ms K r ((st.after hp' kb).put o.dst v)
    else ∃ v, Yields P o st.ev st.hp v ∧ ordA P n0 ops ms K r (st.put o.dst v)

theorem anyA_ord {n0 : Nat} {ops : List Oper} {ms : List Bool} {K : St → Prop} : ∀ (ord : List Nat) (listed : Array Bool) (st : St), ordOk ops.toArray ms ord listed = true → ordA P n0 ops ms K ord st → anyA P n0 ops ms K ord.length listed st
  | [], listed, st, hB, h => ⟨by simpa [ordOk] using hB, h⟩
  | k :: r, listed, st, hB, h => by
    obtain ⟨o, ho, hg, h⟩ := h
    simp only [ordOk, Bool.and_eq_true] at hB
    obtain ⟨hB1, hB2⟩ := hB
    have hw : wantedA ops o st = some true := by simp [wantedA, hg]
    cases hm : ms.getD k true with
    | true =>
      rw [hm] at hB1 h
      simp only [if_true, beq_iff_eq] at hB1 h
      refine ⟨fun h => (by rw [hB1] at h; cases h), fun i hi => ?_⟩
      rw [hB1] at hi
      have : i = k := by simpa using hi
      subst this
      unfold stepA
      simp only [ho, hm, if_true]
      obtain ⟨g, h1, h2⟩ := h
      exact .inl ⟨hw, g, h1, fun v hp' kb hv => anyA_ord r _ _ hB2 (h2 v hp' kb hv)⟩
    | false =>
      rw [hm] at hB1 h
      simp only [Bool.false_eq_true, if_false, Bool.and_eq_true] at hB1 h
      obtain ⟨hr, hf⟩ := hB1
      obtain ⟨v, hy, hK⟩ := h
      exact anyA_first ho hm r.length listed st (freeZ_spec ho hf) (by simpa using hr) (.inl ⟨hw, hy⟩) (anyA_ord r _ _ hB2 hK)

def Od (P : Program) (n0 : Nat) (ops : List Oper) (ms : List Bool) (K : St → Prop) (ord : List Nat) (_t : Tok (ops, ord, K)) (st : St) : Prop := ordA P n0 ops ms K ord st

/-- A region whose order is drawn, in an order of one's choice. -/
theorem go_order (hm : P.follows .mixedOrders = true) {n0 : Nat} {id : Nat} {ops : Array Oper} {Q : Ex → St → Prop} {st : St} {t} (ord : List Nat) (ms : List Bool)
    (hok : (ord.length == ops.size && ordOk ops ms ord (Array.replicate ops.size false)) = true) (h : Od P n0 ops.toList ms (Q .normal) ord .mk st) : Lp P n0 (.region id ops true) Q t st := by
  delta Lp
  simp only [Bool.and_eq_true, beq_iff_eq] at hok
  intro E0 hp0 E a hn hs
  subst hn
  have h1 := anyA_ord (P := P) (n0 := hp0.length) (ops := ops.toList) (ms := ms) (K := Q .normal) ord (Array.replicate ops.size false) st (by simpa using hok.2) h
  rw [hok.1] at h1
  refine wp_region_any hm ?_
  have hs' : SR E0 hp0 (E.with { E.w with drawn := E.w.drawn + 1 }) st a := ⟨hs.hr.with (Same.drew _ _), hs.fr.with (Same.drew _ _), hs.len, fun i v u a1 a2 => (hs.tm i v u a1 a2).mono (Env.le_with (Same.drew _ _)), hs.df⟩
  have h2 := anyA_sound (P := P) (Q := liftQ E0 hp0 Q) (fun E st a hs hk => ⟨.normal, st, E, rfl, rfl, hs, hk⟩) _ _ _ st a hs' h1
  rw [show ops.toList.toArray = ops from by simp] at h2
  exact h2

section
variable {n0 : Nat} {ops : List Oper} {ms : List Bool} {K : St → Prop} {k : Nat} {r : List Nat} {st : St} {t : Tok (ops, k :: r, K)} {o : Oper}
theorem od_nil {t : Tok (ops, ([] : List Nat), K)} (h : K st) : Od P n0 ops ms K [] t st := h
/-- The only one that may come next. -/
theorem od_one (ho : ops[k]? = some o) (hg : o.guard = none) (hm : ms.getD k true = true) (h : opA P n0 o.op st.ev st.hp (Cn (fun v hp' kb => Od P n0 ops ms K r .mk ((st.after hp' kb).put o.dst v)) .mk)) : Od P n0 ops ms K (k :: r) t st :=
  ⟨o, ho, hg, by rw [hm]; exact ⟨_, h, fun v hp' kb hv => by rw [Cn_go] at hv; exact hv⟩⟩
/-- One that makes and writes no memory. -/
theorem od_quiet (ho : ops[k]? = some o) (hg : o.guard = none) (hm : ms.getD k true = false) (h : quietA P o.op st.ev st.hp (fun v => Od P n0 ops ms K r .mk (st.put o.dst v))) : Od P n0 ops ms K (k :: r) t st :=
  ⟨o, ho, hg, by
    rw [hm]
    obtain ⟨v, h1, h2⟩ := Yields.quiet h
    exact ⟨v, h2, h1⟩⟩
/-- A call whose result is named. -/
theorem od_call (ho : ops[k]? = some o) (hg : o.guard = none) (hm : ms.getD k true = false) {gf : Operand} {args : Array Operand} {ts : Array TypeId} (hop : o.op = .call { callee := .value gf, args := args, argTypes := ts }) {fid : FuncId} {caps : List AV} (hfn : st.ev gf = .fn fid caps) {v : AV}
    (hc : CallA P fid (args.toList.map st.ev ++ caps) st.hp (Ret v st.hp)) (h : Od P n0 ops ms K r .mk (st.put o.dst v)) : Od P n0 ops ms K (k :: r) t st :=
  ⟨o, ho, hg, by rw [hm]; exact ⟨v, Yields.call hop rfl hfn hc, h⟩⟩
/-- One that makes a block that nobody writes from there on. -/
theorem od_fresh (ho : ops[k]? = some o) (hg : o.guard = none) (hm : ms.getD k true = false) (q : Blk) (d : Nat) (r0 : AV) (hl : q.live = true) (hf : allBelow 0 q.els = true) (hflat : ∀ b ∈ st.hp, allBelow st.hp.length b.els = true) (hb : below 1 r0 = true)
    (hop : opA P st.hp.length o.op st.ev st.hp (Cn (fun v hp' kb => v = ren (fun i => [st.hp.length].getD i 0) r0 ∧ hp' = st.hp ++ [q] ∧ kb = none) .mk)) (h : Od P n0 ops ms K r .mk (st.put o.dst (view d [q] r0))) : Od P n0 ops ms K (k :: r) t st :=
  ⟨o, ho, hg, by rw [hm]; exact ⟨_, Yields.fresh q hl hf hflat d r0 hb (by rw [Cn_eq] at hop; exact hop), h⟩⟩
theorem od_bare (ho : ops[k]? = some o) (hg : o.guard = none) (hm : ms.getD k true = false) {ty e : TypeId} (hop : o.op = .buildSlice ty 0 #[]) (hd : P.underlying ty = some (.slice e)) (hpos : 0 < P.cellsOf e) (hflat : ∀ b ∈ st.hp, allBelow st.hp.length b.els = true) (h : Od P n0 ops ms K r .mk (st.put o.dst .nils)) : Od P n0 ops ms K (k :: r) t st :=
  ⟨o, ho, hg, by rw [hm]; exact ⟨_, Yields.bare hop hd hpos hflat, h⟩⟩
end
end
attribute [irreducible] Od
end Go.Abs
/- The abstract layer, part Z6: a function's code, piece by piece: what comes later stands apart; ways that meet again. -/
set_option linter.unusedSimpArgs false
set_option linter.unusedVariables false
namespace Go.Abs
open Go
variable {P : Program}
section
variable {P : Program}
theorem V_def {md : Nat → List Bool} {n0 : Nat} {c : Code} {Q : Ex → St → Prop} {t} {st : St} : V P md n0 c Q t st = vc P md n0 c st Q := by delta V; rfl
theorem Lp_def {n0 : Nat} {c : Code} {Q : Ex → St → Prop} {t} {st : St} : Lp P n0 c Q t st = CodeA P n0 c st Q := by delta Lp; rfl
theorem callA_code {f : FuncId} {fn : Func} {c : Code} {args : List AV} {hp : List Blk} {Q : AV → List Blk → Prop} (hf : P.funcs[f]? = some fn) (hb : fn.body = some c) (hgo : isGo P f)
    (h : CodeA P hp.length c ⟨args ++ List.replicate (fn.ntmps - args.length) .any, hp⟩ (retQ P fn hp.length Q)) : CallA P f args hp Q := by
  refine fun E vs H hl hrv => .inl ⟨hgo, ?_⟩
  refine calls_of_wp hf hb ?_
  have hs : SR E hp E ⟨args ++ List.replicate (fn.ntmps - args.length) .any, hp⟩ { tmps := vs.toArray ++ Array.replicate (fn.ntmps - vs.toArray.size) undef, defers := [] } := by
    refine ⟨H, Fr.refl E hp, by simp [hl], fun i v u h1 h2 => ?_, rfl⟩
    simp only [List.getElem?_append] at h1
    by_cases hi : i < args.length
    · rw [if_pos hi] at h1
      have h2' : vs[i]? = some u := by
        have hlt : i < vs.toArray.size := by simp [hl]; exact hi
        rw [Array.getElem?_append_left hlt] at h2
        simpa using h2
      exact hrv i v u h1 h2'
    · rw [if_neg hi] at h1
      rw [List.getElem?_replicate] at h1
      split at h1
      · cases h1; exact .any _
      · cases h1
  refine wp_mono (h E hp E _ rfl hs) fun e a' w' ⟨ex, st', E', he, hw, hs', hq⟩ => ?_
  subst he; subst hw
  have fin : (resL P fn.results.toList st' fun l => ∃ r2 hp2, WeakR hp.length (oneA l) st'.hp r2 hp2 ∧ Q r2 hp2) → a'.defers = [] ∧ ∃ v, (results fn a'.tmps).run P E'.w = .ok v E'.w ∧ ∃ v', Ending.returned v = .returned v' ∧ ∃ r hp' E'', E''.w = E'.w ∧ Q r hp' ∧ RV E'' r v' ∧ HRel E'' hp' ∧ Fr E hp E'' hp' := by
    intro hres
    obtain ⟨l, v, ⟨r2, hp2, hwk, hQ⟩, hrun, hv⟩ := run_results (P := P) hs' hres
    obtain ⟨E2, hw2, H2, F2, hv2⟩ := hwk _ E hp E' v rfl hs'.hr hs'.fr hv
    exact ⟨hs'.df, v, hrun, v, rfl, r2, hp2, E2, hw2, hQ, hv2, H2, F2⟩
  cases ex with
  | normal => exact fin hq
  | ret => exact fin hq
  | exit i => exact hq.elim

/-- Into a function, piece by piece. -/
theorem go_pieces {f : FuncId} {fn : Func} {c : Code} {args : List AV} {hp : List Blk} {Q : AV → List Blk → Prop} (hf : P.funcs[f]? = some fn) (hb : fn.body = some c) (hgo : isGo P f)
    (h : Lp P hp.length c (retQ P fn hp.length Q) .mk ⟨args ++ List.replicate (fn.ntmps - args.length) .any, hp⟩) : CallP P f args hp Q .mk := by
  rw [Lp_def] at h
  delta CallP
  exact callA_code hf hb hgo h

variable {n0 : Nat} {Q : Ex → St → Prop} {st : St}
/-- The last piece, or one that is walked whole. -/
theorem lp_whole (hm : P.follows .mixedOrders = true) {md : Nat → List Bool} {c : Code} {t} (hok : modesOk md c = true) (h : V P md n0 c Q .mk st) : Lp P n0 c Q t st := by
  rw [V_def] at h
  rw [Lp_def]
  exact vc_sound hm c st Q hok h
theorem code_seq {a b : Code} (h : CodeA P n0 a st fun e st' => match e with
    | .normal => CodeA P n0 b st' Q
    | .exit i => Q (.exit i) st'
    | .ret => Q .ret st') : CodeA P n0 (.seq a b) st Q := by
  intro E0 hp0 E s hn hs
  refine wp_seq (wp_mono (h E0 hp0 E s hn hs) fun e a' w' ⟨ex, st', E', he, hw, hs', hq⟩ => ?_)
  subst he; subst hw
  cases ex with
  | normal => exact hq E0 hp0 E' a' hn hs'
  | exit i => exact ⟨.exit i, st', E', rfl, rfl, hs', hq⟩
  | ret => exact ⟨.ret, st', E', rfl, rfl, hs', hq⟩
theorem code_weak {c : Code} {st2 : St} (hw : Weak n0 st st2) (h : CodeA P n0 c st2 Q) : CodeA P n0 c st Q := by
  intro E0 hp0 E s hn hs
  obtain ⟨E2, h1, h2⟩ := hw _ E0 hp0 E s hn hs
  rw [← h1]
  exact h E0 hp0 E2 s hn h2
/-- A piece, and what comes later, of which nothing is seen till it comes. -/
theorem lp_seq (hm : P.follows .mixedOrders = true) {md : Nat → List Bool} {a b : Code} {t} (hok : modesOk md a = true)
    (h : ∀ Z : St → Prop, (∀ st', Lp P n0 b Q .mk st' → Z st') → V P md n0 a (fun e st' => match e with
      | .normal => Z st'
      | .exit i => Q (.exit i) st'
      | .ret => Q .ret st') .mk st) : Lp P n0 (.seq a b) Q t st := by
  have h1 := h (fun st' => CodeA P n0 b st' Q) (fun st' hl => by rw [Lp_def] at hl; exact hl)
  rw [V_def] at h1
  rw [Lp_def]
  exact code_seq (vc_sound hm a st _ hok h1)
/-- A piece whose ways meet again in a state of one's choice. -/
theorem lp_join {σ : Type} (I : σ → St) (hm : P.follows .mixedOrders = true) {md : Nat → List Bool} {a b : Code} {t} (hok : modesOk md a = true) (hrest : ∀ s, Lp P n0 b Q .mk (I s))
    (h : ∀ Z : St → Prop, (∀ s st', Weak n0 st' (I s) → Z st') → V P md n0 a (fun e st' => match e with
      | .normal => Z st'
      | .exit i => Q (.exit i) st'
      | .ret => Q .ret st') .mk st) : Lp P n0 (.seq a b) Q t st := by
  have h1 := h (fun st' => CodeA P n0 b st' Q) (fun s st' hw => by
    have := hrest s
    rw [Lp_def] at this
    exact code_weak hw this)
  rw [V_def] at h1
  rw [Lp_def]
  exact code_seq (vc_sound hm a st _ hok h1)
/-- A loop ahead of what comes later, of which nothing is seen till it comes. -/
theorem lp_hide {c : Code} {t} (h : ∀ Q' : Ex → St → Prop, (∀ e st', Q e st' → Q' e st') → Lp P n0 c Q' .mk st) : Lp P n0 c Q t st := h Q (fun _ _ h => h)
end
end Go.Abs
/- The greatest of a number, another and that one turned about. -/
set_option linter.unusedVariables false
namespace Go.Abs
open Go
variable {P : Program}

theorem fmt_order (k : FloatKind) (x y : Nat) : k.format.order x y = (k.decode x).order (k.decode y) := rfl
theorem decode_neg (k : FloatKind) (b : Nat) {s : Bool} {m : Nat} {e : Int} (h : k.decode b = .number s m e) : k.decode (fneg k b) = .number (!s) m e := by
  have hp : 0 < k.format.signWeight := by cases k <;> decide
  have e0 : k.format.signWeight = 2 ^ (k.format.exponentBits + k.format.fractionBits) := rfl
  have h1 := neg_mod k b
  have h2 : Op.negFloat k b / k.format.signWeight % 2 = 1 - b / k.format.signWeight % 2 := by
    have hx : Op.negFloat k b = b ^^^ 2 ^ (k.format.exponentBits + k.format.fractionBits) := rfl
    rw [hx, e0, ← Nat.shiftRight_eq_div_pow, ← Nat.shiftRight_eq_div_pow, Nat.shiftRight_xor_distrib]
    have e1 : (2 ^ (k.format.exponentBits + k.format.fractionBits)) >>> (k.format.exponentBits + k.format.fractionBits) = 1 := by
      rw [Nat.shiftRight_eq_div_pow, Nat.div_self (Nat.two_pow_pos _)]
    rw [e1]
    generalize b >>> (k.format.exponentBits + k.format.fractionBits) = c
    have : (c ^^^ 1) % 2 = (c % 2) ^^^ 1 := by
      have := Nat.xor_mod_two_pow (a := c) (b := 1) (n := 1)
      simpa using this
    rw [this]
    rcases Nat.mod_two_eq_zero_or_one c with h | h <;> rw [h] <;> rfl
  have hd : k.decode (Op.negFloat k b) = .number (!s) m e := by
    have hr : k.decode b = k.format.read b := rfl
    have hr2 : k.decode (Op.negFloat k b) = k.format.read (Op.negFloat k b) := rfl
    rw [hr] at h
    rw [hr2]
    unfold Ieee.Format.read at h ⊢
    simp only [h1, h2] at h ⊢
    have flip : ((1 - b / k.format.signWeight % 2) == 1) = !(b / k.format.signWeight % 2 == 1) := by
      rcases Nat.mod_two_eq_zero_or_one (b / k.format.signWeight) with h | h <;> rw [h] <;> rfl
    rw [flip]
    split at h
    · rename_i c
      rw [if_pos c]
      injection h with h3 h4 h5
      rw [h3, h4, h5]
    · rename_i c
      rw [if_neg c]
      split at h
      · rename_i c2
        rw [if_pos c2]
        injection h with h3 h4 h5
        rw [h3, h4, h5]
      · split at h <;> cases h
  unfold fneg
  rw [canon_of_not (by rw [hd]; rfl), hd]

theorem decode_neg_inf (k : FloatKind) (b : Nat) {s : Bool} (h : k.decode b = .infinity s) : k.decode (fneg k b) = .infinity (!s) := by
  have hp : 0 < k.format.signWeight := by cases k <;> decide
  have e0 : k.format.signWeight = 2 ^ (k.format.exponentBits + k.format.fractionBits) := rfl
  have h1 := neg_mod k b
  have h2 : Op.negFloat k b / k.format.signWeight % 2 = 1 - b / k.format.signWeight % 2 := by
    have hx : Op.negFloat k b = b ^^^ 2 ^ (k.format.exponentBits + k.format.fractionBits) := rfl
    rw [hx, e0, ← Nat.shiftRight_eq_div_pow, ← Nat.shiftRight_eq_div_pow, Nat.shiftRight_xor_distrib]
    have e1 : (2 ^ (k.format.exponentBits + k.format.fractionBits)) >>> (k.format.exponentBits + k.format.fractionBits) = 1 := by
      rw [Nat.shiftRight_eq_div_pow, Nat.div_self (Nat.two_pow_pos _)]
    rw [e1]
    generalize b >>> (k.format.exponentBits + k.format.fractionBits) = c
    have : (c ^^^ 1) % 2 = (c % 2) ^^^ 1 := by
      have := Nat.xor_mod_two_pow (a := c) (b := 1) (n := 1)
      simpa using this
    rw [this]
    rcases Nat.mod_two_eq_zero_or_one c with h | h <;> rw [h] <;> rfl
  have hd : k.decode (Op.negFloat k b) = .infinity (!s) := by
    have hr : k.decode b = k.format.read b := rfl
    have hr2 : k.decode (Op.negFloat k b) = k.format.read (Op.negFloat k b) := rfl
    rw [hr] at h
    rw [hr2]
    unfold Ieee.Format.read at h ⊢
    simp only [h1, h2] at h ⊢
    have flip : ((1 - b / k.format.signWeight % 2) == 1) = !(b / k.format.signWeight % 2 == 1) := by
      rcases Nat.mod_two_eq_zero_or_one (b / k.format.signWeight) with h | h <;> rw [h] <;> rfl
    rw [flip]
    split at h
    · cases h
    · rename_i c
      rw [if_neg c]
      split at h
      · cases h
      · rename_i c2
        rw [if_neg c2]
        split at h
        · rename_i c3
          rw [if_pos c3]
          injection h with h3
          rw [h3]
        · cases h
  unfold fneg
  rw [canon_of_not (by rw [hd]; rfl), hd]

theorem signed_pos (m k : Nat) : 0 ≤ Ieee.signed false m k := by
  unfold Ieee.signed
  rw [if_neg (by decide)]
  exact Int.natCast_nonneg _
theorem signed_flip (s : Bool) (m k : Nat) : Ieee.signed (!s) m k = -Ieee.signed s m k := by cases s <;> simp [Ieee.signed]
theorem cmp_swap (a b : Int) : compare a b = .gt ↔ compare b a = .lt := by rw [Int.compare_eq_gt, Int.compare_eq_lt]

/-- It is a number, and bears no sign. -/
def Plus (k : FloatKind) (x : Nat) : Prop := ∃ m e, k.decode x = .number false m e
theorem max_abs (k : FloatKind) (w d z : Nat) {mz : Nat} {ez : Int} (hz : k.decode z = .number false 0 ez) (hw : Plus k w) {s : Bool} {m : Nat} {e : Int} (hd : k.decode d = .number s m e) :
    (k.format.order w d).isSome = true ∧ (k.format.order (fmax k w d) (fneg k d)).isSome = true ∧
    fmax k (fmax k w d) (fneg k d) = (if fgt k (if flt k d z then fneg k d else d) w then (if flt k d z then fneg k d else d) else w) ∧
    Plus k (fmax k (fmax k w d) (fneg k d)) := by
  obtain ⟨mw, ew, hw⟩ := hw
  have hn := decode_neg k d hd
  have o1 : k.format.order w d = some (compare (Ieee.signed false mw (ew - min ew e).toNat) (Ieee.signed s m (e - min ew e).toNat)) := by rw [fmt_order, hw, hd]; rfl
  have o2 : k.format.order d z = some (compare (Ieee.signed s m (e - min e ez).toNat) (Ieee.signed false 0 (ez - min e ez).toNat)) := by rw [fmt_order, hz, hd]; rfl
  have z0 : Ieee.signed false 0 (ez - min e ez).toNat = 0 := by simp [Ieee.signed]
  rw [z0] at o2
  have on : k.format.order w (fneg k d) = some (compare (Ieee.signed false mw (ew - min ew e).toNat) (Ieee.signed (!s) m (e - min ew e).toNat)) := by rw [fmt_order, hw, hn]; rfl
  have on' : k.format.order (fneg k d) w = some (compare (Ieee.signed (!s) m (e - min e ew).toNat) (Ieee.signed false mw (ew - min e ew).toNat)) := by rw [fmt_order, hw, hn]; rfl
  have od' : k.format.order d w = some (compare (Ieee.signed s m (e - min e ew).toNat) (Ieee.signed false mw (ew - min e ew).toNat)) := by rw [fmt_order, hw, hd]; rfl
  have odn : k.format.order d (fneg k d) = some (compare (Ieee.signed s m (e - min e e).toNat) (Ieee.signed (!s) m (e - min e e).toNat)) := by rw [fmt_order, hd, hn]; rfl
  have hmin : min e ew = min ew e := Int.min_comm ..
  rw [hmin] at on' od'
  have p1 := signed_pos mw (ew - min ew e).toNat
  have f1 := signed_flip s m (e - min ew e).toNat
  have wneg : (k.decode w).neg = false := by rw [hw]; rfl
  -- the sign of d, at any scale
  have sg : ∀ q : Nat, (Ieee.signed s m q < 0 ↔ s = true ∧ m ≠ 0) := by
    intro q
    have hq : 0 < 2 ^ q := Nat.two_pow_pos q
    cases s with
    | false => simp only [Bool.false_eq_true, false_and, iff_false]; have := signed_pos m q; omega
    | true =>
      simp only [Ieee.signed, if_true, true_and, Nat.shiftLeft_eq]
      by_cases hm : m = 0
      · subst hm; simp
      · have : 0 < m * 2 ^ q := Nat.mul_pos (by omega) hq
        constructor
        · intro _; exact hm
        · intro _; omega
  have lt0 : flt k d z = true ↔ s = true ∧ m ≠ 0 := by
    unfold flt
    rw [o2, ← sg (e - min e ez).toNat, ← Int.compare_eq_lt]
    simp
  by_cases neg : s = true ∧ m ≠ 0
  · -- d is less than 0
    have hl := lt0.2 neg
    have d1 := (sg (e - min ew e).toNat).2 neg
    have c1 : compare (Ieee.signed false mw (ew - min ew e).toNat) (Ieee.signed s m (e - min ew e).toNat) = .gt := Int.compare_eq_gt.2 (by omega)
    have m1 : fmax k w d = w := by unfold fmax; rw [o1, c1]
    rw [m1, hl]
    refine ⟨by rw [o1]; rfl, by rw [on]; rfl, ?_⟩
    simp only [if_true]
    unfold fmax fgt
    rw [on, on']
    generalize Ieee.signed false mw (ew - min ew e).toNat = A
    generalize Ieee.signed (!s) m (e - min ew e).toNat = B
    cases c : compare A B with
    | lt =>
      have : compare B A = .gt := (cmp_swap B A).2 c
      rw [this]
      exact ⟨rfl, m, e, by rw [neg.1] at hn; exact hn⟩
    | gt =>
      have : compare B A = .lt := (cmp_swap A B).1 c
      rw [this]
      exact ⟨rfl, mw, ew, hw⟩
    | eq =>
      have hab : A = B := Int.compare_eq_eq.1 c
      have : compare B A = .eq := Int.compare_eq_eq.2 hab.symm
      rw [this]
      simp only [wneg]
      exact ⟨rfl, mw, ew, hw⟩
  · have hl : flt k d z = false := by
      cases h : flt k d z with
      | false => rfl
      | true => exact absurd (lt0.1 h) neg
    have d1 : 0 ≤ Ieee.signed s m (e - min ew e).toNat := by
      apply Decidable.byContradiction
      intro h
      exact neg ((sg (e - min ew e).toNat).1 (by omega))
    have d2 : 0 ≤ Ieee.signed s m (e - min e e).toNat := by
      apply Decidable.byContradiction
      intro h
      exact neg ((sg (e - min e e).toNat).1 (by omega))
    have f2 := signed_flip s m (e - min e e).toNat
    rw [hl]
    simp only [Bool.false_eq_true, if_false]
    refine ⟨by rw [o1]; rfl, ?_⟩
    cases c : compare (Ieee.signed false mw (ew - min ew e).toNat) (Ieee.signed s m (e - min ew e).toNat) with
    | lt =>
      have clt := Int.compare_eq_lt.1 c
      have m1 : fmax k w d = d := by unfold fmax; rw [o1, c]
      have hs : s = false := by
        cases s with
        | false => rfl
        | true =>
          exfalso
          have hm : m = 0 := by
            apply Decidable.byContradiction
            intro h
            exact neg ⟨rfl, h⟩
          subst hm
          have zz : Ieee.signed true 0 (e - min ew e).toNat = 0 := by simp [Ieee.signed]
          rw [zz] at clt
          omega
      have dneg : (k.decode d).neg = false := by rw [hd, hs]; rfl
      have g : fgt k d w = true := by unfold fgt; rw [od', (cmp_swap _ _).2 c]; rfl
      rw [m1, g]
      refine ⟨by rw [odn]; rfl, ?_⟩
      have : fmax k d (fneg k d) = d := by
        unfold fmax
        rw [odn]
        cases c2 : compare (Ieee.signed s m (e - min e e).toNat) (Ieee.signed (!s) m (e - min e e).toNat) with
        | lt => have := Int.compare_eq_lt.1 c2; omega
        | gt => rfl
        | eq => simp only [dneg]; rfl
      rw [this]
      exact ⟨rfl, m, e, by rw [hs] at hd; exact hd⟩
    | gt =>
      have m1 : fmax k w d = w := by unfold fmax; rw [o1, c]
      have g : fgt k d w = false := by unfold fgt; rw [od', (cmp_swap _ _).1 c]; rfl
      rw [m1, g]
      refine ⟨by rw [on]; rfl, ?_⟩
      have : fmax k w (fneg k d) = w := by
        unfold fmax
        rw [on]
        cases c2 : compare (Ieee.signed false mw (ew - min ew e).toNat) (Ieee.signed (!s) m (e - min ew e).toNat) with
        | lt => have := Int.compare_eq_lt.1 c2; omega
        | gt => rfl
        | eq => simp only [wneg]; rfl
      rw [this]
      exact ⟨rfl, mw, ew, hw⟩
    | eq =>
      have ceq := Int.compare_eq_eq.1 c
      have m1 : fmax k w d = w := by unfold fmax; rw [o1, c]; simp only [wneg]; rfl
      have g : fgt k d w = false := by unfold fgt; rw [od', Int.compare_eq_eq.2 ceq.symm]; rfl
      rw [m1, g]
      refine ⟨by rw [on]; rfl, ?_⟩
      have : fmax k w (fneg k d) = w := by
        unfold fmax
        rw [on]
        cases c2 : compare (Ieee.signed false mw (ew - min ew e).toNat) (Ieee.signed (!s) m (e - min ew e).toNat) with
        | lt => have := Int.compare_eq_lt.1 c2; omega
        | gt => rfl
        | eq => simp only [wneg]; rfl
      rw [this]
      exact ⟨rfl, mw, ew, hw⟩
end Go.Abs
/- The abstract layer, part Z9: places of bytes in strings, answered in place. -/
set_option linter.unusedSimpArgs false
set_option linter.unusedVariables false
namespace Go.Abs
open Go
variable {P : Program}

section
variable {P : Program}
theorem RV.two {E : Env P} {a b : AV} {vs : List Value} (hl : vs.length = 2) (hv : ∀ (i : Nat) x v, [a, b][i]? = some x → vs[i]? = some v → RV E x v) : ∃ v u, vs = [v, u] ∧ RV E a v ∧ RV E b u := by
  match vs, hl with
  | [v, u], _ => exact ⟨v, u, rfl, hv 0 a v rfl rfl, hv 1 b u rfl rfl⟩
/-- A function of a string and a byte that is answered in place. -/
theorem bytes_call {f : FuncId} {fn : Func} {e : Array Value → Sem Value} (hf : P.funcs[f]? = some fn) (hname : (fn.name == "runtime.NumGoroutine") = false)
    (hb : fn.body.isNone = true) (hn : Extern.findNext fn = none) (he : Extern.find fn = some e) {g : List UInt8 → UInt8 → Int}
    (hE : ∀ (s : ByteArray) (c : Int) w, (e #[.string s, .int .u8 c]).run P w = .ok (.int .i64 (g s.data.toList c.toNat.toUInt8)) w)
    (s : List UInt8) (c : Int) : CallA P f [.str s, .int .u8 c] [] (Ret (.int .i64 (g s c.toNat.toUInt8)) []) := by
  refine ext_call hf hname hb hn he fun E vs hl hv => ?_
  obtain ⟨v, u, rfl, h1, h2⟩ := RV.two hl hv
  cases h1 with
  | str =>
    cases h2 with
    | int => exact ⟨_, _, hE _ c E.w, .int .i64 _, rfl, rfl⟩
end

/-- A text in pieces: between the bytes of a kind. -/
def cutA (c : UInt8) (acc : List UInt8) : List UInt8 → List (List UInt8)
  | [] => [acc]
  | x :: s => if x = c then acc :: cutA c [] s else cutA c (acc ++ [x]) s
theorem cutA_len (c : UInt8) : ∀ (l acc : List UInt8), (cutA c acc l).length = Lib.countByte l c + 1
  | [], _ => by simp [cutA, Lib.countByte]
  | x :: l, acc => by
    unfold cutA
    by_cases h : x = c
    · rw [if_pos h, List.length_cons, cutA_len c l]; simp [Lib.countByte, h]
    · rw [if_neg h, cutA_len c l]; simp [Lib.countByte, h]
theorem cutA_none (c : UInt8) : ∀ (l acc : List UInt8), Lib.countByte l c = 0 → cutA c acc l = [acc ++ l]
  | [], _, _ => by simp [cutA]
  | x :: l, acc, h => by
    unfold cutA
    by_cases e : x = c
    · simp [Lib.countByte, e] at h
    · rw [if_neg e, cutA_none c l _ (by simpa [Lib.countByte, e] using h)]; simp
/-- The first byte of the kind, where there is one. -/
theorem cutA_at (c : UInt8) : ∀ (l acc : List UInt8), Lib.countByte l c ≠ 0 →
    ∃ m : Nat, Lib.indexByte l c = m ∧ m < l.length ∧ cutA c acc l = (acc ++ l.take m) :: cutA c [] (l.drop (m + 1)) ∧ Lib.countByte l c = Lib.countByte (l.drop (m + 1)) c + 1
  | [], _, h => absurd rfl h
  | x :: l, acc, h => by
    by_cases e : x = c
    · refine ⟨0, by simp [Lib.indexByte, e], by simp, by (conv => lhs; unfold cutA); rw [if_pos e]; simp, by simp [Lib.countByte, e]⟩
    · obtain ⟨m, h1, h2, h3, h4⟩ := cutA_at c l (acc ++ [x]) (by simpa [Lib.countByte, e] using h)
      refine ⟨m + 1, ?_, by simp; omega, ?_, ?_⟩
      · unfold Lib.indexByte
        rw [if_neg (by simpa using e), h1, if_neg (by simp)]
        omega
      · conv => lhs; unfold cutA
        rw [if_neg e, h3]
        simp
      · have : Lib.countByte (x :: l) c = Lib.countByte l c := by simp [Lib.countByte, e]
        rw [this, h4]
        simp
theorem count_len (l : List UInt8) (c : UInt8) : Lib.countByte l c ≤ l.length := List.count_le_length
def strs (l : List (List UInt8)) : List AV := l.map AV.str
theorem strs_len (l : List (List UInt8)) : (strs l).length = l.length := by simp [strs]
theorem strs_get (l : List (List UInt8)) (i : Nat) (h : i < (strs l).length) : (strs l)[i] = AV.str (l[i]'(by simpa [strs] using h)) := by simp [strs]
theorem strs_app (l r : List (List UInt8)) : strs (l ++ r) = strs l ++ strs r := by simp [strs]
theorem strs_set (l : List (List UInt8)) (i : Nat) (x : List UInt8) : (strs l).set i (.str x) = strs (l.set i x) := by simp [strs, List.map_set]
theorem strs_rep (n : Nat) (x : List UInt8) : strs (List.replicate n x) = List.replicate n (.str x) := by simp [strs]
theorem strs_below (n : Nat) : ∀ l : List (List UInt8), allBelow n (strs l) = true
  | [] => rfl
  | x :: l => strs_below n l
theorem strs_ren (ρ : Nat → Nat) (l : List (List UInt8)) : (strs l).map (ren ρ) = strs l := by simp [strs, ren, renM, renL]
theorem map_view_strs (d : Nat) (hp : List Blk) (l : List (List UInt8)) : (strs l).map (view d hp) = strs l := by
  unfold strs
  rw [List.map_map]
  exact List.map_congr_left fun x _ => by cases d <;> rfl
end Go.Abs
/- The abstract layer, part ZA: a drawn region whose operations make blocks of their own, told by a plan: what each operation yields; its end told by names of one's choice, ahead of the last operation. -/
set_option linter.unusedSimpArgs false
set_option linter.unusedVariables false
namespace Go.Abs
open Go
variable {P : Program}

/-! The known blocks that a value names. -/
def namesL : AV → List Nat
  | .sl b _ _ | .ptr b _ _ => [b]
  | _ => []
def namesM : AV → List Nat
  | .agg l | .fn _ l => l.flatMap namesL
  | v => namesL v
def names : AV → List Nat
  | .tup l => l.flatMap namesM
  | v => namesM v
theorem renL_names {π π' : Nat → Nat} (a : AV) (h : ∀ b ∈ namesL a, π b = π' b) : renL π a = renL π' a := by
  cases a <;> first | rfl | (simp only [namesL, List.mem_singleton, forall_eq] at h; simp only [renL, h])
theorem renM_names {π π' : Nat → Nat} (a : AV) (h : ∀ b ∈ namesM a, π b = π' b) : renM π a = renM π' a := by
  cases a with
  | agg l =>
    simp only [namesM, List.mem_flatMap] at h
    simp only [renM, AV.agg.injEq]
    exact List.map_congr_left fun x hx => renL_names x fun b hb => h b ⟨x, hx, hb⟩
  | fn f l =>
    simp only [namesM, List.mem_flatMap] at h
    simp only [renM, AV.fn.injEq, true_and]
    exact List.map_congr_left fun x hx => renL_names x fun b hb => h b ⟨x, hx, hb⟩
  | _ => first | rfl | (simp only [namesM, namesL, List.mem_singleton, forall_eq] at h; simp only [renM, renL, h])
theorem ren_names {π π' : Nat → Nat} (a : AV) (h : ∀ b ∈ names a, π b = π' b) : ren π a = ren π' a := by
  cases a with
  | tup l =>
    simp only [names, List.mem_flatMap] at h
    simp only [ren, AV.tup.injEq]
    exact List.map_congr_left fun x hx => renM_names x fun b hb => h b ⟨x, hx, hb⟩
  | agg l => exact renM_names (.agg l) h
  | fn f l => exact renM_names (.fn f l) h
  | _ => first | rfl | (simp only [names, namesM, namesL, List.mem_singleton, forall_eq] at h; simp only [ren, renM, renL, h])
theorem ren_comp (π σ : Nat → Nat) (a : AV) : ren π (ren σ a) = ren (fun b => π (σ b)) a := by
  have hL : ∀ a, renL π (renL σ a) = renL (fun b => π (σ b)) a := fun a => by cases a <;> rfl
  have hM : ∀ a, renM π (renM σ a) = renM (fun b => π (σ b)) a := fun a => by
    cases a with
    | agg l => simp [renM, hL]
    | fn f l => simp [renM, hL]
    | _ => rfl
  cases a with
  | tup l => simp [ren, hM]
  | agg l => exact hM (.agg l)
  | fn f l => exact hM (.fn f l)
  | _ => rfl

/-! An operation looks at its operands alone. -/
section
variable {P : Program} {n0 : Nat}
theorem map_ops {f f' : Operand → AV} {l : List Operand} (h : ∀ x ∈ l, f x = f' x) : l.map f = l.map f' := List.map_congr_left h
theorem quietA_congr {op : Op} {f f' : Operand → AV} {hp : List Blk} {k : AV → Prop} (he : ∀ x ∈ op.operands, f x = f' x) (h : quietA P op f hp k) : quietA P op f' hp k := by
  cases op with
  | move x => simp only [quietA] at h ⊢; rw [← he x (by simp [Op.operands])]; exact h
  | assign x => simp only [quietA] at h ⊢; rw [← he x (by simp [Op.operands])]; exact h
  | pick c a b => simp only [quietA] at h ⊢; rw [← he c (by simp [Op.operands]), ← he a (by simp [Op.operands]), ← he b (by simp [Op.operands])]; exact h
  | build t parts =>
    simp only [quietA] at h ⊢
    have e : (parts.toList.map fun p => (p.1, f' p.2)) = parts.toList.map fun p => (p.1, f p.2) := List.map_congr_left fun p hp => by rw [he p.2 (by simp only [Op.operands]; simpa using ⟨p.1, by simpa using hp⟩)]
    rw [e]
    exact h
  | load t a => simp only [quietA] at h ⊢; rw [← he a (by simp [Op.operands])]; exact h
  | nilCheck x => simp only [quietA] at h ⊢; rw [← he x (by simp [Op.operands])]; exact h
  | binOp o t x y t' => simp only [quietA] at h ⊢; rw [← he x (by simp [Op.operands]), ← he y (by simp [Op.operands])]; exact h
  | unOp o t x => simp only [quietA] at h ⊢; rw [← he x (by simp [Op.operands])]; exact h
  | convert s d x => simp only [quietA] at h ⊢; rw [← he x (by simp [Op.operands])]; exact h
  | makeFunc c first cap =>
    cases c with
    | func g =>
      simp only [quietA] at h ⊢
      have e : cap.toList.map f' = cap.toList.map f := List.map_congr_left fun x hx => (he x (by simp [Op.operands]; simp at hx; simp [hx])).symm
      rw [e]
      exact h
    | _ => exact h.elim
  | slice t x lo hi mx =>
    cases mx with
    | some m => exact h.elim
    | none =>
      simp only [quietA] at h ⊢
      have e1 : lo.map f' = lo.map f := by
        cases lo with
        | none => rfl
        | some a => simp [he a (by simp [Op.operands])]
      have e2 : hi.map f' = hi.map f := by
        cases hi with
        | none => rfl
        | some a => simp [he a (by simp [Op.operands])]
      rw [← he x (by simp [Op.operands]), e1, e2]
      exact h
  | fieldAddr s x i => simp only [quietA] at h ⊢; rw [← he x (by simp [Op.operands])]; exact h
  | field t x i => simp only [quietA] at h ⊢; rw [← he x (by simp [Op.operands])]; exact h
  | indexAddr t x ix => simp only [quietA] at h ⊢; rw [← he x (by simp [Op.operands]), ← he ix (by simp [Op.operands])]; exact h
  | index t x ix => simp only [quietA] at h ⊢; rw [← he x (by simp [Op.operands]), ← he ix (by simp [Op.operands])]; exact h
  | extract x i => simp only [quietA] at h ⊢; rw [← he x (by simp [Op.operands])]; exact h
  | call c =>
    obtain ⟨callee, args, ts⟩ := c
    cases callee with
    | builtin b =>
      simp only [quietA] at h ⊢
      have e : args.toList.map f' = args.toList.map f := List.map_congr_left fun x hx => (he x (by simp [Op.operands, Call.operands]; simpa using hx)).symm
      rw [e]
      exact h
    | _ => exact h.elim
  | _ => exact h.elim
theorem opA_congr {op : Op} {f f' : Operand → AV} {hp : List Blk} {k : AV → List Blk → Option Nat → Prop} (he : ∀ x ∈ op.operands, f x = f' x) (h : opA P n0 op f hp k) : opA P n0 op f' hp k := by
  cases op with
  | alloc t => exact h
  | box t x => simp only [opA] at h ⊢; rw [← he x (by simp [Op.operands])]; exact h
  | buildSlice t len parts =>
    simp only [opA] at h ⊢
    have e : (parts.toList.map fun p => (p.1, f' p.2)) = parts.toList.map fun p => (p.1, f p.2) := List.map_congr_left fun p hp => by rw [he p.2 (by simp only [Op.operands]; simpa using ⟨p.1, by simpa using hp⟩)]
    rw [e]
    exact h
  | store t a x => simp only [opA] at h ⊢; rw [← he a (by simp [Op.operands]), ← he x (by simp [Op.operands])]; exact h
  | makeSlice t l c => simp only [opA] at h ⊢; rw [← he l (by simp [Op.operands]), ← he c (by simp [Op.operands])]; exact h
  | call c =>
    obtain ⟨callee, args, ts⟩ := c
    cases callee with
    | value g =>
      simp only [opA] at h ⊢
      have e : args.toList.map f' = args.toList.map f := List.map_congr_left fun x hx => (he x (by simp [Op.operands, Call.operands]; simp at hx; simp [hx])).symm
      rw [← he g (by simp [Op.operands, Call.operands]), e]
      exact h
    | builtin b =>
      have e : args.toList.map f' = args.toList.map f := List.map_congr_left fun x hx => (he x (by simp [Op.operands, Call.operands]; simpa using hx)).symm
      by_cases hb : b = .append
      · subst hb
        obtain ⟨l⟩ := args
        simp only [opA] at h ⊢
        match l, he, h with
        | [s, x], he, h => simp only [] at h ⊢; rw [← he s (by simp [Op.operands, Call.operands]), ← he x (by simp [Op.operands, Call.operands])]; exact h
        | [], _, h => exact h.elim
        | [_], _, h => exact h.elim
        | _ :: _ :: _ :: _, _, h => exact h.elim
      · cases b <;> first | exact absurd rfl hb | (simp only [opA] at h ⊢; rw [e]; exact h)
    | _ => exact h.elim
  | move x => exact quietA_congr (P := P) (hp := hp) (k := fun v => k v hp none) he h
  | assign x => exact quietA_congr (P := P) (hp := hp) (k := fun v => k v hp none) he h
  | pick c a b => exact quietA_congr (P := P) (hp := hp) (k := fun v => k v hp none) he h
  | build t parts => exact quietA_congr (P := P) (hp := hp) (k := fun v => k v hp none) he h
  | load t a => exact quietA_congr (P := P) (hp := hp) (k := fun v => k v hp none) he h
  | nilCheck x => exact quietA_congr (P := P) (hp := hp) (k := fun v => k v hp none) he h
  | binOp o t x y t' => exact quietA_congr (P := P) (hp := hp) (k := fun v => k v hp none) he h
  | unOp o t x => exact quietA_congr (P := P) (hp := hp) (k := fun v => k v hp none) he h
  | convert s d x => simp only [opA] at h ⊢; rw [← he x (by simp [Op.operands])]; exact h
  | makeFunc c first cap => exact quietA_congr (P := P) (hp := hp) (k := fun v => k v hp none) he h
  | slice t x lo hi mx => exact quietA_congr (P := P) (hp := hp) (k := fun v => k v hp none) he h
  | fieldAddr s x i => exact quietA_congr (P := P) (hp := hp) (k := fun v => k v hp none) he h
  | field t x i => exact quietA_congr (P := P) (hp := hp) (k := fun v => k v hp none) he h
  | indexAddr t x ix => exact quietA_congr (P := P) (hp := hp) (k := fun v => k v hp none) he h
  | index t x ix => exact quietA_congr (P := P) (hp := hp) (k := fun v => k v hp none) he h
  | extract x i => exact quietA_congr (P := P) (hp := hp) (k := fun v => k v hp none) he h
  | _ => exact h.elim
end

/-! The remainder of a drawn region. -/
section
variable {P : Program} {n0 : Nat}
def AnyS (P : Program) (n0 : Nat) (ops : List Oper) (Q : Ex → St → Prop) (fuel : Nat) (listed : Array Bool) (st : St) : Prop :=
  ∀ (E0 : Env P) (hp0 : List Blk) (E : Env P) (a : Act), hp0.length = n0 → SR E0 hp0 E st a → wpAny P .any ops.toArray (liftQ E0 hp0 Q) fuel listed a E.w
theorem Weak.refl {st : St} : Weak n0 st st := fun _ _ _ E _ _ hs => ⟨E, rfl, hs⟩
/-- What holds at each step of any order holds at its end; ahead of a step the state may be told anew. -/
theorem anyS_by {ops : List Oper} {Q : Ex → St → Prop} {ms : List Bool} (I : Array Bool → St → Prop)
    (step : ∀ listed st i, listed.size = ops.length → I listed st → i ∈ Region.ready .any ops.toArray listed → ∃ st1, Weak n0 st st1 ∧ stepA P n0 ops ms i (fun st' => I (listed.setIfInBounds i true) st') st1)
    (fin : ∀ listed st, listed.size = ops.length → I listed st → Region.ready .any ops.toArray listed = [] → Q .normal st) : ∀ (fuel : Nat) (listed : Array Bool) (st : St), listed.size = ops.length → ops.length ≤ fuel + listed.toList.count true → I listed st → AnyS P n0 ops Q fuel listed st
  | 0, listed, st, hs, hf, hI => by
    have h0 : Region.ready .any ops.toArray listed = [] := by
      cases hr : Region.ready .any ops.toArray listed with
      | nil => rfl
      | cons i l =>
        exfalso
        have := count_lt _ i (ready_false hs (by rw [hr]; exact List.mem_cons_self))
        simp at this hf
        omega
    exact fun E0 hp0 E a hn hsr => ⟨h0, .normal, st, E, rfl, rfl, hsr, fin listed st hs hI h0⟩
  | fuel + 1, listed, st, hs, hf, hI => fun E0 hp0 E a hn hsr => ⟨fun h0 => ⟨.normal, st, E, rfl, rfl, hsr, fin listed st hs hI h0⟩, fun i hi => by
      obtain ⟨st1, hw, h1⟩ := step listed st i hs hI hi
      obtain ⟨E2, e, hsr2⟩ := hw _ E0 hp0 E a hn hsr
      rw [← e]
      rw [← hn] at h1
      refine stepA_sound (K' := wpAny P .any ops.toArray (liftQ E0 hp0 Q) fuel (listed.setIfInBounds i true)) (fun E3 st3 a3 hs3 hI3 => ?_) hsr2 h1
      exact anyS_by I step fin fuel _ st3 (by simpa using hs) (by
        have := count_set _ i (ready_false hs hi)
        rw [show (listed.setIfInBounds i true).toList = listed.toList.set i true from by simp, this]
        omega) hI3 E0 hp0 E3 a3 hn hs3⟩
theorem anyS_region (hm : P.follows .mixedOrders = true) {id : Nat} {ops : Array Oper} {Q : Ex → St → Prop} {st : St} {t} (h : AnyS P n0 ops.toList Q ops.size (Array.replicate ops.size false) st) : Lp P n0 (.region id ops true) Q t st := by
  delta Lp
  intro E0 hp0 E a hn hs
  refine wp_region_any hm ?_
  have hs' : SR E0 hp0 (E.with { E.w with drawn := E.w.drawn + 1 }) st a := ⟨hs.hr.with (Same.drew _ _), hs.fr.with (Same.drew _ _), hs.len, fun i v u a1 a2 => (hs.tm i v u a1 a2).mono (Env.le_with (Same.drew _ _)), hs.df⟩
  have h2 := h E0 hp0 _ a hn hs'
  rw [show ops.toList.toArray = ops from by simp] at h2
  exact h2

/-- A region whose operations may come in any order, the last one last; ahead of the last one the state is told anew. -/
theorem plan_run {ops : List Oper} {pl : Plan} {ms : List Bool} {st0 st1 : St} {Q : Ex → St → Prop} (L : Nat) (oL : Oper) (hL : ops[L]? = some oL) (hmL : ms.getD L true = true)
    (hg : ∀ o ∈ ops, o.guard = none)
    (hd : ∀ (i j : Nat) (oi oj : Oper) (d : Nat), ops[i]? = some oi → ops[j]? = some oj → oi.dst = some d → oj.dst = some d → i = j)
    (hlen : ∀ (i : Nat) (o : Oper) (d : Nat), ops[i]? = some o → o.dst = some d → d < st0.tm.length)
    (hdst : ∀ (i : Nat) (o : Oper), ops[i]? = some o → i ≠ L → ∃ d, o.dst = some d)
    (huses : ∀ (j : Nat) (o : Oper), ops[j]? = some o → ∀ i ∈ pl.uses j, ∃ e ∈ o.after, Region.binds .any e = true ∧ e.on = i)
    (hloc : ∀ j nm nm', (∀ i ∈ pl.uses j, nm i = nm' i) → (pl.fresh j ≠ none → nm j = nm' j) → pl.val j nm = pl.val j nm')
    (hlast : ∀ i, i < ops.length → i ≠ L → ∃ e ∈ oL.after, Region.binds .any e = true ∧ e.on = i)
    (hback : ∀ (j : Nat) (o : Oper), ops[j]? = some o → ∀ e ∈ o.after, Region.binds .any e = true → e.on < j)
    (hop : ∀ (i : Nat) (o : Oper) listed nm st, ops[i]? = some o → i ≠ L → Mid ops pl st0 listed nm st → (∀ e ∈ o.after, Region.binds .any e = true → On listed e.on) →
      (ms.getD i true = true ∧ opA P n0 o.op st.ev st.hp (fun v hp' kb => kb = none ∧ match pl.fresh i with
        | none => v = pl.val i nm ∧ hp' = st.hp
        | some b => v = pl.val i (upd nm i st.hp.length) ∧ hp' = st.hp ++ [b])) ∨ (ms.getD i true = false ∧ pl.fresh i = none ∧ Yields P o st.ev st.hp (pl.val i nm)))
    (hweak : ∀ listed nm st, Mid ops pl st0 listed nm st → (∀ i, i < ops.length → i ≠ L → On listed i) → Weak n0 st st1)
    (hend : opA P n0 oL.op st1.ev st1.hp (fun v hp' kb => Q .normal ((st1.after hp' kb).put oL.dst v))) :
    AnyS P n0 ops Q ops.length (Array.replicate ops.length false) st0 := by
  have hLlt : L < ops.length := (List.getElem?_eq_some_iff.1 hL).1
  refine anyS_by (ms := ms) (fun listed st => (¬ On listed L ∧ ∃ nm, Mid ops pl st0 listed nm st) ∨ (On listed L ∧ (∀ i, i < ops.length → On listed i) ∧ Q .normal st)) ?_ ?_ _ _ _ (by simp) (by simp) ?_
  · intro listed st i hs hI hr
    have hf := ready_false hs hr
    obtain ⟨hi, o, ho, hall⟩ := mem_ready.1 hr
    have ho' : ops[i]? = some o := by simpa using ho
    have hilt : i < ops.length := (List.getElem?_eq_some_iff.1 ho').1
    have onI : On (listed.setIfInBounds i true) i := by
      unfold On
      simp [hs, hilt]
    have hnot : ¬ On listed i := by
      unfold On
      simp [Array.getD, hs, hilt] at hi ⊢
      simp [hi]
    rcases hI with ⟨hnL, nm, M⟩ | ⟨_, hA, _⟩
    · by_cases hiL : i = L
      · subst hiL
        rw [hL] at ho'; cases ho'
        have hall' : ∀ j, j < ops.length → j ≠ i → On listed j := fun j hj hne => by
          obtain ⟨e, he, hb, rfl⟩ := hlast j hj hne
          exact hall e he hb
        refine ⟨st1, hweak listed nm st M hall', ?_⟩
        unfold stepA
        rw [hL]
        simp only [hmL, if_true]
        exact .inl ⟨by simp [wantedA, hg oL (List.mem_of_getElem? hL)], _, hend, fun v hp' kb hk => .inr ⟨onI, fun j hj => by
          by_cases hji : j = i
          · subst hji; exact onI
          · exact getD_set_true (hall' j hj hji), hk⟩⟩
      · refine ⟨st, Weak.refl, ?_⟩
        have hw : wantedA ops o st = some true := by simp [wantedA, hg o (List.mem_of_getElem? ho')]
        obtain ⟨d, hdd⟩ := hdst i o ho' hiL
        have next : ∀ v hp', (match pl.fresh i with
            | none => v = pl.val i nm ∧ hp' = st.hp
            | some b => v = pl.val i (upd nm i st.hp.length) ∧ hp' = st.hp ++ [b]) → (¬ On (listed.setIfInBounds i true) L ∧ ∃ nm, Mid ops pl st0 (listed.setIfInBounds i true) nm { tm := st.tm.set d v, hp := hp' }) := by
          intro v hp' hk
          obtain ⟨nm', M'⟩ := M.step hd hlen huses hloc ho' hi hdd hall hs hk
          refine ⟨?_, nm', M'⟩
          unfold On at hnL ⊢
          rw [getD_set_ne false hiL]; exact hnL
        unfold stepA
        rw [ho']
        simp only []
        rcases hop i o listed nm st ho' hiL M hall with ⟨hm, h⟩ | ⟨hm, hfr, h⟩
        · rw [if_pos hm]
          refine .inl ⟨hw, _, h, fun v hp' kb ⟨hkb, hk⟩ => ?_⟩
          subst hkb
          rw [hdd]
          exact .inl (next v hp' hk)
        · rw [hm]
          simp only [Bool.false_eq_true, if_false]
          refine ⟨_, .inl ⟨hw, h⟩, ?_⟩
          rw [hdd]
          exact .inl (next _ st.hp (by rw [hfr]; exact ⟨rfl, rfl⟩))
    · exact absurd (hA i hilt) hnot
  · intro listed st hs hI hr
    rcases hI with ⟨hnL, nm, M⟩ | ⟨_, _, hk⟩
    · exfalso
      have all : ∀ n i, i < n → i < ops.length → On listed i := by
        intro n
        induction n with
        | zero => intro i hi; omega
        | succ n ih =>
          intro i hi hl
          apply Classical.byContradiction
          intro hno
          have hmem : i ∈ Region.ready .any ops.toArray listed := by
            refine mem_ready.2 ⟨?_, ops[i], by simp [hl], fun e he hb => ih _ (by have := hback i ops[i] (List.getElem?_eq_getElem hl) e he hb; omega) (by have := hback i ops[i] (List.getElem?_eq_getElem hl) e he hb; omega)⟩
            unfold On at hno
            simp [Array.getD, hs, hl] at hno ⊢
            exact hno
          rw [hr] at hmem
          cases hmem
      exact hnL (all (L + 1) L (by omega) hLlt)
    · exact hk
  · exact .inl ⟨noOn _ _, fun i => i, rfl, fun i o d _ hon => absurd hon (noOn _ _), fun d _ => rfl, Nat.le_refl _, fun b _ => rfl, fun i b _ hon => absurd hon (noOn _ _), fun i j _ _ hon => absurd hon (noOn _ _), fun j o _ hon => absurd hon (noOn _ _)⟩
end

/-! A plan as a list: the slot, what the operation yields, the block that it makes; a block is named by N0 and the number of the operation that makes it. -/
def plName (N0 : Nat) (nm : Nat → Nat) (b : Nat) : Nat := if b < N0 then b else nm (b - N0)
abbrev PEs := List (Nat × AV × Option Blk)
def PEs.v (pv : PEs) (i : Nat) : AV := (pv.getD i (0, .any, none)).2.1
def PEs.b (pv : PEs) (i : Nat) : Option Blk := (pv.getD i (0, .any, none)).2.2
def PEs.uses (N0 : Nat) (pv : PEs) (i : Nat) : List Nat := (names (pv.v i)).filterMap fun b => if N0 ≤ b ∧ b ≠ N0 + i then some (b - N0) else none
def planOf (N0 : Nat) (pv : PEs) : Plan where
  val i nm := ren (plName N0 nm) (pv.v i)
  fresh := pv.b
  uses := pv.uses N0
def edgeOn (o : Oper) (i : Nat) : Bool := o.after.any fun e => Region.binds .any e && e.on == i
theorem edgeOn_spec {o : Oper} {i : Nat} (h : edgeOn o i = true) : ∃ e ∈ o.after, Region.binds .any e = true ∧ e.on = i := by
  unfold edgeOn at h
  rw [Array.any_eq_true] at h
  obtain ⟨m, hm, he⟩ := h
  simp only [Bool.and_eq_true, beq_iff_eq] at he
  exact ⟨_, Array.getElem_mem hm, he.1, he.2⟩
def freeSlot (ops : List Oper) (j d : Nat) : Bool := (List.range ops.length).all fun i => i == j || ((ops[i]?).bind (·.dst)) != some d
def edgeBack (o : Oper) (j : Nat) : Bool := o.after.all fun e => !(Region.binds .any e) || decide (e.on < j)
def looksOk (ops : List Oper) (o : Oper) : Bool := o.op.operands.all fun x => match x with
  | .tmp t => (List.range ops.length).all fun i => ((ops[i]?).bind (·.dst)) != some t || edgeOn o i
  | _ => true
/-- The plan fits operation j (not the last one). -/
def planAt (ops : List Oper) (N0 ntm : Nat) (pv : PEs) (j : Nat) : Bool :=
  match ops[j]?, pv[j]? with
  | some o, some (d, v, b) => o.guard.isNone && o.dst == some d && decide (d < ntm) && freeSlot ops j d && ((pv.uses N0 j).all fun i => edgeOn o i) && (!((names v).contains (N0 + j)) || b.isSome) && edgeBack o j && looksOk ops o
  | _, _ => false
def planLast (ops : List Oper) (ntm : Nat) (L : Nat) : Bool :=
  match ops[L]? with
  | some o => ops.length == L + 1 && o.guard.isNone && edgeBack o L && ((List.range L).all fun i => edgeOn o i) && (match o.dst with
    | some d => decide (d < ntm) && freeSlot ops L d
    | none => true)
  | none => false
def planOk (ops : List Oper) (N0 ntm : Nat) (pv : PEs) : Bool := planLast ops ntm pv.length && (List.range pv.length).all fun j => planAt ops N0 ntm pv j
def slotP (π : Nat → Nat) (tm : List AV) : PEs → Nat → AV
  | [], t => tm.getD t .any
  | (d, v, _) :: r, t => if d = t then ren π v else slotP π tm r t
def evP (π : Nat → Nat) (tm : List AV) (pv : PEs) : Operand → AV
  | .tmp t => slotP π tm pv t
  | .const v => ofV v
  | .func f => .fn f []
  | .global _ => .any
def oldOk (hp : List Blk) : Nat → List Blk → Prop
  | _, [] => True
  | k, b :: r => hp[k]? = some b ∧ oldOk hp (k + 1) r
/-- The blocks that an operation can name. -/
def newOk (hp : List Blk) (nm : Nat → Nat) (o : Oper) : Nat → PEs → Prop
  | _, [] => True
  | k, (_, _, some b) :: r => (edgeOn o k = true → hp[nm k]? = some b) ∧ newOk hp nm o (k + 1) r
  | k, (_, _, none) :: r => newOk hp nm o (k + 1) r
theorem slotP_at {π : Nat → Nat} {tm : List AV} {t : Nat} {v : AV} {b : Option Blk} : ∀ {pv : PEs} {i : Nat}, pv[i]? = some (t, v, b) → (∀ (j : Nat) e, pv[j]? = some e → e.1 = t → j = i) → slotP π tm pv t = ren π v
  | [], i, h, _ => by simp at h
  | (d, u, c) :: r, 0, h, _ => by simp at h; simp [slotP, h]
  | (d, u, c) :: r, i + 1, h, hu => by
    have hd : d ≠ t := fun e => by have := hu 0 (d, u, c) rfl e; omega
    simp only [slotP, hd, if_false]
    exact slotP_at (by simpa using h) fun j e hj he => by have := hu (j + 1) e (by simpa using hj) he; omega
theorem slotP_rest {π : Nat → Nat} {tm : List AV} {t : Nat} : ∀ {pv : PEs}, (∀ (j : Nat) e, pv[j]? = some e → e.1 ≠ t) → slotP π tm pv t = tm.getD t .any
  | [], _ => rfl
  | (d, u, c) :: r, hu => by
    have hd : d ≠ t := hu 0 (d, u, c) rfl
    simp only [slotP, hd, if_false]
    exact slotP_rest fun j e hj => hu (j + 1) e (by simpa using hj)
theorem oldOk_of {hp : List Blk} : ∀ (r : List Blk) (k : Nat), (∀ b, k ≤ b → b < k + r.length → hp[b]? = r[b - k]?) → oldOk hp k r
  | [], _, _ => trivial
  | b :: r, k, h => ⟨by have := h k (Nat.le_refl _) (by simp); simpa using this, oldOk_of r (k + 1) fun c h1 h2 => by
      have := h c (by omega) (by simp; omega)
      rw [this, show c - k = (c - (k + 1)) + 1 from by omega]
      simp⟩
theorem newOk_of {hp : List Blk} {nm : Nat → Nat} {o : Oper} : ∀ (r : PEs) (k : Nat), (∀ (i : Nat) e b, r[i]? = some e → e.2.2 = some b → edgeOn o (k + i) = true → hp[nm (k + i)]? = some b) → newOk hp nm o k r
  | [], _, _ => trivial
  | (d, v, some b) :: r, k, h => ⟨fun he => h 0 (d, v, some b) b rfl rfl he, newOk_of r (k + 1) fun i e b hi he hg => by
      have := h (i + 1) e b (by simpa using hi) he (by rw [show k + (i + 1) = k + 1 + i from by omega]; exact hg)
      rwa [show k + (i + 1) = k + 1 + i from by omega] at this⟩
  | (d, v, none) :: r, k, h => newOk_of r (k + 1) fun i e b hi he hg => by
      have := h (i + 1) e b (by simpa using hi) he (by rw [show k + (i + 1) = k + 1 + i from by omega]; exact hg)
      rwa [show k + (i + 1) = k + 1 + i from by omega] at this

theorem names_lt {N : Nat} (a : AV) (h : below N a = true) : ∀ b ∈ names a, b < N := by
  have hL : ∀ a, belowL N a = true → ∀ b ∈ namesL a, b < N := fun a h b hb => by
    cases a <;> first | (simp [namesL] at hb; done) | (simp only [namesL, List.mem_singleton] at hb; subst hb; simpa [belowL] using h)
  have hM : ∀ a, belowM N a = true → ∀ b ∈ namesM a, b < N := fun a h b hb => by
    cases a with
    | agg l =>
      simp only [belowM, List.all_eq_true] at h
      simp only [namesM, List.mem_flatMap] at hb
      obtain ⟨x, hx, hb⟩ := hb
      exact hL x (h x hx) b hb
    | fn f l =>
      simp only [belowM, List.all_eq_true] at h
      simp only [namesM, List.mem_flatMap] at hb
      obtain ⟨x, hx, hb⟩ := hb
      exact hL x (h x hx) b hb
    | _ => first | (simp [namesM, namesL] at hb; done) | (simp only [namesM, namesL, List.mem_singleton] at hb; subst hb; simpa [belowM, belowL] using h)
  intro b hb
  cases a with
  | tup l =>
    simp only [below, List.all_eq_true] at h
    simp only [names, List.mem_flatMap] at hb
    obtain ⟨x, hx, hb⟩ := hb
    exact hM x (h x hx) b hb
  | agg l => exact hM (.agg l) h b hb
  | fn f l => exact hM (.fn f l) h b hb
  | _ => first | (simp [names, namesM, namesL] at hb; done) | (simp only [names, namesM, namesL, List.mem_singleton] at hb; subst hb; simpa [below, belowM, belowL] using h)
theorem below_le {N M : Nat} (hle : N ≤ M) (a : AV) (h : below N a = true) : below M a = true := by
  have hL : ∀ a, belowL N a = true → belowL M a = true := fun a h => by
    cases a <;> first | exact h | (simp only [belowL, decide_eq_true_eq] at h ⊢; omega)
  have hM : ∀ a, belowM N a = true → belowM M a = true := fun a h => by
    cases a with
    | agg l => simp only [belowM, List.all_eq_true] at h ⊢; exact fun x hx => hL x (h x hx)
    | fn f l => simp only [belowM, List.all_eq_true] at h ⊢; exact fun x hx => hL x (h x hx)
    | _ => first | exact h | (simp only [belowM, belowL, decide_eq_true_eq] at h ⊢; omega)
  cases a with
  | tup l => simp only [below, List.all_eq_true] at h ⊢; exact fun x hx => hM x (h x hx)
  | agg l => exact hM (.agg l) h
  | fn f l => exact hM (.fn f l) h
  | _ => first | exact h | (simp only [below, belowM, belowL, decide_eq_true_eq] at h ⊢; omega)
theorem ren_same (a : AV) : ∀ {N : Nat}, below N a = true → ∀ {π : Nat → Nat}, (∀ b, b < N → π b = b) → ren π a = a := by
  intro N h π hπ
  have e : ren π a = ren (fun b => b) a := ren_names a fun b hb => hπ b (names_lt a h b hb)
  rw [e]
  exact ren_id N h

/-- The end's names: the new blocks follow in the order of 'ps'. -/
def endName (N0 : Nat) (ps : List Nat) (c : Nat) : Nat := if c < N0 then c else N0 + ps.getD (c - N0) 0
def finAt (N0 : Nat) (ps : List Nat) (tm : List AV) : PEs → Nat → AV → Prop
  | [], t, b => tm.getD t .any = b ∧ below N0 b = true
  | (d, v, _) :: r, t, b => if d = t then v = ren (endName N0 ps) b ∧ below (N0 + ps.length) b = true else finAt N0 ps tm r t b
def finOk (N0 : Nat) (ps : List Nat) (tm : List AV) (pv : PEs) : Nat → List AV → Prop
  | _, [] => True
  | t, b :: r => (b = .any ∨ finAt N0 ps tm pv t b) ∧ finOk N0 ps tm pv (t + 1) r
theorem finOk_nil {N0 : Nat} {ps : List Nat} {tm : List AV} {pv : PEs} {t : Nat} : finOk N0 ps tm pv t [] := trivial
theorem finOk_any {N0 : Nat} {ps : List Nat} {tm m : List AV} {pv : PEs} {t : Nat} (h : finOk N0 ps tm pv (t + 1) m) : finOk N0 ps tm pv t (.any :: m) := ⟨.inl rfl, h⟩
theorem finOk_val {N0 : Nat} {ps : List Nat} {tm m : List AV} {pv : PEs} {t : Nat} {b : AV} (hb : finAt N0 ps tm pv t b) (h : finOk N0 ps tm pv (t + 1) m) : finOk N0 ps tm pv t (b :: m) := ⟨.inr hb, h⟩
theorem finOk_get {N0 : Nat} {ps : List Nat} {tm : List AV} {pv : PEs} : ∀ {m : List AV} {t : Nat}, finOk N0 ps tm pv t m → ∀ (i : Nat) b, m[i]? = some b → b = .any ∨ finAt N0 ps tm pv (t + i) b
  | [], t, _, i, b, h => by simp at h
  | c :: m, t, hf, 0, b, h => by simp at h; subst h; exact hf.1
  | c :: m, t, hf, i + 1, b, h => by
    have := finOk_get hf.2 i b (by simpa using h)
    rwa [show t + 1 + i = t + (i + 1) from by omega] at this
theorem finAt_slot {N0 : Nat} {ps : List Nat} {tm : List AV} {nm : Nat → Nat} {t : Nat} {b : AV} : ∀ {pv : PEs}, finAt N0 ps tm pv t b → slotP (plName N0 nm) tm pv t = ren (planName N0 nm ps) b ∧ below (N0 + ps.length) b = true
  | [], h => ⟨by
      show tm.getD t .any = _
      rw [h.1]
      exact (ren_same b h.2 fun c hc => by simp [planName, hc]).symm, below_le (by omega) b h.2⟩
  | (d, v, c) :: r, h => by
    unfold finAt at h
    unfold slotP
    by_cases hd : d = t
    · rw [if_pos hd] at h ⊢
      refine ⟨?_, h.2⟩
      rw [h.1, ren_comp]
      refine ren_names b fun c _ => ?_
      simp only [plName, endName, planName]
      by_cases hc : c < N0
      · simp [hc]
      · simp [hc, Nat.not_lt.2 (Nat.le_add_right N0 _)]
    · rw [if_neg hd] at h ⊢
      exact finAt_slot h

section
variable {P : Program} {n0 : Nat}
/-- What one operation of a plan owes. -/
def HopAt (P : Program) (n0 : Nat) (ops : List Oper) (ms : List Bool) (st0 : St) (pv : PEs) (i : Nat) : Prop :=
  ∀ o, ops[i]? = some o → ∀ (nm : Nat → Nat) (hp : List Blk), oldOk hp 0 st0.hp → newOk hp nm o 0 pv → st0.hp.length ≤ hp.length →
    (ms.getD i true = true ∧ opA P n0 o.op (evP (plName st0.hp.length nm) st0.tm pv) hp (Cn (fun v hp' kb => kb = none ∧ match pv.b i with
      | none => v = ren (plName st0.hp.length nm) (pv.v i) ∧ hp' = hp
      | some b => v = ren (plName st0.hp.length (upd nm i hp.length)) (pv.v i) ∧ hp' = hp ++ [b]) .mk)) ∨
    (ms.getD i true = false ∧ pv.b i = none ∧ Yields P o (evP (plName st0.hp.length nm) st0.tm pv) hp (ren (plName st0.hp.length nm) (pv.v i)))
def HopsFrom (P : Program) (n0 : Nat) (ops : List Oper) (ms : List Bool) (st0 : St) (pv : PEs) : Nat → Nat → Prop
  | _, 0 => True
  | k, n + 1 => HopAt P n0 ops ms st0 pv k ∧ HopsFrom P n0 ops ms st0 pv (k + 1) n
theorem HopsFrom.get {ops : List Oper} {ms : List Bool} {st0 : St} {pv : PEs} : ∀ {n k : Nat}, HopsFrom P n0 ops ms st0 pv k n → ∀ i, k ≤ i → i < k + n → HopAt P n0 ops ms st0 pv i
  | 0, k, _, i, h1, h2 => by omega
  | n + 1, k, h, i, h1, h2 => by
    by_cases he : i = k
    · subst he; exact h.1
    · exact h.2.get i (by omega) (by omega)

/-- A region whose order is drawn and whose operations make blocks, by a plan. -/
theorem go_plan (hm : P.follows .mixedOrders = true) {id : Nat} {ops : Array Oper} {Q : Ex → St → Prop} {st0 : St} {t} (ms : List Bool) (pv : PEs) (ps : List Nat) (bs : List Blk) (m : List AV) (oL : Oper)
    (hok : planOk ops.toList st0.hp.length st0.tm.length pv = true) (hL : ops.toList[pv.length]? = some oL) (hmL : ms.getD pv.length true = true) (hn0 : n0 ≤ st0.hp.length)
    (hflat : ∀ r ∈ st0.hp, allBelow 0 r.els = true) (hbs : ∀ r ∈ bs, allBelow 0 r.els = true)
    (hnd : ps.Nodup) (hps : ps.map pv.b = bs.map some) (hLd : (oL.dst.map fun d => m.getD d .any).getD .any = .any) (hfin : m.length = st0.tm.length ∧ finOk st0.hp.length ps st0.tm pv 0 m)
    (hops : HopsFrom P n0 ops.toList ms st0 pv 0 pv.length)
    (hend : opA P n0 oL.op (St.mk m (st0.hp ++ bs)).ev (st0.hp ++ bs) (Cn (fun v hp' kb => Q .normal (((St.mk m (st0.hp ++ bs)).after hp' kb).put oL.dst v)) .mk)) : Lp P n0 (.region id ops true) Q t st0 := by
  refine anyS_region hm ?_
  obtain ⟨opl⟩ := ops
  simp only [List.size_toArray] at *
  simp only [planOk, Bool.and_eq_true, List.all_eq_true, List.mem_range] at hok
  obtain ⟨hlast, hall⟩ := hok
  unfold planLast at hlast
  rw [hL] at hlast
  simp only [Bool.and_eq_true, beq_iff_eq] at hlast
  obtain ⟨⟨⟨⟨hsize, hgL⟩, hbL⟩, heL⟩, hdL⟩ := hlast
  simp only [List.all_eq_true, List.mem_range] at heL
  have gl : ∀ (i : Nat) o, opl[i]? = some o → i < pv.length ∨ (i = pv.length ∧ o = oL) := fun i o h => by
    have := (List.getElem?_eq_some_iff.1 h).1
    by_cases hi : i < pv.length
    · exact .inl hi
    · have e : i = pv.length := by omega
      subst e
      rw [hL] at h
      cases h
      exact .inr ⟨rfl, rfl⟩
  have at_ : ∀ (i : Nat) o, opl[i]? = some o → i < pv.length → ∃ d v b, pv[i]? = some (d, v, b) ∧ o.guard = none ∧ o.dst = some d ∧ d < st0.tm.length ∧ freeSlot opl i d = true ∧ (∀ k ∈ pv.uses st0.hp.length i, edgeOn o k = true) ∧ (st0.hp.length + i ∈ names v → b ≠ none) ∧ edgeBack o i = true ∧ looksOk opl o = true := by
    intro i o ho hi
    have h := hall i hi
    unfold planAt at h
    rw [ho] at h
    cases hp : pv[i]? with
    | none => rw [hp] at h; cases h
    | some e =>
      obtain ⟨d, v, b⟩ := e
      rw [hp] at h
      simp only [Bool.and_eq_true, beq_iff_eq, decide_eq_true_eq, List.all_eq_true, Bool.or_eq_true, Bool.not_eq_true', Option.isNone_iff_eq_none] at h
      obtain ⟨⟨⟨⟨⟨⟨⟨h1, h2⟩, h3⟩, h4⟩, h5⟩, h6⟩, h7⟩, h8⟩ := h
      refine ⟨d, v, b, rfl, h1, h2, h3, h4, h5, fun hmem => ?_, h7, h8⟩
      rcases h6 with h6 | h6
      · have : (names v).contains (st0.hp.length + i) = true := by simpa using hmem
        rw [this] at h6; cases h6
      · intro e; rw [e] at h6; cases h6
  have pvv : ∀ {i : Nat} {d v b}, pv[i]? = some (d, v, b) → pv.v i = v ∧ pv.b i = b := fun {i d v b} h => by
    simp [PEs.v, PEs.b, List.getD_eq_getElem?_getD, h]
  have back : ∀ (j : Nat) (o : Oper), opl[j]? = some o → ∀ e ∈ o.after, Region.binds .any e = true → e.on < j := by
    intro j o ho e he hb
    have hbk : edgeBack o j = true := by
      rcases gl j o ho with hj | ⟨hj, rfl⟩
      · obtain ⟨d, v, b, _, _, _, _, _, _, _, h7, _⟩ := at_ j o ho hj
        exact h7
      · rw [hj]; exact hbL
    unfold edgeBack at hbk
    rw [Array.all_eq_true] at hbk
    obtain ⟨k, hk, rfl⟩ := Array.getElem_of_mem he
    have := hbk k hk
    simp only [hb, Bool.not_true, Bool.false_or, decide_eq_true_eq] at this
    exact this
  have dsts : ∀ (i : Nat) (o : Oper) (d : Nat), opl[i]? = some o → o.dst = some d → d < st0.tm.length ∧ freeSlot opl i d = true := by
    intro i o d ho hd
    rcases gl i o ho with hj | ⟨hj, rfl⟩
    · obtain ⟨d', v, b, _, _, h2, h3, h4, _⟩ := at_ i o ho hj
      rw [hd] at h2; cases h2
      exact ⟨h3, h4⟩
    · rw [hd] at hdL
      simp only [Bool.and_eq_true, decide_eq_true_eq] at hdL
      rw [hj]; exact hdL
  have hdd : ∀ (i j : Nat) (oi oj : Oper) (d : Nat), opl[i]? = some oi → opl[j]? = some oj → oi.dst = some d → oj.dst = some d → i = j := by
    intro i j oi oj d hi hj h1 h2
    have := (dsts i oi d hi h1).2
    unfold freeSlot at this
    simp only [List.all_eq_true, List.mem_range, Bool.or_eq_true, beq_iff_eq, bne_iff_ne, ne_eq] at this
    rcases this j (List.getElem?_eq_some_iff.1 hj).1 with h | h
    · exact h.symm
    · simp [hj, h2] at h
  have slots : ∀ {listed nm st} (M : Mid opl (planOf st0.hp.length pv) st0 listed nm st) (t : Nat), (∀ (i : Nat) oi, opl[i]? = some oi → oi.dst = some t → On listed i ∧ i < pv.length) → st.tm.getD t .any = slotP (plName st0.hp.length nm) st0.tm pv t := by
    intro listed nm st M t hon
    by_cases hex : ∃ (i : Nat) (oi : Oper), opl[i]? = some oi ∧ oi.dst = some t
    · obtain ⟨i, oi, hi, hd⟩ := hex
      obtain ⟨h1, h2⟩ := hon i oi hi hd
      obtain ⟨d, v, b, hp, _, hd', _⟩ := at_ i oi hi h2
      rw [hd] at hd'; cases hd'
      rw [M.slot i oi t hi h1 hd, slotP_at hp fun j e hj he => ?_]
      · show ren _ (pv.v i) = _
        rw [(pvv hp).1]
      · have hjl : j < pv.length := (List.getElem?_eq_some_iff.1 hj).1
        have hoj : opl[j]? = some (opl[j]'(by omega)) := List.getElem?_eq_getElem (by omega)
        obtain ⟨d2, v2, b2, hp2, _, hd2, _⟩ := at_ j _ hoj hjl
        rw [hj] at hp2
        cases hp2
        simp only at he
        subst he
        exact hdd j i _ oi d2 hoj hi hd2 hd
    · rw [M.rest t fun i oi hi hd => hex ⟨i, oi, hi, hd⟩, slotP_rest fun j e hj he => ?_]
      have hjl : j < pv.length := (List.getElem?_eq_some_iff.1 hj).1
      have hoj : opl[j]? = some (opl[j]'(by omega)) := List.getElem?_eq_getElem (by omega)
      obtain ⟨d2, v2, b2, hp2, _, hd2, _⟩ := at_ j _ hoj hjl
      rw [hj] at hp2
      cases hp2
      exact hex ⟨j, _, hoj, by rw [hd2, ← he]⟩
  refine plan_run (pl := planOf st0.hp.length pv) (ms := ms) (st1 := St.mk m (st0.hp ++ bs)) pv.length oL hL hmL ?_ hdd ?_ ?_ ?_ ?_ ?_ back ?_ ?_ (by simpa only [Cn_eq] using hend)
  · intro o ho
    obtain ⟨i, hi⟩ := List.getElem?_of_mem ho
    rcases gl i o hi with hj | ⟨_, rfl⟩
    · obtain ⟨d, v, b, _, h1, _⟩ := at_ i o hi hj
      exact h1
    · simpa using hgL
  · intro i o d ho hd; exact (dsts i o d ho hd).1
  · intro i o ho hne
    rcases gl i o ho with hj | ⟨hj, _⟩
    · obtain ⟨d, v, b, _, _, h2, _⟩ := at_ i o ho hj
      exact ⟨d, h2⟩
    · exact absurd hj hne
  · intro j o ho i hi
    rcases gl j o ho with hj | ⟨hj, _⟩
    · obtain ⟨d, v, b, _, _, _, _, _, h5, _⟩ := at_ j o ho hj
      exact edgeOn_spec (h5 i hi)
    · exfalso
      have hi' : i ∈ pv.uses st0.hp.length j := hi
      have e : pv.v j = .any := by simp [PEs.v, List.getD_eq_getElem?_getD, hj]
      simp [PEs.uses, e, names, namesM, namesL] at hi'
  · intro j nm nm' h1 h2
    show ren _ (pv.v j) = ren _ (pv.v j)
    refine ren_names _ fun b hb => ?_
    simp only [plName]
    by_cases hc : b < st0.hp.length
    · simp [hc]
    · simp only [hc, if_false]
      by_cases he : b = st0.hp.length + j
      · have hj : j < pv.length := by
          apply Decidable.byContradiction
          intro hn
          have e : pv.v j = .any := by simp [PEs.v, List.getD_eq_getElem?_getD, List.getElem?_eq_none (Nat.le_of_not_lt hn)]
          rw [e] at hb
          simp [names, namesM, namesL] at hb
        have hoj : opl[j]? = some (opl[j]'(by omega)) := List.getElem?_eq_getElem (by omega)
        obtain ⟨d, v, bb, hp, _, _, _, _, _, h6, _⟩ := at_ j _ hoj hj
        have h7 := h6 (by rw [← he, ← (pvv hp).1]; exact hb)
        rw [show b - st0.hp.length = j from by omega]
        exact h2 (by show pv.b j ≠ none; rw [(pvv hp).2]; exact h7)
      · refine h1 _ ?_
        show _ ∈ pv.uses st0.hp.length j
        simp only [PEs.uses, List.mem_filterMap]
        exact ⟨b, hb, by rw [if_pos ⟨by omega, he⟩]⟩
  · intro i hi hne
    exact edgeOn_spec (heL i (by omega))
  · intro i o listed nm st ho hne M hedge
    rcases gl i o ho with hj | ⟨hj, _⟩
    · obtain ⟨d, v, b, hp, _, h2, _, _, _, _, _, hlk⟩ := at_ i o ho hj
      have hev : ∀ x ∈ o.op.operands, evP (plName st0.hp.length nm) st0.tm pv x = st.ev x := by
        intro x hx
        cases x with
        | tmp t =>
          refine (slots M t fun k ok hk hd => ?_).symm
          unfold looksOk at hlk
          rw [Array.all_eq_true] at hlk
          obtain ⟨q, hq, e⟩ := Array.getElem_of_mem hx
          have h := hlk q hq
          rw [e] at h
          simp only [List.all_eq_true, List.mem_range, Bool.or_eq_true, bne_iff_ne, ne_eq] at h
          rcases h k (List.getElem?_eq_some_iff.1 hk).1 with h | h
          · simp [hk, hd] at h
          · obtain ⟨ed, he, hb, rfl⟩ := edgeOn_spec h
            have := back i o ho ed he hb
            exact ⟨hedge ed he hb, by omega⟩
        | _ => rfl
      have hold : oldOk st.hp 0 st0.hp := oldOk_of _ _ fun b _ hb => by rw [M.old b (by omega)]; simp
      have hnew : newOk st.hp nm o 0 pv := newOk_of _ _ fun k e bb hk hb he => by
        rw [Nat.zero_add] at he ⊢
        obtain ⟨ed, hee, hbb, rfl⟩ := edgeOn_spec he
        have hkl := (List.getElem?_eq_some_iff.1 hk).1
        obtain ⟨d', v', b'⟩ := e
        simp only at hb
        subst hb
        exact (M.blk ed.on bb (by omega) (hedge ed hee hbb) (pvv hk).2).2
      rcases hops.get i (Nat.zero_le _) (by omega) o ho nm st.hp hold hnew M.more with ⟨h1, h2⟩ | ⟨h1, h2, h3⟩
      · rw [Cn_eq] at h2
        exact .inl ⟨h1, opA_congr hev h2⟩
      · exact .inr ⟨h1, h2, h3.congr hev⟩
    · exact absurd hj hne
  · intro listed nm st M hon
    refine M.weak hn0 hflat ps bs hnd (by have := congrArg List.length hps; simpa using this.symm) ?_ hbs m hfin.1 ?_
    · intro j i hj
      have hb : (ps.map pv.b)[j]? = some (pv.b i) := by simp [hj]
      rw [hps] at hb
      have hbj : bs[j]? = pv.b i := by
        cases hc : bs[j]? with
        | none => simp [hc] at hb
        | some c => simp [hc] at hb; exact hb
      have hi : i < pv.length := by
        apply Decidable.byContradiction
        intro hn
        have e : pv.b i = none := by simp [PEs.b, List.getD_eq_getElem?_getD, List.getElem?_eq_none (Nat.le_of_not_lt hn)]
        rw [e] at hb
        simp at hb
      exact ⟨by omega, hon i (by omega) (by omega), hbj.symm⟩
    · intro i b hi
      rcases finOk_get hfin.2 i b hi with rfl | h
      · exact .inl rfl
      · rw [Nat.zero_add] at h
        by_cases hany : b = .any
        · exact .inl hany
        · right
          by_cases hex : ∃ (k : Nat) (ok : Oper), opl[k]? = some ok ∧ ok.dst = some i ∧ k = pv.length
          · exfalso
            obtain ⟨k, ok, hk, hd, e⟩ := hex
            subst e
            rw [hL] at hk
            cases hk
            have := hLd
            rw [hd, Option.map_some, Option.getD_some] at this
            rw [List.getD_eq_getElem?_getD, hi, Option.getD_some] at this
            exact hany this
          · obtain ⟨h1, h2⟩ := finAt_slot (nm := nm) h
            refine ⟨?_, h2⟩
            rw [← h1]
            refine slots M i fun k ok hk hd => ?_
            rcases gl k ok hk with hj | ⟨hj, _⟩
            · exact ⟨hon k (by omega) (by omega), hj⟩
            · exact absurd ⟨k, ok, hk, hd, hj⟩ hex

section
variable {ops : List Oper} {ms : List Bool} {st0 : St} {pv : PEs} {k n : Nat}
theorem hops_nil : HopsFrom P n0 ops ms st0 pv k 0 := trivial
/-- An operation that makes no block. -/
theorem hops_op {o : Oper} {d : Nat} {v : AV} (ho : ops[k]? = some o) (hm : ms.getD k true = true) (hv : pv[k]? = some (d, v, none))
    (h : ∀ (nm : Nat → Nat) (hp : List Blk), oldOk hp 0 st0.hp → newOk hp nm o 0 pv → st0.hp.length ≤ hp.length →
      opA P n0 o.op (evP (plName st0.hp.length nm) st0.tm pv) hp (Cn (fun w hp' kb => kb = none ∧ w = ren (plName st0.hp.length nm) v ∧ hp' = hp) .mk))
    (hr : HopsFrom P n0 ops ms st0 pv (k + 1) n) : HopsFrom P n0 ops ms st0 pv k (n + 1) := by
  refine ⟨fun o' ho' nm hp h1 h2 h3 => ?_, hr⟩
  rw [ho] at ho'
  cases ho'
  have h4 := h nm hp h1 h2 h3
  have e1 : pv.v k = v := by simp [PEs.v, List.getD_eq_getElem?_getD, hv]
  have e2 : pv.b k = none := by simp [PEs.b, List.getD_eq_getElem?_getD, hv]
  refine .inl ⟨hm, ?_⟩
  rw [e1, e2]
  exact h4
/-- An operation that makes a block. -/
theorem hops_new {o : Oper} {d : Nat} {v : AV} {b : Blk} (ho : ops[k]? = some o) (hm : ms.getD k true = true) (hv : pv[k]? = some (d, v, some b))
    (h : ∀ (nm : Nat → Nat) (hp : List Blk), oldOk hp 0 st0.hp → newOk hp nm o 0 pv → st0.hp.length ≤ hp.length →
      opA P n0 o.op (evP (plName st0.hp.length nm) st0.tm pv) hp (Cn (fun w hp' kb => kb = none ∧ w = ren (plName st0.hp.length (upd nm k hp.length)) v ∧ hp' = hp ++ [b]) .mk))
    (hr : HopsFrom P n0 ops ms st0 pv (k + 1) n) : HopsFrom P n0 ops ms st0 pv k (n + 1) := by
  refine ⟨fun o' ho' nm hp h1 h2 h3 => ?_, hr⟩
  rw [ho] at ho'
  cases ho'
  have h4 := h nm hp h1 h2 h3
  have e1 : pv.v k = v := by simp [PEs.v, List.getD_eq_getElem?_getD, hv]
  have e2 : pv.b k = some b := by simp [PEs.b, List.getD_eq_getElem?_getD, hv]
  refine .inl ⟨hm, ?_⟩
  rw [e1, e2]
  exact h4
end
/-- A slice of no elements that is not nil: as nil, but for the comparison with nil. -/
theorem Yields.bare2 {o : Oper} {f : Operand → AV} {hp : List Blk} {t e : TypeId} (ho : o.op = .buildSlice t 0 #[]) (hd : P.underlying t = some (.slice e)) (hpos : 0 < P.cellsOf e) : Yields P o f hp .nils := by
  intro E g H hr hcst
  have run : (Instr.buildSlice t 0 #[]).run P E.w = .ok (.slice (some ⟨E.w.heap.size, 0, none⟩) 0 0) { E.w with heap := E.w.heap.push (.cells #[] e) } := by
    have hc : ¬ (0 : Nat) > 2 ^ 24 := by omega
    simp only [Instr.buildSlice, Sem.run_bind, run_underlying' hd, Result.andThen_ok, run_sizeOf_pos hpos, Nat.zero_mul, hc, if_false, if_true, Sem.run_pure]
    have e0 : (Array.map (fun x => (#[] : Array Value)[x % (#[] : Array Value).size]!) (Array.range 0)) = #[] := by simp
    rw [e0]
    rfl
  have old : ∀ c, c < E.w.heap.size → (E.w.heap.push (.cells #[] e))[c]? = E.w.heap[c]? := fun c hc => by
    rw [Array.getElem?_push]
    simp [show c ≠ E.w.heap.size from by omega]
  let E2 : Env P := { E with w := { E.w with heap := E.w.heap.push (.cells #[] e) } }
  have le : E.le E2 := ⟨fun _ h => h, fun c hc => old c (H.old c hc), Nat.le_refl _, fun _ _ => rfl, fun _ _ => rfl, fun c => csz_push E.w _ c⟩
  have H2 : HRel E2 hp := by
    refine ⟨H.N, H.wd, fun b blk hb hl => ?_, H.inj, H.apart, fun c hc => by have := H.old c hc; simp [E2]; omega, H.laidLe le⟩
    obtain ⟨cs, h1, h2⟩ := (H.holds b blk hb hl).cells
    refine ⟨cs, ?_, fun i e he => ⟨(h2 i e he).1, fun j x hx => ?_⟩⟩
    · show Row (E.w.heap.push (.cells #[] e))[E.ρ b]? _ _
      rw [old _ (Row.lt h1)]
      exact h1
    · obtain ⟨v, h3, h4⟩ := (h2 i e he).2 j x hx
      exact ⟨v, h3, h4.mono le⟩
  have F2 : Fr E hp E2 hp :=
    { size := by simp [E2], os := rfl, tape := rfl, output := rfl, block := fun c hc _ => old c hc, len := Nat.le_refl _, ρ := fun _ _ => rfl, wd := fun _ _ => rfl, F := fun _ h => h, F' := fun c h => .inl h
      live := fun b hb => .inl ⟨by obtain ⟨blk, h1, _⟩ := hb; exact (List.getElem?_eq_some_iff.1 h1).1, hb⟩, csz := fun c => csz_push E.w _ c }
  unfold Runs
  have hx : (execOp g o).run P E.w = .ok (.value (.slice (some ⟨E.w.heap.size, 0, none⟩) 0 0)) { E.w with heap := E.w.heap.push (.cells #[] e) } := by
    simp only [execOp, ho]
    simp [Sem.run_bind, run]
  rw [hx]
  exact ⟨E2, rfl, .nils _, H2, F2, le⟩
theorem hops_bare {ops : List Oper} {ms : List Bool} {st0 : St} {pv : PEs} {k n : Nat} {o : Oper} {d : Nat} {ty e : TypeId} (ho : ops[k]? = some o) (hm : ms.getD k true = false) (hv : pv[k]? = some (d, .nils, none))
    (hop : o.op = .buildSlice ty 0 #[]) (hd : P.underlying ty = some (.slice e)) (hpos : 0 < P.cellsOf e)
    (hr : HopsFrom P n0 ops ms st0 pv (k + 1) n) : HopsFrom P n0 ops ms st0 pv k (n + 1) := by
  refine ⟨fun o' ho' nm hp h1 h2 h3 => ?_, hr⟩
  rw [ho] at ho'
  cases ho'
  have e1 : pv.v k = .nils := by simp [PEs.v, List.getD_eq_getElem?_getD, hv]
  have e2 : pv.b k = none := by simp [PEs.b, List.getD_eq_getElem?_getD, hv]
  refine .inr ⟨hm, e2, ?_⟩
  rw [e1]
  exact Yields.bare2 hop hd hpos
end
end Go.Abs
/- The abstract layer, part ZB: a call that reads known blocks; what it makes is told as lists that nobody writes any more. -/
set_option linter.unusedSimpArgs false
set_option linter.unusedVariables false
namespace Go.Abs
open Go
variable {P : Program}
theorem view_tup (d : Nat) (hp : List Blk) (l : List AV) : view (d + 1) hp (.tup l) = .tup (l.map (view d hp)) := rfl
theorem view_ptr (d : Nat) (hp : List Blk) (b i j : Nat) : view (d + 1) hp (.ptr b i j) = match hp[b]? with
  | some blk => if blk.live then (match blk.els[i]? with
    | some e => .rop ((e.cells.drop j).map (view d hp))
    | none => .any) else .any
  | none => .any := rfl
section
variable {P : Program}
theorem freeze_many {E E' : Env P} {hp new : List Blk} (H : HRel E hp) (H' : HRel E' (hp ++ new)) (F' : Fr E hp E' (hp ++ new)) (hf : ∀ q ∈ new, allBelow 0 q.els = true) (hflat : ∀ b ∈ hp, allBelow hp.length b.els = true)
    (d : Nat) (r0 : AV) (hb : below new.length r0 = true) (v : Value) (hv : RV E' (ren (fun i => i + hp.length) r0) v) :
    ∃ E2 : Env P, E2.w = E'.w ∧ RV E2 (view d new r0) v ∧ HRel E2 hp ∧ Fr E hp E2 hp ∧ E.le E2 := by
  have hlt : ∀ (b : Nat) blk, hp[b]? = some blk → b < hp.length ∧ (hp ++ new)[b]? = some blk := fun b blk h => by
    have := (List.getElem?_eq_some_iff.1 h).1
    exact ⟨this, by rw [List.getElem?_append_left this]; exact h⟩
  have hnew : ∀ (b : Nat) blk, new[b]? = some blk → (hp ++ new)[b + hp.length]? = some blk := fun b blk h => by
    rw [List.getElem?_append_right (by omega), show b + hp.length - hp.length = b from by omega]; exact h
  let En : Env P := E'.ren new.length fun i => i + hp.length
  have Hn : HRel En new := by
    refine ⟨rfl, fun b blk h => H'.wd _ blk (hnew b blk h), ?_, ?_, fun b blk h hl hF => H'.apart _ blk (hnew b blk h) hl hF, H'.old, H'.laid⟩
    · intro b blk h hl
      obtain ⟨cs, h1, h2⟩ := (H'.holds _ blk (hnew b blk h) hl).cells
      refine ⟨cs, h1, fun i e he => ⟨(h2 i e he).1, fun j x hx => ?_⟩⟩
      obtain ⟨u, h3, h4⟩ := (h2 i e he).2 j x hx
      refine ⟨u, h3, ?_⟩
      have hbe : below 0 e = true := by
        have := hf blk (List.mem_of_getElem? h)
        simp only [allBelow, List.all_eq_true] at this
        exact this e (List.mem_of_getElem? he)
      obtain ⟨_, h5⟩ := ren_cells (π := fun b => b) (below_mono0 (N := 0) (fun b => b) e hbe).1
      obtain ⟨c', h6, h7⟩ := h5 j x hx
      rw [ren_id 0 hbe, hx] at h6
      cases h6
      exact (h7 h4).mono ⟨fun _ h => h, fun _ _ => rfl, Nat.zero_le _, fun _ hb => absurd hb (Nat.not_lt_zero _), fun _ hb => absurd hb (Nat.not_lt_zero _), fun _ => Nat.le_refl _⟩
    · intro b b' blk blk' h1 h2 h3 h4 h5
      have := H'.inj _ _ blk blk' (hnew _ _ h1) h2 (hnew _ _ h3) h4 h5
      omega
  let E2 : Env P := { E' with F := fun c => E'.F c ∨ ∃ b, Live new b ∧ E'.ρ (b + hp.length) = c, N := hp.length }
  have leN : (E'.ren hp.length fun b => b).le E2 := ⟨fun _ h => .inl h, fun _ _ => rfl, Nat.le_refl _, fun _ _ => rfl, fun _ _ => rfl, fun _ => Nat.le_refl _⟩
  have H2 : HRel E2 hp := by
    refine ⟨rfl, fun b blk h => H'.wd b blk (hlt b blk h).2, ?_, ?_, ?_, ?_, H'.laid.keep (fun c h => .inl h) (fun _ _ => rfl)⟩
    · intro b blk h hlv
      obtain ⟨cs, h1, h2⟩ := (H'.holds b blk (hlt b blk h).2 hlv).cells
      refine ⟨cs, h1, fun i e he => ⟨(h2 i e he).1, fun j x hx => ?_⟩⟩
      obtain ⟨u, h3, h4⟩ := (h2 i e he).2 j x hx
      refine ⟨u, h3, ?_⟩
      have hbe : below hp.length e = true := by
        have := hflat blk (List.mem_of_getElem? h)
        simp only [allBelow, List.all_eq_true] at this
        exact this e (List.mem_of_getElem? he)
      obtain ⟨_, h5⟩ := ren_cells (π := fun b => b) hbe
      obtain ⟨c', h6, h7⟩ := h5 j x hx
      rw [ren_id _ hbe, hx] at h6
      cases h6
      exact (h7 h4).mono leN
    · intro b b' blk blk' h1 h2 h3 h4 h5
      exact H'.inj b b' blk blk' (hlt _ _ h1).2 h2 (hlt _ _ h3).2 h4 h5
    · intro b blk h hlv hF
      rcases hF with h1 | ⟨b', ⟨q, hq, hl⟩, h1⟩
      · exact H'.apart b blk (hlt b blk h).2 hlv h1
      · have := H'.inj b (b' + hp.length) blk q (hlt b blk h).2 hlv (hnew b' q hq) hl h1.symm
        have := (hlt b blk h).1
        omega
    · rintro c (h | ⟨b', ⟨q, hq, hl⟩, rfl⟩)
      · exact H'.old c h
      · obtain ⟨cs, h1, _⟩ := (H'.holds _ q (hnew b' q hq) hl).cells
        exact (Row.lt h1)
  have F2 : Fr E hp E2 hp :=
    { size := F'.size, os := F'.os, tape := F'.tape, output := F'.output, block := F'.block, len := Nat.le_refl _, ρ := F'.ρ, wd := F'.wd, csz := F'.csz
      F := fun c h => .inl (F'.F c h)
      F' := fun c hc => by
        rcases hc with h | ⟨b', ⟨q, hq, hl⟩, rfl⟩
        · exact F'.F' c h
        · rcases F'.live (b' + hp.length) ⟨q, hnew b' q hq, hl⟩ with ⟨h1, _⟩ | ⟨_, h2⟩
          · exact absurd h1 (by omega)
          · exact .inr h2
      live := fun b ⟨blk, h, hlv⟩ => .inl ⟨(hlt b blk h).1, blk, h, hlv⟩ }
  refine ⟨E2, rfl, ?_, H2, F2, F2.le H H2⟩
  have h1 := RV.unren (E := E') (N := new.length) (π := fun i => i + hp.length) hb hv
  have h2 := (view_sound Hn d r0).1 v h1
  refine h2.mono ⟨fun c hc => ?_, fun _ _ => rfl, Nat.zero_le _, fun _ hb => absurd hb (Nat.not_lt_zero _), fun _ hb => absurd hb (Nat.not_lt_zero _), fun _ => Nat.le_refl _⟩
  rcases hc with h | ⟨b, hl, rfl⟩
  · exact .inl h
  · exact .inr ⟨b, hl, rfl⟩

/-- A call that reads known blocks and makes new ones: these are told as lists that nobody writes. -/
theorem CallA.lentFrozen {f : FuncId} {args : List AV} {hp : List Blk} (d d' : Nat) {r r2 : AV} {new : List Blk} {args' : List AV} (hv : args.map (view d hp) = args') (h : CallA P f args' [] (Ret r new)) (hc : clean r = true) (hn : new.all cleanB = true)
    (hf : ∀ q ∈ new, allBelow 0 q.els = true) (hflat : ∀ b ∈ hp, allBelow hp.length b.els = true) (hb : below new.length r = true) (hr : view d' new r = r2) : CallA P f args hp (Ret r2 hp) := by
  have h1 : CallA P f args hp (Ret (ren (fun b => b + hp.length) r) (hp ++ new)) := by
    refine CallA.borrow d ?_
    rw [hv]
    refine h.mono ?_
    rintro r' hp' ⟨rfl, rfl⟩
    exact ⟨⟨hc, hn⟩, rfl, joinHp_flat hf⟩
  intro E vs H hl hrv
  refine (h1 E vs H hl hrv).mono ?_
  rintro v w' ⟨r', hp', E', rfl, ⟨rfl, rfl⟩, hv', H', F'⟩
  obtain ⟨E2, e1, e2, e3, e4, _⟩ := freeze_many H H' F' hf hflat d' r hb v hv'
  exact ⟨r2, hp, E2, e1, ⟨rfl, rfl⟩, hr ▸ e2, e3, e4⟩
theorem call_lent_frozen {f : FuncId} {args : List AV} {hp : List Blk} {Q : AV → List Blk → Prop} {t : Tok Q} (d d' : Nat) {r r2 : AV} {new : List Blk} {args' : List AV} (hv : args.map (view d hp) = args') (h : CallA P f args' [] (Ret r new)) (hc : clean r = true) (hn : new.all cleanB = true)
    (hf : ∀ q ∈ new, allBelow 0 q.els = true) (hflat : ∀ b ∈ hp, allBelow hp.length b.els = true) (hb : below new.length r = true) (hr : view d' new r = r2) (hQ : Q r2 hp) : CallP P f args hp Q t :=
  call_at ((CallA.lentFrozen d d' hv h hc hn hf hflat hb hr).mono (by rintro r' hp' ⟨rfl, rfl⟩; exact hQ))
end
end Go.Abs
/- The abstract layer, part ZD: the library's sort, by the kit's contract. -/
set_option linter.unusedSimpArgs false
set_option linter.unusedVariables false
namespace Go.Abs
open Go
variable {P : Program}

/-- The world with more blocks. -/
theorem HRel.extend {E : Env P} {hp : List Blk} (H : HRel E hp) {w' : World} (hs : E.w.heap.size ≤ w'.heap.size) (hh : ∀ c, c < E.w.heap.size → w'.heap[c]? = E.w.heap[c]?) (h1 : w'.os = E.w.os) (h2 : w'.tape = E.w.tape) (h3 : w'.output = E.w.output) :
    HRel (E.with w') hp ∧ (∀ {E0 : Env P} {hp0 : List Blk}, Fr E0 hp0 E hp → Fr E0 hp0 (E.with w') hp) ∧ E.le (E.with w') := by
  have hcsz : ∀ c, csz E.w c ≤ csz w' c := fun c => by
    by_cases hc : c < E.w.heap.size
    · unfold csz; rw [hh c hc]; exact Nat.le_refl _
    · unfold csz
      rw [Array.getElem?_eq_none (by omega)]
      exact Nat.zero_le _
  have le : E.le (E.with w') := ⟨fun _ h => h, fun c hc => hh c (H.old c hc), Nat.le_refl _, fun _ _ => rfl, fun _ _ => rfl, hcsz⟩
  refine ⟨⟨H.N, H.wd, fun b blk hb hl => ?_, H.inj, H.apart, fun c hc => Nat.lt_of_lt_of_le (H.old c hc) hs, H.laidLe le⟩, ?_, le⟩
  · obtain ⟨cs, h4, h5⟩ := (H.holds b blk hb hl).cells
    refine ⟨cs, ?_, fun i e he => ⟨(h5 i e he).1, fun j x hx => ?_⟩⟩
    · show Row w'.heap[E.ρ b]? _ _
      rw [hh _ (Row.lt h4)]
      exact h4
    · obtain ⟨v, h6, h7⟩ := (h5 i e he).2 j x hx
      exact ⟨v, h6, h7.mono le⟩
  · intro E0 hp0 F
    exact { size := Nat.le_trans F.size hs, os := h1.trans F.os, tape := h2.trans F.tape, output := h3.trans F.output
            block := fun c hc hn => by
              show w'.heap[c]? = _
              rw [hh c (Nat.lt_of_lt_of_le hc F.size)]
              exact F.block c hc hn
            len := F.len, ρ := F.ρ, wd := F.wd, F := F.F, F' := F.F', live := F.live, csz := fun c => Nat.le_trans (F.csz c) (hcsz c) }

def sortI (zs : List Int) : List Int := zs.mergeSort fun x y => decide (x ≤ y)
theorem sortI_len (zs : List Int) : (sortI zs).length = zs.length := by simp [sortI]

/-- The library's sort of a list of integers that is known. -/
theorem sort_call {P : Program} {f : FuncId} {e : TypeId} {zs : List Int} (hgo : isGo P f)
    (h : ∀ (blk off cap : Nat) (w : World), Sort.Holds (Value.int .i64) w blk off zs.toArray → blk < w.heap.size → Calls P f #[.slice (some ⟨blk, off, none⟩) zs.length cap] w fun ex w' =>
      ex = .returned (.tuple #[]) ∧ ∃ n os, w' = Sort.grow (Sort.putRow (Value.int .i64) (Sort.ahead w n) blk off (zs.mergeSort fun x y => decide (x ≤ y)).toArray) os) :
    CallA P f [.sl 0 0 zs.length] [{ ty := e, w := 1, els := ints zs }] (Ret (.tup []) [{ ty := e, w := 1, els := ints (sortI zs) }]) := by
  intro E vs H hl hrv
  obtain ⟨v, rfl, hv⟩ := RV.one hl hrv
  have hv := hv
  cases hv with
  | sl _ _ _ off cap hb ho hcap hmax hroom =>
    obtain ⟨cs, hc1, hc2⟩ := (H.holds 0 _ rfl rfl).cells
    have hwd : E.wd 0 = 1 := H.wd 0 _ rfl
    have hoff : 0 < zs.length → off = 0 := fun hp => by have := ho (by omega); omega
    have hget : ∀ (i : Nat) (hi : i < zs.length), cs[i]? = some (.int .i64 zs[i]) := by
      intro i hi
      have he : (ints zs)[i]? = some (.int .i64 zs[i]) := by simp [ints, hi]
      obtain ⟨u, h3, h4⟩ := (hc2 i _ he).2 0 _ rfl
      cases h4
      simpa using h3
    have hlen : zs.length ≤ cs.size := by
      by_cases hz : zs.length = 0
      · omega
      · have := hget (zs.length - 1) (by omega)
        have := (Array.getElem?_eq_some_iff.1 this).1
        omega
    have hblk : E.ρ 0 < E.w.heap.size := Row.lt hc1
    have hH : Sort.Holds (Value.int .i64) E.w (E.ρ 0) off zs.toArray := by
      by_cases hz : zs.length = 0
      · intro j hj
        simp [hz] at hj
      · intro j hj
        have hj' : j < zs.length := by simpa using hj
        rw [hoff (by omega), Nat.zero_add, hc1.cell, hc1.frozen j (by omega), hget j hj']
        simp [hj']
    refine .inl ⟨hgo, (h (E.ρ 0) off cap E.w hH hblk).mono ?_⟩
    rintro ex w' ⟨rfl, n, os, rfl⟩
    refine ⟨_, rfl, .tup [], [{ ty := e, w := 1, els := ints (sortI zs) }], E.with _, rfl, ⟨rfl, rfl⟩, .tup [] #[] rfl (fun i a v h => by simp at h), ?_⟩
    let new := Sort.putCells (Value.int .i64) off (sortI zs).toArray cs
    have hnew : new.size = cs.size := by simp [new, Sort.putCells]
    have hel : EA E 1 (ints (sortI zs)) new := by
      intro i a ha
      have hi : i < zs.length := by
        have := (List.getElem?_eq_some_iff.1 ha).1
        simpa [ints, sortI_len] using this
      have ea : a = .int .i64 ((sortI zs)[i]'(by rw [sortI_len]; exact hi)) := by
        have : (ints (sortI zs))[i]? = some (.int .i64 ((sortI zs)[i]'(by rw [sortI_len]; exact hi))) := by simp [ints, sortI_len, hi]
        rw [this] at ha
        exact (Option.some.inj ha).symm
      subst ea
      refine ⟨rfl, fun j x hx => ?_⟩
      have hj : j = 0 := by
        have := (List.getElem?_eq_some_iff.1 hx).1
        simp [AV.cells] at this
        exact this
      subst hj
      have hx' : x = .int .i64 ((sortI zs)[i]'(by rw [sortI_len]; exact hi)) := by simpa [AV.cells] using hx.symm
      subst hx'
      refine ⟨_, ?_, .int .i64 _⟩
      have h0 : off = 0 := hoff (by omega)
      simp only [new, Sort.putCells, Array.getElem?_mapIdx, Nat.mul_one, Nat.add_zero]
      rw [Array.getElem?_eq_getElem (show i < cs.size from by omega), Option.map_some, if_pos (by simp [h0, sortI_len]; omega)]
      simp [h0, sortI_len, hi]
    obtain ⟨H1, F1, le1⟩ := write_block (b := 0) H (Fr.refl E _) rfl rfl (ints (sortI zs)) cs new hc1 hnew hel
    obtain ⟨fr, hc1, _⟩ := hc1
    have hw : ∀ c, c < E.w.heap.size → (Sort.grow (Sort.putRow (Value.int .i64) (Sort.ahead E.w n) (E.ρ 0) off (sortI zs).toArray) os).heap[c]? = (E.w.setRow (E.ρ 0) new).heap[c]? := by
      intro c hc
      rw [Sort.heap_grow_old _ _ (by simpa using hc), setRow_get _ _ _ _ _ _ _ hc1]
      by_cases hcc : c = E.ρ 0
      · subst hcc
        rw [if_pos rfl]
        simp [Sort.putRow, Sort.mapBlock, Sort.ahead, Array.getElem?_modify, hc1, Sort.onCells, new]
      · rw [if_neg hcc]
        have : E.ρ 0 ≠ c := fun e => hcc e.symm
        simp [Sort.putRow, Sort.mapBlock, Sort.ahead, Array.getElem?_modify, this]
    have hsz1 : (E.w.setRow (E.ρ 0) new).heap.size = E.w.heap.size := by simp [World.setRow]
    obtain ⟨H2, F2, _⟩ := H1.extend (w' := Sort.grow (Sort.putRow (Value.int .i64) (Sort.ahead E.w n) (E.ρ 0) off (sortI zs).toArray) os) (by
      show (E.w.setRow (E.ρ 0) new).heap.size ≤ _
      rw [hsz1]; simp [Sort.putRow, Sort.mapBlock, Sort.ahead]) (fun c hc => hw c (by rw [← hsz1]; exact hc)) rfl rfl rfl
    exact ⟨H2, F2 F1⟩
end Go.Abs
/- The abstract layer, part ZE: numerals by the kit's contract; bytes; places in strings. -/
set_option linter.unusedSimpArgs false
set_option linter.unusedVariables false
namespace Go.Abs
open Go Go.RowKit
variable {P : Program}

/-- A laid table, as the kit's contracts ask for it. -/
theorem HRel.table {E : Env P} {hp : List Blk} (H : HRel E hp) {n : String} {k : IntKind} {zs : List Int} (ht : (n, k, zs) ∈ tables) {g : Nat} (hg : P.globalNamed n = some g) : Lib.TabIs P E.w n k zs := by
  obtain ⟨_, ty, fr, h⟩ := H.laid.1 _ ht g hg
  simp only [Lib.TabIs, World.var?, hg, Option.bind_some, h]

/-- A decimal numeral, by the library. -/
theorem itoa_call {f : FuncId} (hg : (P.globalNamed "internal/strconv.uint64pow10").isSome = true) (hgo : isGo P f) (n : Int)
    (h : ∀ w : World, Lib.TabIs P w "internal/strconv.uint64pow10" .u64 Lib.pow10Tab → Calls P f #[.int .i64 n, .int .i64 10] w fun e w' => e = .returned (.string ⟨(Lib.itoa n).toArray⟩) ∧ ∃ k os, w' = Sort.grow (w.drewN k) os) :
    CallA P f [.int .i64 n, .int .i64 10] [] (Ret (.str (Lib.itoa n)) []) := by
  intro E vs H hl hrv
  obtain ⟨g, hg⟩ := Option.isSome_iff_exists.1 hg
  obtain ⟨v, u, rfl, hv, hu⟩ := RV.two hl hrv
  cases hv
  cases hu
  refine .inl ⟨hgo, (h E.w (H.table (by simp [tables]) hg)).mono ?_⟩
  rintro ex w' ⟨rfl, k, os, rfl⟩
  have hh : (E.w.drewN k).heap = E.w.heap := rfl
  obtain ⟨H2, F2, _⟩ := H.extend (w' := Sort.grow (E.w.drewN k) os) (by simp [Sort.grow, World.drewN]) (fun c hc => by rw [Sort.heap_grow_old _ _ (by rw [hh]; exact hc), hh]) rfl rfl rfl
  exact ⟨_, rfl, .str _, [], E.with _, rfl, ⟨rfl, rfl⟩, .str _, H2, F2 (Fr.refl E _)⟩

/-! ### Bytes as elements -/
theorem byts_len (l : List UInt8) : (byts l).length = l.length := by simp [byts]
theorem byts_app (l r : List UInt8) : byts (l ++ r) = byts l ++ byts r := by simp [byts]
theorem byts_cons (x : UInt8) (l : List UInt8) : AV.int .u8 (x.toNat : Int) :: byts l = byts (x :: l) := rfl
theorem byts_below (n : Nat) : ∀ l : List UInt8, allBelow n (byts l) = true
  | [] => rfl
  | x :: l => byts_below n l
theorem byts_kill (b : Nat) (l : List UInt8) : (byts l).map (kill b) = byts l := by
  unfold byts
  rw [List.map_map]
  exact List.map_congr_left fun x _ => rfl
theorem byts_ren (ρ : Nat → Nat) (l : List UInt8) : (byts l).map (ren ρ) = byts l := by
  unfold byts
  rw [List.map_map]
  exact List.map_congr_left fun x _ => rfl
theorem w8 {n : Int} (h0 : 0 ≤ n) (h1 : n ≤ 255) : IntKind.u8.wrap n = n := by
  unfold IntKind.wrap
  simp [IntKind.bits, IntKind.signed]
  omega
theorem take_byts (l : List UInt8) : (byts l).take l.length = byts l := List.take_of_length_le (by simp [byts_len])
theorem allW_byts (l : List UInt8) : AllW 1 (byts l) := by
  intro a ha
  obtain ⟨x, _, rfl⟩ := List.mem_map.1 ha
  exact ⟨rfl, rfl⟩

/-! ### The first place of a byte -/
/-- What stands ahead of and behind the first byte of a kind. -/
def firstAt (c : UInt8) : List UInt8 → Option (List UInt8 × List UInt8)
  | [] => none
  | x :: t => if x = c then some ([], t) else (firstAt c t).map fun p => (x :: p.1, p.2)
theorem firstAt_none {c : UInt8} : ∀ {s : List UInt8}, firstAt c s = none → Lib.indexByte s c = -1
  | [], _ => rfl
  | x :: t, h => by
    unfold firstAt at h
    by_cases e : x = c
    · rw [if_pos e] at h; cases h
    · rw [if_neg e] at h
      have := firstAt_none (s := t) (by simpa using h)
      unfold Lib.indexByte
      rw [if_neg (by simpa using e), this]
      rfl
theorem firstAt_some {c : UInt8} : ∀ {s a b : List UInt8}, firstAt c s = some (a, b) → Lib.indexByte s c = a.length ∧ s = a ++ c :: b ∧ c ∉ a
  | [], _, _, h => by cases h
  | x :: t, a, b, h => by
    unfold firstAt at h
    by_cases e : x = c
    · rw [if_pos e] at h
      cases h
      subst e
      exact ⟨by simp [Lib.indexByte], rfl, by simp⟩
    · rw [if_neg e] at h
      simp only [Option.map_eq_some_iff] at h
      obtain ⟨⟨a', b'⟩, h1, h2⟩ := h
      cases h2
      obtain ⟨h3, h4, h5⟩ := firstAt_some h1
      refine ⟨?_, by rw [h4]; rfl, by simp [h5, Ne.symm e]⟩
      unfold Lib.indexByte
      rw [if_neg (by simpa using e), h3, if_neg (by simp)]
      simp
theorem firstAt_take {c : UInt8} {s a b : List UInt8} (h : firstAt c s = some (a, b)) : s.take a.length = a ∧ s.drop (a.length + 1) = b ∧ s.length = a.length + 1 + b.length := by
  obtain ⟨_, h1, _⟩ := firstAt_some h
  rw [h1]
  refine ⟨by simp, ?_, by simp; omega⟩
  rw [show a ++ c :: b = (a ++ [c]) ++ b from by simp, List.drop_append_of_le_length (by simp)]
  simp
/-- The pieces of a text, one after another. -/
theorem cutA_nil (c : UInt8) (acc : List UInt8) : cutA c acc [] = [acc] := rfl
theorem cutA_cons (c : UInt8) (acc : List UInt8) (x : UInt8) (s : List UInt8) : cutA c acc (x :: s) = if x = c then acc :: cutA c [] s else cutA c (acc ++ [x]) s := rfl
theorem cutA_first (c : UInt8) : ∀ (s acc : List UInt8), cutA c acc s = match firstAt c s with
    | none => [acc ++ s]
    | some (a, b) => (acc ++ a) :: cutA c [] b
  | [], acc => by simp [cutA_nil, firstAt]
  | x :: t, acc => by
    rw [cutA_cons]
    by_cases e : x = c
    · rw [if_pos e]
      simp only [firstAt, if_pos e, List.append_nil]
    · rw [if_neg e, cutA_first c t (acc ++ [x])]
      simp only [firstAt, if_neg e]
      cases firstAt c t with
      | none => simp only [Option.map_none, List.append_assoc]; rfl
      | some p => simp only [Option.map_some, List.append_assoc]; rfl
/-- The library's join of a list of strings. -/
theorem join_call {f : FuncId} (hgo : isGo P f) (sep : List UInt8) (xs : List (List UInt8))
    (hnone : ∀ (a : Option Addr) (c : Nat) (w : World), Calls P f #[.slice a 0 c, .string ⟨sep.toArray⟩] w fun e w' => e = .returned (.string ⟨#[]⟩) ∧ w' = w)
    (h : ∀ (bk o c : Nat) (w : World), (∀ (j : Nat) x, xs[j]? = some x → w.cell? ⟨bk, o + j, none⟩ = some (.string ⟨x.toArray⟩)) → bk < w.heap.size → xs.length ≤ c →
      Calls P f #[.slice (some ⟨bk, o, none⟩) xs.length c, .string ⟨sep.toArray⟩] w fun e w' => e = .returned (.string ⟨(Lib.join xs sep).toArray⟩) ∧ Below w.heap.size w w') :
    CallA P f [.ro (strs xs), .str sep] [] (Ret (.str (Lib.join xs sep)) []) := by
  intro E vs H hl hrv
  obtain ⟨v, u, rfl, hv, hu⟩ := RV.two hl hrv
  cases hu
  generalize hs : strs xs = l at hv
  cases hv with
  | roNil a cap =>
    have : xs = [] := by cases xs with | nil => rfl | cons _ _ => simp [strs] at hs
    subst this
    refine .inl ⟨hgo, (hnone a cap E.w).mono ?_⟩
    rintro ex w' ⟨rfl, rfl⟩
    exact ⟨_, rfl, .str [], [], E, rfl, ⟨rfl, rfl⟩, .str [], H, Fr.refl E _⟩
  | ro _ b off cap wd val hF hcap hmax hw hc hv =>
    subst hs
    have hlen : (strs xs).length = xs.length := strs_len xs
    refine .inl ⟨hgo, ?_⟩
    rw [hlen]
    refine (h b off cap E.w (fun j x hx => ?_) (H.old _ hF) (by omega)).mono ?_
    · have g1 : (strs xs)[j]? = some (.str x) := by simp [strs, hx]
      have hwd : wd = 1 := by have := hw j _ g1; simpa [AV.cells] using this.symm
      have g2 := hc j _ g1 0 _ rfl
      have g3 := hv j _ g1 0 _ rfl
      rw [hwd] at g2
      generalize val j 0 = vv at g2 g3
      cases g3
      simpa using g2
    · rintro ex w' ⟨rfl, bel⟩
      obtain ⟨H2, F2, _⟩ := H.extend (w' := w') bel.size bel.block bel.os bel.tape bel.output
      exact ⟨_, rfl, .str _, [], E.with _, rfl, ⟨rfl, rfl⟩, .str _, H2, F2 (Fr.refl E _)⟩
/-- No variable of those is in the program. -/
theorem none_of {L : List String} (he : (L.all fun n => (P.globalNamed n).isNone) = true) {n : String} (hn : n ∈ L) {g : Nat} (hg : P.globalNamed n = some g) : False := by
  have := List.all_eq_true.1 he n hn
  rw [hg] at this
  cases this
/-- The tables, the errors and the integers as a row and the world's shape lay them. -/
theorem laid_of_tabs {w : World} (h : ∀ t ∈ tables, (P.globalNamed t.1).isSome = true → Lib.TabIs P w t.1 t.2.1 t.2.2) (he : ∀ n ∈ errs, (P.globalNamed n).isSome = true → ∃ v, w.var? P n = some #[v] ∧ isErr v)
    (hi : ∀ n ∈ intVars, ∀ g, P.globalNamed n = some g → ∃ m, w.cell? ⟨g, 0, none⟩ = some (.int .i64 m)) : Laid P w fun c => c < w.heap.size := by
  refine ⟨fun t ht g hg => ?_, fun n hn g hg => ?_, fun n hn g hg => ?_⟩
  · have h1 := h t ht (by rw [hg]; rfl)
    simp only [Lib.TabIs, World.var?, hg, Option.bind_some] at h1
    split at h1
    · rename_i cs ty fr hx
      refine ⟨(Array.getElem?_eq_some_iff.1 hx).1, ty, fr, ?_⟩
      rw [hx]
      cases h1
      rfl
    · cases h1
  · obtain ⟨v, h1, h2⟩ := he n hn (by rw [hg]; rfl)
    simp only [World.var?, hg, Option.bind_some] at h1
    split at h1
    · rename_i cs ty fr hx
      refine ⟨(Array.getElem?_eq_some_iff.1 hx).1, v, ty, fr, ?_, h2⟩
      rw [hx]
      cases h1
      rfl
    · cases h1
  · obtain ⟨m, h1⟩ := hi n hn g hg
    unfold World.cell? at h1
    split at h1
    · rename_i cs ty fr hx
      exact ⟨(Array.getElem?_eq_some_iff.1 hx).1, m, cs, ty, fr, hx, by simpa using h1⟩
    · cases h1
/-- What an error's variable holds. -/
theorem HRel.err {E : Env P} {hp : List Blk} (H : HRel E hp) {n : String} (hn : n ∈ errs) {g : Nat} (hg : P.globalNamed n = some g) : ∃ v, E.w.cell? ⟨g, 0, none⟩ = some v ∧ isErr v := by
  obtain ⟨_, v, ty, fr, h, h2⟩ := H.laid.2.1 _ hn g hg
  exact ⟨v, by simp [World.cell?, h], h2⟩
/-- What an integer's variable holds. -/
theorem HRel.intVar {E : Env P} {hp : List Blk} (H : HRel E hp) {n : String} (hn : n ∈ intVars) {g : Nat} (hg : P.globalNamed n = some g) : ∃ m, E.w.cell? ⟨g, 0, none⟩ = some (.int .i64 m) := by
  obtain ⟨_, m, cs, ty, fr, h, h2⟩ := H.laid.2.2 _ hn g hg
  exact ⟨m, by simp [World.cell?, h, h2]⟩
end Go.Abs
/- The abstract layer, part ZF: a block of the caller's is taken over: it is dead, and a new one lies in its place. -/
set_option linter.unusedSimpArgs false
set_option linter.unusedVariables false
namespace Go.Abs
open Go
variable {P : Program}

/-- As 'LeHp', but for dead blocks' names: a dead one may have another's. -/
structure LeHpW (N : Nat) (π : Nat → Nat) (n0 : Nat) (hp hp2 : List Blk) : Prop where
  len : hp2.length = N
  hn0 : n0 ≤ N
  low : ∀ b, b < n0 → π b = b
  inj : ∀ (b b' : Nat) r r', hp2[b]? = some r → r.live = true → hp2[b']? = some r' → r'.live = true → π b = π b' → b = b'
  blk : ∀ (b : Nat) r, hp2[b]? = some r → ∃ q, hp[π b]? = some q ∧ q.w = r.w ∧ (r.live = true → q.live = true ∧ q.ty = r.ty ∧ q.els = r.els.map (ren π) ∧ ∀ e ∈ r.els, below N e = true)
theorem LeHpW.sound {N : Nat} {π : Nat → Nat} {n0 : Nat} {hp hp2 : List Blk} (h : LeHpW N π n0 hp hp2) {E0 : Env P} {hp0 : List Blk} {E : Env P} (hn : hp0.length = n0) (H : HRel E hp) (F : Fr E0 hp0 E hp) : HRel (E.ren N π) hp2 ∧ Fr E0 hp0 (E.ren N π) hp2 := by
  have lt : ∀ (b : Nat) r, hp2[b]? = some r → b < N := fun b r hb => by rw [← h.len]; exact (List.getElem?_eq_some_iff.1 hb).1
  refine ⟨⟨h.len.symm, ?_, ?_, ?_, ?_, H.old, H.laid⟩, ?_⟩
  · intro b r hb
    obtain ⟨q, hq, hw, _⟩ := h.blk b r hb
    show E.wd (π b) = r.w
    rw [H.wd (π b) q hq, hw]
  · intro b r hb hl
    obtain ⟨q, hq, hw, hx⟩ := h.blk b r hb
    obtain ⟨hql, hty, hels, hbel⟩ := hx hl
    obtain ⟨cs, h1, h2⟩ := (H.holds (π b) q hq hql).cells
    refine ⟨cs, by rw [← hty]; exact h1, fun i e he => ?_⟩
    have hbe := hbel e (List.mem_of_getElem? he)
    obtain ⟨k1, k2⟩ := ren_cells (π := π) hbe
    have hqe : q.els[i]? = some (Abs.ren π e) := by rw [hels]; simp [he]
    obtain ⟨h3, h4⟩ := h2 i _ hqe
    refine ⟨by rw [← hw, ← h3, k1], fun j c hc => ?_⟩
    obtain ⟨c', hc', k3⟩ := k2 j c hc
    obtain ⟨v, h5, h6⟩ := h4 j c' hc'
    exact ⟨v, by rw [← hw]; exact h5, k3 h6⟩
  · intro b b' r r' hb hl hb' hl' he
    obtain ⟨q, hq, _, hx⟩ := h.blk b r hb
    obtain ⟨q', hq', _, hx'⟩ := h.blk b' r' hb'
    exact h.inj b b' r r' hb hl hb' hl' (H.inj (π b) (π b') q q' hq (hx hl).1 hq' (hx' hl').1 he)
  · intro b r hb hl
    obtain ⟨q, hq, _, hx⟩ := h.blk b r hb
    exact H.apart (π b) q hq (hx hl).1
  · exact {
      size := F.size
      os := F.os
      tape := F.tape
      output := F.output
      block := F.block
      len := by rw [hn, h.len]; exact h.hn0
      ρ := fun b hb => by show E.ρ (π b) = _; rw [h.low b (by omega)]; exact F.ρ b hb
      wd := fun b hb => by show E.wd (π b) = _; rw [h.low b (by omega)]; exact F.wd b hb
      F := F.F
      F' := F.F'
      live := fun b ⟨r, hb, hl⟩ => by
        obtain ⟨q, hq, _, hx⟩ := h.blk b r hb
        have hlive := F.live (π b) ⟨q, hq, (hx hl).1⟩
        by_cases hbn : b < n0
        · rw [h.low b hbn] at hlive
          rcases hlive with h1 | ⟨h1, _⟩
          · exact .inl h1
          · omega
        · rcases hlive with ⟨h1, h2⟩ | ⟨_, h2⟩
          · exact .inr ⟨by omega, .inr ⟨π b, h2, (F.ρ (π b) h1).symm⟩⟩
          · exact .inr ⟨by omega, h2⟩
      csz := F.csz }
theorem weak_renW {n0 : Nat} {st st2 : St} (N : Nat) (π : Nat → Nat) (ht : LeTm N π st.tm st2.tm) (hh : LeHpW N π n0 st.hp st2.hp) : Weak n0 st st2 := by
  intro _ E0 hp0 E a hn hs
  obtain ⟨H, F⟩ := hh.sound hn hs.hr hs.fr
  refine ⟨E.ren N π, rfl, H, F, ht.len.symm.trans hs.len, fun i v u h1 h2 => ?_, hs.df⟩
  obtain ⟨v0, h3, h4⟩ := ht.get i v h1
  rcases h4 with rfl | ⟨rfl, hb⟩
  · exact .any _
  · exact RV.unren hb (hs.tm i _ u h3 h2)
/-- A function that begins in a state of one's choice. -/
theorem call_taken {f : FuncId} {fn : Func} {c : Code} {md : Nat → List Bool} {args : List AV} {hp : List Blk} {Q : AV → List Blk → Prop} (hm : P.follows .mixedOrders = true) (hf : P.funcs[f]? = some fn) (hb : fn.body = some c) (hgo : isGo P f) (hok : modesOk md c = true)
    (st2 : St) (hw : Weak hp.length ⟨args ++ List.replicate (fn.ntmps - args.length) .any, hp⟩ st2) (h : V P md hp.length c (retQ P fn hp.length Q) .mk st2) : CallA P f args hp Q := by
  refine callA_code hf hb hgo ?_
  refine code_weak hw ?_
  rw [V_def] at h
  exact vc_sound hm c st2 _ hok h
end Go.Abs
