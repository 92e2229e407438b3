/- The abstract layer, part Z5: drawn regions in an order of one's choice; new blocks told as what nobody writes. -/
import Derived.Test.YtdhomifcjakbgaaDoorAbsZ4
set_option linter.unusedSimpArgs false
set_option linter.unusedVariables false
namespace Go.Abs
open Go
variable {P : Program}
theorem Cn_eq {g : AV → List Blk → Option Nat → Prop} {t : Tok g} : Cn g t = g := by delta Cn; rfl
section
variable {P : Program}

/-- A new block, told as what nobody writes. -/
theorem freeze_one {E E' : Env P} {hp : List Blk} {q : Blk} (H : HRel E hp) (H' : HRel E' (hp ++ [q])) (F' : Fr E hp E' (hp ++ [q])) (hl : q.live = true) (hf : allBelow 0 q.els = true) (hflat : ∀ b ∈ hp, allBelow hp.length b.els = true)
    (d : Nat) (r0 : AV) (hb : below 1 r0 = true) (v : Value) (hv : RV E' (ren (fun i => [hp.length].getD i 0) r0) v) :
    ∃ E2 : Env P, E2.w = E'.w ∧ RV E2 (view d [q] r0) v ∧ HRel E2 hp ∧ Fr E hp E2 hp ∧ E.le E2 := by
  have hq : (hp ++ [q])[hp.length]? = some q := by simp
  have hlt : ∀ (b : Nat) blk, hp[b]? = some blk → b < hp.length ∧ (hp ++ [q])[b]? = some blk := fun b blk h => by
    have := (List.getElem?_eq_some_iff.1 h).1
    exact ⟨this, by rw [List.getElem?_append_left this]; exact h⟩
  let E2 : Env P := { E' with F := fun c => E'.F c ∨ c = E'.ρ hp.length, N := hp.length }
  have leN : (E'.ren hp.length fun b => b).le E2 := ⟨fun _ h => .inl h, fun _ _ => rfl, Nat.le_refl _, fun _ _ => rfl, fun _ _ => rfl, fun _ => Nat.le_refl _⟩
  have H2 : HRel E2 hp := by
    refine ⟨rfl, fun b blk h => H'.wd b blk (hlt b blk h).2, ?_, ?_, ?_, ?_, H'.laid.keep (fun c h => .inl h) (fun _ _ => rfl)⟩
    · intro b blk h hlv
      obtain ⟨cs, h1, h2⟩ := (H'.holds b blk (hlt b blk h).2 hlv).cells
      refine ⟨cs, h1, fun i e he => ⟨(h2 i e he).1, fun j x hx => ?_⟩⟩
      obtain ⟨u, h3, h4⟩ := (h2 i e he).2 j x hx
      refine ⟨u, h3, ?_⟩
      have hbe : below hp.length e = true := by
        have := hflat blk (List.mem_of_getElem? h)
        simp only [allBelow, List.all_eq_true] at this
        exact this e (List.mem_of_getElem? he)
      obtain ⟨_, h5⟩ := ren_cells (π := fun b => b) hbe
      obtain ⟨c', h6, h7⟩ := h5 j x hx
      rw [ren_id _ hbe, hx] at h6
      cases h6
      exact (h7 h4).mono leN
    · intro b b' blk blk' h1 h2 h3 h4 h5
      exact H'.inj b b' blk blk' (hlt _ _ h1).2 h2 (hlt _ _ h3).2 h4 h5
    · intro b blk h hlv hF
      rcases hF with h1 | h1
      · exact H'.apart b blk (hlt b blk h).2 hlv h1
      · have := H'.inj b hp.length blk q (hlt b blk h).2 hlv hq hl h1
        have := (hlt b blk h).1
        omega
    · rintro c (h | rfl)
      · exact H'.old c h
      · obtain ⟨cs, h1, _⟩ := (H'.holds _ q hq hl).cells
        exact (Array.getElem?_eq_some_iff.1 h1).1
  have F2 : Fr E hp E2 hp :=
    { size := F'.size, os := F'.os, tape := F'.tape, output := F'.output, block := F'.block, len := Nat.le_refl _, ρ := F'.ρ, wd := F'.wd, csz := F'.csz
      F := fun c h => .inl (F'.F c h)
      F' := fun c hc => by
        rcases hc with h | rfl
        · exact F'.F' c h
        · rcases F'.live hp.length ⟨q, hq, hl⟩ with ⟨h1, _⟩ | ⟨_, h2⟩
          · exact absurd h1 (Nat.lt_irrefl _)
          · exact .inr h2
      live := fun b ⟨blk, h, hlv⟩ => .inl ⟨(hlt b blk h).1, blk, h, hlv⟩ }
  refine ⟨E2, rfl, ?_, H2, F2, F2.le H H2⟩
  have S : Sub [hp.length] (hp ++ [q]) [q] := SubF.sub (by simp) ⟨⟨hq, hf⟩, trivial⟩
  have Hq := S.hrel H'
  have h1 := RV.unren (E := E') (N := 1) (π := fun i => [hp.length].getD i 0) hb hv
  have h2 := (view_sound Hq d r0).1 v h1
  refine h2.mono ⟨fun c hc => ?_, fun _ _ => rfl, Nat.zero_le _, fun _ hb => absurd hb (Nat.not_lt_zero _), fun _ hb => absurd hb (Nat.not_lt_zero _), fun _ => Nat.le_refl _⟩
  rcases hc with h | ⟨b, ⟨bk, hbk, _⟩, rfl⟩
  · exact .inl h
  · have : b = 0 := by
      have := (List.getElem?_eq_some_iff.1 hbk).1
      simpa using this
    subst this
    exact .inr rfl

theorem Yields.fresh {o : Oper} {f : Operand → AV} {hp : List Blk} (q : Blk) (hl : q.live = true) (hf : allBelow 0 q.els = true) (hflat : ∀ b ∈ hp, allBelow hp.length b.els = true) (d : Nat) (r0 : AV) (hb : below 1 r0 = true)
    (h : opA P hp.length o.op f hp (fun v hp' kb => v = ren (fun i => [hp.length].getD i 0) r0 ∧ hp' = hp ++ [q] ∧ kb = none)) : Yields P o f hp (view d [q] r0) := by
  intro E g H hr hcst
  have := opA_sound (E0 := E) (hp0 := hp) H (Fr.refl E hp) hr hcst h
  unfold Runs at this ⊢
  have conv : ∀ u w', OpPost E E hp (fun v hp' kb => v = ren (fun i => [hp.length].getD i 0) r0 ∧ hp' = hp ++ [q] ∧ kb = none) u w' → ∃ E', E'.w = w' ∧ RV E' (view d [q] r0) u ∧ HRel E' hp ∧ Fr E hp E' hp ∧ E.le E' := by
    rintro u w' ⟨E', av, hp', kb, hl'⟩
    obtain ⟨rfl, rfl, rfl⟩ := hl'.k
    obtain ⟨E2, h1, h2, h3, h4, h5⟩ := freeze_one H hl'.hr hl'.fr hl hf hflat d r0 hb u hl'.rv
    exact ⟨E2, h1.trans hl'.w, h2, h3, h4, h5⟩
  split at this
  · exact conv _ _ this
  · exact conv _ _ this
  · exact this.mono fun e w'' ⟨v, he, hp⟩ => ⟨v, he, conv _ _ hp⟩
  · exact this.elim

/-- A slice of no elements is as nil, but for the comparison with nil. -/
theorem Yields.bare {o : Oper} {f : Operand → AV} {hp : List Blk} {t e : TypeId} (ho : o.op = .buildSlice t 0 #[]) (hd : P.underlying t = some (.slice e)) (hpos : 0 < P.cellsOf e) (hflat : ∀ b ∈ hp, allBelow hp.length b.els = true) : Yields P o f hp .nils := by
  intro E g H hr hcst
  have run : (Instr.buildSlice t 0 #[]).run P E.w = .ok (.slice (some ⟨E.w.heap.size, 0, none⟩) 0 0) { E.w with heap := E.w.heap.push (.cells #[] e) } := by
    have hc : ¬ (0 : Nat) > 2 ^ 24 := by omega
    simp only [Instr.buildSlice, Sem.run_bind, run_underlying' hd, Result.andThen_ok, run_sizeOf_pos hpos, Nat.zero_mul, hc, if_false, if_true, Sem.run_pure]
    have e0 : (Array.map (fun x => (#[] : Array Value)[x % (#[] : Array Value).size]!) (Array.range 0)) = #[] := by simp
    rw [e0]
    rfl
  obtain ⟨E', h1, h2, h3, h4, _⟩ := new_block H (Fr.refl E hp) { ty := e, w := P.cellsOf e, els := [], live := true } #[] rfl _ (Same.refl _) (fun i e he => by simp at he)
  obtain ⟨E2, k1, _, k2, k3, k4⟩ := freeze_one H h2 h3 rfl rfl hflat 0 .any rfl undef (.any _)
  unfold Runs
  have hx : (execOp g o).run P E.w = .ok (.value (.slice (some ⟨E.w.heap.size, 0, none⟩) 0 0)) { E.w with heap := E.w.heap.push (.cells #[] e) } := by
    simp only [execOp, ho]
    simp [Sem.run_bind, run]
  rw [hx]
  exact ⟨E2, k1.trans h1, .nils _, k2, k3, k4⟩

/-- The order and the modes are such that one walk serves all orders. -/
def freeZ (ops : Array Oper) (ms : List Bool) (listed : Array Bool) (k : Nat) : Bool :=
  match ops[k]? with
  | none => false
  | some o => lateOk ops listed k (lateOf ops listed k) && (List.range ops.size).all fun j =>
    j == k || listed.getD j true || (lateOf ops listed k).contains j ||
    match ops[j]? with
    | none => true
    | some oj => (oj.after.any fun e => Region.binds .any e && e.on == k) || (o.apart ops oj && !(ms.getD j true))
theorem freeZ_spec {ops : List Oper} {ms : List Bool} {listed : Array Bool} {k : Nat} {o : Oper} (hk : ops[k]? = some o) (h : freeZ ops.toArray ms listed k = true) : Free ops ms listed k o := by
  unfold freeZ at h
  have hk' : ops.toArray[k]? = some o := by simpa using hk
  rw [hk'] at h
  simp only [Bool.and_eq_true] at h
  refine ⟨_, lateOk_spec h.1, ?_⟩
  have h := h.2
  intro j oj hoj hjk hun hD hno
  simp only [List.all_eq_true, List.mem_range] at h
  have hj : j < ops.toArray.size := by
    have := (List.getElem?_eq_some_iff.1 hoj).1
    simpa using this
  have h1 := h j hj
  have hoj' : ops.toArray[j]? = some oj := by simpa using hoj
  rw [hoj', hun] at h1
  have hjk' : (j == k) = false := by simpa using hjk
  have hD' : (lateOf ops.toArray listed k).contains j = false := by simpa using hD
  rw [hjk', hD'] at h1
  simp only [Bool.false_or, Bool.or_eq_true, Bool.and_eq_true] at h1
  rcases h1 with h1 | ⟨h1, h2⟩
  · exfalso
    rw [Array.any_eq_true] at h1
    obtain ⟨m, hm, he⟩ := h1
    simp only [Bool.and_eq_true, beq_iff_eq] at he
    exact hno _ (Array.getElem_mem hm) he.1 he.2
  · exact ⟨h1, by simpa using h2⟩

def ordOk (ops : Array Oper) (ms : List Bool) : List Nat → Array Bool → Bool
  | [], listed => (Region.ready .any ops listed).isEmpty
  | k :: r, listed => (if ms.getD k true then Region.ready .any ops listed == [k] else (Region.ready .any ops listed).contains k && freeZ ops ms listed k) && ordOk ops ms r (listed.setIfInBounds k true)

/-- The operations one after another, in an order of one's choice. -/
def ordA (P : Program) (n0 : Nat) (ops : List Oper) (ms : List Bool) (K : St → Prop) : List Nat → St → Prop
  | [], st => K st
  | k :: r, st => ∃ o, ops[k]? = some o ∧ o.guard = none ∧
    if ms.getD k true then ∃ g : AV → List Blk → Option Nat → Prop, opA P n0 o.op st.ev st.hp g ∧ ∀ v hp' kb, g v hp' kb → ordA P n0 ops ms K r ((st.after hp' kb).put o.dst v)
    else ∃ v, Yields P o st.ev st.hp v ∧ ordA P n0 ops ms K r (st.put o.dst v)

theorem anyA_ord {n0 : Nat} {ops : List Oper} {ms : List Bool} {K : St → Prop} : ∀ (ord : List Nat) (listed : Array Bool) (st : St), ordOk ops.toArray ms ord listed = true → ordA P n0 ops ms K ord st → anyA P n0 ops ms K ord.length listed st
  | [], listed, st, hB, h => ⟨by simpa [ordOk] using hB, h⟩
  | k :: r, listed, st, hB, h => by
    obtain ⟨o, ho, hg, h⟩ := h
    simp only [ordOk, Bool.and_eq_true] at hB
    obtain ⟨hB1, hB2⟩ := hB
    have hw : wantedA ops o st = some true := by simp [wantedA, hg]
    cases hm : ms.getD k true with
    | true =>
      rw [hm] at hB1 h
      simp only [if_true, beq_iff_eq] at hB1 h
      refine ⟨fun h => (by rw [hB1] at h; cases h), fun i hi => ?_⟩
      rw [hB1] at hi
      have : i = k := by simpa using hi
      subst this
      unfold stepA
      simp only [ho, hm, if_true]
      obtain ⟨g, h1, h2⟩ := h
      exact .inl ⟨hw, g, h1, fun v hp' kb hv => anyA_ord r _ _ hB2 (h2 v hp' kb hv)⟩
    | false =>
      rw [hm] at hB1 h
      simp only [Bool.false_eq_true, if_false, Bool.and_eq_true] at hB1 h
      obtain ⟨hr, hf⟩ := hB1
      obtain ⟨v, hy, hK⟩ := h
      exact anyA_first ho hm r.length listed st (freeZ_spec ho hf) (by simpa using hr) (.inl ⟨hw, hy⟩) (anyA_ord r _ _ hB2 hK)

def Od (P : Program) (n0 : Nat) (ops : List Oper) (ms : List Bool) (K : St → Prop) (ord : List Nat) (_t : Tok (ops, ord, K)) (st : St) : Prop := ordA P n0 ops ms K ord st

/-- A region whose order is drawn, in an order of one's choice. -/
theorem go_order (hm : P.follows .mixedOrders = true) {n0 : Nat} {id : Nat} {ops : Array Oper} {Q : Ex → St → Prop} {st : St} {t} (ord : List Nat) (ms : List Bool)
    (hok : (ord.length == ops.size && ordOk ops ms ord (Array.replicate ops.size false)) = true) (h : Od P n0 ops.toList ms (Q .normal) ord .mk st) : Lp P n0 (.region id ops true) Q t st := by
  delta Lp
  simp only [Bool.and_eq_true, beq_iff_eq] at hok
  intro E0 hp0 E a hn hs
  subst hn
  have h1 := anyA_ord (P := P) (n0 := hp0.length) (ops := ops.toList) (ms := ms) (K := Q .normal) ord (Array.replicate ops.size false) st (by simpa using hok.2) h
  rw [hok.1] at h1
  refine wp_region_any hm ?_
  have hs' : SR E0 hp0 (E.with { E.w with drawn := E.w.drawn + 1 }) st a := ⟨hs.hr.with (Same.drew _ _), hs.fr.with (Same.drew _ _), hs.len, fun i v u a1 a2 => (hs.tm i v u a1 a2).mono (Env.le_with (Same.drew _ _)), hs.df⟩
  have h2 := anyA_sound (P := P) (Q := liftQ E0 hp0 Q) (fun E st a hs hk => ⟨.normal, st, E, rfl, rfl, hs, hk⟩) _ _ _ st a hs' h1
  rw [show ops.toList.toArray = ops from by simp] at h2
  exact h2

section
variable {n0 : Nat} {ops : List Oper} {ms : List Bool} {K : St → Prop} {k : Nat} {r : List Nat} {st : St} {t : Tok (ops, k :: r, K)} {o : Oper}
theorem od_nil {t : Tok (ops, ([] : List Nat), K)} (h : K st) : Od P n0 ops ms K [] t st := h
/-- The only one that may come next. -/
theorem od_one (ho : ops[k]? = some o) (hg : o.guard = none) (hm : ms.getD k true = true) (h : opA P n0 o.op st.ev st.hp (Cn (fun v hp' kb => Od P n0 ops ms K r .mk ((st.after hp' kb).put o.dst v)) .mk)) : Od P n0 ops ms K (k :: r) t st :=
  ⟨o, ho, hg, by rw [hm]; exact ⟨_, h, fun v hp' kb hv => by rw [Cn_go] at hv; exact hv⟩⟩
/-- One that makes and writes no memory. -/
theorem od_quiet (ho : ops[k]? = some o) (hg : o.guard = none) (hm : ms.getD k true = false) (h : quietA P o.op st.ev st.hp (fun v => Od P n0 ops ms K r .mk (st.put o.dst v))) : Od P n0 ops ms K (k :: r) t st :=
  ⟨o, ho, hg, by
    rw [hm]
    obtain ⟨v, h1, h2⟩ := Yields.quiet h
    exact ⟨v, h2, h1⟩⟩
/-- A call whose result is named. -/
theorem od_call (ho : ops[k]? = some o) (hg : o.guard = none) (hm : ms.getD k true = false) {gf : Operand} {args : Array Operand} {ts : Array TypeId} (hop : o.op = .call { callee := .value gf, args := args, argTypes := ts }) {fid : FuncId} {caps : List AV} (hfn : st.ev gf = .fn fid caps) {v : AV}
    (hc : CallA P fid (args.toList.map st.ev ++ caps) st.hp (Ret v st.hp)) (h : Od P n0 ops ms K r .mk (st.put o.dst v)) : Od P n0 ops ms K (k :: r) t st :=
  ⟨o, ho, hg, by rw [hm]; exact ⟨v, Yields.call hop rfl hfn hc, h⟩⟩
/-- One that makes a block that nobody writes from there on. -/
theorem od_fresh (ho : ops[k]? = some o) (hg : o.guard = none) (hm : ms.getD k true = false) (q : Blk) (d : Nat) (r0 : AV) (hl : q.live = true) (hf : allBelow 0 q.els = true) (hflat : ∀ b ∈ st.hp, allBelow st.hp.length b.els = true) (hb : below 1 r0 = true)
    (hop : opA P st.hp.length o.op st.ev st.hp (Cn (fun v hp' kb => v = ren (fun i => [st.hp.length].getD i 0) r0 ∧ hp' = st.hp ++ [q] ∧ kb = none) .mk)) (h : Od P n0 ops ms K r .mk (st.put o.dst (view d [q] r0))) : Od P n0 ops ms K (k :: r) t st :=
  ⟨o, ho, hg, by rw [hm]; exact ⟨_, Yields.fresh q hl hf hflat d r0 hb (by rw [Cn_eq] at hop; exact hop), h⟩⟩
theorem od_bare (ho : ops[k]? = some o) (hg : o.guard = none) (hm : ms.getD k true = false) {ty e : TypeId} (hop : o.op = .buildSlice ty 0 #[]) (hd : P.underlying ty = some (.slice e)) (hpos : 0 < P.cellsOf e) (hflat : ∀ b ∈ st.hp, allBelow st.hp.length b.els = true) (h : Od P n0 ops ms K r .mk (st.put o.dst .nils)) : Od P n0 ops ms K (k :: r) t st :=
  ⟨o, ho, hg, by rw [hm]; exact ⟨_, Yields.bare hop hd hpos hflat, h⟩⟩
end
end
attribute [irreducible] Od
end Go.Abs
