/- The abstract layer: parts Z5 Z6 Z7 Z8 Z9 ZA ZB ZD ZE ZF ZG ZH ZI ZJ. -/
import Derived.Test.YtigipcckflcilaaGreatDoorAbsM2
import Derived.Lib.Bytealg
import Derived.Sort.OwnSortedInts
import Derived.Lib.ItoaNum
import Derived.Lib.LaidTab
import Derived.Below
import Derived.Lib.Join
import Derived.Sort.Grow
import Derived.Deep.Draws
import Derived.Lib.Strings
import Derived.Lib.Split
import Derived.Lib.SplitLaws
import Derived.Lib.CountLaws
import Derived.Lib.IndexMore
/- The abstract layer, part Z5: drawn regions in an order of one's choice; new blocks told as what nobody writes. -/
set_option linter.unusedSimpArgs false
set_option linter.unusedVariables false
namespace Go.Abs
open Go
variable {P : Program}
theorem Cn_eq {g : AV → List Blk → Option Nat → Prop} {t : Tok g} : Cn g t = g := by delta Cn; rfl
section
variable {P : Program}

theorem freeze_one {E E' : Env P} {hp : List Blk} {q : Blk} (H : HRel E hp) (H' : HRel E' (hp ++ [q])) (F' : Fr E hp E' (hp ++ [q])) (hl : q.live = true) (hf : allBelow 0 q.els = true) (hflat : ∀ b ∈ hp, allBelow hp.length b.els = true)
    (d : Nat) (r0 : AV) (hb : below 1 r0 = true) (v : Value) (hv : RV E' (ren (fun i => [hp.length].getD i 0) r0) v) :
    ∃ E2 : Env P, E2.w = E'.w ∧ RV E2 (view d [q] r0) v ∧ HRel E2 hp ∧ Fr E hp E2 hp ∧ E.le E2 := by
  have hq : (hp ++ [q])[hp.length]? = some q := by simp
  have hlt : ∀ (b : Nat) blk, hp[b]? = some blk → b < hp.length ∧ (hp ++ [q])[b]? = some blk := fun b blk h => by
    have := (List.getElem?_eq_some_iff.1 h).1
    exact ⟨this, by rw [List.getElem?_append_left this]; exact h⟩
  let E2 : Env P := { E' with F := fun c => E'.F c ∨ c = E'.ρ hp.length, N := hp.length }
  have leN : (E'.ren hp.length fun b => b).le E2 := ⟨fun _ h => .inl h, fun _ _ => rfl, Nat.le_refl _, fun _ _ => rfl, fun _ _ => rfl, fun _ => Nat.le_refl _⟩
  have H2 : HRel E2 hp := by
    refine ⟨rfl, fun b blk h => H'.wd b blk (hlt b blk h).2, ?_, ?_, ?_, ?_, H'.laid.keep (fun c h => .inl h) (fun _ _ => rfl)⟩
    · intro b blk h hlv
      obtain ⟨cs, h1, h2⟩ := (H'.holds b blk (hlt b blk h).2 hlv).cells
      refine ⟨cs, h1, fun i e he => ⟨(h2 i e he).1, fun j x hx => ?_⟩⟩
      obtain ⟨u, h3, h4⟩ := (h2 i e he).2 j x hx
      refine ⟨u, h3, ?_⟩
      have hbe : below hp.length e = true := by
        have := hflat blk (List.mem_of_getElem? h)
        simp only [allBelow, List.all_eq_true] at this
        exact this e (List.mem_of_getElem? he)
      obtain ⟨_, h5⟩ := ren_cells (π := fun b => b) hbe
      obtain ⟨c', h6, h7⟩ := h5 j x hx
      rw [ren_id _ hbe, hx] at h6
      cases h6
      exact (h7 h4).mono leN
    · intro b b' blk blk' h1 h2 h3 h4 h5
      exact H'.inj b b' blk blk' (hlt _ _ h1).2 h2 (hlt _ _ h3).2 h4 h5
    · intro b blk h hlv hF
      rcases hF with h1 | h1
      · exact H'.apart b blk (hlt b blk h).2 hlv h1
      · have := H'.inj b hp.length blk q (hlt b blk h).2 hlv hq hl h1
        have := (hlt b blk h).1
        omega
    · rintro c (h | rfl)
      · exact H'.old c h
      · obtain ⟨cs, h1, _⟩ := (H'.holds _ q hq hl).cells
        exact (Row.lt h1)
  have F2 : Fr E hp E2 hp :=
    { size := F'.size, os := F'.os, tape := F'.tape, output := F'.output, block := F'.block, len := Nat.le_refl _, ρ := F'.ρ, wd := F'.wd, csz := F'.csz
      F := fun c h => .inl (F'.F c h)
      F' := fun c hc => by
        rcases hc with h | rfl
        · exact F'.F' c h
        · rcases F'.live hp.length ⟨q, hq, hl⟩ with ⟨h1, _⟩ | ⟨_, h2⟩
          · exact absurd h1 (Nat.lt_irrefl _)
          · exact .inr h2
      live := fun b ⟨blk, h, hlv⟩ => .inl ⟨(hlt b blk h).1, blk, h, hlv⟩ }
  refine ⟨E2, rfl, ?_, H2, F2, F2.le H H2⟩
  have S : Sub [hp.length] (hp ++ [q]) [q] := SubF.sub (by simp) ⟨⟨hq, hf⟩, trivial⟩
  have Hq := S.hrel H'
  have h1 := RV.unren (E := E') (N := 1) (π := fun i => [hp.length].getD i 0) hb hv
  have h2 := (view_sound Hq d r0).1 v h1
  refine h2.mono ⟨fun c hc => ?_, fun _ _ => rfl, Nat.zero_le _, fun _ hb => absurd hb (Nat.not_lt_zero _), fun _ hb => absurd hb (Nat.not_lt_zero _), fun _ => Nat.le_refl _⟩
  rcases hc with h | ⟨b, ⟨bk, hbk, _⟩, rfl⟩
  · exact .inl h
  · have : b = 0 := by
      have := (List.getElem?_eq_some_iff.1 hbk).1
      simpa using this
    subst this
    exact .inr rfl

theorem Yields.fresh {o : Oper} {f : Operand → AV} {hp : List Blk} (q : Blk) (hl : q.live = true) (hf : allBelow 0 q.els = true) (hflat : ∀ b ∈ hp, allBelow hp.length b.els = true) (d : Nat) (r0 : AV) (hb : below 1 r0 = true)
    (h : opA P hp.length o.op f hp (fun v hp' kb => v = ren (fun i => [hp.length].getD i 0) r0 ∧ hp' = hp ++ [q] ∧ kb = none)) : Yields P o f hp (view d [q] r0) := by
  intro E g H hr hcst
  have := opA_sound (E0 := E) (hp0 := hp) H (Fr.refl E hp) hr hcst h
  unfold Runs at this ⊢
  have conv : ∀ u w', OpPost E E hp (fun v hp' kb => v = ren (fun i => [hp.length].getD i 0) r0 ∧ hp' = hp ++ [q] ∧ kb = none) u w' → ∃ E', E'.w = w' ∧ RV E' (view d [q] r0) u ∧ HRel E' hp ∧ Fr E hp E' hp ∧ E.le E' := by
    rintro u w' ⟨E', av, hp', kb, hl'⟩
    obtain ⟨rfl, rfl, rfl⟩ := hl'.k
    obtain ⟨E2, h1, h2, h3, h4, h5⟩ := freeze_one H hl'.hr hl'.fr hl hf hflat d r0 hb u hl'.rv
    exact ⟨E2, h1.trans hl'.w, h2, h3, h4, h5⟩
  split at this
  · exact conv _ _ this
  · exact conv _ _ this
  · exact this.mono fun e w'' ⟨v, he, hp⟩ => ⟨v, he, conv _ _ hp⟩
  · exact this.elim

theorem Yields.bare {o : Oper} {f : Operand → AV} {hp : List Blk} {t e : TypeId} (ho : o.op = .buildSlice t 0 #[]) (hd : P.underlying t = some (.slice e)) (hpos : 0 < P.cellsOf e) (hflat : ∀ b ∈ hp, allBelow hp.length b.els = true) : Yields P o f hp .nils := by
  intro E g H hr hcst
  have run : (Instr.buildSlice t 0 #[]).run P E.w = .ok (.slice (some ⟨E.w.heap.size, 0, none⟩) 0 0) { E.w with heap := E.w.heap.push (.cells #[] e) } := by
    have hc : ¬ (0 : Nat) > 2 ^ 24 := by omega
    simp only [Instr.buildSlice, Sem.run_bind, run_underlying' hd, Result.andThen_ok, run_sizeOf_pos hpos, Nat.zero_mul, hc, if_false, if_true, Sem.run_pure]
    have e0 : (Array.map (fun x => (#[] : Array Value)[x % (#[] : Array Value).size]!) (Array.range 0)) = #[] := by simp
    rw [e0]
    rfl
  obtain ⟨E', h1, h2, h3, h4, _⟩ := new_block H (Fr.refl E hp) { ty := e, w := P.cellsOf e, els := [], live := true } #[] rfl _ (Same.refl _) (fun i e he => by simp at he)
  obtain ⟨E2, k1, _, k2, k3, k4⟩ := freeze_one H h2 h3 rfl rfl hflat 0 .any rfl undef (.any _)
  unfold Runs
  have hx : (execOp g o).run P E.w = .ok (.value (.slice (some ⟨E.w.heap.size, 0, none⟩) 0 0)) { E.w with heap := E.w.heap.push (.cells #[] e) } := by
    simp only [execOp, ho]
    simp [Sem.run_bind, run]
  rw [hx]
  exact ⟨E2, k1.trans h1, .nils _, k2, k3, k4⟩

def ordA (P : Program) (n0 : Nat) (ops : List Oper) (ms : List Bool) (K : St → Prop) : List Nat → St → Prop
  | [], st => K st
  | k :: r, st => ∃ o, ops[k]? = some o ∧ o.guard = none ∧
    if ms.getD k true then ∃ g : AV → List Blk → Option Nat → Prop, opA P n0 o.op st.ev st.hp g ∧ ∀ v hp' kb, g v hp' kb → ordA P n0 ops ms K r ((st.after hp' kb).put o.dst v)
    else ∃ v, Yields P o st.ev st.hp v ∧ ordA P n0 ops ms K r (st.put o.dst v)

def Od (P : Program) (n0 : Nat) (ops : List Oper) (ms : List Bool) (K : St → Prop) (ord : List Nat) (_t : Tok (ops, ord, K)) (st : St) : Prop := ordA P n0 ops ms K ord st

section
variable {n0 : Nat} {ops : List Oper} {ms : List Bool} {K : St → Prop} {k : Nat} {r : List Nat} {st : St} {t : Tok (ops, k :: r, K)} {o : Oper}
end
end
attribute [irreducible] Od
end Go.Abs
/- The abstract layer, part Z6: a function's code, piece by piece: what comes later stands apart; ways that meet again. -/
set_option linter.unusedSimpArgs false
set_option linter.unusedVariables false
namespace Go.Abs
open Go
variable {P : Program}
section
variable {P : Program}
variable {n0 : Nat} {Q : Ex → St → Prop} {st : St}
end
end Go.Abs
/- The abstract layer, part Z7: drawn regions in which a call changes memory beside quiet operations that do not mind. -/
set_option linter.unusedSimpArgs false
set_option linter.unusedVariables false
namespace Go.Abs
open Go
variable {P : Program}
section
variable {P : Program}

def CallAt (P : Program) (o : Oper) (f : Operand → AV) (hp : List Blk) (Q : AV → List Blk → Prop) : Prop :=
  (∃ (c : Call) (gf : Operand) (fid : FuncId) (caps : List AV), o.op = .call c ∧ c.callee = .value gf ∧ f gf = .fn fid caps ∧ CallA P fid (c.args.toList.map f ++ caps) hp Q) ∨
  (∃ t len parts, o.op = .buildSlice t len parts ∧ ∀ n0, opA P n0 o.op f hp (fun v hp' kb => Q v hp' ∧ kb = none))
theorem CallAt.congr {o : Oper} {f f' : Operand → AV} {hp : List Blk} {Q : AV → List Blk → Prop} (h : CallAt P o f hp Q) (he : ∀ x ∈ o.op.operands, f x = f' x) : CallAt P o f' hp Q := by
  rcases h with ⟨c, gf, fid, caps, h1, h2, h3, h4⟩ | ⟨t, len, parts, h1, h2⟩
  · refine .inl ⟨c, gf, fid, caps, h1, h2, by rw [← he gf (by simp [h1, Op.operands, Call.operands, h2])]; exact h3, ?_⟩
    have : c.args.toList.map f' = c.args.toList.map f := by
      apply List.map_congr_left
      intro x hx
      exact (he x (by
        simp only [h1, Op.operands, Call.operands, h2]
        simp at hx ⊢
        exact .inr hx)).symm
    rw [this]
    exact h4
  · refine .inr ⟨t, len, parts, h1, fun n0 => ?_⟩
    have h3 := h2 n0
    rw [h1] at h3 he ⊢
    have e : (parts.toList.map fun p => (p.1, f p.2)) = parts.toList.map fun p => (p.1, f' p.2) := by
      apply List.map_congr_left
      intro p hp
      rw [he p.2 (by simp only [Op.operands]; simp; exact ⟨p.1, by simpa using hp⟩)]
    simp only [opA] at h3 ⊢
    simp only [e] at h3
    exact h3

def stepH (P : Program) (n0 : Nat) (ops : List Oper) (ms : List Nat) (Hs : List Blk → Prop) (i : Nat) (K : St → Prop) (st : St) : Prop :=
  match ops[i]? with
  | none => K st
  | some o => o.guard = none ∧ match ms.getD i 1 with
    | 0 => ∃ v, Yields P o st.ev st.hp v ∧ K (st.put o.dst v)
    | 2 => ∃ Q, CallAt P o st.ev st.hp Q ∧ ∀ r hp', Q r hp' → Hs hp' ∧ K ((st.after hp' none).put o.dst r)
    | _ => ∃ k : AV → List Blk → Option Nat → Prop, opA P n0 o.op st.ev st.hp k ∧ ∀ v hp' kb, k v hp' kb → K ((st.after hp' kb).put o.dst v)
def anyH (P : Program) (n0 : Nat) (ops : List Oper) (ms : List Nat) (Hs : List Blk → Prop) (K : St → Prop) : Nat → Array Bool → St → Prop
  | 0, listed, st => Region.ready .any ops.toArray listed = [] ∧ K st
  | fuel + 1, listed, st =>
    (Region.ready .any ops.toArray listed = [] → K st) ∧ ∀ i ∈ Region.ready .any ops.toArray listed, stepH P n0 ops ms Hs i (anyH P n0 ops ms Hs K fuel (listed.setIfInBounds i true)) st

theorem opA_callAt {n0 : Nat} {o : Oper} {f : Operand → AV} {hp : List Blk} {Q : AV → List Blk → Prop} (h : CallAt P o f hp Q) : opA P n0 o.op f hp (fun v hp' kb => Q v hp' ∧ kb = none) := by
  rcases h with ⟨c, gf, fid, caps, h1, h2, h3, h4⟩ | ⟨t, len, parts, h1, h2⟩
  · obtain ⟨callee, args, ts⟩ := c
    simp only at h2
    subst h2
    rw [h1]
    simp only [opA, h3]
    exact h4.mono fun r hp' hq => ⟨hq, trivial⟩
  · exact h2 n0
def boolMs (ms : List Nat) : List Bool := ms.map fun m => m != 0
theorem boolMs_get (ms : List Nat) (i : Nat) : (boolMs ms).getD i true = (ms.getD i 1 != 0) := by
  simp only [boolMs, List.getD_eq_getElem?_getD, List.getElem?_map]
  cases ms[i]? <;> rfl
theorem stepH_stepA {n0 : Nat} {ops : List Oper} {ms : List Nat} {Hs : List Blk → Prop} {i : Nat} {K K' : St → Prop} {st : St} (hK : ∀ st, K st → K' st) (h : stepH P n0 ops ms Hs i K st) : stepA P n0 ops (boolMs ms) i K' st := by
  unfold stepH at h
  unfold stepA
  cases ho : ops[i]? with
  | none => rw [ho] at h; exact hK _ h
  | some o =>
    rw [ho] at h
    obtain ⟨hg, h⟩ := h
    have hw : wantedA ops o st = some true := by simp [wantedA, hg]
    simp only [boolMs_get]
    split at h
    · rename_i h0
      rw [h0]
      obtain ⟨v, hy, hk⟩ := h
      simp only [bne_self_eq_false, Bool.false_eq_true, if_false]
      exact ⟨v, .inl ⟨hw, hy⟩, hK _ hk⟩
    · rename_i h0
      rw [h0]
      obtain ⟨Q, hc, hk⟩ := h
      simp only [show ((2 : Nat) != 0) = true from rfl, if_true]
      refine .inl ⟨hw, _, opA_callAt hc, ?_⟩
      rintro v hp' kb ⟨hq, rfl⟩
      exact hK _ (hk v hp' hq).2
    · rename_i h0 h2
      have : (ms.getD i 1 != 0) = true := bne_iff_ne.2 h0
      rw [this]
      obtain ⟨k, hop, hk⟩ := h
      simp only [if_true]
      exact .inl ⟨hw, k, hop, fun v hp' kb hv => hK _ (hk v hp' kb hv)⟩
theorem anyH_anyA {n0 : Nat} {ops : List Oper} {ms : List Nat} {Hs : List Blk → Prop} {K : St → Prop} : ∀ (fuel : Nat) (listed : Array Bool) (st : St), anyH P n0 ops ms Hs K fuel listed st → anyA P n0 ops (boolMs ms) K fuel listed st
  | 0, listed, st, h => h
  | fuel + 1, listed, st, h => ⟨h.1, fun i hi => stepH_stepA (fun st' h' => anyH_anyA fuel _ st' h') (h.2 i hi)⟩

def FreeH (ops : List Oper) (ms : List Nat) (listed : Array Bool) (i : Nat) (oi : Oper) : Prop :=
  ∃ D : List Nat, Waits ops listed i D ∧ ∀ j oj, ops[j]? = some oj → j ≠ i → listed.getD j true = false → j ∉ D → (∀ e ∈ oj.after, Region.binds .any e = true → e.on ≠ i) → oi.apart ops.toArray oj = true ∧ (ms.getD j 1 = 0 ∨ ms.getD j 1 = 2)

theorem St.ev_after (st : St) (hp : List Blk) (x : Operand) : (st.after hp none).ev x = st.ev x := by
  cases x <;> rfl
theorem put_after (st : St) (hp : List Blk) (d : Option Tmp) (v : AV) : (st.put d v).after hp none = (st.after hp none).put d v := by
  cases d <;> rfl
theorem put_hp (st : St) (d : Option Tmp) (v : AV) : (st.put d v).hp = st.hp := by cases d <;> rfl
theorem after_hp (st : St) (hp : List Blk) : (st.after hp none).hp = hp := rfl

theorem ev_apart {ops : List Oper} {o : Oper} {st : St} {d : Option Tmp} {v : AV} (h : ∀ t, d = some t → t ∉ o.looksAt ops.toArray) : ∀ x ∈ o.op.operands, (st.put d v).ev x = st.ev x := fun x hx => St.ev_put fun t ht e => h t ht (by
    subst e
    simp only [Oper.looksAt, List.mem_append, List.mem_filterMap]
    exact .inl ⟨.tmp t, by simpa using hx, rfl⟩)

theorem anyH_first {n0 : Nat} {ops : List Oper} {ms : List Nat} {Hs : List Blk → Prop} {K : St → Prop} {i : Nat} {oi : Oper} {v : AV} (hi : ops[i]? = some oi) (hm : ms.getD i 1 = 0) (hgi : oi.guard = none) :
    ∀ (fuel : Nat) (listed : Array Bool) (st : St), FreeH ops ms listed i oi → i ∈ Region.ready .any ops.toArray listed → (∀ hp, Hs hp → Yields P oi st.ev hp v) → Hs st.hp →
      anyH P n0 ops ms Hs K fuel (listed.setIfInBounds i true) (st.put oi.dst v) → anyH P n0 ops ms Hs K (fuel + 1) listed st := by
  have self : ∀ (fuel : Nat) (listed : Array Bool) (st : St), Yields P oi st.ev st.hp v → anyH P n0 ops ms Hs K fuel (listed.setIfInBounds i true) (st.put oi.dst v) → stepH P n0 ops ms Hs i (anyH P n0 ops ms Hs K fuel (listed.setIfInBounds i true)) st := by
    intro fuel listed st hy H
    unfold stepH
    simp only [hi, hm]
    exact ⟨hgi, v, hy, H⟩
  intro fuel
  induction fuel with
  | zero =>
    intro listed st _ hr hy hs H
    refine ⟨fun h => (by rw [h] at hr; cases hr), fun j hj => ?_⟩
    by_cases hji : j = i
    · subst hji; exact self 0 listed st (hy _ hs) H
    · have := ready_mono hj hji
      rw [H.1] at this
      cases this
  | succ fuel ih =>
    intro listed st hfree hr hy hs H
    refine ⟨fun h => (by rw [h] at hr; cases hr), fun j hj => ?_⟩
    by_cases hji : j = i
    · subst hji; exact self _ listed st (hy _ hs) H
    · have h1 := H.2 j (ready_mono hj hji)
      obtain ⟨hjun, oj, hoj, hall⟩ := mem_ready.1 hj
      have hoj' : ops[j]? = some oj := by simpa using hoj
      have hnot : ∀ e ∈ oj.after, Region.binds .any e = true → e.on ≠ i := fun e he hb heq => by
        have h1 := hall e he hb
        have h0 := (mem_ready.1 hr).1
        rw [heq] at h1
        rcases Nat.lt_or_ge i listed.size with h' | h'
        · simp [h'] at h0 h1; rw [h0] at h1; cases h1
        · simp [Array.getElem?_eq_none h'] at h1
      obtain ⟨D, hwait, hfree⟩ := hfree
      have hjD : j ∉ D := fun hD => by
        obtain ⟨_, oj', hoj'', e, he, hb, hc⟩ := hwait j hD
        have : oj' = oj := by rw [hoj'] at hoj''; cases hoj''; rfl
        subst this
        rcases hc with hc | hc
        · exact hnot e he hb hc
        · have h1 := hall e he hb
          have h0 := (hwait e.on hc).1
          rcases Nat.lt_or_ge e.on listed.size with h' | h'
          · simp [h'] at h0 h1; rw [h0] at h1; cases h1
          · simp [Array.getElem?_eq_none h'] at h1
      obtain ⟨hap, hmj⟩ := hfree j oj hoj' hji hjun hjD hnot
      obtain ⟨a1, a2, a3⟩ := Oper.apart_spec hap
      have hfree' : FreeH ops ms (listed.setIfInBounds j true) i oi := ⟨D, fun d hd => by
        have hne : j ≠ d := fun h => hjD (h ▸ hd)
        obtain ⟨w1, w2⟩ := hwait d hd
        exact ⟨by rw [getD_set_ne true hne]; exact w1, w2⟩, fun k ok hk hki hun hkD hno => by
        refine hfree k ok hk hki ?_ hkD hno
        by_cases hjk : j = k
        · subst hjk; exact hjun
        · rw [getD_set_ne true hjk] at hun; exact hun⟩
      unfold stepH at h1 ⊢
      simp only [hoj'] at h1 ⊢
      obtain ⟨hgj, h1⟩ := h1
      refine ⟨hgj, ?_⟩
      have evj : ∀ x ∈ oj.op.operands, (st.put oi.dst v).ev x = st.ev x := ev_apart (ops := ops) a1
      rcases hmj with hmj | hmj
      · simp only [hmj] at h1 ⊢
        obtain ⟨u, hu, hK⟩ := h1
        rw [put_hp] at hu
        refine ⟨u, hu.congr evj, ?_⟩
        refine ih (listed.setIfInBounds j true) (st.put oj.dst u) hfree' (ready_mono hr (Ne.symm hji)) (fun hp hh => (hy hp hh).congr fun x hx => (ev_apart (ops := ops) a3 x hx).symm) (by rw [put_hp]; exact hs) ?_
        rw [Array.setIfInBounds_comm _ _ hji, St.put_comm st u v (fun d hd he => a2 d he hd)]
        exact hK
      · simp only [hmj] at h1 ⊢
        obtain ⟨Q, hc, hK⟩ := h1
        rw [put_hp] at hc
        refine ⟨Q, hc.congr evj, fun r hp' hq => ?_⟩
        obtain ⟨hh, hK⟩ := hK r hp' hq
        refine ⟨hh, ?_⟩
        refine ih (listed.setIfInBounds j true) ((st.after hp' none).put oj.dst r) hfree' (ready_mono hr (Ne.symm hji)) (fun hp hh' => (hy hp hh').congr fun x hx => ?_) (by rw [put_hp]; exact hh) ?_
        · rw [ev_apart (ops := ops) a3 x hx, St.ev_after]
        · rw [Array.setIfInBounds_comm _ _ hji, St.put_comm _ r v (fun d hd he => a2 d he hd), ← put_after]
          exact hK

def freeHB (ops : Array Oper) (ms : List Nat) (listed : Array Bool) (k : Nat) : Bool :=
  match ops[k]? with
  | none => false
  | some o => lateOk ops listed k (lateOf ops listed k) && (List.range ops.size).all fun j =>
    j == k || listed.getD j true || (lateOf ops listed k).contains j ||
    match ops[j]? with
    | none => true
    | some oj => (oj.after.any fun e => Region.binds .any e && e.on == k) || (o.apart ops oj && (ms.getD j 1 == 0 || ms.getD j 1 == 2))
theorem freeHB_spec {ops : List Oper} {ms : List Nat} {listed : Array Bool} {k : Nat} {o : Oper} (hk : ops[k]? = some o) (h : freeHB ops.toArray ms listed k = true) : FreeH ops ms listed k o := by
  unfold freeHB at h
  have hk' : ops.toArray[k]? = some o := by simpa using hk
  rw [hk'] at h
  simp only [Bool.and_eq_true] at h
  refine ⟨_, lateOk_spec h.1, ?_⟩
  have h := h.2
  intro j oj hoj hjk hun hD hno
  simp only [List.all_eq_true, List.mem_range] at h
  have hj : j < ops.toArray.size := by
    have := (List.getElem?_eq_some_iff.1 hoj).1
    simpa using this
  have h1 := h j hj
  have hoj' : ops.toArray[j]? = some oj := by simpa using hoj
  rw [hoj', hun] at h1
  have hjk' : (j == k) = false := by simpa using hjk
  have hD' : (lateOf ops.toArray listed k).contains j = false := by simpa using hD
  rw [hjk', hD'] at h1
  simp only [Bool.false_or, Bool.or_eq_true, Bool.and_eq_true, beq_iff_eq] at h1
  rcases h1 with h1 | ⟨h1, h2⟩
  · exfalso
    rw [Array.any_eq_true] at h1
    obtain ⟨m, hm, he⟩ := h1
    simp only [Bool.and_eq_true, beq_iff_eq] at he
    exact hno _ (Array.getElem_mem hm) he.1 he.2
  · exact ⟨h1, h2⟩

def ordOkH (ops : Array Oper) (ms : List Nat) : List Nat → Array Bool → Bool
  | [], listed => (Region.ready .any ops listed).isEmpty
  | k :: r, listed => (if ms.getD k 1 == 0 then (Region.ready .any ops listed).contains k && freeHB ops ms listed k else Region.ready .any ops listed == [k]) && ordOkH ops ms r (listed.setIfInBounds k true)
def ordH (P : Program) (n0 : Nat) (ops : List Oper) (ms : List Nat) (Hs : List Blk → Prop) (K : St → Prop) : List Nat → St → Prop
  | [], st => K st
  | k :: r, st => ∃ o, ops[k]? = some o ∧ o.guard = none ∧ match ms.getD k 1 with
    | 0 => ∃ v, Hs st.hp ∧ (∀ hp, Hs hp → Yields P o st.ev hp v) ∧ ordH P n0 ops ms Hs K r (st.put o.dst v)
    | 2 => ∃ Q, CallAt P o st.ev st.hp Q ∧ ∀ v hp', Q v hp' → Hs hp' ∧ ordH P n0 ops ms Hs K r ((st.after hp' none).put o.dst v)
    | _ => ∃ g : AV → List Blk → Option Nat → Prop, opA P n0 o.op st.ev st.hp g ∧ ∀ v hp' kb, g v hp' kb → ordH P n0 ops ms Hs K r ((st.after hp' kb).put o.dst v)
theorem anyH_ord {n0 : Nat} {ops : List Oper} {ms : List Nat} {Hs : List Blk → Prop} {K : St → Prop} : ∀ (ord : List Nat) (listed : Array Bool) (st : St), ordOkH ops.toArray ms ord listed = true → ordH P n0 ops ms Hs K ord st → anyH P n0 ops ms Hs K ord.length listed st
  | [], listed, st, hB, h => ⟨by simpa [ordOkH] using hB, h⟩
  | k :: r, listed, st, hB, h => by
    obtain ⟨o, ho, hg, h⟩ := h
    simp only [ordOkH, Bool.and_eq_true] at hB
    obtain ⟨hB1, hB2⟩ := hB
    split at h
    · rename_i hm
      obtain ⟨v, hh, hy, hK⟩ := h
      rw [hm] at hB1
      simp only [beq_self_eq_true, if_true, Bool.and_eq_true] at hB1
      exact anyH_first ho hm hg r.length listed st (freeHB_spec ho hB1.2) (by simpa using hB1.1) hy hh (anyH_ord r _ _ hB2 hK)
    · rename_i hm
      obtain ⟨Q, hc, hK⟩ := h
      rw [hm] at hB1
      simp only [show ((2 : Nat) == 0) = false from rfl, Bool.false_eq_true, if_false, beq_iff_eq] at hB1
      refine ⟨fun h => (by rw [hB1] at h; cases h), fun i hi => ?_⟩
      rw [hB1] at hi
      have : i = k := by simpa using hi
      subst this
      unfold stepH
      simp only [ho, hm]
      exact ⟨hg, Q, hc, fun v hp' hq => ⟨(hK v hp' hq).1, anyH_ord r _ _ hB2 (hK v hp' hq).2⟩⟩
    · rename_i hm hm2
      obtain ⟨g, hop, hK⟩ := h
      have hm' : (ms.getD k 1 == 0) = false := beq_false_of_ne hm
      rw [hm'] at hB1
      simp only [Bool.false_eq_true, if_false, beq_iff_eq] at hB1
      refine ⟨fun h => (by rw [hB1] at h; cases h), fun i hi => ?_⟩
      rw [hB1] at hi
      have : i = k := by simpa using hi
      subst this
      unfold stepH
      simp only [ho]
      refine ⟨hg, ?_⟩
      exact ⟨g, hop, fun v hp' kb hv => anyH_ord r _ _ hB2 (hK v hp' kb hv)⟩

def Oh (P : Program) (n0 : Nat) (ops : List Oper) (ms : List Nat) (Hs : List Blk → Prop) (K : St → Prop) (ord : List Nat) (_t : Tok (ops, ord, K)) (st : St) : Prop := ordH P n0 ops ms Hs K ord st
theorem go_calls (hm : P.follows .mixedOrders = true) {n0 : Nat} {id : Nat} {ops : Array Oper} {Q : Ex → St → Prop} {st : St} {t} (Hs : List Blk → Prop) (ord : List Nat) (ms : List Nat)
    (hok : (ord.length == ops.size && ordOkH ops ms ord (Array.replicate ops.size false)) = true) (h : Oh P n0 ops.toList ms Hs (Q .normal) ord .mk st) : Lp P n0 (.region id ops true) Q t st := by
  delta Lp
  simp only [Bool.and_eq_true, beq_iff_eq] at hok
  intro E0 hp0 E a hn hs
  subst hn
  have h1 := anyH_anyA _ _ _ (anyH_ord (P := P) (n0 := hp0.length) (ops := ops.toList) (ms := ms) (Hs := Hs) (K := Q .normal) ord (Array.replicate ops.size false) st (by simpa using hok.2) h)
  rw [hok.1] at h1
  refine wp_region_any hm ?_
  have hs' : SR E0 hp0 (E.with { E.w with drawn := E.w.drawn + 1 }) st a := ⟨hs.hr.with (Same.drew _ _), hs.fr.with (Same.drew _ _), hs.len, fun i v u a1 a2 => (hs.tm i v u a1 a2).mono (Env.le_with (Same.drew _ _)), hs.df⟩
  have h2 := anyA_sound (P := P) (Q := liftQ E0 hp0 Q) (fun E st a hs hk => ⟨.normal, st, E, rfl, rfl, hs, hk⟩) _ _ _ st a hs' h1
  rw [show ops.toList.toArray = ops from by simp] at h2
  exact h2

section
variable {n0 : Nat} {ops : List Oper} {ms : List Nat} {Hs : List Blk → Prop} {K : St → Prop} {k : Nat} {r : List Nat} {st : St} {t : Tok (ops, k :: r, K)} {o : Oper}
theorem oh_nil {t : Tok (ops, ([] : List Nat), K)} (h : K st) : Oh P n0 ops ms Hs K [] t st := h
theorem oh_quiet (ho : ops[k]? = some o) (hg : o.guard = none) (hm : ms.getD k 1 = 0) (hh : Hs st.hp) {v : AV} (hq : ∀ hp, Hs hp → quietA P o.op st.ev hp (fun v' => v' = v)) (h : Oh P n0 ops ms Hs K r .mk (st.put o.dst v)) : Oh P n0 ops ms Hs K (k :: r) t st :=
  ⟨o, ho, hg, by
    rw [hm]
    refine ⟨v, hh, fun hp hp' => ?_, h⟩
    obtain ⟨v', h1, h2⟩ := Yields.quiet (hq hp hp')
    subst h1
    exact h2⟩
theorem oh_call (ho : ops[k]? = some o) (hg : o.guard = none) (hm : ms.getD k 1 = 2) {gf : Operand} {args : Array Operand} {ts : Array TypeId} (hop : o.op = .call { callee := .value gf, args := args, argTypes := ts }) {fid : FuncId} {caps : List AV} (hfn : st.ev gf = .fn fid caps) 
    (hc : CallP P fid (args.toList.map st.ev ++ caps) st.hp (fun v hp' => Hs hp' ∧ Oh P n0 ops ms Hs K r .mk ((st.after hp' none).put o.dst v)) .mk) : Oh P n0 ops ms Hs K (k :: r) t st :=
  ⟨o, ho, hg, by
    rw [hm]
    delta CallP at hc
    exact ⟨_, .inl ⟨_, gf, fid, caps, hop, rfl, hfn, hc⟩, fun v hp' hq => hq⟩⟩
theorem oh_one (ho : ops[k]? = some o) (hg : o.guard = none) (hm : ms.getD k 1 = 1) (h : opA P n0 o.op st.ev st.hp (Cn (fun v hp' kb => Oh P n0 ops ms Hs K r .mk ((st.after hp' kb).put o.dst v)) .mk)) : Oh P n0 ops ms Hs K (k :: r) t st :=
  ⟨o, ho, hg, by rw [hm]; exact ⟨_, h, fun v hp' kb hv => by rw [Cn_go] at hv; exact hv⟩⟩
end
end
attribute [irreducible] Oh
theorem CallA.freezeQ {P : Program} (d : Nat) {f : FuncId} {args : List AV} {Q0 : AV → List Blk → Prop} (h : CallA P f args [] Q0) : CallA P f args [] (fun r hp => ∃ r0 new, Q0 r0 new ∧ r = view d new r0 ∧ hp = []) := by
  intro E vs H hl hrv
  refine (h E vs H hl hrv).mono ?_
  rintro v w' ⟨r', hp', E', hw, hq, hv, H', F'⟩
  refine ⟨_, [], E'.lent hp', hw, ⟨r', hp', hq, rfl, rfl⟩, (view_sound H' d r').1 v hv, ?_, ?_⟩
  · exact ⟨rfl, by simp, by simp, by simp, by simp, fun c hc => by
      rcases hc with h1 | ⟨b, ⟨q, hq, hlv⟩, rfl⟩
      · exact H'.old c h1
      · obtain ⟨cs', g2, _⟩ := (H'.holds b q hq hlv).cells
        exact (Row.lt g2), H'.laid.keep (fun c h => .inl h) (fun _ _ => rfl)⟩
  · exact { size := F'.size, os := F'.os, tape := F'.tape, output := F'.output, block := F'.block, len := Nat.le_refl _, ρ := fun b hb => absurd hb (Nat.not_lt_zero _), wd := fun b hb => absurd hb (Nat.not_lt_zero _),
            F := fun c hc => .inl (F'.F c hc)
            F' := fun c hc => by
              rcases hc with h1 | ⟨b, hb, rfl⟩
              · exact F'.F' c h1
              · rcases F'.live b hb with ⟨h2, _⟩ | ⟨_, h3⟩
                · exact absurd h2 (Nat.not_lt_zero _)
                · exact .inr h3
            live := fun b ⟨q, hq, _⟩ => by simp at hq
            csz := F'.csz }
end Go.Abs
/- The greatest of a number, another and that one turned about. -/
set_option linter.unusedVariables false
namespace Go.Abs
open Go
variable {P : Program}

end Go.Abs
/- The abstract layer, part Z9: places of bytes in strings, answered in place. -/
set_option linter.unusedSimpArgs false
set_option linter.unusedVariables false
namespace Go.Abs
open Go
variable {P : Program}

section
variable {P : Program}
theorem RV.two {E : Env P} {a b : AV} {vs : List Value} (hl : vs.length = 2) (hv : ∀ (i : Nat) x v, [a, b][i]? = some x → vs[i]? = some v → RV E x v) : ∃ v u, vs = [v, u] ∧ RV E a v ∧ RV E b u := by
  match vs, hl with
  | [v, u], _ => exact ⟨v, u, rfl, hv 0 a v rfl rfl, hv 1 b u rfl rfl⟩
end

def strs (l : List (List UInt8)) : List AV := l.map AV.str
theorem strs_len (l : List (List UInt8)) : (strs l).length = l.length := by simp [strs]
theorem strs_get (l : List (List UInt8)) (i : Nat) (h : i < (strs l).length) : (strs l)[i] = AV.str (l[i]'(by simpa [strs] using h)) := by simp [strs]
theorem strs_app (l r : List (List UInt8)) : strs (l ++ r) = strs l ++ strs r := by simp [strs]
theorem strs_below (n : Nat) : ∀ l : List (List UInt8), allBelow n (strs l) = true
  | [] => rfl
  | x :: l => strs_below n l
theorem map_view_strs (d : Nat) (hp : List Blk) (l : List (List UInt8)) : (strs l).map (view d hp) = strs l := by
  unfold strs
  rw [List.map_map]
  exact List.map_congr_left fun x _ => by cases d <;> rfl
end Go.Abs
/- The abstract layer, part ZA: a drawn region whose operations make blocks of their own, told by a plan: what each operation yields; its end told by names of one's choice, ahead of the last operation. -/
set_option linter.unusedSimpArgs false
set_option linter.unusedVariables false
namespace Go.Abs
open Go
variable {P : Program}

def namesL : AV → List Nat
  | .sl b _ _ | .ptr b _ _ => [b]
  | _ => []
def namesM : AV → List Nat
  | .agg l | .fn _ l => l.flatMap namesL
  | v => namesL v
def names : AV → List Nat
  | .tup l => l.flatMap namesM
  | v => namesM v
theorem renL_names {π π' : Nat → Nat} (a : AV) (h : ∀ b ∈ namesL a, π b = π' b) : renL π a = renL π' a := by
  cases a <;> first | rfl | (simp only [namesL, List.mem_singleton, forall_eq] at h; simp only [renL, h])
theorem renM_names {π π' : Nat → Nat} (a : AV) (h : ∀ b ∈ namesM a, π b = π' b) : renM π a = renM π' a := by
  cases a with
  | agg l =>
    simp only [namesM, List.mem_flatMap] at h
    simp only [renM, AV.agg.injEq]
    exact List.map_congr_left fun x hx => renL_names x fun b hb => h b ⟨x, hx, hb⟩
  | fn f l =>
    simp only [namesM, List.mem_flatMap] at h
    simp only [renM, AV.fn.injEq, true_and]
    exact List.map_congr_left fun x hx => renL_names x fun b hb => h b ⟨x, hx, hb⟩
  | _ => first | rfl | (simp only [namesM, namesL, List.mem_singleton, forall_eq] at h; simp only [renM, renL, h])
theorem ren_names {π π' : Nat → Nat} (a : AV) (h : ∀ b ∈ names a, π b = π' b) : ren π a = ren π' a := by
  cases a with
  | tup l =>
    simp only [names, List.mem_flatMap] at h
    simp only [ren, AV.tup.injEq]
    exact List.map_congr_left fun x hx => renM_names x fun b hb => h b ⟨x, hx, hb⟩
  | agg l => exact renM_names (.agg l) h
  | fn f l => exact renM_names (.fn f l) h
  | _ => first | rfl | (simp only [names, namesM, namesL, List.mem_singleton, forall_eq] at h; simp only [ren, renM, renL, h])
theorem ren_comp (π σ : Nat → Nat) (a : AV) : ren π (ren σ a) = ren (fun b => π (σ b)) a := by
  have hL : ∀ a, renL π (renL σ a) = renL (fun b => π (σ b)) a := fun a => by cases a <;> rfl
  have hM : ∀ a, renM π (renM σ a) = renM (fun b => π (σ b)) a := fun a => by
    cases a with
    | agg l => simp [renM, hL]
    | fn f l => simp [renM, hL]
    | _ => rfl
  cases a with
  | tup l => simp [ren, hM]
  | agg l => exact hM (.agg l)
  | fn f l => exact hM (.fn f l)
  | _ => rfl

section
variable {P : Program} {n0 : Nat}
theorem quietA_congr {op : Op} {f f' : Operand → AV} {hp : List Blk} {k : AV → Prop} (he : ∀ x ∈ op.operands, f x = f' x) (h : quietA P op f hp k) : quietA P op f' hp k := by
  cases op with
  | move x => simp only [quietA] at h ⊢; rw [← he x (by simp [Op.operands])]; exact h
  | assign x => simp only [quietA] at h ⊢; rw [← he x (by simp [Op.operands])]; exact h
  | pick c a b => simp only [quietA] at h ⊢; rw [← he c (by simp [Op.operands]), ← he a (by simp [Op.operands]), ← he b (by simp [Op.operands])]; exact h
  | build t parts =>
    simp only [quietA] at h ⊢
    have e : (parts.toList.map fun p => (p.1, f' p.2)) = parts.toList.map fun p => (p.1, f p.2) := List.map_congr_left fun p hp => by rw [he p.2 (by simp only [Op.operands]; simpa using ⟨p.1, by simpa using hp⟩)]
    rw [e]
    exact h
  | load t a => simp only [quietA] at h ⊢; rw [← he a (by simp [Op.operands])]; exact h
  | nilCheck x => simp only [quietA] at h ⊢; rw [← he x (by simp [Op.operands])]; exact h
  | binOp o t x y t' => simp only [quietA] at h ⊢; rw [← he x (by simp [Op.operands]), ← he y (by simp [Op.operands])]; exact h
  | unOp o t x => simp only [quietA] at h ⊢; rw [← he x (by simp [Op.operands])]; exact h
  | convert s d x => simp only [quietA] at h ⊢; rw [← he x (by simp [Op.operands])]; exact h
  | makeFunc c first cap =>
    cases c with
    | func g =>
      simp only [quietA] at h ⊢
      have e : cap.toList.map f' = cap.toList.map f := List.map_congr_left fun x hx => (he x (by simp [Op.operands]; simp at hx; simp [hx])).symm
      rw [e]
      exact h
    | _ => exact h.elim
  | slice t x lo hi mx =>
    cases mx with
    | some m => exact h.elim
    | none =>
      simp only [quietA] at h ⊢
      have e1 : lo.map f' = lo.map f := by
        cases lo with
        | none => rfl
        | some a => simp [he a (by simp [Op.operands])]
      have e2 : hi.map f' = hi.map f := by
        cases hi with
        | none => rfl
        | some a => simp [he a (by simp [Op.operands])]
      rw [← he x (by simp [Op.operands]), e1, e2]
      exact h
  | fieldAddr s x i => simp only [quietA] at h ⊢; rw [← he x (by simp [Op.operands])]; exact h
  | field t x i => simp only [quietA] at h ⊢; rw [← he x (by simp [Op.operands])]; exact h
  | indexAddr t x ix => simp only [quietA] at h ⊢; rw [← he x (by simp [Op.operands]), ← he ix (by simp [Op.operands])]; exact h
  | index t x ix => simp only [quietA] at h ⊢; rw [← he x (by simp [Op.operands]), ← he ix (by simp [Op.operands])]; exact h
  | extract x i => simp only [quietA] at h ⊢; rw [← he x (by simp [Op.operands])]; exact h
  | call c =>
    obtain ⟨callee, args, ts⟩ := c
    cases callee with
    | builtin b =>
      simp only [quietA] at h ⊢
      have e : args.toList.map f' = args.toList.map f := List.map_congr_left fun x hx => (he x (by simp [Op.operands, Call.operands]; simpa using hx)).symm
      rw [e]
      exact h
    | _ => exact h.elim
  | _ => exact h.elim
theorem opA_congr {op : Op} {f f' : Operand → AV} {hp : List Blk} {k : AV → List Blk → Option Nat → Prop} (he : ∀ x ∈ op.operands, f x = f' x) (h : opA P n0 op f hp k) : opA P n0 op f' hp k := by
  cases op with
  | alloc t => exact h
  | box t x => simp only [opA] at h ⊢; rw [← he x (by simp [Op.operands])]; exact h
  | buildSlice t len parts =>
    simp only [opA] at h ⊢
    have e : (parts.toList.map fun p => (p.1, f' p.2)) = parts.toList.map fun p => (p.1, f p.2) := List.map_congr_left fun p hp => by rw [he p.2 (by simp only [Op.operands]; simpa using ⟨p.1, by simpa using hp⟩)]
    rw [e]
    exact h
  | store t a x => simp only [opA] at h ⊢; rw [← he a (by simp [Op.operands]), ← he x (by simp [Op.operands])]; exact h
  | makeSlice t l c => simp only [opA] at h ⊢; rw [← he l (by simp [Op.operands]), ← he c (by simp [Op.operands])]; exact h
  | call c =>
    obtain ⟨callee, args, ts⟩ := c
    cases callee with
    | value g =>
      simp only [opA] at h ⊢
      have e : args.toList.map f' = args.toList.map f := List.map_congr_left fun x hx => (he x (by simp [Op.operands, Call.operands]; simp at hx; simp [hx])).symm
      rw [← he g (by simp [Op.operands, Call.operands]), e]
      exact h
    | builtin b =>
      have e : args.toList.map f' = args.toList.map f := List.map_congr_left fun x hx => (he x (by simp [Op.operands, Call.operands]; simpa using hx)).symm
      by_cases hb : b = .append
      · subst hb
        obtain ⟨l⟩ := args
        simp only [opA] at h ⊢
        match l, he, h with
        | [s, x], he, h => simp only [] at h ⊢; rw [← he s (by simp [Op.operands, Call.operands]), ← he x (by simp [Op.operands, Call.operands])]; exact h
        | [], _, h => exact h.elim
        | [_], _, h => exact h.elim
        | _ :: _ :: _ :: _, _, h => exact h.elim
      · cases b <;> first | exact absurd rfl hb | (simp only [opA] at h ⊢; rw [e]; exact h)
    | _ => exact h.elim
  | move x => exact quietA_congr (P := P) (hp := hp) (k := fun v => k v hp none) he h
  | assign x => exact quietA_congr (P := P) (hp := hp) (k := fun v => k v hp none) he h
  | pick c a b => exact quietA_congr (P := P) (hp := hp) (k := fun v => k v hp none) he h
  | build t parts => exact quietA_congr (P := P) (hp := hp) (k := fun v => k v hp none) he h
  | load t a => exact quietA_congr (P := P) (hp := hp) (k := fun v => k v hp none) he h
  | nilCheck x => exact quietA_congr (P := P) (hp := hp) (k := fun v => k v hp none) he h
  | binOp o t x y t' => exact quietA_congr (P := P) (hp := hp) (k := fun v => k v hp none) he h
  | unOp o t x => exact quietA_congr (P := P) (hp := hp) (k := fun v => k v hp none) he h
  | convert s d x => simp only [opA] at h ⊢; rw [← he x (by simp [Op.operands])]; exact h
  | makeFunc c first cap => exact quietA_congr (P := P) (hp := hp) (k := fun v => k v hp none) he h
  | slice t x lo hi mx => exact quietA_congr (P := P) (hp := hp) (k := fun v => k v hp none) he h
  | fieldAddr s x i => exact quietA_congr (P := P) (hp := hp) (k := fun v => k v hp none) he h
  | field t x i => exact quietA_congr (P := P) (hp := hp) (k := fun v => k v hp none) he h
  | indexAddr t x ix => exact quietA_congr (P := P) (hp := hp) (k := fun v => k v hp none) he h
  | index t x ix => exact quietA_congr (P := P) (hp := hp) (k := fun v => k v hp none) he h
  | extract x i => exact quietA_congr (P := P) (hp := hp) (k := fun v => k v hp none) he h
  | _ => exact h.elim
end

section
variable {P : Program} {n0 : Nat}
def AnyS (P : Program) (n0 : Nat) (ops : List Oper) (Q : Ex → St → Prop) (fuel : Nat) (listed : Array Bool) (st : St) : Prop :=
  ∀ (E0 : Env P) (hp0 : List Blk) (E : Env P) (a : Act), hp0.length = n0 → SR E0 hp0 E st a → wpAny P .any ops.toArray (liftQ E0 hp0 Q) fuel listed a E.w
theorem Weak.refl {st : St} : Weak n0 st st := fun _ _ _ E _ _ hs => ⟨E, rfl, hs⟩
theorem anyS_by {ops : List Oper} {Q : Ex → St → Prop} {ms : List Bool} (I : Array Bool → St → Prop)
    (step : ∀ listed st i, listed.size = ops.length → I listed st → i ∈ Region.ready .any ops.toArray listed → ∃ st1, Weak n0 st st1 ∧ stepA P n0 ops ms i (fun st' => I (listed.setIfInBounds i true) st') st1)
    (fin : ∀ listed st, listed.size = ops.length → I listed st → Region.ready .any ops.toArray listed = [] → Q .normal st) : ∀ (fuel : Nat) (listed : Array Bool) (st : St), listed.size = ops.length → ops.length ≤ fuel + listed.toList.count true → I listed st → AnyS P n0 ops Q fuel listed st
  | 0, listed, st, hs, hf, hI => by
    have h0 : Region.ready .any ops.toArray listed = [] := by
      cases hr : Region.ready .any ops.toArray listed with
      | nil => rfl
      | cons i l =>
        exfalso
        have := count_lt _ i (ready_false hs (by rw [hr]; exact List.mem_cons_self))
        simp at this hf
        omega
    exact fun E0 hp0 E a hn hsr => ⟨h0, .normal, st, E, rfl, rfl, hsr, fin listed st hs hI h0⟩
  | fuel + 1, listed, st, hs, hf, hI => fun E0 hp0 E a hn hsr => ⟨fun h0 => ⟨.normal, st, E, rfl, rfl, hsr, fin listed st hs hI h0⟩, fun i hi => by
      obtain ⟨st1, hw, h1⟩ := step listed st i hs hI hi
      obtain ⟨E2, e, hsr2⟩ := hw _ E0 hp0 E a hn hsr
      rw [← e]
      rw [← hn] at h1
      refine stepA_sound (K' := wpAny P .any ops.toArray (liftQ E0 hp0 Q) fuel (listed.setIfInBounds i true)) (fun E3 st3 a3 hs3 hI3 => ?_) hsr2 h1
      exact anyS_by I step fin fuel _ st3 (by simpa using hs) (by
        have := count_set _ i (ready_false hs hi)
        rw [show (listed.setIfInBounds i true).toList = listed.toList.set i true from by simp, this]
        omega) hI3 E0 hp0 E3 a3 hn hs3⟩
theorem anyS_region (hm : P.follows .mixedOrders = true) {id : Nat} {ops : Array Oper} {Q : Ex → St → Prop} {st : St} {t} (h : AnyS P n0 ops.toList Q ops.size (Array.replicate ops.size false) st) : Lp P n0 (.region id ops true) Q t st := by
  delta Lp
  intro E0 hp0 E a hn hs
  refine wp_region_any hm ?_
  have hs' : SR E0 hp0 (E.with { E.w with drawn := E.w.drawn + 1 }) st a := ⟨hs.hr.with (Same.drew _ _), hs.fr.with (Same.drew _ _), hs.len, fun i v u a1 a2 => (hs.tm i v u a1 a2).mono (Env.le_with (Same.drew _ _)), hs.df⟩
  have h2 := h E0 hp0 _ a hn hs'
  rw [show ops.toList.toArray = ops from by simp] at h2
  exact h2

theorem plan_run {ops : List Oper} {pl : Plan} {ms : List Bool} {st0 st1 : St} {Q : Ex → St → Prop} (L : Nat) (oL : Oper) (hL : ops[L]? = some oL) (hmL : ms.getD L true = true)
    (hg : ∀ o ∈ ops, o.guard = none)
    (hd : ∀ (i j : Nat) (oi oj : Oper) (d : Nat), ops[i]? = some oi → ops[j]? = some oj → oi.dst = some d → oj.dst = some d → i = j)
    (hlen : ∀ (i : Nat) (o : Oper) (d : Nat), ops[i]? = some o → o.dst = some d → d < st0.tm.length)
    (hdst : ∀ (i : Nat) (o : Oper), ops[i]? = some o → i ≠ L → ∃ d, o.dst = some d)
    (huses : ∀ (j : Nat) (o : Oper), ops[j]? = some o → ∀ i ∈ pl.uses j, ∃ e ∈ o.after, Region.binds .any e = true ∧ e.on = i)
    (hloc : ∀ j nm nm', (∀ i ∈ pl.uses j, nm i = nm' i) → (pl.fresh j ≠ none → nm j = nm' j) → pl.val j nm = pl.val j nm')
    (hlast : ∀ i, i < ops.length → i ≠ L → ∃ e ∈ oL.after, Region.binds .any e = true ∧ e.on = i)
    (hback : ∀ (j : Nat) (o : Oper), ops[j]? = some o → ∀ e ∈ o.after, Region.binds .any e = true → e.on < j)
    (hop : ∀ (i : Nat) (o : Oper) listed nm st, ops[i]? = some o → i ≠ L → Mid ops pl st0 listed nm st → (∀ e ∈ o.after, Region.binds .any e = true → On listed e.on) →
      (ms.getD i true = true ∧ opA P n0 o.op st.ev st.hp (fun v hp' kb => kb = none ∧ match pl.fresh i with
        | none => v = pl.val i nm ∧ hp' = st.hp
        | some b => v = pl.val i (upd nm i st.hp.length) ∧ hp' = st.hp ++ [b])) ∨ (ms.getD i true = false ∧ pl.fresh i = none ∧ Yields P o st.ev st.hp (pl.val i nm)))
    (hweak : ∀ listed nm st, Mid ops pl st0 listed nm st → (∀ i, i < ops.length → i ≠ L → On listed i) → Weak n0 st st1)
    (hend : opA P n0 oL.op st1.ev st1.hp (fun v hp' kb => Q .normal ((st1.after hp' kb).put oL.dst v))) :
    AnyS P n0 ops Q ops.length (Array.replicate ops.length false) st0 := by
  have hLlt : L < ops.length := (List.getElem?_eq_some_iff.1 hL).1
  refine anyS_by (ms := ms) (fun listed st => (¬ On listed L ∧ ∃ nm, Mid ops pl st0 listed nm st) ∨ (On listed L ∧ (∀ i, i < ops.length → On listed i) ∧ Q .normal st)) ?_ ?_ _ _ _ (by simp) (by simp) ?_
  · intro listed st i hs hI hr
    have hf := ready_false hs hr
    obtain ⟨hi, o, ho, hall⟩ := mem_ready.1 hr
    have ho' : ops[i]? = some o := by simpa using ho
    have hilt : i < ops.length := (List.getElem?_eq_some_iff.1 ho').1
    have onI : On (listed.setIfInBounds i true) i := by
      unfold On
      simp [hs, hilt]
    have hnot : ¬ On listed i := by
      unfold On
      simp [Array.getD, hs, hilt] at hi ⊢
      simp [hi]
    rcases hI with ⟨hnL, nm, M⟩ | ⟨_, hA, _⟩
    · by_cases hiL : i = L
      · subst hiL
        rw [hL] at ho'; cases ho'
        have hall' : ∀ j, j < ops.length → j ≠ i → On listed j := fun j hj hne => by
          obtain ⟨e, he, hb, rfl⟩ := hlast j hj hne
          exact hall e he hb
        refine ⟨st1, hweak listed nm st M hall', ?_⟩
        unfold stepA
        rw [hL]
        simp only [hmL, if_true]
        exact .inl ⟨by simp [wantedA, hg oL (List.mem_of_getElem? hL)], _, hend, fun v hp' kb hk => .inr ⟨onI, fun j hj => by
          by_cases hji : j = i
          · subst hji; exact onI
          · exact getD_set_true (hall' j hj hji), hk⟩⟩
      · refine ⟨st, Weak.refl, ?_⟩
        have hw : wantedA ops o st = some true := by simp [wantedA, hg o (List.mem_of_getElem? ho')]
        obtain ⟨d, hdd⟩ := hdst i o ho' hiL
        have next : ∀ v hp', (match pl.fresh i with
            | none => v = pl.val i nm ∧ hp' = st.hp
            | some b => v = pl.val i (upd nm i st.hp.length) ∧ hp' = st.hp ++ [b]) → (¬ On (listed.setIfInBounds i true) L ∧ ∃ nm, Mid ops pl st0 (listed.setIfInBounds i true) nm { tm := st.tm.set d v, hp := hp' }) := by
          intro v hp' hk
          obtain ⟨nm', M'⟩ := M.step hd hlen huses hloc ho' hi hdd hall hs hk
          refine ⟨?_, nm', M'⟩
          unfold On at hnL ⊢
          rw [getD_set_ne false hiL]; exact hnL
        unfold stepA
        rw [ho']
        simp only []
        rcases hop i o listed nm st ho' hiL M hall with ⟨hm, h⟩ | ⟨hm, hfr, h⟩
        · rw [if_pos hm]
          refine .inl ⟨hw, _, h, fun v hp' kb ⟨hkb, hk⟩ => ?_⟩
          subst hkb
          rw [hdd]
          exact .inl (next v hp' hk)
        · rw [hm]
          simp only [Bool.false_eq_true, if_false]
          refine ⟨_, .inl ⟨hw, h⟩, ?_⟩
          rw [hdd]
          exact .inl (next _ st.hp (by rw [hfr]; exact ⟨rfl, rfl⟩))
    · exact absurd (hA i hilt) hnot
  · intro listed st hs hI hr
    rcases hI with ⟨hnL, nm, M⟩ | ⟨_, _, hk⟩
    · exfalso
      have all : ∀ n i, i < n → i < ops.length → On listed i := by
        intro n
        induction n with
        | zero => intro i hi; omega
        | succ n ih =>
          intro i hi hl
          apply Classical.byContradiction
          intro hno
          have hmem : i ∈ Region.ready .any ops.toArray listed := by
            refine mem_ready.2 ⟨?_, ops[i], by simp [hl], fun e he hb => ih _ (by have := hback i ops[i] (List.getElem?_eq_getElem hl) e he hb; omega) (by have := hback i ops[i] (List.getElem?_eq_getElem hl) e he hb; omega)⟩
            unfold On at hno
            simp [Array.getD, hs, hl] at hno ⊢
            exact hno
          rw [hr] at hmem
          cases hmem
      exact hnL (all (L + 1) L (by omega) hLlt)
    · exact hk
  · exact .inl ⟨noOn _ _, fun i => i, rfl, fun i o d _ hon => absurd hon (noOn _ _), fun d _ => rfl, Nat.le_refl _, fun b _ => rfl, fun i b _ hon => absurd hon (noOn _ _), fun i j _ _ hon => absurd hon (noOn _ _), fun j o _ hon => absurd hon (noOn _ _)⟩
end

def plName (N0 : Nat) (nm : Nat → Nat) (b : Nat) : Nat := if b < N0 then b else nm (b - N0)
abbrev PEs := List (Nat × AV × Option Blk)
def PEs.v (pv : PEs) (i : Nat) : AV := (pv.getD i (0, .any, none)).2.1
def PEs.b (pv : PEs) (i : Nat) : Option Blk := (pv.getD i (0, .any, none)).2.2
def PEs.uses (N0 : Nat) (pv : PEs) (i : Nat) : List Nat := (names (pv.v i)).filterMap fun b => if N0 ≤ b ∧ b ≠ N0 + i then some (b - N0) else none
def planOf (N0 : Nat) (pv : PEs) : Plan where
  val i nm := ren (plName N0 nm) (pv.v i)
  fresh := pv.b
  uses := pv.uses N0
def edgeOn (o : Oper) (i : Nat) : Bool := o.after.any fun e => Region.binds .any e && e.on == i
theorem edgeOn_spec {o : Oper} {i : Nat} (h : edgeOn o i = true) : ∃ e ∈ o.after, Region.binds .any e = true ∧ e.on = i := by
  unfold edgeOn at h
  rw [Array.any_eq_true] at h
  obtain ⟨m, hm, he⟩ := h
  simp only [Bool.and_eq_true, beq_iff_eq] at he
  exact ⟨_, Array.getElem_mem hm, he.1, he.2⟩
def freeSlot (ops : List Oper) (j d : Nat) : Bool := (List.range ops.length).all fun i => i == j || ((ops[i]?).bind (·.dst)) != some d
def edgeBack (o : Oper) (j : Nat) : Bool := o.after.all fun e => !(Region.binds .any e) || decide (e.on < j)
def looksOk (ops : List Oper) (o : Oper) : Bool := o.op.operands.all fun x => match x with
  | .tmp t => (List.range ops.length).all fun i => ((ops[i]?).bind (·.dst)) != some t || edgeOn o i
  | _ => true
def planAt (ops : List Oper) (N0 ntm : Nat) (pv : PEs) (j : Nat) : Bool :=
  match ops[j]?, pv[j]? with
  | some o, some (d, v, b) => o.guard.isNone && o.dst == some d && decide (d < ntm) && freeSlot ops j d && ((pv.uses N0 j).all fun i => edgeOn o i) && (!((names v).contains (N0 + j)) || b.isSome) && edgeBack o j && looksOk ops o
  | _, _ => false
def planLast (ops : List Oper) (ntm : Nat) (L : Nat) : Bool :=
  match ops[L]? with
  | some o => ops.length == L + 1 && o.guard.isNone && edgeBack o L && ((List.range L).all fun i => edgeOn o i) && (match o.dst with
    | some d => decide (d < ntm) && freeSlot ops L d
    | none => true)
  | none => false
def planOk (ops : List Oper) (N0 ntm : Nat) (pv : PEs) : Bool := planLast ops ntm pv.length && (List.range pv.length).all fun j => planAt ops N0 ntm pv j
def slotP (π : Nat → Nat) (tm : List AV) : PEs → Nat → AV
  | [], t => tm.getD t .any
  | (d, v, _) :: r, t => if d = t then ren π v else slotP π tm r t
def evP (π : Nat → Nat) (tm : List AV) (pv : PEs) : Operand → AV
  | .tmp t => slotP π tm pv t
  | .const v => ofV v
  | .func f => .fn f []
  | .global _ => .any
def oldOk (hp : List Blk) : Nat → List Blk → Prop
  | _, [] => True
  | k, b :: r => hp[k]? = some b ∧ oldOk hp (k + 1) r
def newOk (hp : List Blk) (nm : Nat → Nat) (o : Oper) : Nat → PEs → Prop
  | _, [] => True
  | k, (_, _, some b) :: r => (edgeOn o k = true → hp[nm k]? = some b) ∧ newOk hp nm o (k + 1) r
  | k, (_, _, none) :: r => newOk hp nm o (k + 1) r
theorem slotP_at {π : Nat → Nat} {tm : List AV} {t : Nat} {v : AV} {b : Option Blk} : ∀ {pv : PEs} {i : Nat}, pv[i]? = some (t, v, b) → (∀ (j : Nat) e, pv[j]? = some e → e.1 = t → j = i) → slotP π tm pv t = ren π v
  | [], i, h, _ => by simp at h
  | (d, u, c) :: r, 0, h, _ => by simp at h; simp [slotP, h]
  | (d, u, c) :: r, i + 1, h, hu => by
    have hd : d ≠ t := fun e => by have := hu 0 (d, u, c) rfl e; omega
    simp only [slotP, hd, if_false]
    exact slotP_at (by simpa using h) fun j e hj he => by have := hu (j + 1) e (by simpa using hj) he; omega
theorem slotP_rest {π : Nat → Nat} {tm : List AV} {t : Nat} : ∀ {pv : PEs}, (∀ (j : Nat) e, pv[j]? = some e → e.1 ≠ t) → slotP π tm pv t = tm.getD t .any
  | [], _ => rfl
  | (d, u, c) :: r, hu => by
    have hd : d ≠ t := hu 0 (d, u, c) rfl
    simp only [slotP, hd, if_false]
    exact slotP_rest fun j e hj => hu (j + 1) e (by simpa using hj)
theorem oldOk_of {hp : List Blk} : ∀ (r : List Blk) (k : Nat), (∀ b, k ≤ b → b < k + r.length → hp[b]? = r[b - k]?) → oldOk hp k r
  | [], _, _ => trivial
  | b :: r, k, h => ⟨by have := h k (Nat.le_refl _) (by simp); simpa using this, oldOk_of r (k + 1) fun c h1 h2 => by
      have := h c (by omega) (by simp; omega)
      rw [this, show c - k = (c - (k + 1)) + 1 from by omega]
      simp⟩
theorem newOk_of {hp : List Blk} {nm : Nat → Nat} {o : Oper} : ∀ (r : PEs) (k : Nat), (∀ (i : Nat) e b, r[i]? = some e → e.2.2 = some b → edgeOn o (k + i) = true → hp[nm (k + i)]? = some b) → newOk hp nm o k r
  | [], _, _ => trivial
  | (d, v, some b) :: r, k, h => ⟨fun he => h 0 (d, v, some b) b rfl rfl he, newOk_of r (k + 1) fun i e b hi he hg => by
      have := h (i + 1) e b (by simpa using hi) he (by rw [show k + (i + 1) = k + 1 + i from by omega]; exact hg)
      rwa [show k + (i + 1) = k + 1 + i from by omega] at this⟩
  | (d, v, none) :: r, k, h => newOk_of r (k + 1) fun i e b hi he hg => by
      have := h (i + 1) e b (by simpa using hi) he (by rw [show k + (i + 1) = k + 1 + i from by omega]; exact hg)
      rwa [show k + (i + 1) = k + 1 + i from by omega] at this

theorem names_lt {N : Nat} (a : AV) (h : below N a = true) : ∀ b ∈ names a, b < N := by
  have hL : ∀ a, belowL N a = true → ∀ b ∈ namesL a, b < N := fun a h b hb => by
    cases a <;> first | (simp [namesL] at hb; done) | (simp only [namesL, List.mem_singleton] at hb; subst hb; simpa [belowL] using h)
  have hM : ∀ a, belowM N a = true → ∀ b ∈ namesM a, b < N := fun a h b hb => by
    cases a with
    | agg l =>
      simp only [belowM, List.all_eq_true] at h
      simp only [namesM, List.mem_flatMap] at hb
      obtain ⟨x, hx, hb⟩ := hb
      exact hL x (h x hx) b hb
    | fn f l =>
      simp only [belowM, List.all_eq_true] at h
      simp only [namesM, List.mem_flatMap] at hb
      obtain ⟨x, hx, hb⟩ := hb
      exact hL x (h x hx) b hb
    | _ => first | (simp [namesM, namesL] at hb; done) | (simp only [namesM, namesL, List.mem_singleton] at hb; subst hb; simpa [belowM, belowL] using h)
  intro b hb
  cases a with
  | tup l =>
    simp only [below, List.all_eq_true] at h
    simp only [names, List.mem_flatMap] at hb
    obtain ⟨x, hx, hb⟩ := hb
    exact hM x (h x hx) b hb
  | agg l => exact hM (.agg l) h b hb
  | fn f l => exact hM (.fn f l) h b hb
  | _ => first | (simp [names, namesM, namesL] at hb; done) | (simp only [names, namesM, namesL, List.mem_singleton] at hb; subst hb; simpa [below, belowM, belowL] using h)
theorem below_le {N M : Nat} (hle : N ≤ M) (a : AV) (h : below N a = true) : below M a = true := by
  have hL : ∀ a, belowL N a = true → belowL M a = true := fun a h => by
    cases a <;> first | exact h | (simp only [belowL, decide_eq_true_eq] at h ⊢; omega)
  have hM : ∀ a, belowM N a = true → belowM M a = true := fun a h => by
    cases a with
    | agg l => simp only [belowM, List.all_eq_true] at h ⊢; exact fun x hx => hL x (h x hx)
    | fn f l => simp only [belowM, List.all_eq_true] at h ⊢; exact fun x hx => hL x (h x hx)
    | _ => first | exact h | (simp only [belowM, belowL, decide_eq_true_eq] at h ⊢; omega)
  cases a with
  | tup l => simp only [below, List.all_eq_true] at h ⊢; exact fun x hx => hM x (h x hx)
  | agg l => exact hM (.agg l) h
  | fn f l => exact hM (.fn f l) h
  | _ => first | exact h | (simp only [below, belowM, belowL, decide_eq_true_eq] at h ⊢; omega)
theorem ren_same (a : AV) : ∀ {N : Nat}, below N a = true → ∀ {π : Nat → Nat}, (∀ b, b < N → π b = b) → ren π a = a := by
  intro N h π hπ
  have e : ren π a = ren (fun b => b) a := ren_names a fun b hb => hπ b (names_lt a h b hb)
  rw [e]
  exact ren_id N h

def endName (N0 : Nat) (ps : List Nat) (c : Nat) : Nat := if c < N0 then c else N0 + ps.getD (c - N0) 0
def finAt (N0 : Nat) (ps : List Nat) (tm : List AV) : PEs → Nat → AV → Prop
  | [], t, b => tm.getD t .any = b ∧ below N0 b = true
  | (d, v, _) :: r, t, b => if d = t then v = ren (endName N0 ps) b ∧ below (N0 + ps.length) b = true else finAt N0 ps tm r t b
def finOk (N0 : Nat) (ps : List Nat) (tm : List AV) (pv : PEs) : Nat → List AV → Prop
  | _, [] => True
  | t, b :: r => (b = .any ∨ finAt N0 ps tm pv t b) ∧ finOk N0 ps tm pv (t + 1) r
theorem finOk_nil {N0 : Nat} {ps : List Nat} {tm : List AV} {pv : PEs} {t : Nat} : finOk N0 ps tm pv t [] := trivial
theorem finOk_any {N0 : Nat} {ps : List Nat} {tm m : List AV} {pv : PEs} {t : Nat} (h : finOk N0 ps tm pv (t + 1) m) : finOk N0 ps tm pv t (.any :: m) := ⟨.inl rfl, h⟩
theorem finOk_val {N0 : Nat} {ps : List Nat} {tm m : List AV} {pv : PEs} {t : Nat} {b : AV} (hb : finAt N0 ps tm pv t b) (h : finOk N0 ps tm pv (t + 1) m) : finOk N0 ps tm pv t (b :: m) := ⟨.inr hb, h⟩
theorem finOk_get {N0 : Nat} {ps : List Nat} {tm : List AV} {pv : PEs} : ∀ {m : List AV} {t : Nat}, finOk N0 ps tm pv t m → ∀ (i : Nat) b, m[i]? = some b → b = .any ∨ finAt N0 ps tm pv (t + i) b
  | [], t, _, i, b, h => by simp at h
  | c :: m, t, hf, 0, b, h => by simp at h; subst h; exact hf.1
  | c :: m, t, hf, i + 1, b, h => by
    have := finOk_get hf.2 i b (by simpa using h)
    rwa [show t + 1 + i = t + (i + 1) from by omega] at this
theorem finAt_slot {N0 : Nat} {ps : List Nat} {tm : List AV} {nm : Nat → Nat} {t : Nat} {b : AV} : ∀ {pv : PEs}, finAt N0 ps tm pv t b → slotP (plName N0 nm) tm pv t = ren (planName N0 nm ps) b ∧ below (N0 + ps.length) b = true
  | [], h => ⟨by
      show tm.getD t .any = _
      rw [h.1]
      exact (ren_same b h.2 fun c hc => by simp [planName, hc]).symm, below_le (by omega) b h.2⟩
  | (d, v, c) :: r, h => by
    unfold finAt at h
    unfold slotP
    by_cases hd : d = t
    · rw [if_pos hd] at h ⊢
      refine ⟨?_, h.2⟩
      rw [h.1, ren_comp]
      refine ren_names b fun c _ => ?_
      simp only [plName, endName, planName]
      by_cases hc : c < N0
      · simp [hc]
      · simp [hc, Nat.not_lt.2 (Nat.le_add_right N0 _)]
    · rw [if_neg hd] at h ⊢
      exact finAt_slot h

section
variable {P : Program} {n0 : Nat}
def HopAt (P : Program) (n0 : Nat) (ops : List Oper) (ms : List Bool) (st0 : St) (pv : PEs) (i : Nat) : Prop :=
  ∀ o, ops[i]? = some o → ∀ (nm : Nat → Nat) (hp : List Blk), oldOk hp 0 st0.hp → newOk hp nm o 0 pv → st0.hp.length ≤ hp.length →
    (ms.getD i true = true ∧ opA P n0 o.op (evP (plName st0.hp.length nm) st0.tm pv) hp (Cn (fun v hp' kb => kb = none ∧ match pv.b i with
      | none => v = ren (plName st0.hp.length nm) (pv.v i) ∧ hp' = hp
      | some b => v = ren (plName st0.hp.length (upd nm i hp.length)) (pv.v i) ∧ hp' = hp ++ [b]) .mk)) ∨
    (ms.getD i true = false ∧ pv.b i = none ∧ Yields P o (evP (plName st0.hp.length nm) st0.tm pv) hp (ren (plName st0.hp.length nm) (pv.v i)))
def HopsFrom (P : Program) (n0 : Nat) (ops : List Oper) (ms : List Bool) (st0 : St) (pv : PEs) : Nat → Nat → Prop
  | _, 0 => True
  | k, n + 1 => HopAt P n0 ops ms st0 pv k ∧ HopsFrom P n0 ops ms st0 pv (k + 1) n
theorem HopsFrom.get {ops : List Oper} {ms : List Bool} {st0 : St} {pv : PEs} : ∀ {n k : Nat}, HopsFrom P n0 ops ms st0 pv k n → ∀ i, k ≤ i → i < k + n → HopAt P n0 ops ms st0 pv i
  | 0, k, _, i, h1, h2 => by omega
  | n + 1, k, h, i, h1, h2 => by
    by_cases he : i = k
    · subst he; exact h.1
    · exact h.2.get i (by omega) (by omega)

theorem go_plan (hm : P.follows .mixedOrders = true) {id : Nat} {ops : Array Oper} {Q : Ex → St → Prop} {st0 : St} {t} (ms : List Bool) (pv : PEs) (ps : List Nat) (bs : List Blk) (m : List AV) (oL : Oper)
    (hok : planOk ops.toList st0.hp.length st0.tm.length pv = true) (hL : ops.toList[pv.length]? = some oL) (hmL : ms.getD pv.length true = true) (hn0 : n0 ≤ st0.hp.length)
    (hflat : ∀ r ∈ st0.hp, allBelow 0 r.els = true) (hbs : ∀ r ∈ bs, allBelow 0 r.els = true)
    (hnd : ps.Nodup) (hps : ps.map pv.b = bs.map some) (hLd : (oL.dst.map fun d => m.getD d .any).getD .any = .any) (hfin : m.length = st0.tm.length ∧ finOk st0.hp.length ps st0.tm pv 0 m)
    (hops : HopsFrom P n0 ops.toList ms st0 pv 0 pv.length)
    (hend : opA P n0 oL.op (St.mk m (st0.hp ++ bs)).ev (st0.hp ++ bs) (Cn (fun v hp' kb => Q .normal (((St.mk m (st0.hp ++ bs)).after hp' kb).put oL.dst v)) .mk)) : Lp P n0 (.region id ops true) Q t st0 := by
  refine anyS_region hm ?_
  obtain ⟨opl⟩ := ops
  simp only [List.size_toArray] at *
  simp only [planOk, Bool.and_eq_true, List.all_eq_true, List.mem_range] at hok
  obtain ⟨hlast, hall⟩ := hok
  unfold planLast at hlast
  rw [hL] at hlast
  simp only [Bool.and_eq_true, beq_iff_eq] at hlast
  obtain ⟨⟨⟨⟨hsize, hgL⟩, hbL⟩, heL⟩, hdL⟩ := hlast
  simp only [List.all_eq_true, List.mem_range] at heL
  have gl : ∀ (i : Nat) o, opl[i]? = some o → i < pv.length ∨ (i = pv.length ∧ o = oL) := fun i o h => by
    have := (List.getElem?_eq_some_iff.1 h).1
    by_cases hi : i < pv.length
    · exact .inl hi
    · have e : i = pv.length := by omega
      subst e
      rw [hL] at h
      cases h
      exact .inr ⟨rfl, rfl⟩
  have at_ : ∀ (i : Nat) o, opl[i]? = some o → i < pv.length → ∃ d v b, pv[i]? = some (d, v, b) ∧ o.guard = none ∧ o.dst = some d ∧ d < st0.tm.length ∧ freeSlot opl i d = true ∧ (∀ k ∈ pv.uses st0.hp.length i, edgeOn o k = true) ∧ (st0.hp.length + i ∈ names v → b ≠ none) ∧ edgeBack o i = true ∧ looksOk opl o = true := by
    intro i o ho hi
    have h := hall i hi
    unfold planAt at h
    rw [ho] at h
    cases hp : pv[i]? with
    | none => rw [hp] at h; cases h
    | some e =>
      obtain ⟨d, v, b⟩ := e
      rw [hp] at h
      simp only [Bool.and_eq_true, beq_iff_eq, decide_eq_true_eq, List.all_eq_true, Bool.or_eq_true, Bool.not_eq_true', Option.isNone_iff_eq_none] at h
      obtain ⟨⟨⟨⟨⟨⟨⟨h1, h2⟩, h3⟩, h4⟩, h5⟩, h6⟩, h7⟩, h8⟩ := h
      refine ⟨d, v, b, rfl, h1, h2, h3, h4, h5, fun hmem => ?_, h7, h8⟩
      rcases h6 with h6 | h6
      · have : (names v).contains (st0.hp.length + i) = true := by simpa using hmem
        rw [this] at h6; cases h6
      · intro e; rw [e] at h6; cases h6
  have pvv : ∀ {i : Nat} {d v b}, pv[i]? = some (d, v, b) → pv.v i = v ∧ pv.b i = b := fun {i d v b} h => by
    simp [PEs.v, PEs.b, List.getD_eq_getElem?_getD, h]
  have back : ∀ (j : Nat) (o : Oper), opl[j]? = some o → ∀ e ∈ o.after, Region.binds .any e = true → e.on < j := by
    intro j o ho e he hb
    have hbk : edgeBack o j = true := by
      rcases gl j o ho with hj | ⟨hj, rfl⟩
      · obtain ⟨d, v, b, _, _, _, _, _, _, _, h7, _⟩ := at_ j o ho hj
        exact h7
      · rw [hj]; exact hbL
    unfold edgeBack at hbk
    rw [Array.all_eq_true] at hbk
    obtain ⟨k, hk, rfl⟩ := Array.getElem_of_mem he
    have := hbk k hk
    simp only [hb, Bool.not_true, Bool.false_or, decide_eq_true_eq] at this
    exact this
  have dsts : ∀ (i : Nat) (o : Oper) (d : Nat), opl[i]? = some o → o.dst = some d → d < st0.tm.length ∧ freeSlot opl i d = true := by
    intro i o d ho hd
    rcases gl i o ho with hj | ⟨hj, rfl⟩
    · obtain ⟨d', v, b, _, _, h2, h3, h4, _⟩ := at_ i o ho hj
      rw [hd] at h2; cases h2
      exact ⟨h3, h4⟩
    · rw [hd] at hdL
      simp only [Bool.and_eq_true, decide_eq_true_eq] at hdL
      rw [hj]; exact hdL
  have hdd : ∀ (i j : Nat) (oi oj : Oper) (d : Nat), opl[i]? = some oi → opl[j]? = some oj → oi.dst = some d → oj.dst = some d → i = j := by
    intro i j oi oj d hi hj h1 h2
    have := (dsts i oi d hi h1).2
    unfold freeSlot at this
    simp only [List.all_eq_true, List.mem_range, Bool.or_eq_true, beq_iff_eq, bne_iff_ne, ne_eq] at this
    rcases this j (List.getElem?_eq_some_iff.1 hj).1 with h | h
    · exact h.symm
    · simp [hj, h2] at h
  have slots : ∀ {listed nm st} (M : Mid opl (planOf st0.hp.length pv) st0 listed nm st) (t : Nat), (∀ (i : Nat) oi, opl[i]? = some oi → oi.dst = some t → On listed i ∧ i < pv.length) → st.tm.getD t .any = slotP (plName st0.hp.length nm) st0.tm pv t := by
    intro listed nm st M t hon
    by_cases hex : ∃ (i : Nat) (oi : Oper), opl[i]? = some oi ∧ oi.dst = some t
    · obtain ⟨i, oi, hi, hd⟩ := hex
      obtain ⟨h1, h2⟩ := hon i oi hi hd
      obtain ⟨d, v, b, hp, _, hd', _⟩ := at_ i oi hi h2
      rw [hd] at hd'; cases hd'
      rw [M.slot i oi t hi h1 hd, slotP_at hp fun j e hj he => ?_]
      · show ren _ (pv.v i) = _
        rw [(pvv hp).1]
      · have hjl : j < pv.length := (List.getElem?_eq_some_iff.1 hj).1
        have hoj : opl[j]? = some (opl[j]'(by omega)) := List.getElem?_eq_getElem (by omega)
        obtain ⟨d2, v2, b2, hp2, _, hd2, _⟩ := at_ j _ hoj hjl
        rw [hj] at hp2
        cases hp2
        simp only at he
        subst he
        exact hdd j i _ oi d2 hoj hi hd2 hd
    · rw [M.rest t fun i oi hi hd => hex ⟨i, oi, hi, hd⟩, slotP_rest fun j e hj he => ?_]
      have hjl : j < pv.length := (List.getElem?_eq_some_iff.1 hj).1
      have hoj : opl[j]? = some (opl[j]'(by omega)) := List.getElem?_eq_getElem (by omega)
      obtain ⟨d2, v2, b2, hp2, _, hd2, _⟩ := at_ j _ hoj hjl
      rw [hj] at hp2
      cases hp2
      exact hex ⟨j, _, hoj, by rw [hd2, ← he]⟩
  refine plan_run (pl := planOf st0.hp.length pv) (ms := ms) (st1 := St.mk m (st0.hp ++ bs)) pv.length oL hL hmL ?_ hdd ?_ ?_ ?_ ?_ ?_ back ?_ ?_ (by simpa only [Cn_eq] using hend)
  · intro o ho
    obtain ⟨i, hi⟩ := List.getElem?_of_mem ho
    rcases gl i o hi with hj | ⟨_, rfl⟩
    · obtain ⟨d, v, b, _, h1, _⟩ := at_ i o hi hj
      exact h1
    · simpa using hgL
  · intro i o d ho hd; exact (dsts i o d ho hd).1
  · intro i o ho hne
    rcases gl i o ho with hj | ⟨hj, _⟩
    · obtain ⟨d, v, b, _, _, h2, _⟩ := at_ i o ho hj
      exact ⟨d, h2⟩
    · exact absurd hj hne
  · intro j o ho i hi
    rcases gl j o ho with hj | ⟨hj, _⟩
    · obtain ⟨d, v, b, _, _, _, _, _, h5, _⟩ := at_ j o ho hj
      exact edgeOn_spec (h5 i hi)
    · exfalso
      have hi' : i ∈ pv.uses st0.hp.length j := hi
      have e : pv.v j = .any := by simp [PEs.v, List.getD_eq_getElem?_getD, hj]
      simp [PEs.uses, e, names, namesM, namesL] at hi'
  · intro j nm nm' h1 h2
    show ren _ (pv.v j) = ren _ (pv.v j)
    refine ren_names _ fun b hb => ?_
    simp only [plName]
    by_cases hc : b < st0.hp.length
    · simp [hc]
    · simp only [hc, if_false]
      by_cases he : b = st0.hp.length + j
      · have hj : j < pv.length := by
          apply Decidable.byContradiction
          intro hn
          have e : pv.v j = .any := by simp [PEs.v, List.getD_eq_getElem?_getD, List.getElem?_eq_none (Nat.le_of_not_lt hn)]
          rw [e] at hb
          simp [names, namesM, namesL] at hb
        have hoj : opl[j]? = some (opl[j]'(by omega)) := List.getElem?_eq_getElem (by omega)
        obtain ⟨d, v, bb, hp, _, _, _, _, _, h6, _⟩ := at_ j _ hoj hj
        have h7 := h6 (by rw [← he, ← (pvv hp).1]; exact hb)
        rw [show b - st0.hp.length = j from by omega]
        exact h2 (by show pv.b j ≠ none; rw [(pvv hp).2]; exact h7)
      · refine h1 _ ?_
        show _ ∈ pv.uses st0.hp.length j
        simp only [PEs.uses, List.mem_filterMap]
        exact ⟨b, hb, by rw [if_pos ⟨by omega, he⟩]⟩
  · intro i hi hne
    exact edgeOn_spec (heL i (by omega))
  · intro i o listed nm st ho hne M hedge
    rcases gl i o ho with hj | ⟨hj, _⟩
    · obtain ⟨d, v, b, hp, _, h2, _, _, _, _, _, hlk⟩ := at_ i o ho hj
      have hev : ∀ x ∈ o.op.operands, evP (plName st0.hp.length nm) st0.tm pv x = st.ev x := by
        intro x hx
        cases x with
        | tmp t =>
          refine (slots M t fun k ok hk hd => ?_).symm
          unfold looksOk at hlk
          rw [Array.all_eq_true] at hlk
          obtain ⟨q, hq, e⟩ := Array.getElem_of_mem hx
          have h := hlk q hq
          rw [e] at h
          simp only [List.all_eq_true, List.mem_range, Bool.or_eq_true, bne_iff_ne, ne_eq] at h
          rcases h k (List.getElem?_eq_some_iff.1 hk).1 with h | h
          · simp [hk, hd] at h
          · obtain ⟨ed, he, hb, rfl⟩ := edgeOn_spec h
            have := back i o ho ed he hb
            exact ⟨hedge ed he hb, by omega⟩
        | _ => rfl
      have hold : oldOk st.hp 0 st0.hp := oldOk_of _ _ fun b _ hb => by rw [M.old b (by omega)]; simp
      have hnew : newOk st.hp nm o 0 pv := newOk_of _ _ fun k e bb hk hb he => by
        rw [Nat.zero_add] at he ⊢
        obtain ⟨ed, hee, hbb, rfl⟩ := edgeOn_spec he
        have hkl := (List.getElem?_eq_some_iff.1 hk).1
        obtain ⟨d', v', b'⟩ := e
        simp only at hb
        subst hb
        exact (M.blk ed.on bb (by omega) (hedge ed hee hbb) (pvv hk).2).2
      rcases hops.get i (Nat.zero_le _) (by omega) o ho nm st.hp hold hnew M.more with ⟨h1, h2⟩ | ⟨h1, h2, h3⟩
      · rw [Cn_eq] at h2
        exact .inl ⟨h1, opA_congr hev h2⟩
      · exact .inr ⟨h1, h2, h3.congr hev⟩
    · exact absurd hj hne
  · intro listed nm st M hon
    refine M.weak hn0 hflat ps bs hnd (by have := congrArg List.length hps; simpa using this.symm) ?_ hbs m hfin.1 ?_
    · intro j i hj
      have hb : (ps.map pv.b)[j]? = some (pv.b i) := by simp [hj]
      rw [hps] at hb
      have hbj : bs[j]? = pv.b i := by
        cases hc : bs[j]? with
        | none => simp [hc] at hb
        | some c => simp [hc] at hb; exact hb
      have hi : i < pv.length := by
        apply Decidable.byContradiction
        intro hn
        have e : pv.b i = none := by simp [PEs.b, List.getD_eq_getElem?_getD, List.getElem?_eq_none (Nat.le_of_not_lt hn)]
        rw [e] at hb
        simp at hb
      exact ⟨by omega, hon i (by omega) (by omega), hbj.symm⟩
    · intro i b hi
      rcases finOk_get hfin.2 i b hi with rfl | h
      · exact .inl rfl
      · rw [Nat.zero_add] at h
        by_cases hany : b = .any
        · exact .inl hany
        · right
          by_cases hex : ∃ (k : Nat) (ok : Oper), opl[k]? = some ok ∧ ok.dst = some i ∧ k = pv.length
          · exfalso
            obtain ⟨k, ok, hk, hd, e⟩ := hex
            subst e
            rw [hL] at hk
            cases hk
            have := hLd
            rw [hd, Option.map_some, Option.getD_some] at this
            rw [List.getD_eq_getElem?_getD, hi, Option.getD_some] at this
            exact hany this
          · obtain ⟨h1, h2⟩ := finAt_slot (nm := nm) h
            refine ⟨?_, h2⟩
            rw [← h1]
            refine slots M i fun k ok hk hd => ?_
            rcases gl k ok hk with hj | ⟨hj, _⟩
            · exact ⟨hon k (by omega) (by omega), hj⟩
            · exact absurd ⟨k, ok, hk, hd, hj⟩ hex

section
variable {ops : List Oper} {ms : List Bool} {st0 : St} {pv : PEs} {k n : Nat}
theorem hops_nil : HopsFrom P n0 ops ms st0 pv k 0 := trivial
theorem hops_op {o : Oper} {d : Nat} {v : AV} (ho : ops[k]? = some o) (hm : ms.getD k true = true) (hv : pv[k]? = some (d, v, none))
    (h : ∀ (nm : Nat → Nat) (hp : List Blk), oldOk hp 0 st0.hp → newOk hp nm o 0 pv → st0.hp.length ≤ hp.length →
      opA P n0 o.op (evP (plName st0.hp.length nm) st0.tm pv) hp (Cn (fun w hp' kb => kb = none ∧ w = ren (plName st0.hp.length nm) v ∧ hp' = hp) .mk))
    (hr : HopsFrom P n0 ops ms st0 pv (k + 1) n) : HopsFrom P n0 ops ms st0 pv k (n + 1) := by
  refine ⟨fun o' ho' nm hp h1 h2 h3 => ?_, hr⟩
  rw [ho] at ho'
  cases ho'
  have h4 := h nm hp h1 h2 h3
  have e1 : pv.v k = v := by simp [PEs.v, List.getD_eq_getElem?_getD, hv]
  have e2 : pv.b k = none := by simp [PEs.b, List.getD_eq_getElem?_getD, hv]
  refine .inl ⟨hm, ?_⟩
  rw [e1, e2]
  exact h4
theorem hops_new {o : Oper} {d : Nat} {v : AV} {b : Blk} (ho : ops[k]? = some o) (hm : ms.getD k true = true) (hv : pv[k]? = some (d, v, some b))
    (h : ∀ (nm : Nat → Nat) (hp : List Blk), oldOk hp 0 st0.hp → newOk hp nm o 0 pv → st0.hp.length ≤ hp.length →
      opA P n0 o.op (evP (plName st0.hp.length nm) st0.tm pv) hp (Cn (fun w hp' kb => kb = none ∧ w = ren (plName st0.hp.length (upd nm k hp.length)) v ∧ hp' = hp ++ [b]) .mk))
    (hr : HopsFrom P n0 ops ms st0 pv (k + 1) n) : HopsFrom P n0 ops ms st0 pv k (n + 1) := by
  refine ⟨fun o' ho' nm hp h1 h2 h3 => ?_, hr⟩
  rw [ho] at ho'
  cases ho'
  have h4 := h nm hp h1 h2 h3
  have e1 : pv.v k = v := by simp [PEs.v, List.getD_eq_getElem?_getD, hv]
  have e2 : pv.b k = some b := by simp [PEs.b, List.getD_eq_getElem?_getD, hv]
  refine .inl ⟨hm, ?_⟩
  rw [e1, e2]
  exact h4
end
end
end Go.Abs
/- The abstract layer, part ZB: a call that reads known blocks; what it makes is told as lists that nobody writes any more. -/
set_option linter.unusedSimpArgs false
set_option linter.unusedVariables false
namespace Go.Abs
open Go
variable {P : Program}
theorem view_ptr (d : Nat) (hp : List Blk) (b i j : Nat) : view (d + 1) hp (.ptr b i j) = match hp[b]? with
  | some blk => if blk.live then (match blk.els[i]? with
    | some e => .rop ((e.cells.drop j).map (view d hp))
    | none => .any) else .any
  | none => .any := rfl
section
variable {P : Program}
end
end Go.Abs
/- The abstract layer, part ZD: the library's sort, by the kit's contract. -/
set_option linter.unusedSimpArgs false
set_option linter.unusedVariables false
namespace Go.Abs
open Go
variable {P : Program}

theorem HRel.extend {E : Env P} {hp : List Blk} (H : HRel E hp) {w' : World} (hs : E.w.heap.size ≤ w'.heap.size) (hh : ∀ c, c < E.w.heap.size → w'.heap[c]? = E.w.heap[c]?) (h1 : w'.os = E.w.os) (h2 : w'.tape = E.w.tape) (h3 : w'.output = E.w.output) :
    HRel (E.with w') hp ∧ (∀ {E0 : Env P} {hp0 : List Blk}, Fr E0 hp0 E hp → Fr E0 hp0 (E.with w') hp) ∧ E.le (E.with w') := by
  have hcsz : ∀ c, csz E.w c ≤ csz w' c := fun c => by
    by_cases hc : c < E.w.heap.size
    · unfold csz; rw [hh c hc]; exact Nat.le_refl _
    · unfold csz
      rw [Array.getElem?_eq_none (by omega)]
      exact Nat.zero_le _
  have le : E.le (E.with w') := ⟨fun _ h => h, fun c hc => hh c (H.old c hc), Nat.le_refl _, fun _ _ => rfl, fun _ _ => rfl, hcsz⟩
  refine ⟨⟨H.N, H.wd, fun b blk hb hl => ?_, H.inj, H.apart, fun c hc => Nat.lt_of_lt_of_le (H.old c hc) hs, H.laidLe le⟩, ?_, le⟩
  · obtain ⟨cs, h4, h5⟩ := (H.holds b blk hb hl).cells
    refine ⟨cs, ?_, fun i e he => ⟨(h5 i e he).1, fun j x hx => ?_⟩⟩
    · show Row w'.heap[E.ρ b]? _ _
      rw [hh _ (Row.lt h4)]
      exact h4
    · obtain ⟨v, h6, h7⟩ := (h5 i e he).2 j x hx
      exact ⟨v, h6, h7.mono le⟩
  · intro E0 hp0 F
    exact { size := Nat.le_trans F.size hs, os := h1.trans F.os, tape := h2.trans F.tape, output := h3.trans F.output
            block := fun c hc hn => by
              show w'.heap[c]? = _
              rw [hh c (Nat.lt_of_lt_of_le hc F.size)]
              exact F.block c hc hn
            len := F.len, ρ := F.ρ, wd := F.wd, F := F.F, F' := F.F', live := F.live, csz := fun c => Nat.le_trans (F.csz c) (hcsz c) }

end Go.Abs
/- The abstract layer, part ZE: numerals by the kit's contract; bytes; places in strings. -/
set_option linter.unusedSimpArgs false
set_option linter.unusedVariables false
namespace Go.Abs
open Go Go.RowKit
variable {P : Program}

theorem HRel.table {E : Env P} {hp : List Blk} (H : HRel E hp) {n : String} {k : IntKind} {zs : List Int} (ht : (n, k, zs) ∈ tables) {g : Nat} (hg : P.globalNamed n = some g) : Lib.TabIs P E.w n k zs := by
  obtain ⟨_, ty, fr, h⟩ := H.laid.1 _ ht g hg
  simp only [Lib.TabIs, World.var?, hg, Option.bind_some, h]

theorem itoa_call {f : FuncId} (hg : (P.globalNamed "internal/strconv.uint64pow10").isSome = true) (hgo : isGo P f) (n : Int)
    (h : ∀ w : World, Lib.TabIs P w "internal/strconv.uint64pow10" .u64 Lib.pow10Tab → Calls P f #[.int .i64 n, .int .i64 10] w fun e w' => e = .returned (.string ⟨(Lib.itoa n).toArray⟩) ∧ ∃ k os, w' = Sort.grow (w.drewN k) os) :
    CallA P f [.int .i64 n, .int .i64 10] [] (Ret (.str (Lib.itoa n)) []) := by
  intro E vs H hl hrv
  obtain ⟨g, hg⟩ := Option.isSome_iff_exists.1 hg
  obtain ⟨v, u, rfl, hv, hu⟩ := RV.two hl hrv
  cases hv
  cases hu
  refine .inl ⟨hgo, (h E.w (H.table (by simp [tables]) hg)).mono ?_⟩
  rintro ex w' ⟨rfl, k, os, rfl⟩
  have hh : (E.w.drewN k).heap = E.w.heap := rfl
  obtain ⟨H2, F2, _⟩ := H.extend (w' := Sort.grow (E.w.drewN k) os) (by simp [Sort.grow, World.drewN]) (fun c hc => by rw [Sort.heap_grow_old _ _ (by rw [hh]; exact hc), hh]) rfl rfl rfl
  exact ⟨_, rfl, .str _, [], E.with _, rfl, ⟨rfl, rfl⟩, .str _, H2, F2 (Fr.refl E _)⟩

theorem byts_below (n : Nat) : ∀ l : List UInt8, allBelow n (byts l) = true
  | [] => rfl
  | x :: l => byts_below n l
theorem w8 {n : Int} (h0 : 0 ≤ n) (h1 : n ≤ 255) : IntKind.u8.wrap n = n := by
  unfold IntKind.wrap
  simp [IntKind.bits, IntKind.signed]
  omega
theorem join_call {f : FuncId} (hgo : isGo P f) (sep : List UInt8) (xs : List (List UInt8))
    (hnone : ∀ (a : Option Addr) (c : Nat) (w : World), Calls P f #[.slice a 0 c, .string ⟨sep.toArray⟩] w fun e w' => e = .returned (.string ⟨#[]⟩) ∧ w' = w)
    (h : ∀ (bk o c : Nat) (w : World), (∀ (j : Nat) x, xs[j]? = some x → w.cell? ⟨bk, o + j, none⟩ = some (.string ⟨x.toArray⟩)) → bk < w.heap.size → xs.length ≤ c →
      Calls P f #[.slice (some ⟨bk, o, none⟩) xs.length c, .string ⟨sep.toArray⟩] w fun e w' => e = .returned (.string ⟨(Lib.join xs sep).toArray⟩) ∧ Below w.heap.size w w') :
    CallA P f [.ro (strs xs), .str sep] [] (Ret (.str (Lib.join xs sep)) []) := by
  intro E vs H hl hrv
  obtain ⟨v, u, rfl, hv, hu⟩ := RV.two hl hrv
  cases hu
  generalize hs : strs xs = l at hv
  cases hv with
  | roNil a cap =>
    have : xs = [] := by cases xs with | nil => rfl | cons _ _ => simp [strs] at hs
    subst this
    refine .inl ⟨hgo, (hnone a cap E.w).mono ?_⟩
    rintro ex w' ⟨rfl, rfl⟩
    exact ⟨_, rfl, .str [], [], E, rfl, ⟨rfl, rfl⟩, .str [], H, Fr.refl E _⟩
  | ro _ b off cap wd val hF hcap hmax hw hc hv =>
    subst hs
    have hlen : (strs xs).length = xs.length := strs_len xs
    refine .inl ⟨hgo, ?_⟩
    rw [hlen]
    refine (h b off cap E.w (fun j x hx => ?_) (H.old _ hF) (by omega)).mono ?_
    · have g1 : (strs xs)[j]? = some (.str x) := by simp [strs, hx]
      have hwd : wd = 1 := by have := hw j _ g1; simpa [AV.cells] using this.symm
      have g2 := hc j _ g1 0 _ rfl
      have g3 := hv j _ g1 0 _ rfl
      rw [hwd] at g2
      generalize val j 0 = vv at g2 g3
      cases g3
      simpa using g2
    · rintro ex w' ⟨rfl, bel⟩
      obtain ⟨H2, F2, _⟩ := H.extend (w' := w') bel.size bel.block bel.os bel.tape bel.output
      exact ⟨_, rfl, .str _, [], E.with _, rfl, ⟨rfl, rfl⟩, .str _, H2, F2 (Fr.refl E _)⟩
theorem none_of {L : List String} (he : (L.all fun n => (P.globalNamed n).isNone) = true) {n : String} (hn : n ∈ L) {g : Nat} (hg : P.globalNamed n = some g) : False := by
  have := List.all_eq_true.1 he n hn
  rw [hg] at this
  cases this
theorem laid_of_tabs {w : World} (h : ∀ t ∈ tables, (P.globalNamed t.1).isSome = true → Lib.TabIs P w t.1 t.2.1 t.2.2) (he : ∀ n ∈ errs, (P.globalNamed n).isSome = true → ∃ v, w.var? P n = some #[v] ∧ isErr v)
    (hi : ∀ n ∈ intVars, ∀ g, P.globalNamed n = some g → ∃ m, w.cell? ⟨g, 0, none⟩ = some (.int .i64 m)) : Laid P w fun c => c < w.heap.size := by
  refine ⟨fun t ht g hg => ?_, fun n hn g hg => ?_, fun n hn g hg => ?_⟩
  · have h1 := h t ht (by rw [hg]; rfl)
    simp only [Lib.TabIs, World.var?, hg, Option.bind_some] at h1
    split at h1
    · rename_i cs ty fr hx
      refine ⟨(Array.getElem?_eq_some_iff.1 hx).1, ty, fr, ?_⟩
      rw [hx]
      cases h1
      rfl
    · cases h1
  · obtain ⟨v, h1, h2⟩ := he n hn (by rw [hg]; rfl)
    simp only [World.var?, hg, Option.bind_some] at h1
    split at h1
    · rename_i cs ty fr hx
      refine ⟨(Array.getElem?_eq_some_iff.1 hx).1, v, ty, fr, ?_, h2⟩
      rw [hx]
      cases h1
      rfl
    · cases h1
  · obtain ⟨m, h1⟩ := hi n hn g hg
    unfold World.cell? at h1
    split at h1
    · rename_i cs ty fr hx
      exact ⟨(Array.getElem?_eq_some_iff.1 hx).1, m, cs, ty, fr, hx, by simpa using h1⟩
    · cases h1
theorem HRel.err {E : Env P} {hp : List Blk} (H : HRel E hp) {n : String} (hn : n ∈ errs) {g : Nat} (hg : P.globalNamed n = some g) : ∃ v, E.w.cell? ⟨g, 0, none⟩ = some v ∧ isErr v := by
  obtain ⟨_, v, ty, fr, h, h2⟩ := H.laid.2.1 _ hn g hg
  exact ⟨v, by simp [World.cell?, h], h2⟩
theorem HRel.intVar {E : Env P} {hp : List Blk} (H : HRel E hp) {n : String} (hn : n ∈ intVars) {g : Nat} (hg : P.globalNamed n = some g) : ∃ m, E.w.cell? ⟨g, 0, none⟩ = some (.int .i64 m) := by
  obtain ⟨_, m, cs, ty, fr, h, h2⟩ := H.laid.2.2 _ hn g hg
  exact ⟨m, by simp [World.cell?, h, h2]⟩
end Go.Abs
/- The abstract layer, part ZF: a block of the caller's is taken over: it is dead, and a new one lies in its place. -/
set_option linter.unusedSimpArgs false
set_option linter.unusedVariables false
namespace Go.Abs
open Go
variable {P : Program}

structure LeHpW (N : Nat) (π : Nat → Nat) (n0 : Nat) (hp hp2 : List Blk) : Prop where
  len : hp2.length = N
  hn0 : n0 ≤ N
  low : ∀ b, b < n0 → π b = b
  inj : ∀ (b b' : Nat) r r', hp2[b]? = some r → r.live = true → hp2[b']? = some r' → r'.live = true → π b = π b' → b = b'
  blk : ∀ (b : Nat) r, hp2[b]? = some r → ∃ q, hp[π b]? = some q ∧ q.w = r.w ∧ (r.live = true → q.live = true ∧ q.ty = r.ty ∧ q.els = r.els.map (ren π) ∧ ∀ e ∈ r.els, below N e = true)
theorem LeHpW.sound {N : Nat} {π : Nat → Nat} {n0 : Nat} {hp hp2 : List Blk} (h : LeHpW N π n0 hp hp2) {E0 : Env P} {hp0 : List Blk} {E : Env P} (hn : hp0.length = n0) (H : HRel E hp) (F : Fr E0 hp0 E hp) : HRel (E.ren N π) hp2 ∧ Fr E0 hp0 (E.ren N π) hp2 := by
  have lt : ∀ (b : Nat) r, hp2[b]? = some r → b < N := fun b r hb => by rw [← h.len]; exact (List.getElem?_eq_some_iff.1 hb).1
  refine ⟨⟨h.len.symm, ?_, ?_, ?_, ?_, H.old, H.laid⟩, ?_⟩
  · intro b r hb
    obtain ⟨q, hq, hw, _⟩ := h.blk b r hb
    show E.wd (π b) = r.w
    rw [H.wd (π b) q hq, hw]
  · intro b r hb hl
    obtain ⟨q, hq, hw, hx⟩ := h.blk b r hb
    obtain ⟨hql, hty, hels, hbel⟩ := hx hl
    obtain ⟨cs, h1, h2⟩ := (H.holds (π b) q hq hql).cells
    refine ⟨cs, by rw [← hty]; exact h1, fun i e he => ?_⟩
    have hbe := hbel e (List.mem_of_getElem? he)
    obtain ⟨k1, k2⟩ := ren_cells (π := π) hbe
    have hqe : q.els[i]? = some (Abs.ren π e) := by rw [hels]; simp [he]
    obtain ⟨h3, h4⟩ := h2 i _ hqe
    refine ⟨by rw [← hw, ← h3, k1], fun j c hc => ?_⟩
    obtain ⟨c', hc', k3⟩ := k2 j c hc
    obtain ⟨v, h5, h6⟩ := h4 j c' hc'
    exact ⟨v, by rw [← hw]; exact h5, k3 h6⟩
  · intro b b' r r' hb hl hb' hl' he
    obtain ⟨q, hq, _, hx⟩ := h.blk b r hb
    obtain ⟨q', hq', _, hx'⟩ := h.blk b' r' hb'
    exact h.inj b b' r r' hb hl hb' hl' (H.inj (π b) (π b') q q' hq (hx hl).1 hq' (hx' hl').1 he)
  · intro b r hb hl
    obtain ⟨q, hq, _, hx⟩ := h.blk b r hb
    exact H.apart (π b) q hq (hx hl).1
  · exact {
      size := F.size
      os := F.os
      tape := F.tape
      output := F.output
      block := F.block
      len := by rw [hn, h.len]; exact h.hn0
      ρ := fun b hb => by show E.ρ (π b) = _; rw [h.low b (by omega)]; exact F.ρ b hb
      wd := fun b hb => by show E.wd (π b) = _; rw [h.low b (by omega)]; exact F.wd b hb
      F := F.F
      F' := F.F'
      live := fun b ⟨r, hb, hl⟩ => by
        obtain ⟨q, hq, _, hx⟩ := h.blk b r hb
        have hlive := F.live (π b) ⟨q, hq, (hx hl).1⟩
        by_cases hbn : b < n0
        · rw [h.low b hbn] at hlive
          rcases hlive with h1 | ⟨h1, _⟩
          · exact .inl h1
          · omega
        · rcases hlive with ⟨h1, h2⟩ | ⟨_, h2⟩
          · exact .inr ⟨by omega, .inr ⟨π b, h2, (F.ρ (π b) h1).symm⟩⟩
          · exact .inr ⟨by omega, h2⟩
      csz := F.csz }
end Go.Abs
/- The abstract layer, part ZG: strings.Cut, TrimSuffix and Split, by the kit's own contracts. -/
set_option linter.unusedSimpArgs false
set_option linter.unusedVariables false
namespace Go.Abs
open Go
variable {P : Program}

theorem size_byts (s : List UInt8) : (⟨s.toArray⟩ : ByteArray).size = s.length := by simp [ByteArray.size]
theorem RV.cut3 {E : Env P} (a b : List UInt8) (c : Bool) : RV E (.tup [.str a, .str b, .bool c]) (.tuple #[.string ⟨a.toArray⟩, .string ⟨b.toArray⟩, .bool c]) := by
  refine .tup _ _ rfl fun i x v h1 h2 => ?_
  match i with
  | 0 => cases h1; cases h2; exact .str _
  | 1 => cases h1; cases h2; exact .str _
  | 2 => cases h1; cases h2; exact .bool _
  | i + 3 => simp at h1
theorem cut_call' {f : FuncId} (hgo : isGo P f) {g : Nat} (hg : P.globalNamed "internal/bytealg.MaxLen" = some g) (s sep : List UInt8)
    (h : ∀ (m : Int) (w : World), w.cell? ⟨g, 0, none⟩ = some (.int .i64 m) → Calls P f #[.string ⟨s.toArray⟩, .string ⟨sep.toArray⟩] w fun e w' =>
      e = .returned (.tuple #[.string ⟨(Lib.cut s sep).1.toArray⟩, .string ⟨(Lib.cut s sep).2.1.toArray⟩, .bool (Lib.cut s sep).2.2]) ∧ ∃ n, w' = w.drewN n) :
    CallA P f [.str s, .str sep] [] (Ret (.tup [.str (Lib.cut s sep).1, .str (Lib.cut s sep).2.1, .bool (Lib.cut s sep).2.2]) []) := by
  intro E vs H hl hrv
  obtain ⟨v, u, rfl, hv, hu⟩ := RV.two hl hrv
  cases hv
  cases hu
  obtain ⟨m, hm⟩ := H.intVar (n := "internal/bytealg.MaxLen") (by simp [intVars]) hg
  refine .inl ⟨hgo, (h m E.w hm).mono ?_⟩
  rintro ex w' ⟨rfl, k, rfl⟩
  obtain ⟨H2, F2, _⟩ := H.extend (w' := E.w.drewN k) (Nat.le_refl _) (fun c hc => rfl) rfl rfl rfl
  exact ⟨_, rfl, _, [], E.with _, rfl, ⟨rfl, rfl⟩, RV.cut3 _ _ _, H2, F2 (Fr.refl E _)⟩
theorem trim_call' {f : FuncId} (hgo : isGo P f) (s sep : List UInt8)
    (h : ∀ w : World, Calls P f #[.string ⟨s.toArray⟩, .string ⟨sep.toArray⟩] w fun e w' => e = .returned (.string ⟨(Lib.trimSuffix s sep).toArray⟩) ∧ w' = w) :
    CallA P f [.str s, .str sep] [] (Ret (.str (Lib.trimSuffix s sep)) []) := by
  intro E vs H hl hrv
  obtain ⟨v, u, rfl, hv, hu⟩ := RV.two hl hrv
  cases hv
  cases hu
  refine .inl ⟨hgo, (h E.w).mono ?_⟩
  rintro ex w' ⟨rfl, rfl⟩
  exact ⟨_, rfl, _, [], E, rfl, ⟨rfl, rfl⟩, .str _, H, Fr.refl E _⟩

def words (sep s : List UInt8) : List (List UInt8) := (Lib.splitB ⟨sep.toArray⟩ 0 (Lib.countB ⟨s.toArray⟩ ⟨sep.toArray⟩) ⟨s.toArray⟩).map (·.data.toList)
theorem words_len (sep s : List UInt8) (h1 : 1 ≤ sep.length) : (words sep s).length = Lib.countB ⟨s.toArray⟩ ⟨sep.toArray⟩ + 1 := by
  unfold words
  rw [List.length_map]
  exact Lib.splitB_all ⟨sep.toArray⟩ (by rw [size_byts]; exact h1) 0 _ _ rfl
theorem words_le (sep s : List UInt8) (h1 : 1 ≤ sep.length) : (words sep s).length ≤ s.length + 1 := by
  rw [words_len sep s h1]
  have := Lib.countB_le ⟨sep.toArray⟩ (by rw [size_byts]; exact h1) _ ⟨s.toArray⟩ (Nat.le_refl _)
  rw [size_byts] at this
  omega
theorem splitB_mem (sep : ByteArray) : ∀ (k : Nat) (s b : ByteArray), b ∈ Lib.splitB sep 0 k s → b.size ≤ s.size
  | 0, s, b, h => by
    rw [Lib.splitB_zero] at h
    rw [List.mem_singleton.1 h]; exact Nat.le_refl _
  | k + 1, s, b, h => by
    unfold Lib.splitB at h
    split at h
    · rw [List.mem_singleton.1 h]; exact Nat.le_refl _
    · rcases List.mem_cons.1 h with rfl | h
      · rw [ByteArray.size_extract]; omega
      · have := splitB_mem sep k _ b h
        rw [ByteArray.size_extract] at this
        omega
theorem words_mem (sep s p : List UInt8) (h : p ∈ words sep s) : p.length ≤ s.length := by
  unfold words at h
  obtain ⟨b, hb, rfl⟩ := List.mem_map.1 h
  have := splitB_mem _ _ _ _ hb
  rw [size_byts s] at this
  show b.data.toList.length ≤ _
  have e : b.data.toList.length = b.size := Array.length_toList
  omega
theorem str_of (b : ByteArray) {E : Env P} : RV E (.str b.data.toList) (.string b) := RV.str b.data.toList
theorem split_call' {f : FuncId} (hgo : isGo P f) {g : Nat} (hg : P.globalNamed "internal/bytealg.MaxLen" = some g) {t : TypeId} (s sep : List UInt8) (h1 : 1 ≤ sep.length) (hs : s.length ≤ 4294967280)
    (h : ∀ (m : Int) (w : World), w.cell? ⟨g, 0, none⟩ = some (.int .i64 m) → Calls P f #[.string ⟨s.toArray⟩, .string ⟨sep.toArray⟩] w fun e w' =>
      e = .returned (.slice (some ⟨w.heap.size, 0, none⟩) (Lib.countB ⟨s.toArray⟩ ⟨sep.toArray⟩ + 1) (Lib.countB ⟨s.toArray⟩ ⟨sep.toArray⟩ + 1)) ∧ w' = w.alloc (.cells ((Lib.splitB ⟨sep.toArray⟩ 0 (Lib.countB ⟨s.toArray⟩ ⟨sep.toArray⟩) ⟨s.toArray⟩).map Value.string).toArray t)) :
    CallA P f [.str s, .str sep] [] (Ret (.ro (strs (words sep s))) []) := by
  intro E vs H hl hrv
  obtain ⟨v, u, rfl, hv, hu⟩ := RV.two hl hrv
  cases hv
  cases hu
  obtain ⟨m, hm⟩ := H.intVar (n := "internal/bytealg.MaxLen") (by simp [intVars]) hg
  refine .inl ⟨hgo, (h m E.w hm).mono ?_⟩
  rintro ex w' ⟨rfl, rfl⟩
  have wl := words_len sep s h1
  have wle := words_le sep s h1
  rw [← wl]
  generalize hb : Lib.splitB ⟨sep.toArray⟩ 0 (Lib.countB ⟨s.toArray⟩ ⟨sep.toArray⟩) ⟨s.toArray⟩ = bs
  have hw : words sep s = bs.map (·.data.toList) := by unfold words; rw [hb]
  have hnew : (E.w.alloc (.cells (bs.map Value.string).toArray t)).heap[E.w.heap.size]? = some (.cells (bs.map Value.string).toArray t) := by
    show (E.w.heap.push _)[E.w.heap.size]? = _
    rw [Array.getElem?_push, if_pos rfl]
  have hold : ∀ c, c < E.w.heap.size → (E.w.alloc (.cells (bs.map Value.string).toArray t)).heap[c]? = E.w.heap[c]? := fun c hc => by
    simp only [World.alloc]
    rw [Array.getElem?_push, if_neg (by omega)]
  obtain ⟨H2, F2, _⟩ := H.extend (w' := E.w.alloc (.cells (bs.map Value.string).toArray t)) (by show _ ≤ (E.w.heap.push _).size; rw [Array.size_push]; omega) hold rfl rfl rfl
  have F3 := F2 (Fr.refl E _)
  refine ⟨_, rfl, _, [], { E.with (E.w.alloc (.cells (bs.map Value.string).toArray t)) with F := fun c => E.F c ∨ c = E.w.heap.size }, rfl, ⟨rfl, rfl⟩, ?_, ?_, ?_⟩
  · have hsl : (strs (words sep s)).length = (words sep s).length := strs_len _
    rw [← hsl]
    refine .ro _ _ 0 _ 1 (fun i _ => .string ((bs[i]?).getD ⟨#[]⟩)) (.inr rfl) (Nat.le_refl _) (by rw [hsl]; unfold maxLen; omega) (fun i e he => ?_) (fun i e he j c hc => ?_) (fun i e he j c hc => ?_)
    · unfold strs at he
      rw [List.getElem?_map, Option.map_eq_some_iff] at he
      obtain ⟨x, _, rfl⟩ := he
      rfl
    · have he' : i < bs.length := by
        have := (List.getElem?_eq_some_iff.1 he).1
        rw [hsl, hw, List.length_map] at this
        exact this
      unfold strs at he
      rw [List.getElem?_map, Option.map_eq_some_iff] at he
      obtain ⟨x, _, rfl⟩ := he
      match j with
      | 0 =>
        show World.cell? (E.w.alloc _) ⟨E.w.heap.size, 0 + i * 1 + 0, none⟩ = _
        simp only [World.cell?, hnew]
        simp [List.getElem?_eq_getElem he']
      | j + 1 => simp [AV.cells] at hc
    · have he' : i < bs.length := by
        have := (List.getElem?_eq_some_iff.1 he).1
        rw [hsl, hw, List.length_map] at this
        exact this
      unfold strs at he
      rw [List.getElem?_map, Option.map_eq_some_iff] at he
      obtain ⟨x, hx, rfl⟩ := he
      rw [hw, List.getElem?_map, List.getElem?_eq_getElem he'] at hx
      have hx : bs[i].data.toList = x := by simpa using hx
      match j with
      | 0 =>
        have hc : AV.str x = c := by simpa [AV.cells] using hc
        subst hc
        rw [List.getElem?_eq_getElem he', ← hx]
        exact str_of _
      | j + 1 => simp [AV.cells] at hc
  · exact ⟨H2.N, H2.wd, fun b blk hb => by simp at hb, fun b b' blk blk' hb => by simp at hb, fun b blk hb => by simp at hb, fun c hc => by
      rcases hc with hc | rfl
      · exact H2.old c hc
      · show _ < (E.w.heap.push _).size
        rw [Array.size_push]; omega, H2.laid.keep (fun c hc => .inl hc) (fun _ _ => rfl)⟩
  · exact { size := F3.size, os := F3.os, tape := F3.tape, output := F3.output, block := F3.block, len := F3.len, ρ := F3.ρ, wd := F3.wd, F := fun c hc => .inl hc
            F' := fun c hc => by
              rcases hc with hc | rfl
              · exact .inl hc
              · exact .inr (.inl (Nat.le_refl _))
            live := fun b hb => by obtain ⟨blk, hb, _⟩ := hb; simp at hb
            csz := F3.csz }
end Go.Abs
/- The abstract layer, part ZH: nil slices told as empty lists; a block that holds nothing; heaps whose blocks name one another. -/
set_option linter.unusedSimpArgs false
set_option linter.unusedVariables false
namespace Go.Abs
open Go
variable {P : Program}

def nilD : Nat → AV → AV
  | 0, a => a
  | d + 1, a => match a with
    | .nils => .ro []
    | .agg l => .agg (l.map (nilD d))
    | .tup l => .tup (l.map (nilD d))
    | .ro l => .ro (l.map (nilD d))
    | .rop l => .rop (l.map (nilD d))
    | a => a
theorem nilD_cells (d : Nat) (e : AV) : (nilD d e).cells.length = e.cells.length ∧ ∀ (j : Nat) c, (nilD d e).cells[j]? = some c → ∃ d' c0, e.cells[j]? = some c0 ∧ d' ≤ d ∧ c = nilD d' c0 := by
  cases d with
  | zero => exact ⟨rfl, fun j c h => ⟨0, c, h, Nat.le_refl _, rfl⟩⟩
  | succ d =>
    cases e with
    | agg l =>
      refine ⟨by simp [nilD, AV.cells], fun j c h => ?_⟩
      simp only [nilD, AV.cells, List.getElem?_map, Option.map_eq_some_iff] at h
      obtain ⟨c0, h1, rfl⟩ := h
      exact ⟨d, c0, h1, Nat.le_succ _, rfl⟩
    | _ =>
      refine ⟨rfl, fun j c h => ?_⟩
      cases j with
      | zero => cases h; exact ⟨d + 1, _, rfl, Nat.le_refl _, rfl⟩
      | succ j => cases h
theorem RV.nil : ∀ (d : Nat) {E : Env P} {a : AV} {v : Value}, RV E a v → RV E (nilD d a) v := by
  intro d
  induction d using Nat.strongRecOn with
  | _ d ih =>
  intro E a v h
  match d, ih with
  | 0, _ => exact h
  | d + 1, ih =>
  cases h with
  | nils a => exact .roNil a 0
  | roNil a cap => exact .roNil a cap
  | agg l vs hl h =>
    refine .agg _ vs (by rw [List.length_map]; exact hl) fun i x v h1 h2 => ?_
    rw [List.getElem?_map, Option.map_eq_some_iff] at h1
    obtain ⟨y, h3, rfl⟩ := h1
    exact ih d (by omega) (h i y v h3 h2)
  | tup l vs hl h =>
    refine .tup _ vs (by rw [List.length_map]; exact hl) fun i x v h1 h2 => ?_
    rw [List.getElem?_map, Option.map_eq_some_iff] at h1
    obtain ⟨y, h3, rfl⟩ := h1
    exact ih d (by omega) (h i y v h3 h2)
  | ro l b off cap wd val hF hcap hmax hw hc hv =>
    have hlen : (l.map (nilD d)).length = l.length := List.length_map _
    show RV E (.ro (l.map (nilD d))) _
    rw [← hlen]
    refine .ro _ b off cap wd val hF (by rw [hlen]; exact hcap) hmax (fun i e he => ?_) (fun i e he j c hj => ?_) (fun i e he j c hj => ?_)
    all_goals
      rw [List.getElem?_map, Option.map_eq_some_iff] at he
      obtain ⟨e0, h1, rfl⟩ := he
    · rw [(nilD_cells d e0).1]; exact hw i e0 h1
    · obtain ⟨d', c0, h2, _, _⟩ := (nilD_cells d e0).2 j c hj
      exact hc i e0 h1 j c0 h2
    · obtain ⟨d', c0, h2, h3, rfl⟩ := (nilD_cells d e0).2 j c hj
      exact ih d' (by omega) (hv i e0 h1 j c0 h2)
  | any v => exact .any v
  | bool b => exact .bool b
  | int k n => exact .int k n
  | flt k x b h => exact .flt k x b h
  | cpx k x y a b h h' => exact .cpx k x y a b h h'
  | str s => exact .str s
  | sl b i n off cap hb ho hcap hmax hroom => exact .sl b i n off cap hb ho hcap hmax hroom
  | ptr b i j hb => exact .ptr b i j hb
  | rop l b off val hF hc hv =>
    refine .rop _ b off val hF (fun j c hj => ?_) (fun j c hj => ?_)
    all_goals
      rw [List.getElem?_map, Option.map_eq_some_iff] at hj
      obtain ⟨c0, h1, rfl⟩ := hj
    · exact hc j c0 h1
    · exact ih d (by omega) (hv j c0 h1)
  | nilp => exact .nilp
  | fn f l vs hl h => exact .fn f l vs hl h
  | nilf => exact .nilf
theorem CallA.nil (d : Nat) {f : FuncId} {args args' : List AV} {hp : List Blk} {Q : AV → List Blk → Prop} (ha : args.map (nilD d) = args') (h : CallA P f args' hp Q) : CallA P f args hp Q := by
  subst ha
  intro E vs H hl hrv
  refine h E vs H (by rw [List.length_map]; exact hl) fun i a v h1 h2 => ?_
  rw [List.getElem?_map, Option.map_eq_some_iff] at h1
  obtain ⟨y, h3, rfl⟩ := h1
  exact (hrv i y v h3 h2).nil d
section
variable {f : FuncId} {args : List AV} {hp : List Blk} {Q : AV → List Blk → Prop} {t : Tok Q} {g : AV → Prop} {u : Tok g}
theorem call_lentN (d d' : Nat) {r : AV} {args' : List AV} (hv : (args.map (view d hp)).map (nilD d') = args') (h : CallA P f args' [] (Ret r [])) (hr : below 0 r = true) (hc : clean r = true) (hq : Q r hp) : CallP P f args hp Q t :=
  call_lent d rfl (CallA.nil d' hv h) hr hc hq
end

def deadB : Blk := { ty := 0, w := 1, els := [], live := false }
def Env.more (E : Env P) : Env P := { E with N := E.N + 1, wd := fun b => if b = E.N then 1 else E.wd b }
theorem Env.le_more (E : Env P) : E.le E.more :=
  ⟨fun _ h => h, fun _ _ => rfl, Nat.le_succ _, fun _ _ => rfl, fun b hb => by show (if b = E.N then 1 else E.wd b) = _; rw [if_neg (by omega)], fun _ => Nat.le_refl _⟩
theorem dead_get {hp : List Blk} {b : Nat} {blk : Blk} (h : (hp ++ [deadB])[b]? = some blk) : hp[b]? = some blk ∨ (b = hp.length ∧ blk = deadB) := by
  rcases Nat.lt_trichotomy b hp.length with hb | hb | hb
  · rw [List.getElem?_append_left hb] at h; exact .inl h
  · rw [List.getElem?_append_right (by omega), hb] at h
    simp at h
    exact .inr ⟨hb, h.symm⟩
  · rw [List.getElem?_append_right (by omega)] at h
    rw [List.getElem?_eq_none (by simp; omega)] at h
    cases h
theorem HRel.dead {E : Env P} {hp : List Blk} (H : HRel E hp) : HRel E.more (hp ++ [deadB]) := by
  have live : ∀ {b : Nat} {blk : Blk}, (hp ++ [deadB])[b]? = some blk → blk.live = true → hp[b]? = some blk := fun h hl => by
    rcases dead_get h with h | ⟨_, rfl⟩
    · exact h
    · cases hl
  refine ⟨by show E.N + 1 = _; rw [H.N]; simp, fun b blk hb => ?_, fun b blk hb hl => ?_, fun b b' blk blk' h1 h2 h3 h4 h5 => H.inj b b' blk blk' (live h1 h2) h2 (live h3 h4) h4 h5, fun b blk hb hl => H.apart b blk (live hb hl) hl, H.old, H.laid⟩
  · show (if b = E.N then 1 else E.wd b) = _
    rcases dead_get hb with h | ⟨rfl, rfl⟩
    · have := (List.getElem?_eq_some_iff.1 h).1
      rw [if_neg (by rw [H.N]; omega)]
      exact H.wd b blk h
    · rw [if_pos H.N.symm]; rfl
  · obtain ⟨cs, h1, h2⟩ := (H.holds b blk (live hb hl) hl).cells
    refine ⟨cs, h1, fun i e he => ⟨(h2 i e he).1, fun j x hx => ?_⟩⟩
    obtain ⟨v, h3, h4⟩ := (h2 i e he).2 j x hx
    exact ⟨v, h3, h4.mono E.le_more⟩
theorem Fr.dead {E0 E : Env P} {hp0 hp : List Blk} (H : HRel E hp) (F : Fr E0 hp0 E hp) : Fr E0 hp0 E.more (hp ++ [deadB]) :=
  { size := F.size, os := F.os, tape := F.tape, output := F.output, block := F.block
    len := by rw [List.length_append]; have := F.len; omega
    ρ := F.ρ
    wd := fun b hb => by
      show (if b = E.N then 1 else E.wd b) = _
      rw [if_neg (by rw [H.N]; have := F.len; omega)]
      exact F.wd b hb
    F := F.F, F' := F.F'
    live := fun b ⟨blk, hb, hl⟩ => by
      rcases dead_get hb with h | ⟨_, rfl⟩
      · exact F.live b ⟨blk, h, hl⟩
      · cases hl
    csz := F.csz }
theorem PostR.dead {n0 : Nat} {r : AV} {hp : List Blk} {Q : AV → List Blk → Prop} (h : Q r (hp ++ [deadB])) : PostR n0 r hp Q :=
  ⟨r, hp ++ [deadB], fun P E0 hp0 E v hn H F hv => ⟨E.more, rfl, H.dead, F.dead H, hv.mono E.le_more⟩, h⟩

theorem WeakR.trans {n0 : Nat} {r1 r2 r3 : AV} {h1 h2 h3 : List Blk} (g : WeakR n0 r1 h1 r2 h2) (k : WeakR n0 r2 h2 r3 h3) : WeakR n0 r1 h1 r3 h3 := by
  intro P E0 hp0 E v hn H F hv
  obtain ⟨E1, e1, H1, F1, v1⟩ := g P E0 hp0 E v hn H F hv
  obtain ⟨E2, e2, H2, F2, v2⟩ := k P E0 hp0 E1 v hn H1 F1 v1
  exact ⟨E2, e2.trans e1, H2, F2, v2⟩
theorem weakR_dead {n0 : Nat} {r : AV} {hp : List Blk} : WeakR n0 r hp r (hp ++ [deadB]) := fun _ _ _ E _ _ H F hv => ⟨E.more, rfl, H.dead, F.dead H, hv.mono E.le_more⟩
theorem PostR.dead0 {r : AV} {hp : List Blk} {Q : AV → List Blk → Prop} (h : Q r [deadB]) (hb : below 0 r = true) : PostR 0 r hp Q :=
  ⟨r, [deadB], (weakR_drop (hp2 := []) (Nat.zero_le _) (by cases hp <;> trivial) (.inr ⟨rfl, hb⟩)).trans (weakR_dead (hp := [])), h⟩

def SameTm : List AV → List AV → Prop
  | [], [] => True
  | a :: l, b :: m => (b = .any ∨ a = b) ∧ SameTm l m
  | _, _ => False
theorem SameTm.len : ∀ {l m : List AV}, SameTm l m → l.length = m.length
  | [], [], _ => rfl
  | a :: l, b :: m, h => by simp [SameTm.len h.2]
  | [], _ :: _, h => h.elim
  | _ :: _, [], h => h.elim
theorem SameTm.get : ∀ {l m : List AV}, SameTm l m → ∀ (i : Nat) b, m[i]? = some b → b = .any ∨ l[i]? = some b
  | [], [], _, i, b, h => by simp at h
  | a :: l, b :: m, h, 0, x, hx => by
    simp at hx; subst hx
    rcases h.1 with h1 | rfl
    · exact .inl h1
    · exact .inr rfl
  | a :: l, b :: m, h, i + 1, x, hx => by simpa using SameTm.get h.2 i x (by simpa using hx)
  | [], _ :: _, h, _, _, _ => h.elim
  | _ :: _, [], h, _, _, _ => h.elim
theorem weak_same {n0 : Nat} {st st2 : St} (hh : st.hp = st2.hp) (ht : SameTm st.tm st2.tm) : Weak n0 st st2 := by
  intro _ E0 hp0 E a hn hs
  refine ⟨E, rfl, hh ▸ hs.hr, hh ▸ hs.fr, ht.len.symm.trans hs.len, fun i v u h1 h2 => ?_, hs.df⟩
  rcases ht.get i v h1 with rfl | h3
  · exact .any _
  · exact hs.tm i v u h3 h2
theorem Weak.trans {n0 : Nat} {a b c : St} (h : Weak n0 a b) (g : Weak n0 b c) : Weak n0 a c := by
  intro P E0 hp0 E act hn hs
  obtain ⟨E1, h1, h2⟩ := h P E0 hp0 E act hn hs
  obtain ⟨E2, h3, h4⟩ := g P E0 hp0 E1 act hn h2
  exact ⟨E2, h3.trans h1, h4⟩
theorem dropHp_app {N : Nat} : ∀ {hp r : List Blk}, (∀ q ∈ hp, allBelow N q.els = true) → DropHp N (hp ++ r) hp
  | [], r, _ => by cases r <;> trivial
  | q :: l, r, h => ⟨⟨rfl, fun hl => ⟨hl, rfl, rfl, h q List.mem_cons_self⟩⟩, dropHp_app fun x hx => h x (List.mem_cons_of_mem _ hx)⟩
end Go.Abs
/- The abstract layer, part ZI: a drawn region with a store that may come before operations that look at no memory; guards are told one by one. -/
set_option linter.unusedSimpArgs false
set_option linter.unusedVariables false
namespace Go.Abs
open Go
variable {P : Program}

def isStoreOp (tgt : Nat) : Op → Bool
  | .store _ (.tmp s) _ => s == tgt
  | _ => false
theorem storeA_mono {t : TypeId} {hp : List Blk} {a x : AV} {k k' : List Blk → Prop} (h : ∀ hp', k hp' → k' hp') (g : storeA P t hp a x k) : storeA P t hp a x k' := by
  unfold storeA at g ⊢
  split at g
  · split at g
    · obtain ⟨h1, h2, h3, h4, h5, h6, h7⟩ := g
      exact ⟨h1, h2, h3, h4, h5, h6, h _ h7⟩
    · exact g.elim
  · exact g.elim
theorem store_is {tgt : Nat} {o : Op} (h : isStoreOp tgt o = true) : ∃ t x, o = .store t (.tmp tgt) x := by
  unfold isStoreOp at h
  split at h
  · rename_i t s x
    have : s = tgt := by simpa using h
    exact ⟨t, x, by rw [this]⟩
  · cases h
theorem storeA_at {t : TypeId} {hp : List Blk} {b i j : Nat} {x : AV} {k : List Blk → Prop} (g : storeA P t hp (.ptr b i j) x k) : storeA P t hp (.ptr b i j) x fun hp' => k hp' ∧ ∃ q, hp' = hp.set b q := by
  unfold storeA at g ⊢
  dsimp only at g ⊢
  split at g
  · rename_i blk hb
    obtain ⟨h1, h2, h3, h4, h5, h6, h7⟩ := g
    exact ⟨h1, h2, h3, h4, h5, h6, h7, _, rfl⟩
  · exact g.elim
def FreeB (tgt : Nat) (ops : List Oper) (ms : List Bool) (listed : Array Bool) (i : Nat) (oi : Oper) (bl : Bool) : Prop :=
  ∃ D : List Nat, Waits ops listed i D ∧ ∀ j oj, ops[j]? = some oj → j ≠ i → listed.getD j true = false → j ∉ D → (∀ e ∈ oj.after, Region.binds .any e = true → e.on ≠ i) →
    oi.apart ops.toArray oj = true ∧ (ms.getD j true = false ∨ (bl = true ∧ isStoreOp tgt oj.op = true))
theorem yA_after {ops : List Oper} {o : Oper} {st : St} {v : AV} {d : Option Tmp} {u : AV} {hp : List Blk} (ht : ∀ t, d = some t → t ∉ o.looksAt ops.toArray) (h : yA P ops o (st.after hp none) v) : yA P ops o ((st.put d u).after hp none) v := by
  rw [put_after]
  exact yA_put ht h
theorem ev_slot {st : St} {d : Option Tmp} {v : AV} {tgt : Nat} (h : d ≠ some tgt) : (st.put d v).ev (.tmp tgt) = st.ev (.tmp tgt) := St.ev_put fun t ht e => h (by rw [ht]; injection e with e; rw [e])
theorem set_twice {α : Type} (l : List α) (b : Nat) (x y : α) : (l.set b x).set b y = l.set b y := List.set_set ..
theorem after_after (st : St) (h1 h2 : List Blk) : (st.after h1 none).after h2 none = st.after h2 none := by
  unfold St.after
  first | rfl | (simp only [List.map_map]; done)
theorem anyA_firstB {tgt b0 i0 j0 : Nat} {n0 : Nat} {ops : List Oper} {ms : List Bool} {K : St → Prop} {i : Nat} {oi : Oper} {v : AV} {bl : Bool} (hd : ∀ o ∈ ops, o.dst ≠ some tgt) (hi : ops[i]? = some oi) (hm : ms.getD i true = false) :
    ∀ (fuel : Nat) (listed : Array Bool) (st : St), st.ev (.tmp tgt) = .ptr b0 i0 j0 → FreeB tgt ops ms listed i oi bl → i ∈ Region.ready .any ops.toArray listed → yA P ops oi st v → (bl = true → ∀ q, yA P ops oi (st.after (st.hp.set b0 q) none) v) →
      anyA P n0 ops ms K fuel (listed.setIfInBounds i true) (st.put oi.dst v) → anyA P n0 ops ms K (fuel + 1) listed st := by
  have self : ∀ (fuel : Nat) (listed : Array Bool) (st : St), yA P ops oi st v → anyA P n0 ops ms K fuel (listed.setIfInBounds i true) (st.put oi.dst v) → stepA P n0 ops ms i (anyA P n0 ops ms K fuel (listed.setIfInBounds i true)) st := by
    intro fuel listed st hy H
    unfold stepA
    simp only [hi, hm, Bool.false_eq_true, if_false]
    exact ⟨v, hy, H⟩
  intro fuel
  induction fuel with
  | zero =>
    intro listed st _ _ hr hy hyB H
    refine ⟨fun h => (by rw [h] at hr; cases hr), fun j hj => ?_⟩
    by_cases hji : j = i
    · subst hji; exact self 0 listed st hy H
    · have := ready_mono hj hji
      rw [H.1] at this
      cases this
  | succ fuel ih =>
    intro listed st hT hfree hr hy hyB H
    refine ⟨fun h => (by rw [h] at hr; cases hr), fun j hj => ?_⟩
    by_cases hji : j = i
    · subst hji; exact self _ listed st hy H
    · have h1 := H.2 j (ready_mono hj hji)
      obtain ⟨hjun, oj, hoj, hall⟩ := mem_ready.1 hj
      have hoj' : ops[j]? = some oj := by simpa using hoj
      have hnot : ∀ e ∈ oj.after, Region.binds .any e = true → e.on ≠ i := fun e he hb heq => by
        have h1 := hall e he hb
        have h0 := (mem_ready.1 hr).1
        rw [heq] at h1
        rcases Nat.lt_or_ge i listed.size with h' | h'
        · simp [h'] at h0 h1; rw [h0] at h1; cases h1
        · simp [Array.getElem?_eq_none h'] at h1
      obtain ⟨D, hwait, hfree⟩ := hfree
      have hjD : j ∉ D := fun hD => by
        obtain ⟨_, oj', hoj'', e, he, hb, hc⟩ := hwait j hD
        have : oj' = oj := by rw [hoj'] at hoj''; cases hoj''; rfl
        subst this
        rcases hc with hc | hc
        · exact hnot e he hb hc
        · have h1 := hall e he hb
          have h0 := (hwait e.on hc).1
          rcases Nat.lt_or_ge e.on listed.size with h' | h'
          · simp [h'] at h0 h1; rw [h0] at h1; cases h1
          · simp [Array.getElem?_eq_none h'] at h1
      obtain ⟨hap, hmj⟩ := hfree j oj hoj' hji hjun hjD hnot
      obtain ⟨a1, a2, a3⟩ := Oper.apart_spec hap
      have hfree' : FreeB tgt ops ms (listed.setIfInBounds j true) i oi bl := ⟨D, fun d hd => by
        have hne : j ≠ d := fun h => hjD (h ▸ hd)
        obtain ⟨w1, w2⟩ := hwait d hd
        exact ⟨by rw [getD_set_ne true hne]; exact w1, w2⟩, fun k ok hk hki hun hkD hno => by
        refine hfree k ok hk hki ?_ hkD hno
        by_cases hjk : j = k
        · subst hjk; exact hjun
        · rw [getD_set_ne true hjk] at hun; exact hun⟩
      have skip : ∀ u, anyA P n0 ops ms K fuel ((listed.setIfInBounds i true).setIfInBounds j true) ((st.put oi.dst v).put oj.dst u) → anyA P n0 ops ms K (fuel + 1) (listed.setIfInBounds j true) (st.put oj.dst u) := fun u hK => by
        refine ih (listed.setIfInBounds j true) (st.put oj.dst u) (by rw [ev_slot (hd oj (List.mem_of_getElem? hoj'))]; exact hT) hfree' (ready_mono hr (Ne.symm hji)) (yA_put a3 hy) (fun hb q => by rw [put_hp]; exact yA_after a3 (hyB hb q)) ?_
        rw [Array.setIfInBounds_comm _ _ hji, St.put_comm st u v (fun d hd he => a2 d he hd)]
        exact hK
      unfold stepA at h1 ⊢
      cases hmm : ms.getD j true with
      | false =>
        simp only [hoj', hmm, Bool.false_eq_true, if_false] at h1 ⊢
        obtain ⟨u, hu, hK⟩ := h1
        exact ⟨u, yA_unput a1 hu, skip u hK⟩
      | true =>
        rcases hmj with hmj | ⟨hb, hst⟩
        · rw [hmm] at hmj; cases hmj
        obtain ⟨t, x, hop⟩ := store_is hst
        simp only [hoj', hmm, if_true] at h1 ⊢
        rcases h1 with ⟨hw, k, h, hK⟩ | ⟨hw, hK⟩
        · refine .inl ⟨by rw [wantedA_put a1] at hw; exact hw, fun u hp' kb => u = .any ∧ kb = none ∧ k .any hp' none ∧ ∃ q, hp' = st.hp.set b0 q, ?_, ?_⟩
          · rw [hop] at h ⊢
            rw [opA_store] at h ⊢
            have ev : ∀ y ∈ oj.op.operands, (st.put oi.dst v).ev y = st.ev y := ev_apart a1
            rw [hop] at ev
            rw [ev (.tmp tgt) (by simp [Op.operands]), ev x (by simp [Op.operands]), put_hp, hT] at h
            rw [hT]
            exact storeA_mono (fun hp' ⟨hk, hq⟩ => ⟨rfl, rfl, hk, hq⟩) (storeA_at h)
          · rintro u hp' kb ⟨rfl, rfl, hk, q, rfl⟩
            have h2 := hK _ _ _ hk
            rw [put_after, St.put_comm _ _ _ (fun d hd he => a2 d hd he)] at h2
            refine ih (listed.setIfInBounds j true) ((st.after (st.hp.set b0 q) none).put oj.dst .any) (by rw [ev_slot (hd oj (List.mem_of_getElem? hoj')), St.ev_after]; exact hT) hfree' (ready_mono hr (Ne.symm hji)) (yA_put a3 (hyB hb q)) (fun hb q' => by
              rw [put_hp, after_hp, set_twice]
              exact yA_after a3 (by rw [after_after]; exact hyB hb q')) ?_
            rw [Array.setIfInBounds_comm _ _ hji]
            exact h2
        · exact .inr ⟨by rw [wantedA_put a1] at hw; exact hw, skip _ hK⟩
def freeZB (tgt : Nat) (ops : Array Oper) (ms bls : List Bool) (listed : Array Bool) (k : Nat) : Bool :=
  match ops[k]? with
  | none => false
  | some o => lateOk ops listed k (lateOf ops listed k) && (List.range ops.size).all fun j =>
    j == k || listed.getD j true || (lateOf ops listed k).contains j ||
    match ops[j]? with
    | none => true
    | some oj => (oj.after.any fun e => Region.binds .any e && e.on == k) || (o.apart ops oj && (!(ms.getD j true) || (bls.getD k false && isStoreOp tgt oj.op)))
theorem freeZB_spec {tgt : Nat} {ops : List Oper} {ms bls : List Bool} {listed : Array Bool} {k : Nat} {o : Oper} (hk : ops[k]? = some o) (h : freeZB tgt ops.toArray ms bls listed k = true) : FreeB tgt ops ms listed k o (bls.getD k false) := by
  unfold freeZB at h
  have hk' : ops.toArray[k]? = some o := by simpa using hk
  rw [hk'] at h
  simp only [Bool.and_eq_true] at h
  refine ⟨_, lateOk_spec h.1, ?_⟩
  have h := h.2
  intro j oj hoj hjk hun hD hno
  simp only [List.all_eq_true, List.mem_range] at h
  have hj : j < ops.toArray.size := by
    have := (List.getElem?_eq_some_iff.1 hoj).1
    simpa using this
  have h1 := h j hj
  have hoj' : ops.toArray[j]? = some oj := by simpa using hoj
  rw [hoj', hun] at h1
  have hjk' : (j == k) = false := by simpa using hjk
  have hD' : (lateOf ops.toArray listed k).contains j = false := by simpa using hD
  rw [hjk', hD'] at h1
  simp only [Bool.false_or, Bool.or_eq_true, Bool.and_eq_true] at h1
  rcases h1 with h1 | ⟨h1, h2⟩
  · exfalso
    rw [Array.any_eq_true] at h1
    obtain ⟨m, hm, he⟩ := h1
    simp only [Bool.and_eq_true, beq_iff_eq] at he
    exact hno _ (Array.getElem_mem hm) he.1 he.2
  · refine ⟨h1, ?_⟩
    rcases h2 with h2 | h2
    · exact .inl (by simpa using h2)
    · exact .inr h2
def ordOkB (tgt : Nat) (ops : Array Oper) (ms bls : List Bool) : List Nat → Array Bool → Bool
  | [], listed => (Region.ready .any ops listed).isEmpty
  | k :: r, listed => (if ms.getD k true then Region.ready .any ops listed == [k] else (Region.ready .any ops listed).contains k && freeZB tgt ops ms bls listed k) && ordOkB tgt ops ms bls r (listed.setIfInBounds k true)
def ordB (P : Program) (b0 : Nat) (n0 : Nat) (ops : List Oper) (ms bls : List Bool) (K : St → Prop) : List Nat → St → Prop
  | [], st => K st
  | k :: r, st => ∃ o, ops[k]? = some o ∧
    if ms.getD k true then wantedA ops o st = some true ∧ ∃ g : AV → List Blk → Option Nat → Prop, opA P n0 o.op st.ev st.hp g ∧ ∀ v hp' kb, g v hp' kb → ordB P b0 n0 ops ms bls K r ((st.after hp' kb).put o.dst v)
    else ∃ v, yA P ops o st v ∧ (bls.getD k false = true → ∀ q, yA P ops o (st.after (st.hp.set b0 q) none) v) ∧ ordB P b0 n0 ops ms bls K r (st.put o.dst v)
theorem anyA_ordB {tgt b0 i0 j0 : Nat} {n0 : Nat} {ops : List Oper} {ms bls : List Bool} {K : St → Prop} (hd : ∀ o ∈ ops, o.dst ≠ some tgt) (hs : ∀ k o, ops[k]? = some o → ms.getD k true = true → isStoreOp tgt o.op = true) : ∀ (ord : List Nat) (listed : Array Bool) (st : St), st.ev (.tmp tgt) = .ptr b0 i0 j0 → ordOkB tgt ops.toArray ms bls ord listed = true → ordB P b0 n0 ops ms bls K ord st → anyA P n0 ops ms K ord.length listed st
  | [], listed, st, _, hB, h => ⟨by simpa [ordOkB] using hB, h⟩
  | k :: r, listed, st, hT, hB, h => by
    obtain ⟨o, ho, h⟩ := h
    simp only [ordOkB, Bool.and_eq_true] at hB
    obtain ⟨hB1, hB2⟩ := hB
    cases hm : ms.getD k true with
    | true =>
      rw [hm] at hB1 h
      simp only [if_true, beq_iff_eq] at hB1 h
      refine ⟨fun h => (by rw [hB1] at h; cases h), fun i hi => ?_⟩
      rw [hB1] at hi
      have : i = k := by simpa using hi
      subst this
      unfold stepA
      simp only [ho, hm, if_true]
      obtain ⟨hw, g, h1, h2⟩ := h
      obtain ⟨t, x, hop⟩ := store_is (hs _ o ho hm)
      refine .inl ⟨hw, fun v hp' kb => v = .any ∧ kb = none ∧ g v hp' kb, ?_, ?_⟩
      · rw [hop] at h1 ⊢
        rw [opA_store] at h1 ⊢
        exact storeA_mono (fun hp' hk => ⟨rfl, rfl, hk⟩) h1
      · rintro v hp' kb ⟨rfl, rfl, hv⟩
        exact anyA_ordB hd hs r _ _ (by rw [ev_slot (hd o (List.mem_of_getElem? ho)), St.ev_after]; exact hT) hB2 (h2 _ hp' _ hv)
    | false =>
      rw [hm] at hB1 h
      simp only [Bool.false_eq_true, if_false, Bool.and_eq_true] at hB1 h
      obtain ⟨hr, hf⟩ := hB1
      obtain ⟨v, hy, hyB, hK⟩ := h
      exact anyA_firstB hd ho hm r.length listed st hT (freeZB_spec ho hf) (by simpa using hr) hy hyB (anyA_ordB hd hs r _ _ (by rw [ev_slot (hd o (List.mem_of_getElem? ho))]; exact hT) hB2 hK)
def Ol (P : Program) (b0 : Nat) (n0 : Nat) (ops : List Oper) (ms bls : List Bool) (K : St → Prop) (ord : List Nat) (_t : Tok (ops, ord, K)) (st : St) : Prop := ordB P b0 n0 ops ms bls K ord st
theorem go_late (hm : P.follows .mixedOrders = true) {n0 : Nat} {id : Nat} {ops : Array Oper} {Q : Ex → St → Prop} {st : St} {t} (tgt b0 : Nat) {i0 j0 : Nat} (hT : st.ev (.tmp tgt) = .ptr b0 i0 j0) (ord : List Nat) (ms bls : List Bool)
    (hok : (ord.length == ops.size && ordOkB tgt ops ms bls ord (Array.replicate ops.size false) && ((ops.toList.all fun o => o.dst != some tgt) && (List.range ops.size).all fun k => !(ms.getD k true) || ((ops[k]?).map fun o => isStoreOp tgt o.op).getD true)) = true) (h : Ol P b0 n0 ops.toList ms bls (Q .normal) ord .mk st) : Lp P n0 (.region id ops true) Q t st := by
  delta Lp
  simp only [Bool.and_eq_true, beq_iff_eq] at hok
  obtain ⟨⟨hk1, hk2⟩, hk3, hk4⟩ := hok
  have hd : ∀ o ∈ ops.toList, o.dst ≠ some tgt := fun o ho => by
    have := List.all_eq_true.1 hk3 o ho
    simpa using this
  have hst : ∀ k o, ops.toList[k]? = some o → ms.getD k true = true → isStoreOp tgt o.op = true := fun k o hk hm => by
    have hk' : ops[k]? = some o := by simpa using hk
    have hlt : k < ops.size := (Array.getElem?_eq_some_iff.1 hk').1
    have := List.all_eq_true.1 hk4 k (List.mem_range.2 hlt)
    rw [hm, hk'] at this
    simpa using this
  intro E0 hp0 E a hn hs
  subst hn
  have h1 := anyA_ordB (P := P) (n0 := hp0.length) (ops := ops.toList) (ms := ms) (bls := bls) (K := Q .normal) hd hst ord (Array.replicate ops.size false) st hT (by simpa using hk2) h
  rw [hk1] at h1
  refine wp_region_any hm ?_
  have hs' : SR E0 hp0 (E.with { E.w with drawn := E.w.drawn + 1 }) st a := ⟨hs.hr.with (Same.drew _ _), hs.fr.with (Same.drew _ _), hs.len, fun i v u a1 a2 => (hs.tm i v u a1 a2).mono (Env.le_with (Same.drew _ _)), hs.df⟩
  have h2 := anyA_sound (P := P) (Q := liftQ E0 hp0 Q) (fun E st a hs hk => ⟨.normal, st, E, rfl, rfl, hs, hk⟩) _ _ _ st a hs' h1
  rw [show ops.toList.toArray = ops from by simp] at h2
  exact h2
section
variable {b0 : Nat} {n0 : Nat} {ops : List Oper} {ms bls : List Bool} {K : St → Prop} {k : Nat} {r : List Nat} {st : St} {t : Tok (ops, k :: r, K)} {o : Oper}
theorem ol_nil {t : Tok (ops, ([] : List Nat), K)} (h : K st) : Ol P b0 n0 ops ms bls K [] t st := h
theorem ol_store (ho : ops[k]? = some o) (hw : wantedA ops o st = some true) (hm : ms.getD k true = true) (h : opA P n0 o.op st.ev st.hp (Cn (fun v hp' kb => Ol P b0 n0 ops ms bls K r .mk ((st.after hp' kb).put o.dst v)) .mk)) : Ol P b0 n0 ops ms bls K (k :: r) t st :=
  ⟨o, ho, by rw [hm]; exact ⟨hw, _, h, fun v hp' kb hv => by rw [Cn_go] at hv; exact hv⟩⟩
theorem ol_quiet (ho : ops[k]? = some o) (hw : wantedA ops o st = some true) (hm : ms.getD k true = false) (hb : bls.getD k false = false) (h : quietA P o.op st.ev st.hp (fun v => Ol P b0 n0 ops ms bls K r .mk (st.put o.dst v))) : Ol P b0 n0 ops ms bls K (k :: r) t st :=
  ⟨o, ho, by
    rw [hm, hb]
    obtain ⟨v, h1, h2⟩ := Yields.quiet h
    exact ⟨v, .inl ⟨hw, h2⟩, (fun h => by cases h), h1⟩⟩
theorem wantedA_after {o : Oper} (hp : List Blk) : wantedA ops o (st.after hp none) = wantedA ops o st := by
  have e : (st.after hp none).tm = st.tm := by
    first | rfl | (unfold St.after; simp [killO])
  unfold wantedA
  rw [e]
theorem ol_blind (ho : ops[k]? = some o) (hw : wantedA ops o st = some true) (hm : ms.getD k true = false) {v : AV} (hq : ∀ hp, quietA P o.op st.ev hp (fun u => u = v)) (h : Ol P b0 n0 ops ms bls K r .mk (st.put o.dst v)) : Ol P b0 n0 ops ms bls K (k :: r) t st :=
  ⟨o, ho, by
    rw [hm]
    have y : ∀ hp, Yields P o st.ev hp v := fun hp => by
      obtain ⟨u, rfl, h2⟩ := Yields.quiet (hq hp)
      exact h2
    refine ⟨v, .inl ⟨hw, y _⟩, fun _ q => .inl ⟨by rw [wantedA_after]; exact hw, ?_⟩, h⟩
    exact (y _).congr fun x _ => (St.ev_after st _ x).symm⟩
theorem ol_skip (ho : ops[k]? = some o) (hw : wantedA ops o st = some false) (hm : ms.getD k true = false) (h : Ol P b0 n0 ops ms bls K r .mk (st.put o.dst (.tup []))) : Ol P b0 n0 ops ms bls K (k :: r) t st :=
  ⟨o, ho, by
    rw [hm]
    exact ⟨.tup [], .inr ⟨hw, rfl⟩, fun _ q => .inr ⟨by rw [wantedA_after]; exact hw, rfl⟩, h⟩⟩
theorem ol_call (ho : ops[k]? = some o) (hw : wantedA ops o st = some true) (hm : ms.getD k true = false) (hb : bls.getD k false = false) {gf : Operand} {args : Array Operand} {ts : Array TypeId} (hop : o.op = .call { callee := .value gf, args := args, argTypes := ts }) {fid : FuncId} {caps : List AV} (hfn : st.ev gf = .fn fid caps) {v : AV}
    (hc : CallA P fid (args.toList.map st.ev ++ caps) st.hp (Ret v st.hp)) (h : Ol P b0 n0 ops ms bls K r .mk (st.put o.dst v)) : Ol P b0 n0 ops ms bls K (k :: r) t st :=
  ⟨o, ho, by rw [hm, hb]; exact ⟨v, .inl ⟨hw, Yields.call hop rfl hfn hc⟩, (fun h => by cases h), h⟩⟩
end
attribute [irreducible] Ol
end Go.Abs
/- The abstract layer, part ZJ: what a function makes beside blocks that it changes is told as lists that nobody writes. -/
set_option linter.unusedSimpArgs false
set_option linter.unusedVariables false
namespace Go.Abs
open Go
section
variable {P : Program}
theorem freeze_more {E E' : Env P} {hp0 hp new : List Blk} (hlen : hp0.length = hp.length) (H' : HRel E' (hp ++ new)) (F' : Fr E hp0 E' (hp ++ new)) (hf : ∀ q ∈ new, allBelow 0 q.els = true) (hflat : ∀ b ∈ hp, allBelow hp.length b.els = true)
    (d : Nat) (r0 : AV) (hb : below new.length r0 = true) (v : Value) (hv : RV E' (ren (fun i => i + hp.length) r0) v) :
    ∃ E2 : Env P, E2.w = E'.w ∧ RV E2 (view d new r0) v ∧ HRel E2 hp ∧ Fr E hp0 E2 hp := by
  have hlt : ∀ (b : Nat) blk, hp[b]? = some blk → b < hp.length ∧ (hp ++ new)[b]? = some blk := fun b blk h => by
    have := (List.getElem?_eq_some_iff.1 h).1
    exact ⟨this, by rw [List.getElem?_append_left this]; exact h⟩
  have hnew : ∀ (b : Nat) blk, new[b]? = some blk → (hp ++ new)[b + hp.length]? = some blk := fun b blk h => by
    rw [List.getElem?_append_right (by omega), show b + hp.length - hp.length = b from by omega]; exact h
  let En : Env P := E'.ren new.length fun i => i + hp.length
  have Hn : HRel En new := by
    refine ⟨rfl, fun b blk h => H'.wd _ blk (hnew b blk h), ?_, ?_, fun b blk h hl hF => H'.apart _ blk (hnew b blk h) hl hF, H'.old, H'.laid⟩
    · intro b blk h hl
      obtain ⟨cs, h1, h2⟩ := (H'.holds _ blk (hnew b blk h) hl).cells
      refine ⟨cs, h1, fun i e he => ⟨(h2 i e he).1, fun j x hx => ?_⟩⟩
      obtain ⟨u, h3, h4⟩ := (h2 i e he).2 j x hx
      refine ⟨u, h3, ?_⟩
      have hbe : below 0 e = true := by
        have := hf blk (List.mem_of_getElem? h)
        simp only [allBelow, List.all_eq_true] at this
        exact this e (List.mem_of_getElem? he)
      obtain ⟨_, h5⟩ := ren_cells (π := fun b => b) (below_mono0 (N := 0) (fun b => b) e hbe).1
      obtain ⟨c', h6, h7⟩ := h5 j x hx
      rw [ren_id 0 hbe, hx] at h6
      cases h6
      exact (h7 h4).mono ⟨fun _ h => h, fun _ _ => rfl, Nat.zero_le _, fun _ hb => absurd hb (Nat.not_lt_zero _), fun _ hb => absurd hb (Nat.not_lt_zero _), fun _ => Nat.le_refl _⟩
    · intro b b' blk blk' h1 h2 h3 h4 h5
      have := H'.inj _ _ blk blk' (hnew _ _ h1) h2 (hnew _ _ h3) h4 h5
      omega
  let E2 : Env P := { E' with F := fun c => E'.F c ∨ ∃ b, Live new b ∧ E'.ρ (b + hp.length) = c, N := hp.length }
  have leN : (E'.ren hp.length fun b => b).le E2 := ⟨fun _ h => .inl h, fun _ _ => rfl, Nat.le_refl _, fun _ _ => rfl, fun _ _ => rfl, fun _ => Nat.le_refl _⟩
  have H2 : HRel E2 hp := by
    refine ⟨rfl, fun b blk h => H'.wd b blk (hlt b blk h).2, ?_, ?_, ?_, ?_, H'.laid.keep (fun c h => .inl h) (fun _ _ => rfl)⟩
    · intro b blk h hlv
      obtain ⟨cs, h1, h2⟩ := (H'.holds b blk (hlt b blk h).2 hlv).cells
      refine ⟨cs, h1, fun i e he => ⟨(h2 i e he).1, fun j x hx => ?_⟩⟩
      obtain ⟨u, h3, h4⟩ := (h2 i e he).2 j x hx
      refine ⟨u, h3, ?_⟩
      have hbe : below hp.length e = true := by
        have := hflat blk (List.mem_of_getElem? h)
        simp only [allBelow, List.all_eq_true] at this
        exact this e (List.mem_of_getElem? he)
      obtain ⟨_, h5⟩ := ren_cells (π := fun b => b) hbe
      obtain ⟨c', h6, h7⟩ := h5 j x hx
      rw [ren_id _ hbe, hx] at h6
      cases h6
      exact (h7 h4).mono leN
    · intro b b' blk blk' h1 h2 h3 h4 h5
      exact H'.inj b b' blk blk' (hlt _ _ h1).2 h2 (hlt _ _ h3).2 h4 h5
    · intro b blk h hlv hF
      rcases hF with h1 | ⟨b', ⟨q, hq, hl⟩, h1⟩
      · exact H'.apart b blk (hlt b blk h).2 hlv h1
      · have := H'.inj b (b' + hp.length) blk q (hlt b blk h).2 hlv (hnew b' q hq) hl h1.symm
        have := (hlt b blk h).1
        omega
    · rintro c (h | ⟨b', ⟨q, hq, hl⟩, rfl⟩)
      · exact H'.old c h
      · obtain ⟨cs, h1, _⟩ := (H'.holds _ q (hnew b' q hq) hl).cells
        exact (Row.lt h1)
  have F2 : Fr E hp0 E2 hp :=
    { size := F'.size, os := F'.os, tape := F'.tape, output := F'.output, block := F'.block, len := Nat.le_of_eq hlen, ρ := F'.ρ, wd := F'.wd, csz := F'.csz
      F := fun c h => .inl (F'.F c h)
      F' := fun c hc => by
        rcases hc with h | ⟨b', ⟨q, hq, hl⟩, rfl⟩
        · exact F'.F' c h
        · rcases F'.live (b' + hp.length) ⟨q, hnew b' q hq, hl⟩ with ⟨h1, _⟩ | ⟨_, h2⟩
          · exact absurd h1 (by omega)
          · exact .inr h2
      live := fun b ⟨blk, h, hlv⟩ => F'.live b ⟨blk, (hlt b blk h).2, hlv⟩ }
  refine ⟨E2, rfl, ?_, H2, F2⟩
  have h1 := RV.unren (E := E') (N := new.length) (π := fun i => i + hp.length) hb hv
  have h2 := (view_sound Hn d r0).1 v h1
  refine h2.mono ⟨fun c hc => ?_, fun _ _ => rfl, Nat.zero_le _, fun _ hb => absurd hb (Nat.not_lt_zero _), fun _ hb => absurd hb (Nat.not_lt_zero _), fun _ => Nat.le_refl _⟩
  rcases hc with h | ⟨b, hl, rfl⟩
  · exact .inl h
  · exact .inr ⟨b, hl, rfl⟩

theorem CallA.freezeN {f : FuncId} {args : List AV} {hp0 : List Blk} {Q0 Q : AV → List Blk → Prop} (d : Nat) (h : CallA P f args hp0 Q0)
    (hq : ∀ r' hp', Q0 r' hp' → ∃ hp new r0, hp' = hp ++ new ∧ hp0.length = hp.length ∧ (∀ q ∈ new, allBelow 0 q.els = true) ∧ (∀ b ∈ hp, allBelow hp.length b.els = true) ∧ r' = ren (fun i => i + hp.length) r0 ∧ below new.length r0 = true ∧ Q (view d new r0) hp) : CallA P f args hp0 Q := by
  intro E vs H hl hrv
  refine (h E vs H hl hrv).mono ?_
  rintro v w' ⟨r', hp', E', rfl, q0, hv', H', F'⟩
  obtain ⟨hp, new, r0, rfl, hlen, hf, hflat, rfl, hb, hQ⟩ := hq r' hp' q0
  obtain ⟨E2, e1, e2, e3, e4⟩ := freeze_more hlen H' F' hf hflat d r0 hb v hv'
  exact ⟨_, hp, E2, e1, hQ, e2, e3, e4⟩
end
section
variable {P : Program} {b0 : Nat} {n0 : Nat} {ops : List Oper} {ms bls : List Bool} {K : St → Prop} {k : Nat} {r : List Nat} {st : St} {t : Tok (ops, k :: r, K)} {o : Oper}
theorem ol_fresh (ho : ops[k]? = some o) (hw : wantedA ops o st = some true) (hm : ms.getD k true = false) (hb : bls.getD k false = false) (q : Blk) (d : Nat) (r0 : AV) (hl : q.live = true) (hf : allBelow 0 q.els = true) (hflat : ∀ b ∈ st.hp, allBelow st.hp.length b.els = true) (hb1 : below 1 r0 = true)
    (hop : opA P st.hp.length o.op st.ev st.hp (Cn (fun v hp' kb => v = ren (fun i => [st.hp.length].getD i 0) r0 ∧ hp' = st.hp ++ [q] ∧ kb = none) .mk)) (h : Ol P b0 n0 ops ms bls K r .mk (st.put o.dst (view d [q] r0))) : Ol P b0 n0 ops ms bls K (k :: r) t st := by
  delta Ol at h ⊢
  exact ⟨o, ho, by rw [hm, hb]; exact ⟨_, .inl ⟨hw, Yields.fresh q hl hf hflat d r0 hb1 (by rw [Cn_eq] at hop; exact hop)⟩, (fun h => by cases h), h⟩⟩
end
end Go.Abs
