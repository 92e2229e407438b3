/- The abstract layer: parts Z5 Z6 Z7 Z8 Z9 ZA ZB ZD ZE ZF ZG ZH ZI ZJ ZK. -/
import Derived.Test.YtigipcckflcilaaGreatDoorAbsM2
import Derived.Lib.Bytealg
import Derived.Sort.OwnSortedInts
import Derived.Lib.ItoaNum
import Derived.Lib.LaidTab
import Derived.Below
import Derived.Lib.Join
import Derived.Sort.Grow
import Derived.Deep.Draws
import Derived.Lib.Strings
import Derived.Lib.Split
import Derived.Lib.SplitLaws
import Derived.Lib.CountLaws
import Derived.Lib.IndexMore
/- The abstract layer, part Z5: drawn regions in an order of one's choice; new blocks told as what nobody writes. -/
set_option linter.unusedSimpArgs false
set_option linter.unusedVariables false
namespace Go.Abs
open Go
variable {P : Program}
theorem Cn_eq {g : AV → List Blk → Option Nat → Prop} {t : Tok g} : Cn g t = g := by delta Cn; rfl
section
variable {P : Program}

theorem freeze_one {E E' : Env P} {hp : List Blk} {q : Blk} (H : HRel E hp) (H' : HRel E' (hp ++ [q])) (F' : Fr E hp E' (hp ++ [q])) (hl : q.live = true) (hf : allBelow 0 q.els = true) (hflat : ∀ b ∈ hp, allBelow hp.length b.els = true)
    (d : Nat) (r0 : AV) (hb : below 1 r0 = true) (v : Value) (hv : RV E' (ren (fun i => [hp.length].getD i 0) r0) v) :
    ∃ E2 : Env P, E2.w = E'.w ∧ RV E2 (view d [q] r0) v ∧ HRel E2 hp ∧ Fr E hp E2 hp ∧ E.le E2 := by
  have hq : (hp ++ [q])[hp.length]? = some q := by simp
  have hlt : ∀ (b : Nat) blk, hp[b]? = some blk → b < hp.length ∧ (hp ++ [q])[b]? = some blk := fun b blk h => by
    have := (List.getElem?_eq_some_iff.1 h).1
    exact ⟨this, by rw [List.getElem?_append_left this]; exact h⟩
  let E2 : Env P := { E' with F := fun c => E'.F c ∨ c = E'.ρ hp.length, N := hp.length }
  have leN : (E'.ren hp.length fun b => b).le E2 := ⟨fun _ h => .inl h, fun _ _ => rfl, Nat.le_refl _, fun _ _ => rfl, fun _ _ => rfl, fun _ => Nat.le_refl _⟩
  have H2 : HRel E2 hp := by
    refine ⟨rfl, fun b blk h => H'.wd b blk (hlt b blk h).2, ?_, ?_, ?_, ?_, H'.laid.keep (fun c h => .inl h) (fun _ _ => rfl)⟩
    · intro b blk h hlv
      obtain ⟨cs, h1, h2⟩ := (H'.holds b blk (hlt b blk h).2 hlv).cells
      refine ⟨cs, h1, fun i e he => ⟨(h2 i e he).1, fun j x hx => ?_⟩⟩
      obtain ⟨u, h3, h4⟩ := (h2 i e he).2 j x hx
      refine ⟨u, h3, ?_⟩
      have hbe : below hp.length e = true := by
        have := hflat blk (List.mem_of_getElem? h)
        simp only [allBelow, List.all_eq_true] at this
        exact this e (List.mem_of_getElem? he)
      obtain ⟨_, h5⟩ := ren_cells (π := fun b => b) hbe
      obtain ⟨c', h6, h7⟩ := h5 j x hx
      rw [ren_id _ hbe, hx] at h6
      cases h6
      exact (h7 h4).mono leN
    · intro b b' blk blk' h1 h2 h3 h4 h5
      exact H'.inj b b' blk blk' (hlt _ _ h1).2 h2 (hlt _ _ h3).2 h4 h5
    · intro b blk h hlv hF
      rcases hF with h1 | h1
      · exact H'.apart b blk (hlt b blk h).2 hlv h1
      · have := H'.inj b hp.length blk q (hlt b blk h).2 hlv hq hl h1
        have := (hlt b blk h).1
        omega
    · rintro c (h | rfl)
      · exact H'.old c h
      · obtain ⟨cs, h1, _⟩ := (H'.holds _ q hq hl).cells
        exact (Row.lt h1)
  have F2 : Fr E hp E2 hp :=
    { size := F'.size, os := F'.os, tape := F'.tape, output := F'.output, block := F'.block, len := Nat.le_refl _, ρ := F'.ρ, wd := F'.wd, csz := F'.csz
      F := fun c h => .inl (F'.F c h)
      F' := fun c hc => by
        rcases hc with h | rfl
        · exact F'.F' c h
        · rcases F'.live hp.length ⟨q, hq, hl⟩ with ⟨h1, _⟩ | ⟨_, h2⟩
          · exact absurd h1 (Nat.lt_irrefl _)
          · exact .inr h2
      live := fun b ⟨blk, h, hlv⟩ => .inl ⟨(hlt b blk h).1, blk, h, hlv⟩ }
  refine ⟨E2, rfl, ?_, H2, F2, F2.le H H2⟩
  have S : Sub [hp.length] (hp ++ [q]) [q] := SubF.sub (by simp) ⟨⟨hq, hf⟩, trivial⟩
  have Hq := S.hrel H'
  have h1 := RV.unren (E := E') (N := 1) (π := fun i => [hp.length].getD i 0) hb hv
  have h2 := (view_sound Hq d r0).1 v h1
  refine h2.mono ⟨fun c hc => ?_, fun _ _ => rfl, Nat.zero_le _, fun _ hb => absurd hb (Nat.not_lt_zero _), fun _ hb => absurd hb (Nat.not_lt_zero _), fun _ => Nat.le_refl _⟩
  rcases hc with h | ⟨b, ⟨bk, hbk, _⟩, rfl⟩
  · exact .inl h
  · have : b = 0 := by
      have := (List.getElem?_eq_some_iff.1 hbk).1
      simpa using this
    subst this
    exact .inr rfl

theorem Yields.fresh {o : Oper} {f : Operand → AV} {hp : List Blk} (q : Blk) (hl : q.live = true) (hf : allBelow 0 q.els = true) (hflat : ∀ b ∈ hp, allBelow hp.length b.els = true) (d : Nat) (r0 : AV) (hb : below 1 r0 = true)
    (h : opA P hp.length o.op f hp (fun v hp' kb => v = ren (fun i => [hp.length].getD i 0) r0 ∧ hp' = hp ++ [q] ∧ kb = none)) : Yields P o f hp (view d [q] r0) := by
  intro E g H hr hcst
  have := opA_sound (E0 := E) (hp0 := hp) H (Fr.refl E hp) hr hcst h
  unfold Runs at this ⊢
  have conv : ∀ u w', OpPost E E hp (fun v hp' kb => v = ren (fun i => [hp.length].getD i 0) r0 ∧ hp' = hp ++ [q] ∧ kb = none) u w' → ∃ E', E'.w = w' ∧ RV E' (view d [q] r0) u ∧ HRel E' hp ∧ Fr E hp E' hp ∧ E.le E' := by
    rintro u w' ⟨E', av, hp', kb, hl'⟩
    obtain ⟨rfl, rfl, rfl⟩ := hl'.k
    obtain ⟨E2, h1, h2, h3, h4, h5⟩ := freeze_one H hl'.hr hl'.fr hl hf hflat d r0 hb u hl'.rv
    exact ⟨E2, h1.trans hl'.w, h2, h3, h4, h5⟩
  split at this
  · exact conv _ _ this
  · exact conv _ _ this
  · exact this.mono fun e w'' ⟨v, he, hp⟩ => ⟨v, he, conv _ _ hp⟩
  · exact this.elim

theorem Yields.bare {o : Oper} {f : Operand → AV} {hp : List Blk} {t e : TypeId} (ho : o.op = .buildSlice t 0 #[]) (hd : P.underlying t = some (.slice e)) (hpos : 0 < P.cellsOf e) (hflat : ∀ b ∈ hp, allBelow hp.length b.els = true) : Yields P o f hp .nils := by
  intro E g H hr hcst
  have run : (Instr.buildSlice t 0 #[]).run P E.w = .ok (.slice (some ⟨E.w.heap.size, 0, none⟩) 0 0) { E.w with heap := E.w.heap.push (.cells #[] e) } := by
    have hc : ¬ (0 : Nat) > 2 ^ 24 := by omega
    simp only [Instr.buildSlice, Sem.run_bind, run_underlying' hd, Result.andThen_ok, run_sizeOf_pos hpos, Nat.zero_mul, hc, if_false, if_true, Sem.run_pure]
    have e0 : (Array.map (fun x => (#[] : Array Value)[x % (#[] : Array Value).size]!) (Array.range 0)) = #[] := by simp
    rw [e0]
    rfl
  obtain ⟨E', h1, h2, h3, h4, _⟩ := new_block H (Fr.refl E hp) { ty := e, w := P.cellsOf e, els := [], live := true } #[] rfl _ (Same.refl _) (fun i e he => by simp at he)
  obtain ⟨E2, k1, _, k2, k3, k4⟩ := freeze_one H h2 h3 rfl rfl hflat 0 .any rfl undef (.any _)
  unfold Runs
  have hx : (execOp g o).run P E.w = .ok (.value (.slice (some ⟨E.w.heap.size, 0, none⟩) 0 0)) { E.w with heap := E.w.heap.push (.cells #[] e) } := by
    simp only [execOp, ho]
    simp [Sem.run_bind, run]
  rw [hx]
  exact ⟨E2, k1.trans h1, .nils _, k2, k3, k4⟩

def ordA (P : Program) (n0 : Nat) (ops : List Oper) (ms : List Bool) (K : St → Prop) : List Nat → St → Prop
  | [], st => K st
  | k :: r, st => ∃ o, ops[k]? = some o ∧ o.guard = none ∧
    if ms.getD k true then ∃ g : AV → List Blk → Option Nat → Prop, opA P n0 o.op st.ev st.hp g ∧ ∀ v hp' kb, g v hp' kb → ordA P n0 ops ms K r ((st.after hp' kb).put o.dst v)
    else ∃ v, Yields P o st.ev st.hp v ∧ ordA P n0 ops ms K r (st.put o.dst v)

def Od (P : Program) (n0 : Nat) (ops : List Oper) (ms : List Bool) (K : St → Prop) (ord : List Nat) (_t : Tok (ops, ord, K)) (st : St) : Prop := ordA P n0 ops ms K ord st

section
variable {n0 : Nat} {ops : List Oper} {ms : List Bool} {K : St → Prop} {k : Nat} {r : List Nat} {st : St} {t : Tok (ops, k :: r, K)} {o : Oper}
end
end
attribute [irreducible] Od
end Go.Abs
/- The abstract layer, part Z6: a function's code, piece by piece: what comes later stands apart; ways that meet again. -/
set_option linter.unusedSimpArgs false
set_option linter.unusedVariables false
namespace Go.Abs
open Go
variable {P : Program}
section
variable {P : Program}
variable {n0 : Nat} {Q : Ex → St → Prop} {st : St}
end
end Go.Abs
/- The abstract layer, part Z7: drawn regions in which a call changes memory beside quiet operations that do not mind. -/
set_option linter.unusedSimpArgs false
set_option linter.unusedVariables false
namespace Go.Abs
open Go
variable {P : Program}
section
variable {P : Program}

def CallAt (P : Program) (o : Oper) (f : Operand → AV) (hp : List Blk) (Q : AV → List Blk → Prop) : Prop :=
  (∃ (c : Call) (gf : Operand) (fid : FuncId) (caps : List AV), o.op = .call c ∧ c.callee = .value gf ∧ f gf = .fn fid caps ∧ CallA P fid (c.args.toList.map f ++ caps) hp Q) ∨
  (∃ t len parts, o.op = .buildSlice t len parts ∧ ∀ n0, opA P n0 o.op f hp (fun v hp' kb => Q v hp' ∧ kb = none))
theorem CallAt.congr {o : Oper} {f f' : Operand → AV} {hp : List Blk} {Q : AV → List Blk → Prop} (h : CallAt P o f hp Q) (he : ∀ x ∈ o.op.operands, f x = f' x) : CallAt P o f' hp Q := by
  rcases h with ⟨c, gf, fid, caps, h1, h2, h3, h4⟩ | ⟨t, len, parts, h1, h2⟩
  · refine .inl ⟨c, gf, fid, caps, h1, h2, by rw [← he gf (by simp [h1, Op.operands, Call.operands, h2])]; exact h3, ?_⟩
    have : c.args.toList.map f' = c.args.toList.map f := by
      apply List.map_congr_left
      intro x hx
      exact (he x (by
        simp only [h1, Op.operands, Call.operands, h2]
        simp at hx ⊢
        exact .inr hx)).symm
    rw [this]
    exact h4
  · refine .inr ⟨t, len, parts, h1, fun n0 => ?_⟩
    have h3 := h2 n0
    rw [h1] at h3 he ⊢
    have e : (parts.toList.map fun p => (p.1, f p.2)) = parts.toList.map fun p => (p.1, f' p.2) := by
      apply List.map_congr_left
      intro p hp
      rw [he p.2 (by simp only [Op.operands]; simp; exact ⟨p.1, by simpa using hp⟩)]
    simp only [opA] at h3 ⊢
    simp only [e] at h3
    exact h3

def stepH (P : Program) (n0 : Nat) (ops : List Oper) (ms : List Nat) (Hs : List Blk → Prop) (i : Nat) (K : St → Prop) (st : St) : Prop :=
  match ops[i]? with
  | none => K st
  | some o => o.guard = none ∧ match ms.getD i 1 with
    | 0 => ∃ v, Yields P o st.ev st.hp v ∧ K (st.put o.dst v)
    | 2 => ∃ Q, CallAt P o st.ev st.hp Q ∧ ∀ r hp', Q r hp' → Hs hp' ∧ K ((st.after hp' none).put o.dst r)
    | _ => ∃ k : AV → List Blk → Option Nat → Prop, opA P n0 o.op st.ev st.hp k ∧ ∀ v hp' kb, k v hp' kb → K ((st.after hp' kb).put o.dst v)
def anyH (P : Program) (n0 : Nat) (ops : List Oper) (ms : List Nat) (Hs : List Blk → Prop) (K : St → Prop) : Nat → Array Bool → St → Prop
  | 0, listed, st => Region.ready .any ops.toArray listed = [] ∧ K st
  | fuel + 1, listed, st =>
    (Region.ready .any ops.toArray listed = [] → K st) ∧ ∀ i ∈ Region.ready .any ops.toArray listed, stepH P n0 ops ms Hs i (anyH P n0 ops ms Hs K fuel (listed.setIfInBounds i true)) st

theorem opA_callAt {n0 : Nat} {o : Oper} {f : Operand → AV} {hp : List Blk} {Q : AV → List Blk → Prop} (h : CallAt P o f hp Q) : opA P n0 o.op f hp (fun v hp' kb => Q v hp' ∧ kb = none) := by
  rcases h with ⟨c, gf, fid, caps, h1, h2, h3, h4⟩ | ⟨t, len, parts, h1, h2⟩
  · obtain ⟨callee, args, ts⟩ := c
    simp only at h2
    subst h2
    rw [h1]
    simp only [opA, h3]
    exact h4.mono fun r hp' hq => ⟨hq, trivial⟩
  · exact h2 n0
def boolMs (ms : List Nat) : List Bool := ms.map fun m => m != 0
theorem boolMs_get (ms : List Nat) (i : Nat) : (boolMs ms).getD i true = (ms.getD i 1 != 0) := by
  simp only [boolMs, List.getD_eq_getElem?_getD, List.getElem?_map]
  cases ms[i]? <;> rfl
theorem stepH_stepA {n0 : Nat} {ops : List Oper} {ms : List Nat} {Hs : List Blk → Prop} {i : Nat} {K K' : St → Prop} {st : St} (hK : ∀ st, K st → K' st) (h : stepH P n0 ops ms Hs i K st) : stepA P n0 ops (boolMs ms) i K' st := by
  unfold stepH at h
  unfold stepA
  cases ho : ops[i]? with
  | none => rw [ho] at h; exact hK _ h
  | some o =>
    rw [ho] at h
    obtain ⟨hg, h⟩ := h
    have hw : wantedA ops o st = some true := by simp [wantedA, hg]
    simp only [boolMs_get]
    split at h
    · rename_i h0
      rw [h0]
      obtain ⟨v, hy, hk⟩ := h
      simp only [bne_self_eq_false, Bool.false_eq_true, if_false]
      exact ⟨v, .inl ⟨hw, hy⟩, hK _ hk⟩
    · rename_i h0
      rw [h0]
      obtain ⟨Q, hc, hk⟩ := h
      simp only [show ((2 : Nat) != 0) = true from rfl, if_true]
      refine .inl ⟨hw, _, opA_callAt hc, ?_⟩
      rintro v hp' kb ⟨hq, rfl⟩
      exact hK _ (hk v hp' hq).2
    · rename_i h0 h2
      have : (ms.getD i 1 != 0) = true := bne_iff_ne.2 h0
      rw [this]
      obtain ⟨k, hop, hk⟩ := h
      simp only [if_true]
      exact .inl ⟨hw, k, hop, fun v hp' kb hv => hK _ (hk v hp' kb hv)⟩
theorem anyH_anyA {n0 : Nat} {ops : List Oper} {ms : List Nat} {Hs : List Blk → Prop} {K : St → Prop} : ∀ (fuel : Nat) (listed : Array Bool) (st : St), anyH P n0 ops ms Hs K fuel listed st → anyA P n0 ops (boolMs ms) K fuel listed st
  | 0, listed, st, h => h
  | fuel + 1, listed, st, h => ⟨h.1, fun i hi => stepH_stepA (fun st' h' => anyH_anyA fuel _ st' h') (h.2 i hi)⟩

def FreeH (ops : List Oper) (ms : List Nat) (listed : Array Bool) (i : Nat) (oi : Oper) : Prop :=
  ∃ D : List Nat, Waits ops listed i D ∧ ∀ j oj, ops[j]? = some oj → j ≠ i → listed.getD j true = false → j ∉ D → (∀ e ∈ oj.after, Region.binds .any e = true → e.on ≠ i) → oi.apart ops.toArray oj = true ∧ (ms.getD j 1 = 0 ∨ ms.getD j 1 = 2)

theorem St.ev_after (st : St) (hp : List Blk) (x : Operand) : (st.after hp none).ev x = st.ev x := by
  cases x <;> rfl
theorem put_after (st : St) (hp : List Blk) (d : Option Tmp) (v : AV) : (st.put d v).after hp none = (st.after hp none).put d v := by
  cases d <;> rfl
theorem put_hp (st : St) (d : Option Tmp) (v : AV) : (st.put d v).hp = st.hp := by cases d <;> rfl
theorem after_hp (st : St) (hp : List Blk) : (st.after hp none).hp = hp := rfl

theorem ev_apart {ops : List Oper} {o : Oper} {st : St} {d : Option Tmp} {v : AV} (h : ∀ t, d = some t → t ∉ o.looksAt ops.toArray) : ∀ x ∈ o.op.operands, (st.put d v).ev x = st.ev x := fun x hx => St.ev_put fun t ht e => h t ht (by
    subst e
    simp only [Oper.looksAt, List.mem_append, List.mem_filterMap]
    exact .inl ⟨.tmp t, by simpa using hx, rfl⟩)

theorem anyH_first {n0 : Nat} {ops : List Oper} {ms : List Nat} {Hs : List Blk → Prop} {K : St → Prop} {i : Nat} {oi : Oper} {v : AV} (hi : ops[i]? = some oi) (hm : ms.getD i 1 = 0) (hgi : oi.guard = none) :
    ∀ (fuel : Nat) (listed : Array Bool) (st : St), FreeH ops ms listed i oi → i ∈ Region.ready .any ops.toArray listed → (∀ hp, Hs hp → Yields P oi st.ev hp v) → Hs st.hp →
      anyH P n0 ops ms Hs K fuel (listed.setIfInBounds i true) (st.put oi.dst v) → anyH P n0 ops ms Hs K (fuel + 1) listed st := by
  have self : ∀ (fuel : Nat) (listed : Array Bool) (st : St), Yields P oi st.ev st.hp v → anyH P n0 ops ms Hs K fuel (listed.setIfInBounds i true) (st.put oi.dst v) → stepH P n0 ops ms Hs i (anyH P n0 ops ms Hs K fuel (listed.setIfInBounds i true)) st := by
    intro fuel listed st hy H
    unfold stepH
    simp only [hi, hm]
    exact ⟨hgi, v, hy, H⟩
  intro fuel
  induction fuel with
  | zero =>
    intro listed st _ hr hy hs H
    refine ⟨fun h => (by rw [h] at hr; cases hr), fun j hj => ?_⟩
    by_cases hji : j = i
    · subst hji; exact self 0 listed st (hy _ hs) H
    · have := ready_mono hj hji
      rw [H.1] at this
      cases this
  | succ fuel ih =>
    intro listed st hfree hr hy hs H
    refine ⟨fun h => (by rw [h] at hr; cases hr), fun j hj => ?_⟩
    by_cases hji : j = i
    · subst hji; exact self _ listed st (hy _ hs) H
    · have h1 := H.2 j (ready_mono hj hji)
      obtain ⟨hjun, oj, hoj, hall⟩ := mem_ready.1 hj
      have hoj' : ops[j]? = some oj := by simpa using hoj
      have hnot : ∀ e ∈ oj.after, Region.binds .any e = true → e.on ≠ i := fun e he hb heq => by
        have h1 := hall e he hb
        have h0 := (mem_ready.1 hr).1
        rw [heq] at h1
        rcases Nat.lt_or_ge i listed.size with h' | h'
        · simp [h'] at h0 h1; rw [h0] at h1; cases h1
        · simp [Array.getElem?_eq_none h'] at h1
      obtain ⟨D, hwait, hfree⟩ := hfree
      have hjD : j ∉ D := fun hD => by
        obtain ⟨_, oj', hoj'', e, he, hb, hc⟩ := hwait j hD
        have : oj' = oj := by rw [hoj'] at hoj''; cases hoj''; rfl
        subst this
        rcases hc with hc | hc
        · exact hnot e he hb hc
        · have h1 := hall e he hb
          have h0 := (hwait e.on hc).1
          rcases Nat.lt_or_ge e.on listed.size with h' | h'
          · simp [h'] at h0 h1; rw [h0] at h1; cases h1
          · simp [Array.getElem?_eq_none h'] at h1
      obtain ⟨hap, hmj⟩ := hfree j oj hoj' hji hjun hjD hnot
      obtain ⟨a1, a2, a3⟩ := Oper.apart_spec hap
      have hfree' : FreeH ops ms (listed.setIfInBounds j true) i oi := ⟨D, fun d hd => by
        have hne : j ≠ d := fun h => hjD (h ▸ hd)
        obtain ⟨w1, w2⟩ := hwait d hd
        exact ⟨by rw [getD_set_ne true hne]; exact w1, w2⟩, fun k ok hk hki hun hkD hno => by
        refine hfree k ok hk hki ?_ hkD hno
        by_cases hjk : j = k
        · subst hjk; exact hjun
        · rw [getD_set_ne true hjk] at hun; exact hun⟩
      unfold stepH at h1 ⊢
      simp only [hoj'] at h1 ⊢
      obtain ⟨hgj, h1⟩ := h1
      refine ⟨hgj, ?_⟩
      have evj : ∀ x ∈ oj.op.operands, (st.put oi.dst v).ev x = st.ev x := ev_apart (ops := ops) a1
      rcases hmj with hmj | hmj
      · simp only [hmj] at h1 ⊢
        obtain ⟨u, hu, hK⟩ := h1
        rw [put_hp] at hu
        refine ⟨u, hu.congr evj, ?_⟩
        refine ih (listed.setIfInBounds j true) (st.put oj.dst u) hfree' (ready_mono hr (Ne.symm hji)) (fun hp hh => (hy hp hh).congr fun x hx => (ev_apart (ops := ops) a3 x hx).symm) (by rw [put_hp]; exact hs) ?_
        rw [Array.setIfInBounds_comm _ _ hji, St.put_comm st u v (fun d hd he => a2 d he hd)]
        exact hK
      · simp only [hmj] at h1 ⊢
        obtain ⟨Q, hc, hK⟩ := h1
        rw [put_hp] at hc
        refine ⟨Q, hc.congr evj, fun r hp' hq => ?_⟩
        obtain ⟨hh, hK⟩ := hK r hp' hq
        refine ⟨hh, ?_⟩
        refine ih (listed.setIfInBounds j true) ((st.after hp' none).put oj.dst r) hfree' (ready_mono hr (Ne.symm hji)) (fun hp hh' => (hy hp hh').congr fun x hx => ?_) (by rw [put_hp]; exact hh) ?_
        · rw [ev_apart (ops := ops) a3 x hx, St.ev_after]
        · rw [Array.setIfInBounds_comm _ _ hji, St.put_comm _ r v (fun d hd he => a2 d he hd), ← put_after]
          exact hK

def freeHB (ops : Array Oper) (ms : List Nat) (listed : Array Bool) (k : Nat) : Bool :=
  match ops[k]? with
  | none => false
  | some o => lateOk ops listed k (lateOf ops listed k) && (List.range ops.size).all fun j =>
    j == k || listed.getD j true || (lateOf ops listed k).contains j ||
    match ops[j]? with
    | none => true
    | some oj => (oj.after.any fun e => Region.binds .any e && e.on == k) || (o.apart ops oj && (ms.getD j 1 == 0 || ms.getD j 1 == 2))
theorem freeHB_spec {ops : List Oper} {ms : List Nat} {listed : Array Bool} {k : Nat} {o : Oper} (hk : ops[k]? = some o) (h : freeHB ops.toArray ms listed k = true) : FreeH ops ms listed k o := by
  unfold freeHB at h
  have hk' : ops.toArray[k]? = some o := by simpa using hk
  rw [hk'] at h
  simp only [Bool.and_eq_true] at h
  refine ⟨_, lateOk_spec h.1, ?_⟩
  have h := h.2
  intro j oj hoj hjk hun hD hno
  simp only [List.all_eq_true, List.mem_range] at h
  have hj : j < ops.toArray.size := by
    have := (List.getElem?_eq_some_iff.1 hoj).1
    simpa using this
  have h1 := h j hj
  have hoj' : ops.toArray[j]? = some oj := by simpa using hoj
  rw [hoj', hun] at h1
  have hjk' : (j == k) = false := by simpa using hjk
  have hD' : (lateOf ops.toArray listed k).contains j = false := by simpa using hD
  rw [hjk', hD'] at h1
  simp only [Bool.false_or, Bool.or_eq_true, Bool.and_eq_true, beq_iff_eq] at h1
  rcases h1 with h1 | ⟨h1, h2⟩
  · exfalso
    rw [Array.any_eq_true] at h1
    obtain ⟨m, hm, he⟩ := h1
    simp only [Bool.and_eq_true, beq_iff_eq] at he
    exact hno _ (Array.getElem_mem hm) he.1 he.2
  · exact ⟨h1, h2⟩

def ordOkH (ops : Array Oper) (ms : List Nat) : List Nat → Array Bool → Bool
  | [], listed => (Region.ready .any ops listed).isEmpty
  | k :: r, listed => (if ms.getD k 1 == 0 then (Region.ready .any ops listed).contains k && freeHB ops ms listed k else Region.ready .any ops listed == [k]) && ordOkH ops ms r (listed.setIfInBounds k true)
def ordH (P : Program) (n0 : Nat) (ops : List Oper) (ms : List Nat) (Hs : List Blk → Prop) (K : St → Prop) : List Nat → St → Prop
  | [], st => K st
  | k :: r, st => ∃ o, ops[k]? = some o ∧ o.guard = none ∧ match ms.getD k 1 with
    | 0 => ∃ v, Hs st.hp ∧ (∀ hp, Hs hp → Yields P o st.ev hp v) ∧ ordH P n0 ops ms Hs K r (st.put o.dst v)
    | 2 => ∃ Q, CallAt P o st.ev st.hp Q ∧ ∀ v hp', Q v hp' → Hs hp' ∧ ordH P n0 ops ms Hs K r ((st.after hp' none).put o.dst v)
    | _ => ∃ g : AV → List Blk → Option Nat → Prop, opA P n0 o.op st.ev st.hp g ∧ ∀ v hp' kb, g v hp' kb → ordH P n0 ops ms Hs K r ((st.after hp' kb).put o.dst v)
theorem anyH_ord {n0 : Nat} {ops : List Oper} {ms : List Nat} {Hs : List Blk → Prop} {K : St → Prop} : ∀ (ord : List Nat) (listed : Array Bool) (st : St), ordOkH ops.toArray ms ord listed = true → ordH P n0 ops ms Hs K ord st → anyH P n0 ops ms Hs K ord.length listed st
  | [], listed, st, hB, h => ⟨by simpa [ordOkH] using hB, h⟩
  | k :: r, listed, st, hB, h => by
    obtain ⟨o, ho, hg, h⟩ := h
    simp only [ordOkH, Bool.and_eq_true] at hB
    obtain ⟨hB1, hB2⟩ := hB
    split at h
    · rename_i hm
      obtain ⟨v, hh, hy, hK⟩ := h
      rw [hm] at hB1
      simp only [beq_self_eq_true, if_true, Bool.and_eq_true] at hB1
      exact anyH_first ho hm hg r.length listed st (freeHB_spec ho hB1.2) (by simpa using hB1.1) hy hh (anyH_ord r _ _ hB2 hK)
    · rename_i hm
      obtain ⟨Q, hc, hK⟩ := h
      rw [hm] at hB1
      simp only [show ((2 : Nat) == 0) = false from rfl, Bool.false_eq_true, if_false, beq_iff_eq] at hB1
      refine ⟨fun h => (by rw [hB1] at h; cases h), fun i hi => ?_⟩
      rw [hB1] at hi
      have : i = k := by simpa using hi
      subst this
      unfold stepH
      simp only [ho, hm]
      exact ⟨hg, Q, hc, fun v hp' hq => ⟨(hK v hp' hq).1, anyH_ord r _ _ hB2 (hK v hp' hq).2⟩⟩
    · rename_i hm hm2
      obtain ⟨g, hop, hK⟩ := h
      have hm' : (ms.getD k 1 == 0) = false := beq_false_of_ne hm
      rw [hm'] at hB1
      simp only [Bool.false_eq_true, if_false, beq_iff_eq] at hB1
      refine ⟨fun h => (by rw [hB1] at h; cases h), fun i hi => ?_⟩
      rw [hB1] at hi
      have : i = k := by simpa using hi
      subst this
      unfold stepH
      simp only [ho]
      refine ⟨hg, ?_⟩
      exact ⟨g, hop, fun v hp' kb hv => anyH_ord r _ _ hB2 (hK v hp' kb hv)⟩

def Oh (P : Program) (n0 : Nat) (ops : List Oper) (ms : List Nat) (Hs : List Blk → Prop) (K : St → Prop) (ord : List Nat) (_t : Tok (ops, ord, K)) (st : St) : Prop := ordH P n0 ops ms Hs K ord st
theorem go_calls (hm : P.follows .mixedOrders = true) {n0 : Nat} {id : Nat} {ops : Array Oper} {Q : Ex → St → Prop} {st : St} {t} (Hs : List Blk → Prop) (ord : List Nat) (ms : List Nat)
    (hok : (ord.length == ops.size && ordOkH ops ms ord (Array.replicate ops.size false)) = true) (h : Oh P n0 ops.toList ms Hs (Q .normal) ord .mk st) : Lp P n0 (.region id ops true) Q t st := by
  delta Lp
  simp only [Bool.and_eq_true, beq_iff_eq] at hok
  intro E0 hp0 E a hn hs
  subst hn
  have h1 := anyH_anyA _ _ _ (anyH_ord (P := P) (n0 := hp0.length) (ops := ops.toList) (ms := ms) (Hs := Hs) (K := Q .normal) ord (Array.replicate ops.size false) st (by simpa using hok.2) h)
  rw [hok.1] at h1
  refine wp_region_any hm ?_
  have hs' : SR E0 hp0 (E.with { E.w with drawn := E.w.drawn + 1 }) st a := ⟨hs.hr.with (Same.drew _ _), hs.fr.with (Same.drew _ _), hs.len, fun i v u a1 a2 => (hs.tm i v u a1 a2).mono (Env.le_with (Same.drew _ _)), hs.df⟩
  have h2 := anyA_sound (P := P) (Q := liftQ E0 hp0 Q) (fun E st a hs hk => ⟨.normal, st, E, rfl, rfl, hs, hk⟩) _ _ _ st a hs' h1
  rw [show ops.toList.toArray = ops from by simp] at h2
  exact h2

section
variable {n0 : Nat} {ops : List Oper} {ms : List Nat} {Hs : List Blk → Prop} {K : St → Prop} {k : Nat} {r : List Nat} {st : St} {t : Tok (ops, k :: r, K)} {o : Oper}
theorem oh_nil {t : Tok (ops, ([] : List Nat), K)} (h : K st) : Oh P n0 ops ms Hs K [] t st := h
theorem oh_quiet (ho : ops[k]? = some o) (hg : o.guard = none) (hm : ms.getD k 1 = 0) (hh : Hs st.hp) {v : AV} (hq : ∀ hp, Hs hp → quietA P o.op st.ev hp (fun v' => v' = v)) (h : Oh P n0 ops ms Hs K r .mk (st.put o.dst v)) : Oh P n0 ops ms Hs K (k :: r) t st :=
  ⟨o, ho, hg, by
    rw [hm]
    refine ⟨v, hh, fun hp hp' => ?_, h⟩
    obtain ⟨v', h1, h2⟩ := Yields.quiet (hq hp hp')
    subst h1
    exact h2⟩
theorem oh_call (ho : ops[k]? = some o) (hg : o.guard = none) (hm : ms.getD k 1 = 2) {gf : Operand} {args : Array Operand} {ts : Array TypeId} (hop : o.op = .call { callee := .value gf, args := args, argTypes := ts }) {fid : FuncId} {caps : List AV} (hfn : st.ev gf = .fn fid caps) 
    (hc : CallP P fid (args.toList.map st.ev ++ caps) st.hp (fun v hp' => Hs hp' ∧ Oh P n0 ops ms Hs K r .mk ((st.after hp' none).put o.dst v)) .mk) : Oh P n0 ops ms Hs K (k :: r) t st :=
  ⟨o, ho, hg, by
    rw [hm]
    delta CallP at hc
    exact ⟨_, .inl ⟨_, gf, fid, caps, hop, rfl, hfn, hc⟩, fun v hp' hq => hq⟩⟩
theorem oh_fresh (ho : ops[k]? = some o) (hg : o.guard = none) (hm : ms.getD k 1 = 0) (hh : Hs st.hp) (q : Blk) (d : Nat) (r0 : AV) (hl : q.live = true) (hf : allBelow 0 q.els = true) (hb : below 1 r0 = true) (hflat : ∀ hp, Hs hp → ∀ b ∈ hp, allBelow hp.length b.els = true)
    (hop : ∀ hp, Hs hp → opA P hp.length o.op st.ev hp (Cn (fun v hp' kb => v = ren (fun i => [hp.length].getD i 0) r0 ∧ hp' = hp ++ [q] ∧ kb = none) .mk)) (h : Oh P n0 ops ms Hs K r .mk (st.put o.dst (view d [q] r0))) : Oh P n0 ops ms Hs K (k :: r) t st :=
  ⟨o, ho, hg, by
    rw [hm]
    exact ⟨_, hh, fun hp hp' => Yields.fresh q hl hf (hflat hp hp') d r0 hb (by have := hop hp hp'; rw [Cn_eq] at this; exact this), h⟩⟩
theorem oh_one (ho : ops[k]? = some o) (hg : o.guard = none) (hm : ms.getD k 1 = 1) (h : opA P n0 o.op st.ev st.hp (Cn (fun v hp' kb => Oh P n0 ops ms Hs K r .mk ((st.after hp' kb).put o.dst v)) .mk)) : Oh P n0 ops ms Hs K (k :: r) t st :=
  ⟨o, ho, hg, by rw [hm]; exact ⟨_, h, fun v hp' kb hv => by rw [Cn_go] at hv; exact hv⟩⟩
end
end
attribute [irreducible] Oh
theorem CallA.freezeQ {P : Program} (d : Nat) {f : FuncId} {args : List AV} {Q0 : AV → List Blk → Prop} (h : CallA P f args [] Q0) : CallA P f args [] (fun r hp => ∃ r0 new, Q0 r0 new ∧ r = view d new r0 ∧ hp = []) := by
  intro E vs H hl hrv
  refine (h E vs H hl hrv).mono ?_
  rintro v w' ⟨r', hp', E', hw, hq, hv, H', F'⟩
  refine ⟨_, [], E'.lent hp', hw, ⟨r', hp', hq, rfl, rfl⟩, (view_sound H' d r').1 v hv, ?_, ?_⟩
  · exact ⟨rfl, by simp, by simp, by simp, by simp, fun c hc => by
      rcases hc with h1 | ⟨b, ⟨q, hq, hlv⟩, rfl⟩
      · exact H'.old c h1
      · obtain ⟨cs', g2, _⟩ := (H'.holds b q hq hlv).cells
        exact (Row.lt g2), H'.laid.keep (fun c h => .inl h) (fun _ _ => rfl)⟩
  · exact { size := F'.size, os := F'.os, tape := F'.tape, output := F'.output, block := F'.block, len := Nat.le_refl _, ρ := fun b hb => absurd hb (Nat.not_lt_zero _), wd := fun b hb => absurd hb (Nat.not_lt_zero _),
            F := fun c hc => .inl (F'.F c hc)
            F' := fun c hc => by
              rcases hc with h1 | ⟨b, hb, rfl⟩
              · exact F'.F' c h1
              · rcases F'.live b hb with ⟨h2, _⟩ | ⟨_, h3⟩
                · exact absurd h2 (Nat.not_lt_zero _)
                · exact .inr h3
            live := fun b ⟨q, hq, _⟩ => by simp at hq
            csz := F'.csz }
end Go.Abs
/- The greatest of a number, another and that one turned about. -/
set_option linter.unusedVariables false
namespace Go.Abs
open Go
variable {P : Program}

end Go.Abs
/- The abstract layer, part Z9: places of bytes in strings, answered in place. -/
set_option linter.unusedSimpArgs false
set_option linter.unusedVariables false
namespace Go.Abs
open Go
variable {P : Program}

section
variable {P : Program}
theorem RV.two {E : Env P} {a b : AV} {vs : List Value} (hl : vs.length = 2) (hv : ∀ (i : Nat) x v, [a, b][i]? = some x → vs[i]? = some v → RV E x v) : ∃ v u, vs = [v, u] ∧ RV E a v ∧ RV E b u := by
  match vs, hl with
  | [v, u], _ => exact ⟨v, u, rfl, hv 0 a v rfl rfl, hv 1 b u rfl rfl⟩
end

def strs (l : List (List UInt8)) : List AV := l.map AV.str
theorem strs_len (l : List (List UInt8)) : (strs l).length = l.length := by simp [strs]
theorem strs_get (l : List (List UInt8)) (i : Nat) (h : i < (strs l).length) : (strs l)[i] = AV.str (l[i]'(by simpa [strs] using h)) := by simp [strs]
theorem strs_app (l r : List (List UInt8)) : strs (l ++ r) = strs l ++ strs r := by simp [strs]
theorem strs_below (n : Nat) : ∀ l : List (List UInt8), allBelow n (strs l) = true
  | [] => rfl
  | x :: l => strs_below n l
theorem map_view_strs (d : Nat) (hp : List Blk) (l : List (List UInt8)) : (strs l).map (view d hp) = strs l := by
  unfold strs
  rw [List.map_map]
  exact List.map_congr_left fun x _ => by cases d <;> rfl
end Go.Abs
/- The abstract layer, part ZA: a drawn region whose operations make blocks of their own, told by a plan: what each operation yields; its end told by names of one's choice, ahead of the last operation. -/
set_option linter.unusedSimpArgs false
set_option linter.unusedVariables false
namespace Go.Abs
open Go
variable {P : Program}

def namesL : AV → List Nat
  | .sl b _ _ | .ptr b _ _ => [b]
  | _ => []
def namesM : AV → List Nat
  | .agg l | .fn _ l => l.flatMap namesL
  | v => namesL v
def names : AV → List Nat
  | .tup l => l.flatMap namesM
  | v => namesM v
section
variable {P : Program} {n0 : Nat}
end

section
variable {P : Program} {n0 : Nat}
theorem Weak.refl {st : St} : Weak n0 st st := fun _ _ _ E _ _ hs => ⟨E, rfl, hs⟩
end

def plName (N0 : Nat) (nm : Nat → Nat) (b : Nat) : Nat := if b < N0 then b else nm (b - N0)
abbrev PEs := List (Nat × AV × Option Blk)
def PEs.v (pv : PEs) (i : Nat) : AV := (pv.getD i (0, .any, none)).2.1
def PEs.b (pv : PEs) (i : Nat) : Option Blk := (pv.getD i (0, .any, none)).2.2
def PEs.uses (N0 : Nat) (pv : PEs) (i : Nat) : List Nat := (names (pv.v i)).filterMap fun b => if N0 ≤ b ∧ b ≠ N0 + i then some (b - N0) else none
def edgeOn (o : Oper) (i : Nat) : Bool := o.after.any fun e => Region.binds .any e && e.on == i
def slotP (π : Nat → Nat) (tm : List AV) : PEs → Nat → AV
  | [], t => tm.getD t .any
  | (d, v, _) :: r, t => if d = t then ren π v else slotP π tm r t
def evP (π : Nat → Nat) (tm : List AV) (pv : PEs) : Operand → AV
  | .tmp t => slotP π tm pv t
  | .const v => ofV v
  | .func f => .fn f []
  | .global _ => .any
def oldOk (hp : List Blk) : Nat → List Blk → Prop
  | _, [] => True
  | k, b :: r => hp[k]? = some b ∧ oldOk hp (k + 1) r
def newOk (hp : List Blk) (nm : Nat → Nat) (o : Oper) : Nat → PEs → Prop
  | _, [] => True
  | k, (_, _, some b) :: r => (edgeOn o k = true → hp[nm k]? = some b) ∧ newOk hp nm o (k + 1) r
  | k, (_, _, none) :: r => newOk hp nm o (k + 1) r
theorem below_le {N M : Nat} (hle : N ≤ M) (a : AV) (h : below N a = true) : below M a = true := by
  have hL : ∀ a, belowL N a = true → belowL M a = true := fun a h => by
    cases a <;> first | exact h | (simp only [belowL, decide_eq_true_eq] at h ⊢; omega)
  have hM : ∀ a, belowM N a = true → belowM M a = true := fun a h => by
    cases a with
    | agg l => simp only [belowM, List.all_eq_true] at h ⊢; exact fun x hx => hL x (h x hx)
    | fn f l => simp only [belowM, List.all_eq_true] at h ⊢; exact fun x hx => hL x (h x hx)
    | _ => first | exact h | (simp only [belowM, belowL, decide_eq_true_eq] at h ⊢; omega)
  cases a with
  | tup l => simp only [below, List.all_eq_true] at h ⊢; exact fun x hx => hM x (h x hx)
  | agg l => exact hM (.agg l) h
  | fn f l => exact hM (.fn f l) h
  | _ => first | exact h | (simp only [below, belowM, belowL, decide_eq_true_eq] at h ⊢; omega)
section
variable {P : Program} {n0 : Nat}
def HopAt (P : Program) (n0 : Nat) (ops : List Oper) (ms : List Bool) (st0 : St) (pv : PEs) (i : Nat) : Prop :=
  ∀ o, ops[i]? = some o → ∀ (nm : Nat → Nat) (hp : List Blk), oldOk hp 0 st0.hp → newOk hp nm o 0 pv → st0.hp.length ≤ hp.length →
    (ms.getD i true = true ∧ opA P n0 o.op (evP (plName st0.hp.length nm) st0.tm pv) hp (Cn (fun v hp' kb => kb = none ∧ match pv.b i with
      | none => v = ren (plName st0.hp.length nm) (pv.v i) ∧ hp' = hp
      | some b => v = ren (plName st0.hp.length (upd nm i hp.length)) (pv.v i) ∧ hp' = hp ++ [b]) .mk)) ∨
    (ms.getD i true = false ∧ pv.b i = none ∧ Yields P o (evP (plName st0.hp.length nm) st0.tm pv) hp (ren (plName st0.hp.length nm) (pv.v i)))
def HopsFrom (P : Program) (n0 : Nat) (ops : List Oper) (ms : List Bool) (st0 : St) (pv : PEs) : Nat → Nat → Prop
  | _, 0 => True
  | k, n + 1 => HopAt P n0 ops ms st0 pv k ∧ HopsFrom P n0 ops ms st0 pv (k + 1) n
theorem HopsFrom.get {ops : List Oper} {ms : List Bool} {st0 : St} {pv : PEs} : ∀ {n k : Nat}, HopsFrom P n0 ops ms st0 pv k n → ∀ i, k ≤ i → i < k + n → HopAt P n0 ops ms st0 pv i
  | 0, k, _, i, h1, h2 => by omega
  | n + 1, k, h, i, h1, h2 => by
    by_cases he : i = k
    · subst he; exact h.1
    · exact h.2.get i (by omega) (by omega)

section
variable {ops : List Oper} {ms : List Bool} {st0 : St} {pv : PEs} {k n : Nat}
end
end
end Go.Abs
/- The abstract layer, part ZB: a call that reads known blocks; what it makes is told as lists that nobody writes any more. -/
set_option linter.unusedSimpArgs false
set_option linter.unusedVariables false
namespace Go.Abs
open Go
variable {P : Program}
section
variable {P : Program}
end
end Go.Abs
/- The abstract layer, part ZD: the library's sort, by the kit's contract. -/
set_option linter.unusedSimpArgs false
set_option linter.unusedVariables false
namespace Go.Abs
open Go
variable {P : Program}

theorem HRel.extend {E : Env P} {hp : List Blk} (H : HRel E hp) {w' : World} (hs : E.w.heap.size ≤ w'.heap.size) (hh : ∀ c, c < E.w.heap.size → w'.heap[c]? = E.w.heap[c]?) (h1 : w'.os = E.w.os) (h2 : w'.tape = E.w.tape) (h3 : w'.output = E.w.output) :
    HRel (E.with w') hp ∧ (∀ {E0 : Env P} {hp0 : List Blk}, Fr E0 hp0 E hp → Fr E0 hp0 (E.with w') hp) ∧ E.le (E.with w') := by
  have hcsz : ∀ c, csz E.w c ≤ csz w' c := fun c => by
    by_cases hc : c < E.w.heap.size
    · unfold csz; rw [hh c hc]; exact Nat.le_refl _
    · unfold csz
      rw [Array.getElem?_eq_none (by omega)]
      exact Nat.zero_le _
  have le : E.le (E.with w') := ⟨fun _ h => h, fun c hc => hh c (H.old c hc), Nat.le_refl _, fun _ _ => rfl, fun _ _ => rfl, hcsz⟩
  refine ⟨⟨H.N, H.wd, fun b blk hb hl => ?_, H.inj, H.apart, fun c hc => Nat.lt_of_lt_of_le (H.old c hc) hs, H.laidLe le⟩, ?_, le⟩
  · obtain ⟨cs, h4, h5⟩ := (H.holds b blk hb hl).cells
    refine ⟨cs, ?_, fun i e he => ⟨(h5 i e he).1, fun j x hx => ?_⟩⟩
    · show Row w'.heap[E.ρ b]? _ _
      rw [hh _ (Row.lt h4)]
      exact h4
    · obtain ⟨v, h6, h7⟩ := (h5 i e he).2 j x hx
      exact ⟨v, h6, h7.mono le⟩
  · intro E0 hp0 F
    exact { size := Nat.le_trans F.size hs, os := h1.trans F.os, tape := h2.trans F.tape, output := h3.trans F.output
            block := fun c hc hn => by
              show w'.heap[c]? = _
              rw [hh c (Nat.lt_of_lt_of_le hc F.size)]
              exact F.block c hc hn
            len := F.len, ρ := F.ρ, wd := F.wd, F := F.F, F' := F.F', live := F.live, csz := fun c => Nat.le_trans (F.csz c) (hcsz c) }

end Go.Abs
/- The abstract layer, part ZE: numerals by the kit's contract; bytes; places in strings. -/
set_option linter.unusedSimpArgs false
set_option linter.unusedVariables false
namespace Go.Abs
open Go Go.RowKit
variable {P : Program}

theorem HRel.table {E : Env P} {hp : List Blk} (H : HRel E hp) {n : String} {k : IntKind} {zs : List Int} (ht : (n, k, zs) ∈ tables) {g : Nat} (hg : P.globalNamed n = some g) : Lib.TabIs P E.w n k zs := by
  obtain ⟨_, ty, fr, h⟩ := H.laid.1 _ ht g hg
  simp only [Lib.TabIs, World.var?, hg, Option.bind_some, h]

theorem itoa_call {f : FuncId} (hg : (P.globalNamed "internal/strconv.uint64pow10").isSome = true) (hgo : isGo P f) (n : Int)
    (h : ∀ w : World, Lib.TabIs P w "internal/strconv.uint64pow10" .u64 Lib.pow10Tab → Calls P f #[.int .i64 n, .int .i64 10] w fun e w' => e = .returned (.string ⟨(Lib.itoa n).toArray⟩) ∧ ∃ k os, w' = Sort.grow (w.drewN k) os) :
    CallA P f [.int .i64 n, .int .i64 10] [] (Ret (.str (Lib.itoa n)) []) := by
  intro E vs H hl hrv
  obtain ⟨g, hg⟩ := Option.isSome_iff_exists.1 hg
  obtain ⟨v, u, rfl, hv, hu⟩ := RV.two hl hrv
  cases hv
  cases hu
  refine .inl ⟨hgo, (h E.w (H.table (by simp [tables]) hg)).mono ?_⟩
  rintro ex w' ⟨rfl, k, os, rfl⟩
  have hh : (E.w.drewN k).heap = E.w.heap := rfl
  obtain ⟨H2, F2, _⟩ := H.extend (w' := Sort.grow (E.w.drewN k) os) (by simp [Sort.grow, World.drewN]) (fun c hc => by rw [Sort.heap_grow_old _ _ (by rw [hh]; exact hc), hh]) rfl rfl rfl
  exact ⟨_, rfl, .str _, [], E.with _, rfl, ⟨rfl, rfl⟩, .str _, H2, F2 (Fr.refl E _)⟩

theorem byts_len (l : List UInt8) : (byts l).length = l.length := by simp [byts]
theorem byts_app (l r : List UInt8) : byts (l ++ r) = byts l ++ byts r := by simp [byts]
theorem byts_below (n : Nat) : ∀ l : List UInt8, allBelow n (byts l) = true
  | [] => rfl
  | x :: l => byts_below n l
theorem byts_kill (b : Nat) (l : List UInt8) : (byts l).map (kill b) = byts l := by
  unfold byts
  rw [List.map_map]
  exact List.map_congr_left fun x _ => rfl
theorem w8 {n : Int} (h0 : 0 ≤ n) (h1 : n ≤ 255) : IntKind.u8.wrap n = n := by
  unfold IntKind.wrap
  simp [IntKind.bits, IntKind.signed]
  omega
theorem take_byts (l : List UInt8) : (byts l).take l.length = byts l := List.take_of_length_le (by simp [byts_len])
theorem join_call {f : FuncId} (hgo : isGo P f) (sep : List UInt8) (xs : List (List UInt8))
    (hnone : ∀ (a : Option Addr) (c : Nat) (w : World), Calls P f #[.slice a 0 c, .string ⟨sep.toArray⟩] w fun e w' => e = .returned (.string ⟨#[]⟩) ∧ w' = w)
    (h : ∀ (bk o c : Nat) (w : World), (∀ (j : Nat) x, xs[j]? = some x → w.cell? ⟨bk, o + j, none⟩ = some (.string ⟨x.toArray⟩)) → bk < w.heap.size → xs.length ≤ c →
      Calls P f #[.slice (some ⟨bk, o, none⟩) xs.length c, .string ⟨sep.toArray⟩] w fun e w' => e = .returned (.string ⟨(Lib.join xs sep).toArray⟩) ∧ Below w.heap.size w w') :
    CallA P f [.ro (strs xs), .str sep] [] (Ret (.str (Lib.join xs sep)) []) := by
  intro E vs H hl hrv
  obtain ⟨v, u, rfl, hv, hu⟩ := RV.two hl hrv
  cases hu
  generalize hs : strs xs = l at hv
  cases hv with
  | roNil a cap =>
    have : xs = [] := by cases xs with | nil => rfl | cons _ _ => simp [strs] at hs
    subst this
    refine .inl ⟨hgo, (hnone a cap E.w).mono ?_⟩
    rintro ex w' ⟨rfl, rfl⟩
    exact ⟨_, rfl, .str [], [], E, rfl, ⟨rfl, rfl⟩, .str [], H, Fr.refl E _⟩
  | ro _ b off cap wd val hF hcap hmax hw hc hv =>
    subst hs
    have hlen : (strs xs).length = xs.length := strs_len xs
    refine .inl ⟨hgo, ?_⟩
    rw [hlen]
    refine (h b off cap E.w (fun j x hx => ?_) (H.old _ hF) (by omega)).mono ?_
    · have g1 : (strs xs)[j]? = some (.str x) := by simp [strs, hx]
      have hwd : wd = 1 := by have := hw j _ g1; simpa [AV.cells] using this.symm
      have g2 := hc j _ g1 0 _ rfl
      have g3 := hv j _ g1 0 _ rfl
      rw [hwd] at g2
      generalize val j 0 = vv at g2 g3
      cases g3
      simpa using g2
    · rintro ex w' ⟨rfl, bel⟩
      obtain ⟨H2, F2, _⟩ := H.extend (w' := w') bel.size bel.block bel.os bel.tape bel.output
      exact ⟨_, rfl, .str _, [], E.with _, rfl, ⟨rfl, rfl⟩, .str _, H2, F2 (Fr.refl E _)⟩
theorem laid_of_tabs {w : World} (h : ∀ t ∈ tables, (P.globalNamed t.1).isSome = true → Lib.TabIs P w t.1 t.2.1 t.2.2) (he : ∀ n ∈ errs, (P.globalNamed n).isSome = true → ∃ v, w.var? P n = some #[v] ∧ isErr v)
    (hi : ∀ n ∈ intVars, ∀ g, P.globalNamed n = some g → ∃ m, w.cell? ⟨g, 0, none⟩ = some (.int .i64 m)) : Laid P w fun c => c < w.heap.size := by
  refine ⟨fun t ht g hg => ?_, fun n hn g hg => ?_, fun n hn g hg => ?_⟩
  · have h1 := h t ht (by rw [hg]; rfl)
    simp only [Lib.TabIs, World.var?, hg, Option.bind_some] at h1
    split at h1
    · rename_i cs ty fr hx
      refine ⟨(Array.getElem?_eq_some_iff.1 hx).1, ty, fr, ?_⟩
      rw [hx]
      cases h1
      rfl
    · cases h1
  · obtain ⟨v, h1, h2⟩ := he n hn (by rw [hg]; rfl)
    simp only [World.var?, hg, Option.bind_some] at h1
    split at h1
    · rename_i cs ty fr hx
      refine ⟨(Array.getElem?_eq_some_iff.1 hx).1, v, ty, fr, ?_, h2⟩
      rw [hx]
      cases h1
      rfl
    · cases h1
  · obtain ⟨m, h1⟩ := hi n hn g hg
    unfold World.cell? at h1
    split at h1
    · rename_i cs ty fr hx
      exact ⟨(Array.getElem?_eq_some_iff.1 hx).1, m, cs, ty, fr, hx, by simpa using h1⟩
    · cases h1
theorem HRel.err {E : Env P} {hp : List Blk} (H : HRel E hp) {n : String} (hn : n ∈ errs) {g : Nat} (hg : P.globalNamed n = some g) : ∃ v, E.w.cell? ⟨g, 0, none⟩ = some v ∧ isErr v := by
  obtain ⟨_, v, ty, fr, h, h2⟩ := H.laid.2.1 _ hn g hg
  exact ⟨v, by simp [World.cell?, h], h2⟩
theorem HRel.intVar {E : Env P} {hp : List Blk} (H : HRel E hp) {n : String} (hn : n ∈ intVars) {g : Nat} (hg : P.globalNamed n = some g) : ∃ m, E.w.cell? ⟨g, 0, none⟩ = some (.int .i64 m) := by
  obtain ⟨_, m, cs, ty, fr, h, h2⟩ := H.laid.2.2 _ hn g hg
  exact ⟨m, by simp [World.cell?, h, h2]⟩
end Go.Abs
/- The abstract layer, part ZF: a block of the caller's is taken over: it is dead, and a new one lies in its place. -/
set_option linter.unusedSimpArgs false
set_option linter.unusedVariables false
namespace Go.Abs
open Go
variable {P : Program}

structure LeHpW (N : Nat) (π : Nat → Nat) (n0 : Nat) (hp hp2 : List Blk) : Prop where
  len : hp2.length = N
  hn0 : n0 ≤ N
  low : ∀ b, b < n0 → π b = b
  inj : ∀ (b b' : Nat) r r', hp2[b]? = some r → r.live = true → hp2[b']? = some r' → r'.live = true → π b = π b' → b = b'
  blk : ∀ (b : Nat) r, hp2[b]? = some r → ∃ q, hp[π b]? = some q ∧ q.w = r.w ∧ (r.live = true → q.live = true ∧ q.ty = r.ty ∧ q.els = r.els.map (ren π) ∧ ∀ e ∈ r.els, below N e = true)
theorem LeHpW.sound {N : Nat} {π : Nat → Nat} {n0 : Nat} {hp hp2 : List Blk} (h : LeHpW N π n0 hp hp2) {E0 : Env P} {hp0 : List Blk} {E : Env P} (hn : hp0.length = n0) (H : HRel E hp) (F : Fr E0 hp0 E hp) : HRel (E.ren N π) hp2 ∧ Fr E0 hp0 (E.ren N π) hp2 := by
  have lt : ∀ (b : Nat) r, hp2[b]? = some r → b < N := fun b r hb => by rw [← h.len]; exact (List.getElem?_eq_some_iff.1 hb).1
  refine ⟨⟨h.len.symm, ?_, ?_, ?_, ?_, H.old, H.laid⟩, ?_⟩
  · intro b r hb
    obtain ⟨q, hq, hw, _⟩ := h.blk b r hb
    show E.wd (π b) = r.w
    rw [H.wd (π b) q hq, hw]
  · intro b r hb hl
    obtain ⟨q, hq, hw, hx⟩ := h.blk b r hb
    obtain ⟨hql, hty, hels, hbel⟩ := hx hl
    obtain ⟨cs, h1, h2⟩ := (H.holds (π b) q hq hql).cells
    refine ⟨cs, by rw [← hty]; exact h1, fun i e he => ?_⟩
    have hbe := hbel e (List.mem_of_getElem? he)
    obtain ⟨k1, k2⟩ := ren_cells (π := π) hbe
    have hqe : q.els[i]? = some (Abs.ren π e) := by rw [hels]; simp [he]
    obtain ⟨h3, h4⟩ := h2 i _ hqe
    refine ⟨by rw [← hw, ← h3, k1], fun j c hc => ?_⟩
    obtain ⟨c', hc', k3⟩ := k2 j c hc
    obtain ⟨v, h5, h6⟩ := h4 j c' hc'
    exact ⟨v, by rw [← hw]; exact h5, k3 h6⟩
  · intro b b' r r' hb hl hb' hl' he
    obtain ⟨q, hq, _, hx⟩ := h.blk b r hb
    obtain ⟨q', hq', _, hx'⟩ := h.blk b' r' hb'
    exact h.inj b b' r r' hb hl hb' hl' (H.inj (π b) (π b') q q' hq (hx hl).1 hq' (hx' hl').1 he)
  · intro b r hb hl
    obtain ⟨q, hq, _, hx⟩ := h.blk b r hb
    exact H.apart (π b) q hq (hx hl).1
  · exact {
      size := F.size
      os := F.os
      tape := F.tape
      output := F.output
      block := F.block
      len := by rw [hn, h.len]; exact h.hn0
      ρ := fun b hb => by show E.ρ (π b) = _; rw [h.low b (by omega)]; exact F.ρ b hb
      wd := fun b hb => by show E.wd (π b) = _; rw [h.low b (by omega)]; exact F.wd b hb
      F := F.F
      F' := F.F'
      live := fun b ⟨r, hb, hl⟩ => by
        obtain ⟨q, hq, _, hx⟩ := h.blk b r hb
        have hlive := F.live (π b) ⟨q, hq, (hx hl).1⟩
        by_cases hbn : b < n0
        · rw [h.low b hbn] at hlive
          rcases hlive with h1 | ⟨h1, _⟩
          · exact .inl h1
          · omega
        · rcases hlive with ⟨h1, h2⟩ | ⟨_, h2⟩
          · exact .inr ⟨by omega, .inr ⟨π b, h2, (F.ρ (π b) h1).symm⟩⟩
          · exact .inr ⟨by omega, h2⟩
      csz := F.csz }
end Go.Abs
/- The abstract layer, part ZG: strings.Cut, TrimSuffix and Split, by the kit's own contracts. -/
set_option linter.unusedSimpArgs false
set_option linter.unusedVariables false
namespace Go.Abs
open Go
variable {P : Program}

theorem size_byts (s : List UInt8) : (⟨s.toArray⟩ : ByteArray).size = s.length := by simp [ByteArray.size]
theorem RV.cut3 {E : Env P} (a b : List UInt8) (c : Bool) : RV E (.tup [.str a, .str b, .bool c]) (.tuple #[.string ⟨a.toArray⟩, .string ⟨b.toArray⟩, .bool c]) := by
  refine .tup _ _ rfl fun i x v h1 h2 => ?_
  match i with
  | 0 => cases h1; cases h2; exact .str _
  | 1 => cases h1; cases h2; exact .str _
  | 2 => cases h1; cases h2; exact .bool _
  | i + 3 => simp at h1
theorem cut_call' {f : FuncId} (hgo : isGo P f) {g : Nat} (hg : P.globalNamed "internal/bytealg.MaxLen" = some g) (s sep : List UInt8)
    (h : ∀ (m : Int) (w : World), w.cell? ⟨g, 0, none⟩ = some (.int .i64 m) → Calls P f #[.string ⟨s.toArray⟩, .string ⟨sep.toArray⟩] w fun e w' =>
      e = .returned (.tuple #[.string ⟨(Lib.cut s sep).1.toArray⟩, .string ⟨(Lib.cut s sep).2.1.toArray⟩, .bool (Lib.cut s sep).2.2]) ∧ ∃ n, w' = w.drewN n) :
    CallA P f [.str s, .str sep] [] (Ret (.tup [.str (Lib.cut s sep).1, .str (Lib.cut s sep).2.1, .bool (Lib.cut s sep).2.2]) []) := by
  intro E vs H hl hrv
  obtain ⟨v, u, rfl, hv, hu⟩ := RV.two hl hrv
  cases hv
  cases hu
  obtain ⟨m, hm⟩ := H.intVar (n := "internal/bytealg.MaxLen") (by simp [intVars]) hg
  refine .inl ⟨hgo, (h m E.w hm).mono ?_⟩
  rintro ex w' ⟨rfl, k, rfl⟩
  obtain ⟨H2, F2, _⟩ := H.extend (w' := E.w.drewN k) (Nat.le_refl _) (fun c hc => rfl) rfl rfl rfl
  exact ⟨_, rfl, _, [], E.with _, rfl, ⟨rfl, rfl⟩, RV.cut3 _ _ _, H2, F2 (Fr.refl E _)⟩
theorem trim_call' {f : FuncId} (hgo : isGo P f) (s sep : List UInt8)
    (h : ∀ w : World, Calls P f #[.string ⟨s.toArray⟩, .string ⟨sep.toArray⟩] w fun e w' => e = .returned (.string ⟨(Lib.trimSuffix s sep).toArray⟩) ∧ w' = w) :
    CallA P f [.str s, .str sep] [] (Ret (.str (Lib.trimSuffix s sep)) []) := by
  intro E vs H hl hrv
  obtain ⟨v, u, rfl, hv, hu⟩ := RV.two hl hrv
  cases hv
  cases hu
  refine .inl ⟨hgo, (h E.w).mono ?_⟩
  rintro ex w' ⟨rfl, rfl⟩
  exact ⟨_, rfl, _, [], E, rfl, ⟨rfl, rfl⟩, .str _, H, Fr.refl E _⟩

def words (sep s : List UInt8) : List (List UInt8) := (Lib.splitB ⟨sep.toArray⟩ 0 (Lib.countB ⟨s.toArray⟩ ⟨sep.toArray⟩) ⟨s.toArray⟩).map (·.data.toList)
theorem words_len (sep s : List UInt8) (h1 : 1 ≤ sep.length) : (words sep s).length = Lib.countB ⟨s.toArray⟩ ⟨sep.toArray⟩ + 1 := by
  unfold words
  rw [List.length_map]
  exact Lib.splitB_all ⟨sep.toArray⟩ (by rw [size_byts]; exact h1) 0 _ _ rfl
theorem words_le (sep s : List UInt8) (h1 : 1 ≤ sep.length) : (words sep s).length ≤ s.length + 1 := by
  rw [words_len sep s h1]
  have := Lib.countB_le ⟨sep.toArray⟩ (by rw [size_byts]; exact h1) _ ⟨s.toArray⟩ (Nat.le_refl _)
  rw [size_byts] at this
  omega
theorem splitB_mem (sep : ByteArray) : ∀ (k : Nat) (s b : ByteArray), b ∈ Lib.splitB sep 0 k s → b.size ≤ s.size
  | 0, s, b, h => by
    rw [Lib.splitB_zero] at h
    rw [List.mem_singleton.1 h]; exact Nat.le_refl _
  | k + 1, s, b, h => by
    unfold Lib.splitB at h
    split at h
    · rw [List.mem_singleton.1 h]; exact Nat.le_refl _
    · rcases List.mem_cons.1 h with rfl | h
      · rw [ByteArray.size_extract]; omega
      · have := splitB_mem sep k _ b h
        rw [ByteArray.size_extract] at this
        omega
theorem words_mem (sep s p : List UInt8) (h : p ∈ words sep s) : p.length ≤ s.length := by
  unfold words at h
  obtain ⟨b, hb, rfl⟩ := List.mem_map.1 h
  have := splitB_mem _ _ _ _ hb
  rw [size_byts s] at this
  show b.data.toList.length ≤ _
  have e : b.data.toList.length = b.size := Array.length_toList
  omega
theorem str_of (b : ByteArray) {E : Env P} : RV E (.str b.data.toList) (.string b) := RV.str b.data.toList
theorem split_call' {f : FuncId} (hgo : isGo P f) {g : Nat} (hg : P.globalNamed "internal/bytealg.MaxLen" = some g) {t : TypeId} (s sep : List UInt8) (h1 : 1 ≤ sep.length) (hs : s.length ≤ 4294967280)
    (h : ∀ (m : Int) (w : World), w.cell? ⟨g, 0, none⟩ = some (.int .i64 m) → Calls P f #[.string ⟨s.toArray⟩, .string ⟨sep.toArray⟩] w fun e w' =>
      e = .returned (.slice (some ⟨w.heap.size, 0, none⟩) (Lib.countB ⟨s.toArray⟩ ⟨sep.toArray⟩ + 1) (Lib.countB ⟨s.toArray⟩ ⟨sep.toArray⟩ + 1)) ∧ w' = w.alloc (.cells ((Lib.splitB ⟨sep.toArray⟩ 0 (Lib.countB ⟨s.toArray⟩ ⟨sep.toArray⟩) ⟨s.toArray⟩).map Value.string).toArray t)) :
    CallA P f [.str s, .str sep] [] (Ret (.ro (strs (words sep s))) []) := by
  intro E vs H hl hrv
  obtain ⟨v, u, rfl, hv, hu⟩ := RV.two hl hrv
  cases hv
  cases hu
  obtain ⟨m, hm⟩ := H.intVar (n := "internal/bytealg.MaxLen") (by simp [intVars]) hg
  refine .inl ⟨hgo, (h m E.w hm).mono ?_⟩
  rintro ex w' ⟨rfl, rfl⟩
  have wl := words_len sep s h1
  have wle := words_le sep s h1
  rw [← wl]
  generalize hb : Lib.splitB ⟨sep.toArray⟩ 0 (Lib.countB ⟨s.toArray⟩ ⟨sep.toArray⟩) ⟨s.toArray⟩ = bs
  have hw : words sep s = bs.map (·.data.toList) := by unfold words; rw [hb]
  have hnew : (E.w.alloc (.cells (bs.map Value.string).toArray t)).heap[E.w.heap.size]? = some (.cells (bs.map Value.string).toArray t) := by
    show (E.w.heap.push _)[E.w.heap.size]? = _
    rw [Array.getElem?_push, if_pos rfl]
  have hold : ∀ c, c < E.w.heap.size → (E.w.alloc (.cells (bs.map Value.string).toArray t)).heap[c]? = E.w.heap[c]? := fun c hc => by
    simp only [World.alloc]
    rw [Array.getElem?_push, if_neg (by omega)]
  obtain ⟨H2, F2, _⟩ := H.extend (w' := E.w.alloc (.cells (bs.map Value.string).toArray t)) (by show _ ≤ (E.w.heap.push _).size; rw [Array.size_push]; omega) hold rfl rfl rfl
  have F3 := F2 (Fr.refl E _)
  refine ⟨_, rfl, _, [], { E.with (E.w.alloc (.cells (bs.map Value.string).toArray t)) with F := fun c => E.F c ∨ c = E.w.heap.size }, rfl, ⟨rfl, rfl⟩, ?_, ?_, ?_⟩
  · have hsl : (strs (words sep s)).length = (words sep s).length := strs_len _
    rw [← hsl]
    refine .ro _ _ 0 _ 1 (fun i _ => .string ((bs[i]?).getD ⟨#[]⟩)) (.inr rfl) (Nat.le_refl _) (by rw [hsl]; unfold maxLen; omega) (fun i e he => ?_) (fun i e he j c hc => ?_) (fun i e he j c hc => ?_)
    · unfold strs at he
      rw [List.getElem?_map, Option.map_eq_some_iff] at he
      obtain ⟨x, _, rfl⟩ := he
      rfl
    · have he' : i < bs.length := by
        have := (List.getElem?_eq_some_iff.1 he).1
        rw [hsl, hw, List.length_map] at this
        exact this
      unfold strs at he
      rw [List.getElem?_map, Option.map_eq_some_iff] at he
      obtain ⟨x, _, rfl⟩ := he
      match j with
      | 0 =>
        show World.cell? (E.w.alloc _) ⟨E.w.heap.size, 0 + i * 1 + 0, none⟩ = _
        simp only [World.cell?, hnew]
        simp [List.getElem?_eq_getElem he']
      | j + 1 => simp [AV.cells] at hc
    · have he' : i < bs.length := by
        have := (List.getElem?_eq_some_iff.1 he).1
        rw [hsl, hw, List.length_map] at this
        exact this
      unfold strs at he
      rw [List.getElem?_map, Option.map_eq_some_iff] at he
      obtain ⟨x, hx, rfl⟩ := he
      rw [hw, List.getElem?_map, List.getElem?_eq_getElem he'] at hx
      have hx : bs[i].data.toList = x := by simpa using hx
      match j with
      | 0 =>
        have hc : AV.str x = c := by simpa [AV.cells] using hc
        subst hc
        rw [List.getElem?_eq_getElem he', ← hx]
        exact str_of _
      | j + 1 => simp [AV.cells] at hc
  · exact ⟨H2.N, H2.wd, fun b blk hb => by simp at hb, fun b b' blk blk' hb => by simp at hb, fun b blk hb => by simp at hb, fun c hc => by
      rcases hc with hc | rfl
      · exact H2.old c hc
      · show _ < (E.w.heap.push _).size
        rw [Array.size_push]; omega, H2.laid.keep (fun c hc => .inl hc) (fun _ _ => rfl)⟩
  · exact { size := F3.size, os := F3.os, tape := F3.tape, output := F3.output, block := F3.block, len := F3.len, ρ := F3.ρ, wd := F3.wd, F := fun c hc => .inl hc
            F' := fun c hc => by
              rcases hc with hc | rfl
              · exact .inl hc
              · exact .inr (.inl (Nat.le_refl _))
            live := fun b hb => by obtain ⟨blk, hb, _⟩ := hb; simp at hb
            csz := F3.csz }
end Go.Abs
/- The abstract layer, part ZH: nil slices told as empty lists; a block that holds nothing; heaps whose blocks name one another. -/
set_option linter.unusedSimpArgs false
set_option linter.unusedVariables false
namespace Go.Abs
open Go
variable {P : Program}

def nilD : Nat → AV → AV
  | 0, a => a
  | d + 1, a => match a with
    | .nils => .ro []
    | .agg l => .agg (l.map (nilD d))
    | .tup l => .tup (l.map (nilD d))
    | .ro l => .ro (l.map (nilD d))
    | .rop l => .rop (l.map (nilD d))
    | a => a
theorem nilD_cells (d : Nat) (e : AV) : (nilD d e).cells.length = e.cells.length ∧ ∀ (j : Nat) c, (nilD d e).cells[j]? = some c → ∃ d' c0, e.cells[j]? = some c0 ∧ d' ≤ d ∧ c = nilD d' c0 := by
  cases d with
  | zero => exact ⟨rfl, fun j c h => ⟨0, c, h, Nat.le_refl _, rfl⟩⟩
  | succ d =>
    cases e with
    | agg l =>
      refine ⟨by simp [nilD, AV.cells], fun j c h => ?_⟩
      simp only [nilD, AV.cells, List.getElem?_map, Option.map_eq_some_iff] at h
      obtain ⟨c0, h1, rfl⟩ := h
      exact ⟨d, c0, h1, Nat.le_succ _, rfl⟩
    | _ =>
      refine ⟨rfl, fun j c h => ?_⟩
      cases j with
      | zero => cases h; exact ⟨d + 1, _, rfl, Nat.le_refl _, rfl⟩
      | succ j => cases h
theorem RV.nil : ∀ (d : Nat) {E : Env P} {a : AV} {v : Value}, RV E a v → RV E (nilD d a) v := by
  intro d
  induction d using Nat.strongRecOn with
  | _ d ih =>
  intro E a v h
  match d, ih with
  | 0, _ => exact h
  | d + 1, ih =>
  cases h with
  | nils a => exact .roNil a 0
  | roNil a cap => exact .roNil a cap
  | agg l vs hl h =>
    refine .agg _ vs (by rw [List.length_map]; exact hl) fun i x v h1 h2 => ?_
    rw [List.getElem?_map, Option.map_eq_some_iff] at h1
    obtain ⟨y, h3, rfl⟩ := h1
    exact ih d (by omega) (h i y v h3 h2)
  | tup l vs hl h =>
    refine .tup _ vs (by rw [List.length_map]; exact hl) fun i x v h1 h2 => ?_
    rw [List.getElem?_map, Option.map_eq_some_iff] at h1
    obtain ⟨y, h3, rfl⟩ := h1
    exact ih d (by omega) (h i y v h3 h2)
  | ro l b off cap wd val hF hcap hmax hw hc hv =>
    have hlen : (l.map (nilD d)).length = l.length := List.length_map _
    show RV E (.ro (l.map (nilD d))) _
    rw [← hlen]
    refine .ro _ b off cap wd val hF (by rw [hlen]; exact hcap) hmax (fun i e he => ?_) (fun i e he j c hj => ?_) (fun i e he j c hj => ?_)
    all_goals
      rw [List.getElem?_map, Option.map_eq_some_iff] at he
      obtain ⟨e0, h1, rfl⟩ := he
    · rw [(nilD_cells d e0).1]; exact hw i e0 h1
    · obtain ⟨d', c0, h2, _, _⟩ := (nilD_cells d e0).2 j c hj
      exact hc i e0 h1 j c0 h2
    · obtain ⟨d', c0, h2, h3, rfl⟩ := (nilD_cells d e0).2 j c hj
      exact ih d' (by omega) (hv i e0 h1 j c0 h2)
  | any v => exact .any v
  | bool b => exact .bool b
  | int k n => exact .int k n
  | flt k x b h => exact .flt k x b h
  | cpx k x y a b h h' => exact .cpx k x y a b h h'
  | str s => exact .str s
  | sl b i n off cap hb ho hcap hmax hroom => exact .sl b i n off cap hb ho hcap hmax hroom
  | ptr b i j hb => exact .ptr b i j hb
  | rop l b off val hF hc hv =>
    refine .rop _ b off val hF (fun j c hj => ?_) (fun j c hj => ?_)
    all_goals
      rw [List.getElem?_map, Option.map_eq_some_iff] at hj
      obtain ⟨c0, h1, rfl⟩ := hj
    · exact hc j c0 h1
    · exact ih d (by omega) (hv j c0 h1)
  | nilp => exact .nilp
  | fn f l vs hl h => exact .fn f l vs hl h
  | nilf => exact .nilf
theorem CallA.nil (d : Nat) {f : FuncId} {args args' : List AV} {hp : List Blk} {Q : AV → List Blk → Prop} (ha : args.map (nilD d) = args') (h : CallA P f args' hp Q) : CallA P f args hp Q := by
  subst ha
  intro E vs H hl hrv
  refine h E vs H (by rw [List.length_map]; exact hl) fun i a v h1 h2 => ?_
  rw [List.getElem?_map, Option.map_eq_some_iff] at h1
  obtain ⟨y, h3, rfl⟩ := h1
  exact (hrv i y v h3 h2).nil d
theorem CallA.nilR (d : Nat) {f : FuncId} {args : List AV} {hp hp' : List Blk} {r r2 : AV} (hr : nilD d r = r2) (h : CallA P f args hp (Ret r hp')) : CallA P f args hp (Ret r2 hp') := by
  subst hr
  intro E vs H hl hrv
  refine (h E vs H hl hrv).mono ?_
  rintro v w' ⟨r', hp'', E', hw, ⟨rfl, rfl⟩, hv, H', F'⟩
  exact ⟨_, _, E', hw, ⟨rfl, rfl⟩, hv.nil d, H', F'⟩
section
variable {f : FuncId} {args : List AV} {hp : List Blk} {Q : AV → List Blk → Prop} {t : Tok Q} {g : AV → Prop} {u : Tok g}
theorem call_lentN (d d' : Nat) {r : AV} {args' : List AV} (hv : (args.map (view d hp)).map (nilD d') = args') (h : CallA P f args' [] (Ret r [])) (hr : below 0 r = true) (hc : clean r = true) (hq : Q r hp) : CallP P f args hp Q t :=
  call_lent d rfl (CallA.nil d' hv h) hr hc hq
theorem callr_lentN (d d' : Nat) {r : AV} {args' : List AV} (hv : (args.map (view d hp)).map (nilD d') = args') (h : CallA P f args' [] (Ret r [])) (hr : below 0 r = true) (hc : clean r = true) (hq : g r) : CallR P f args hp g u :=
  callr_lent d rfl (CallA.nil d' hv h) hr hc hq
theorem call_joined {r : AV} {new : List Blk} (h : CallA P f args [] (Ret r new)) (ha : args.all (below 0) = true) (hQ : Q (ren (fun b => b + hp.length) r) (joinHp hp new)) : CallP P f args hp Q t := by
  refine call_at (CallA.lift ha (h.mono ?_))
  rintro r' hp' ⟨rfl, rfl⟩
  exact hQ
end

def deadB : Blk := { ty := 0, w := 1, els := [], live := false }
def Env.more (E : Env P) : Env P := { E with N := E.N + 1, wd := fun b => if b = E.N then 1 else E.wd b }
theorem Env.le_more (E : Env P) : E.le E.more :=
  ⟨fun _ h => h, fun _ _ => rfl, Nat.le_succ _, fun _ _ => rfl, fun b hb => by show (if b = E.N then 1 else E.wd b) = _; rw [if_neg (by omega)], fun _ => Nat.le_refl _⟩
theorem dead_get {hp : List Blk} {b : Nat} {blk : Blk} (h : (hp ++ [deadB])[b]? = some blk) : hp[b]? = some blk ∨ (b = hp.length ∧ blk = deadB) := by
  rcases Nat.lt_trichotomy b hp.length with hb | hb | hb
  · rw [List.getElem?_append_left hb] at h; exact .inl h
  · rw [List.getElem?_append_right (by omega), hb] at h
    simp at h
    exact .inr ⟨hb, h.symm⟩
  · rw [List.getElem?_append_right (by omega)] at h
    rw [List.getElem?_eq_none (by simp; omega)] at h
    cases h
theorem HRel.dead {E : Env P} {hp : List Blk} (H : HRel E hp) : HRel E.more (hp ++ [deadB]) := by
  have live : ∀ {b : Nat} {blk : Blk}, (hp ++ [deadB])[b]? = some blk → blk.live = true → hp[b]? = some blk := fun h hl => by
    rcases dead_get h with h | ⟨_, rfl⟩
    · exact h
    · cases hl
  refine ⟨by show E.N + 1 = _; rw [H.N]; simp, fun b blk hb => ?_, fun b blk hb hl => ?_, fun b b' blk blk' h1 h2 h3 h4 h5 => H.inj b b' blk blk' (live h1 h2) h2 (live h3 h4) h4 h5, fun b blk hb hl => H.apart b blk (live hb hl) hl, H.old, H.laid⟩
  · show (if b = E.N then 1 else E.wd b) = _
    rcases dead_get hb with h | ⟨rfl, rfl⟩
    · have := (List.getElem?_eq_some_iff.1 h).1
      rw [if_neg (by rw [H.N]; omega)]
      exact H.wd b blk h
    · rw [if_pos H.N.symm]; rfl
  · obtain ⟨cs, h1, h2⟩ := (H.holds b blk (live hb hl) hl).cells
    refine ⟨cs, h1, fun i e he => ⟨(h2 i e he).1, fun j x hx => ?_⟩⟩
    obtain ⟨v, h3, h4⟩ := (h2 i e he).2 j x hx
    exact ⟨v, h3, h4.mono E.le_more⟩
theorem Fr.dead {E0 E : Env P} {hp0 hp : List Blk} (H : HRel E hp) (F : Fr E0 hp0 E hp) : Fr E0 hp0 E.more (hp ++ [deadB]) :=
  { size := F.size, os := F.os, tape := F.tape, output := F.output, block := F.block
    len := by rw [List.length_append]; have := F.len; omega
    ρ := F.ρ
    wd := fun b hb => by
      show (if b = E.N then 1 else E.wd b) = _
      rw [if_neg (by rw [H.N]; have := F.len; omega)]
      exact F.wd b hb
    F := F.F, F' := F.F'
    live := fun b ⟨blk, hb, hl⟩ => by
      rcases dead_get hb with h | ⟨_, rfl⟩
      · exact F.live b ⟨blk, h, hl⟩
      · cases hl
    csz := F.csz }
theorem PostR.dead {n0 : Nat} {r : AV} {hp : List Blk} {Q : AV → List Blk → Prop} (h : Q r (hp ++ [deadB])) : PostR n0 r hp Q :=
  ⟨r, hp ++ [deadB], fun P E0 hp0 E v hn H F hv => ⟨E.more, rfl, H.dead, F.dead H, hv.mono E.le_more⟩, h⟩

theorem WeakR.trans {n0 : Nat} {r1 r2 r3 : AV} {h1 h2 h3 : List Blk} (g : WeakR n0 r1 h1 r2 h2) (k : WeakR n0 r2 h2 r3 h3) : WeakR n0 r1 h1 r3 h3 := by
  intro P E0 hp0 E v hn H F hv
  obtain ⟨E1, e1, H1, F1, v1⟩ := g P E0 hp0 E v hn H F hv
  obtain ⟨E2, e2, H2, F2, v2⟩ := k P E0 hp0 E1 v hn H1 F1 v1
  exact ⟨E2, e2.trans e1, H2, F2, v2⟩
theorem weakR_dead {n0 : Nat} {r : AV} {hp : List Blk} : WeakR n0 r hp r (hp ++ [deadB]) := fun _ _ _ E _ _ H F hv => ⟨E.more, rfl, H.dead, F.dead H, hv.mono E.le_more⟩
theorem PostR.dead0 {r : AV} {hp : List Blk} {Q : AV → List Blk → Prop} (h : Q r [deadB]) (hb : below 0 r = true) : PostR 0 r hp Q :=
  ⟨r, [deadB], (weakR_drop (hp2 := []) (Nat.zero_le _) (by cases hp <;> trivial) (.inr ⟨rfl, hb⟩)).trans (weakR_dead (hp := [])), h⟩

def SameTm : List AV → List AV → Prop
  | [], [] => True
  | a :: l, b :: m => (b = .any ∨ a = b) ∧ SameTm l m
  | _, _ => False
theorem SameTm.len : ∀ {l m : List AV}, SameTm l m → l.length = m.length
  | [], [], _ => rfl
  | a :: l, b :: m, h => by simp [SameTm.len h.2]
  | [], _ :: _, h => h.elim
  | _ :: _, [], h => h.elim
theorem SameTm.get : ∀ {l m : List AV}, SameTm l m → ∀ (i : Nat) b, m[i]? = some b → b = .any ∨ l[i]? = some b
  | [], [], _, i, b, h => by simp at h
  | a :: l, b :: m, h, 0, x, hx => by
    simp at hx; subst hx
    rcases h.1 with h1 | rfl
    · exact .inl h1
    · exact .inr rfl
  | a :: l, b :: m, h, i + 1, x, hx => by simpa using SameTm.get h.2 i x (by simpa using hx)
  | [], _ :: _, h, _, _, _ => h.elim
  | _ :: _, [], h, _, _, _ => h.elim
theorem weak_same {n0 : Nat} {st st2 : St} (hh : st.hp = st2.hp) (ht : SameTm st.tm st2.tm) : Weak n0 st st2 := by
  intro _ E0 hp0 E a hn hs
  refine ⟨E, rfl, hh ▸ hs.hr, hh ▸ hs.fr, ht.len.symm.trans hs.len, fun i v u h1 h2 => ?_, hs.df⟩
  rcases ht.get i v h1 with rfl | h3
  · exact .any _
  · exact hs.tm i v u h3 h2
theorem Weak.trans {n0 : Nat} {a b c : St} (h : Weak n0 a b) (g : Weak n0 b c) : Weak n0 a c := by
  intro P E0 hp0 E act hn hs
  obtain ⟨E1, h1, h2⟩ := h P E0 hp0 E act hn hs
  obtain ⟨E2, h3, h4⟩ := g P E0 hp0 E1 act hn h2
  exact ⟨E2, h3.trans h1, h4⟩
theorem dropHp_app {N : Nat} : ∀ {hp r : List Blk}, (∀ q ∈ hp, allBelow N q.els = true) → DropHp N (hp ++ r) hp
  | [], r, _ => by cases r <;> trivial
  | q :: l, r, h => ⟨⟨rfl, fun hl => ⟨hl, rfl, rfl, h q List.mem_cons_self⟩⟩, dropHp_app fun x hx => h x (List.mem_cons_of_mem _ hx)⟩
theorem dropHp_refl {N : Nat} {hp : List Blk} (h : ∀ q ∈ hp, allBelow N q.els = true) : DropHp N hp hp := by
  have := dropHp_app (r := []) h
  rwa [List.append_nil] at this
end Go.Abs
/- The abstract layer, part ZI: a drawn region with a store that may come before operations that look at no memory; guards are told one by one. -/
set_option linter.unusedSimpArgs false
set_option linter.unusedVariables false
namespace Go.Abs
open Go
variable {P : Program}

def isStoreOp (tgt : Nat) : Op → Bool
  | .store _ (.tmp s) _ => s == tgt
  | _ => false
theorem storeA_mono {t : TypeId} {hp : List Blk} {a x : AV} {k k' : List Blk → Prop} (h : ∀ hp', k hp' → k' hp') (g : storeA P t hp a x k) : storeA P t hp a x k' := by
  unfold storeA at g ⊢
  split at g
  · split at g
    · obtain ⟨h1, h2, h3, h4, h5, h6, h7⟩ := g
      exact ⟨h1, h2, h3, h4, h5, h6, h _ h7⟩
    · exact g.elim
  · exact g.elim
theorem store_is {tgt : Nat} {o : Op} (h : isStoreOp tgt o = true) : ∃ t x, o = .store t (.tmp tgt) x := by
  unfold isStoreOp at h
  split at h
  · rename_i t s x
    have : s = tgt := by simpa using h
    exact ⟨t, x, by rw [this]⟩
  · cases h
theorem storeA_at {t : TypeId} {hp : List Blk} {b i j : Nat} {x : AV} {k : List Blk → Prop} (g : storeA P t hp (.ptr b i j) x k) : storeA P t hp (.ptr b i j) x fun hp' => k hp' ∧ ∃ q, hp' = hp.set b q := by
  unfold storeA at g ⊢
  dsimp only at g ⊢
  split at g
  · rename_i blk hb
    obtain ⟨h1, h2, h3, h4, h5, h6, h7⟩ := g
    exact ⟨h1, h2, h3, h4, h5, h6, h7, _, rfl⟩
  · exact g.elim
def FreeB (tgt : Nat) (ops : List Oper) (ms : List Bool) (listed : Array Bool) (i : Nat) (oi : Oper) (bl : Bool) : Prop :=
  ∃ D : List Nat, Waits ops listed i D ∧ ∀ j oj, ops[j]? = some oj → j ≠ i → listed.getD j true = false → j ∉ D → (∀ e ∈ oj.after, Region.binds .any e = true → e.on ≠ i) →
    oi.apart ops.toArray oj = true ∧ (ms.getD j true = false ∨ (bl = true ∧ isStoreOp tgt oj.op = true))
theorem yA_after {ops : List Oper} {o : Oper} {st : St} {v : AV} {d : Option Tmp} {u : AV} {hp : List Blk} (ht : ∀ t, d = some t → t ∉ o.looksAt ops.toArray) (h : yA P ops o (st.after hp none) v) : yA P ops o ((st.put d u).after hp none) v := by
  rw [put_after]
  exact yA_put ht h
theorem ev_slot {st : St} {d : Option Tmp} {v : AV} {tgt : Nat} (h : d ≠ some tgt) : (st.put d v).ev (.tmp tgt) = st.ev (.tmp tgt) := St.ev_put fun t ht e => h (by rw [ht]; injection e with e; rw [e])
theorem set_twice {α : Type} (l : List α) (b : Nat) (x y : α) : (l.set b x).set b y = l.set b y := List.set_set ..
theorem after_after (st : St) (h1 h2 : List Blk) : (st.after h1 none).after h2 none = st.after h2 none := by
  unfold St.after
  first | rfl | (simp only [List.map_map]; done)
theorem anyA_firstB {tgt b0 i0 j0 : Nat} {n0 : Nat} {ops : List Oper} {ms : List Bool} {K : St → Prop} {i : Nat} {oi : Oper} {v : AV} {bl : Bool} (hd : ∀ o ∈ ops, o.dst ≠ some tgt) (hi : ops[i]? = some oi) (hm : ms.getD i true = false) :
    ∀ (fuel : Nat) (listed : Array Bool) (st : St), st.ev (.tmp tgt) = .ptr b0 i0 j0 → FreeB tgt ops ms listed i oi bl → i ∈ Region.ready .any ops.toArray listed → yA P ops oi st v → (bl = true → ∀ q, yA P ops oi (st.after (st.hp.set b0 q) none) v) →
      anyA P n0 ops ms K fuel (listed.setIfInBounds i true) (st.put oi.dst v) → anyA P n0 ops ms K (fuel + 1) listed st := by
  have self : ∀ (fuel : Nat) (listed : Array Bool) (st : St), yA P ops oi st v → anyA P n0 ops ms K fuel (listed.setIfInBounds i true) (st.put oi.dst v) → stepA P n0 ops ms i (anyA P n0 ops ms K fuel (listed.setIfInBounds i true)) st := by
    intro fuel listed st hy H
    unfold stepA
    simp only [hi, hm, Bool.false_eq_true, if_false]
    exact ⟨v, hy, H⟩
  intro fuel
  induction fuel with
  | zero =>
    intro listed st _ _ hr hy hyB H
    refine ⟨fun h => (by rw [h] at hr; cases hr), fun j hj => ?_⟩
    by_cases hji : j = i
    · subst hji; exact self 0 listed st hy H
    · have := ready_mono hj hji
      rw [H.1] at this
      cases this
  | succ fuel ih =>
    intro listed st hT hfree hr hy hyB H
    refine ⟨fun h => (by rw [h] at hr; cases hr), fun j hj => ?_⟩
    by_cases hji : j = i
    · subst hji; exact self _ listed st hy H
    · have h1 := H.2 j (ready_mono hj hji)
      obtain ⟨hjun, oj, hoj, hall⟩ := mem_ready.1 hj
      have hoj' : ops[j]? = some oj := by simpa using hoj
      have hnot : ∀ e ∈ oj.after, Region.binds .any e = true → e.on ≠ i := fun e he hb heq => by
        have h1 := hall e he hb
        have h0 := (mem_ready.1 hr).1
        rw [heq] at h1
        rcases Nat.lt_or_ge i listed.size with h' | h'
        · simp [h'] at h0 h1; rw [h0] at h1; cases h1
        · simp [Array.getElem?_eq_none h'] at h1
      obtain ⟨D, hwait, hfree⟩ := hfree
      have hjD : j ∉ D := fun hD => by
        obtain ⟨_, oj', hoj'', e, he, hb, hc⟩ := hwait j hD
        have : oj' = oj := by rw [hoj'] at hoj''; cases hoj''; rfl
        subst this
        rcases hc with hc | hc
        · exact hnot e he hb hc
        · have h1 := hall e he hb
          have h0 := (hwait e.on hc).1
          rcases Nat.lt_or_ge e.on listed.size with h' | h'
          · simp [h'] at h0 h1; rw [h0] at h1; cases h1
          · simp [Array.getElem?_eq_none h'] at h1
      obtain ⟨hap, hmj⟩ := hfree j oj hoj' hji hjun hjD hnot
      obtain ⟨a1, a2, a3⟩ := Oper.apart_spec hap
      have hfree' : FreeB tgt ops ms (listed.setIfInBounds j true) i oi bl := ⟨D, fun d hd => by
        have hne : j ≠ d := fun h => hjD (h ▸ hd)
        obtain ⟨w1, w2⟩ := hwait d hd
        exact ⟨by rw [getD_set_ne true hne]; exact w1, w2⟩, fun k ok hk hki hun hkD hno => by
        refine hfree k ok hk hki ?_ hkD hno
        by_cases hjk : j = k
        · subst hjk; exact hjun
        · rw [getD_set_ne true hjk] at hun; exact hun⟩
      have skip : ∀ u, anyA P n0 ops ms K fuel ((listed.setIfInBounds i true).setIfInBounds j true) ((st.put oi.dst v).put oj.dst u) → anyA P n0 ops ms K (fuel + 1) (listed.setIfInBounds j true) (st.put oj.dst u) := fun u hK => by
        refine ih (listed.setIfInBounds j true) (st.put oj.dst u) (by rw [ev_slot (hd oj (List.mem_of_getElem? hoj'))]; exact hT) hfree' (ready_mono hr (Ne.symm hji)) (yA_put a3 hy) (fun hb q => by rw [put_hp]; exact yA_after a3 (hyB hb q)) ?_
        rw [Array.setIfInBounds_comm _ _ hji, St.put_comm st u v (fun d hd he => a2 d he hd)]
        exact hK
      unfold stepA at h1 ⊢
      cases hmm : ms.getD j true with
      | false =>
        simp only [hoj', hmm, Bool.false_eq_true, if_false] at h1 ⊢
        obtain ⟨u, hu, hK⟩ := h1
        exact ⟨u, yA_unput a1 hu, skip u hK⟩
      | true =>
        rcases hmj with hmj | ⟨hb, hst⟩
        · rw [hmm] at hmj; cases hmj
        obtain ⟨t, x, hop⟩ := store_is hst
        simp only [hoj', hmm, if_true] at h1 ⊢
        rcases h1 with ⟨hw, k, h, hK⟩ | ⟨hw, hK⟩
        · refine .inl ⟨by rw [wantedA_put a1] at hw; exact hw, fun u hp' kb => u = .any ∧ kb = none ∧ k .any hp' none ∧ ∃ q, hp' = st.hp.set b0 q, ?_, ?_⟩
          · rw [hop] at h ⊢
            rw [opA_store] at h ⊢
            have ev : ∀ y ∈ oj.op.operands, (st.put oi.dst v).ev y = st.ev y := ev_apart a1
            rw [hop] at ev
            rw [ev (.tmp tgt) (by simp [Op.operands]), ev x (by simp [Op.operands]), put_hp, hT] at h
            rw [hT]
            exact storeA_mono (fun hp' ⟨hk, hq⟩ => ⟨rfl, rfl, hk, hq⟩) (storeA_at h)
          · rintro u hp' kb ⟨rfl, rfl, hk, q, rfl⟩
            have h2 := hK _ _ _ hk
            rw [put_after, St.put_comm _ _ _ (fun d hd he => a2 d hd he)] at h2
            refine ih (listed.setIfInBounds j true) ((st.after (st.hp.set b0 q) none).put oj.dst .any) (by rw [ev_slot (hd oj (List.mem_of_getElem? hoj')), St.ev_after]; exact hT) hfree' (ready_mono hr (Ne.symm hji)) (yA_put a3 (hyB hb q)) (fun hb q' => by
              rw [put_hp, after_hp, set_twice]
              exact yA_after a3 (by rw [after_after]; exact hyB hb q')) ?_
            rw [Array.setIfInBounds_comm _ _ hji]
            exact h2
        · exact .inr ⟨by rw [wantedA_put a1] at hw; exact hw, skip _ hK⟩
def freeZB (tgt : Nat) (ops : Array Oper) (ms bls : List Bool) (listed : Array Bool) (k : Nat) : Bool :=
  match ops[k]? with
  | none => false
  | some o => lateOk ops listed k (lateOf ops listed k) && (List.range ops.size).all fun j =>
    j == k || listed.getD j true || (lateOf ops listed k).contains j ||
    match ops[j]? with
    | none => true
    | some oj => (oj.after.any fun e => Region.binds .any e && e.on == k) || (o.apart ops oj && (!(ms.getD j true) || (bls.getD k false && isStoreOp tgt oj.op)))
theorem freeZB_spec {tgt : Nat} {ops : List Oper} {ms bls : List Bool} {listed : Array Bool} {k : Nat} {o : Oper} (hk : ops[k]? = some o) (h : freeZB tgt ops.toArray ms bls listed k = true) : FreeB tgt ops ms listed k o (bls.getD k false) := by
  unfold freeZB at h
  have hk' : ops.toArray[k]? = some o := by simpa using hk
  rw [hk'] at h
  simp only [Bool.and_eq_true] at h
  refine ⟨_, lateOk_spec h.1, ?_⟩
  have h := h.2
  intro j oj hoj hjk hun hD hno
  simp only [List.all_eq_true, List.mem_range] at h
  have hj : j < ops.toArray.size := by
    have := (List.getElem?_eq_some_iff.1 hoj).1
    simpa using this
  have h1 := h j hj
  have hoj' : ops.toArray[j]? = some oj := by simpa using hoj
  rw [hoj', hun] at h1
  have hjk' : (j == k) = false := by simpa using hjk
  have hD' : (lateOf ops.toArray listed k).contains j = false := by simpa using hD
  rw [hjk', hD'] at h1
  simp only [Bool.false_or, Bool.or_eq_true, Bool.and_eq_true] at h1
  rcases h1 with h1 | ⟨h1, h2⟩
  · exfalso
    rw [Array.any_eq_true] at h1
    obtain ⟨m, hm, he⟩ := h1
    simp only [Bool.and_eq_true, beq_iff_eq] at he
    exact hno _ (Array.getElem_mem hm) he.1 he.2
  · refine ⟨h1, ?_⟩
    rcases h2 with h2 | h2
    · exact .inl (by simpa using h2)
    · exact .inr h2
def ordOkB (tgt : Nat) (ops : Array Oper) (ms bls : List Bool) : List Nat → Array Bool → Bool
  | [], listed => (Region.ready .any ops listed).isEmpty
  | k :: r, listed => (if ms.getD k true then Region.ready .any ops listed == [k] else (Region.ready .any ops listed).contains k && freeZB tgt ops ms bls listed k) && ordOkB tgt ops ms bls r (listed.setIfInBounds k true)
def ordB (P : Program) (b0 : Nat) (n0 : Nat) (ops : List Oper) (ms bls : List Bool) (K : St → Prop) : List Nat → St → Prop
  | [], st => K st
  | k :: r, st => ∃ o, ops[k]? = some o ∧
    if ms.getD k true then wantedA ops o st = some true ∧ ∃ g : AV → List Blk → Option Nat → Prop, opA P n0 o.op st.ev st.hp g ∧ ∀ v hp' kb, g v hp' kb → ordB P b0 n0 ops ms bls K r ((st.after hp' kb).put o.dst v)
    else ∃ v, yA P ops o st v ∧ (bls.getD k false = true → ∀ q, yA P ops o (st.after (st.hp.set b0 q) none) v) ∧ ordB P b0 n0 ops ms bls K r (st.put o.dst v)
theorem anyA_ordB {tgt b0 i0 j0 : Nat} {n0 : Nat} {ops : List Oper} {ms bls : List Bool} {K : St → Prop} (hd : ∀ o ∈ ops, o.dst ≠ some tgt) (hs : ∀ k o, ops[k]? = some o → ms.getD k true = true → isStoreOp tgt o.op = true) : ∀ (ord : List Nat) (listed : Array Bool) (st : St), st.ev (.tmp tgt) = .ptr b0 i0 j0 → ordOkB tgt ops.toArray ms bls ord listed = true → ordB P b0 n0 ops ms bls K ord st → anyA P n0 ops ms K ord.length listed st
  | [], listed, st, _, hB, h => ⟨by simpa [ordOkB] using hB, h⟩
  | k :: r, listed, st, hT, hB, h => by
    obtain ⟨o, ho, h⟩ := h
    simp only [ordOkB, Bool.and_eq_true] at hB
    obtain ⟨hB1, hB2⟩ := hB
    cases hm : ms.getD k true with
    | true =>
      rw [hm] at hB1 h
      simp only [if_true, beq_iff_eq] at hB1 h
      refine ⟨fun h => (by rw [hB1] at h; cases h), fun i hi => ?_⟩
      rw [hB1] at hi
      have : i = k := by simpa using hi
      subst this
      unfold stepA
      simp only [ho, hm, if_true]
      obtain ⟨hw, g, h1, h2⟩ := h
      obtain ⟨t, x, hop⟩ := store_is (hs _ o ho hm)
      refine .inl ⟨hw, fun v hp' kb => v = .any ∧ kb = none ∧ g v hp' kb, ?_, ?_⟩
      · rw [hop] at h1 ⊢
        rw [opA_store] at h1 ⊢
        exact storeA_mono (fun hp' hk => ⟨rfl, rfl, hk⟩) h1
      · rintro v hp' kb ⟨rfl, rfl, hv⟩
        exact anyA_ordB hd hs r _ _ (by rw [ev_slot (hd o (List.mem_of_getElem? ho)), St.ev_after]; exact hT) hB2 (h2 _ hp' _ hv)
    | false =>
      rw [hm] at hB1 h
      simp only [Bool.false_eq_true, if_false, Bool.and_eq_true] at hB1 h
      obtain ⟨hr, hf⟩ := hB1
      obtain ⟨v, hy, hyB, hK⟩ := h
      exact anyA_firstB hd ho hm r.length listed st hT (freeZB_spec ho hf) (by simpa using hr) hy hyB (anyA_ordB hd hs r _ _ (by rw [ev_slot (hd o (List.mem_of_getElem? ho))]; exact hT) hB2 hK)
def Ol (P : Program) (b0 : Nat) (n0 : Nat) (ops : List Oper) (ms bls : List Bool) (K : St → Prop) (ord : List Nat) (_t : Tok (ops, ord, K)) (st : St) : Prop := ordB P b0 n0 ops ms bls K ord st
theorem go_late (hm : P.follows .mixedOrders = true) {n0 : Nat} {id : Nat} {ops : Array Oper} {Q : Ex → St → Prop} {st : St} {t} (tgt b0 : Nat) {i0 j0 : Nat} (hT : st.ev (.tmp tgt) = .ptr b0 i0 j0) (ord : List Nat) (ms bls : List Bool)
    (hok : (ord.length == ops.size && ordOkB tgt ops ms bls ord (Array.replicate ops.size false) && ((ops.toList.all fun o => o.dst != some tgt) && (List.range ops.size).all fun k => !(ms.getD k true) || ((ops[k]?).map fun o => isStoreOp tgt o.op).getD true)) = true) (h : Ol P b0 n0 ops.toList ms bls (Q .normal) ord .mk st) : Lp P n0 (.region id ops true) Q t st := by
  delta Lp
  simp only [Bool.and_eq_true, beq_iff_eq] at hok
  obtain ⟨⟨hk1, hk2⟩, hk3, hk4⟩ := hok
  have hd : ∀ o ∈ ops.toList, o.dst ≠ some tgt := fun o ho => by
    have := List.all_eq_true.1 hk3 o ho
    simpa using this
  have hst : ∀ k o, ops.toList[k]? = some o → ms.getD k true = true → isStoreOp tgt o.op = true := fun k o hk hm => by
    have hk' : ops[k]? = some o := by simpa using hk
    have hlt : k < ops.size := (Array.getElem?_eq_some_iff.1 hk').1
    have := List.all_eq_true.1 hk4 k (List.mem_range.2 hlt)
    rw [hm, hk'] at this
    simpa using this
  intro E0 hp0 E a hn hs
  subst hn
  have h1 := anyA_ordB (P := P) (n0 := hp0.length) (ops := ops.toList) (ms := ms) (bls := bls) (K := Q .normal) hd hst ord (Array.replicate ops.size false) st hT (by simpa using hk2) h
  rw [hk1] at h1
  refine wp_region_any hm ?_
  have hs' : SR E0 hp0 (E.with { E.w with drawn := E.w.drawn + 1 }) st a := ⟨hs.hr.with (Same.drew _ _), hs.fr.with (Same.drew _ _), hs.len, fun i v u a1 a2 => (hs.tm i v u a1 a2).mono (Env.le_with (Same.drew _ _)), hs.df⟩
  have h2 := anyA_sound (P := P) (Q := liftQ E0 hp0 Q) (fun E st a hs hk => ⟨.normal, st, E, rfl, rfl, hs, hk⟩) _ _ _ st a hs' h1
  rw [show ops.toList.toArray = ops from by simp] at h2
  exact h2
section
variable {b0 : Nat} {n0 : Nat} {ops : List Oper} {ms bls : List Bool} {K : St → Prop} {k : Nat} {r : List Nat} {st : St} {t : Tok (ops, k :: r, K)} {o : Oper}
theorem ol_nil {t : Tok (ops, ([] : List Nat), K)} (h : K st) : Ol P b0 n0 ops ms bls K [] t st := h
theorem ol_store (ho : ops[k]? = some o) (hw : wantedA ops o st = some true) (hm : ms.getD k true = true) (h : opA P n0 o.op st.ev st.hp (Cn (fun v hp' kb => Ol P b0 n0 ops ms bls K r .mk ((st.after hp' kb).put o.dst v)) .mk)) : Ol P b0 n0 ops ms bls K (k :: r) t st :=
  ⟨o, ho, by rw [hm]; exact ⟨hw, _, h, fun v hp' kb hv => by rw [Cn_go] at hv; exact hv⟩⟩
theorem ol_quiet (ho : ops[k]? = some o) (hw : wantedA ops o st = some true) (hm : ms.getD k true = false) (hb : bls.getD k false = false) (h : quietA P o.op st.ev st.hp (fun v => Ol P b0 n0 ops ms bls K r .mk (st.put o.dst v))) : Ol P b0 n0 ops ms bls K (k :: r) t st :=
  ⟨o, ho, by
    rw [hm, hb]
    obtain ⟨v, h1, h2⟩ := Yields.quiet h
    exact ⟨v, .inl ⟨hw, h2⟩, (fun h => by cases h), h1⟩⟩
theorem wantedA_after {o : Oper} (hp : List Blk) : wantedA ops o (st.after hp none) = wantedA ops o st := by
  have e : (st.after hp none).tm = st.tm := by
    first | rfl | (unfold St.after; simp [killO])
  unfold wantedA
  rw [e]
theorem ol_blind (ho : ops[k]? = some o) (hw : wantedA ops o st = some true) (hm : ms.getD k true = false) {v : AV} (hq : ∀ hp, quietA P o.op st.ev hp (fun u => u = v)) (h : Ol P b0 n0 ops ms bls K r .mk (st.put o.dst v)) : Ol P b0 n0 ops ms bls K (k :: r) t st :=
  ⟨o, ho, by
    rw [hm]
    have y : ∀ hp, Yields P o st.ev hp v := fun hp => by
      obtain ⟨u, rfl, h2⟩ := Yields.quiet (hq hp)
      exact h2
    refine ⟨v, .inl ⟨hw, y _⟩, fun _ q => .inl ⟨by rw [wantedA_after]; exact hw, ?_⟩, h⟩
    exact (y _).congr fun x _ => (St.ev_after st _ x).symm⟩
theorem ol_apart (ho : ops[k]? = some o) (hw : wantedA ops o st = some true) (hm : ms.getD k true = false) {v : AV} (hq0 : quietA P o.op st.ev st.hp (fun u => u = v)) (hq : ∀ q, quietA P o.op st.ev (st.hp.set b0 q) (fun u => u = v)) (h : Ol P b0 n0 ops ms bls K r .mk (st.put o.dst v)) : Ol P b0 n0 ops ms bls K (k :: r) t st :=
  ⟨o, ho, by
    rw [hm]
    have y : ∀ hp, quietA P o.op st.ev hp (fun u => u = v) → Yields P o st.ev hp v := fun hp hq => by
      obtain ⟨u, rfl, h2⟩ := Yields.quiet hq
      exact h2
    refine ⟨v, .inl ⟨hw, y _ hq0⟩, fun _ q => .inl ⟨by rw [wantedA_after]; exact hw, ?_⟩, h⟩
    exact (y _ (hq q)).congr fun x _ => (St.ev_after st _ x).symm⟩
theorem ol_call (ho : ops[k]? = some o) (hw : wantedA ops o st = some true) (hm : ms.getD k true = false) (hb : bls.getD k false = false) {gf : Operand} {args : Array Operand} {ts : Array TypeId} (hop : o.op = .call { callee := .value gf, args := args, argTypes := ts }) {fid : FuncId} {caps : List AV} (hfn : st.ev gf = .fn fid caps) {v : AV}
    (hc : CallA P fid (args.toList.map st.ev ++ caps) st.hp (Ret v st.hp)) (h : Ol P b0 n0 ops ms bls K r .mk (st.put o.dst v)) : Ol P b0 n0 ops ms bls K (k :: r) t st :=
  ⟨o, ho, by rw [hm, hb]; exact ⟨v, .inl ⟨hw, Yields.call hop rfl hfn hc⟩, (fun h => by cases h), h⟩⟩
end
attribute [irreducible] Ol
end Go.Abs
/- The abstract layer, part ZJ: what a function makes beside blocks that it changes is told as lists that nobody writes. -/
set_option linter.unusedSimpArgs false
set_option linter.unusedVariables false
namespace Go.Abs
open Go
section
variable {P : Program}
theorem freeze_more {E E' : Env P} {hp0 hp new : List Blk} (hlen : hp0.length = hp.length) (H' : HRel E' (hp ++ new)) (F' : Fr E hp0 E' (hp ++ new)) (hf : ∀ q ∈ new, allBelow 0 q.els = true) (hflat : ∀ b ∈ hp, allBelow hp.length b.els = true)
    (d : Nat) (r0 : AV) (hb : below new.length r0 = true) (v : Value) (hv : RV E' (ren (fun i => i + hp.length) r0) v) :
    ∃ E2 : Env P, E2.w = E'.w ∧ RV E2 (view d new r0) v ∧ HRel E2 hp ∧ Fr E hp0 E2 hp := by
  have hlt : ∀ (b : Nat) blk, hp[b]? = some blk → b < hp.length ∧ (hp ++ new)[b]? = some blk := fun b blk h => by
    have := (List.getElem?_eq_some_iff.1 h).1
    exact ⟨this, by rw [List.getElem?_append_left this]; exact h⟩
  have hnew : ∀ (b : Nat) blk, new[b]? = some blk → (hp ++ new)[b + hp.length]? = some blk := fun b blk h => by
    rw [List.getElem?_append_right (by omega), show b + hp.length - hp.length = b from by omega]; exact h
  let En : Env P := E'.ren new.length fun i => i + hp.length
  have Hn : HRel En new := by
    refine ⟨rfl, fun b blk h => H'.wd _ blk (hnew b blk h), ?_, ?_, fun b blk h hl hF => H'.apart _ blk (hnew b blk h) hl hF, H'.old, H'.laid⟩
    · intro b blk h hl
      obtain ⟨cs, h1, h2⟩ := (H'.holds _ blk (hnew b blk h) hl).cells
      refine ⟨cs, h1, fun i e he => ⟨(h2 i e he).1, fun j x hx => ?_⟩⟩
      obtain ⟨u, h3, h4⟩ := (h2 i e he).2 j x hx
      refine ⟨u, h3, ?_⟩
      have hbe : below 0 e = true := by
        have := hf blk (List.mem_of_getElem? h)
        simp only [allBelow, List.all_eq_true] at this
        exact this e (List.mem_of_getElem? he)
      obtain ⟨_, h5⟩ := ren_cells (π := fun b => b) (below_mono0 (N := 0) (fun b => b) e hbe).1
      obtain ⟨c', h6, h7⟩ := h5 j x hx
      rw [ren_id 0 hbe, hx] at h6
      cases h6
      exact (h7 h4).mono ⟨fun _ h => h, fun _ _ => rfl, Nat.zero_le _, fun _ hb => absurd hb (Nat.not_lt_zero _), fun _ hb => absurd hb (Nat.not_lt_zero _), fun _ => Nat.le_refl _⟩
    · intro b b' blk blk' h1 h2 h3 h4 h5
      have := H'.inj _ _ blk blk' (hnew _ _ h1) h2 (hnew _ _ h3) h4 h5
      omega
  let E2 : Env P := { E' with F := fun c => E'.F c ∨ ∃ b, Live new b ∧ E'.ρ (b + hp.length) = c, N := hp.length }
  have leN : (E'.ren hp.length fun b => b).le E2 := ⟨fun _ h => .inl h, fun _ _ => rfl, Nat.le_refl _, fun _ _ => rfl, fun _ _ => rfl, fun _ => Nat.le_refl _⟩
  have H2 : HRel E2 hp := by
    refine ⟨rfl, fun b blk h => H'.wd b blk (hlt b blk h).2, ?_, ?_, ?_, ?_, H'.laid.keep (fun c h => .inl h) (fun _ _ => rfl)⟩
    · intro b blk h hlv
      obtain ⟨cs, h1, h2⟩ := (H'.holds b blk (hlt b blk h).2 hlv).cells
      refine ⟨cs, h1, fun i e he => ⟨(h2 i e he).1, fun j x hx => ?_⟩⟩
      obtain ⟨u, h3, h4⟩ := (h2 i e he).2 j x hx
      refine ⟨u, h3, ?_⟩
      have hbe : below hp.length e = true := by
        have := hflat blk (List.mem_of_getElem? h)
        simp only [allBelow, List.all_eq_true] at this
        exact this e (List.mem_of_getElem? he)
      obtain ⟨_, h5⟩ := ren_cells (π := fun b => b) hbe
      obtain ⟨c', h6, h7⟩ := h5 j x hx
      rw [ren_id _ hbe, hx] at h6
      cases h6
      exact (h7 h4).mono leN
    · intro b b' blk blk' h1 h2 h3 h4 h5
      exact H'.inj b b' blk blk' (hlt _ _ h1).2 h2 (hlt _ _ h3).2 h4 h5
    · intro b blk h hlv hF
      rcases hF with h1 | ⟨b', ⟨q, hq, hl⟩, h1⟩
      · exact H'.apart b blk (hlt b blk h).2 hlv h1
      · have := H'.inj b (b' + hp.length) blk q (hlt b blk h).2 hlv (hnew b' q hq) hl h1.symm
        have := (hlt b blk h).1
        omega
    · rintro c (h | ⟨b', ⟨q, hq, hl⟩, rfl⟩)
      · exact H'.old c h
      · obtain ⟨cs, h1, _⟩ := (H'.holds _ q (hnew b' q hq) hl).cells
        exact (Row.lt h1)
  have F2 : Fr E hp0 E2 hp :=
    { size := F'.size, os := F'.os, tape := F'.tape, output := F'.output, block := F'.block, len := Nat.le_of_eq hlen, ρ := F'.ρ, wd := F'.wd, csz := F'.csz
      F := fun c h => .inl (F'.F c h)
      F' := fun c hc => by
        rcases hc with h | ⟨b', ⟨q, hq, hl⟩, rfl⟩
        · exact F'.F' c h
        · rcases F'.live (b' + hp.length) ⟨q, hnew b' q hq, hl⟩ with ⟨h1, _⟩ | ⟨_, h2⟩
          · exact absurd h1 (by omega)
          · exact .inr h2
      live := fun b ⟨blk, h, hlv⟩ => F'.live b ⟨blk, (hlt b blk h).2, hlv⟩ }
  refine ⟨E2, rfl, ?_, H2, F2⟩
  have h1 := RV.unren (E := E') (N := new.length) (π := fun i => i + hp.length) hb hv
  have h2 := (view_sound Hn d r0).1 v h1
  refine h2.mono ⟨fun c hc => ?_, fun _ _ => rfl, Nat.zero_le _, fun _ hb => absurd hb (Nat.not_lt_zero _), fun _ hb => absurd hb (Nat.not_lt_zero _), fun _ => Nat.le_refl _⟩
  rcases hc with h | ⟨b, hl, rfl⟩
  · exact .inl h
  · exact .inr ⟨b, hl, rfl⟩

theorem CallA.freezeN {f : FuncId} {args : List AV} {hp0 : List Blk} {Q0 Q : AV → List Blk → Prop} (d : Nat) (h : CallA P f args hp0 Q0)
    (hq : ∀ r' hp', Q0 r' hp' → ∃ hp new r0, hp' = hp ++ new ∧ hp0.length = hp.length ∧ (∀ q ∈ new, allBelow 0 q.els = true) ∧ (∀ b ∈ hp, allBelow hp.length b.els = true) ∧ r' = ren (fun i => i + hp.length) r0 ∧ below new.length r0 = true ∧ Q (view d new r0) hp) : CallA P f args hp0 Q := by
  intro E vs H hl hrv
  refine (h E vs H hl hrv).mono ?_
  rintro v w' ⟨r', hp', E', rfl, q0, hv', H', F'⟩
  obtain ⟨hp, new, r0, rfl, hlen, hf, hflat, rfl, hb, hQ⟩ := hq r' hp' q0
  obtain ⟨E2, e1, e2, e3, e4⟩ := freeze_more hlen H' F' hf hflat d r0 hb v hv'
  exact ⟨_, hp, E2, e1, hQ, e2, e3, e4⟩
end
section
variable {P : Program} {b0 : Nat} {n0 : Nat} {ops : List Oper} {ms bls : List Bool} {K : St → Prop} {k : Nat} {r : List Nat} {st : St} {t : Tok (ops, k :: r, K)} {o : Oper}
theorem ol_fresh (ho : ops[k]? = some o) (hw : wantedA ops o st = some true) (hm : ms.getD k true = false) (hb : bls.getD k false = false) (q : Blk) (d : Nat) (r0 : AV) (hl : q.live = true) (hf : allBelow 0 q.els = true) (hflat : ∀ b ∈ st.hp, allBelow st.hp.length b.els = true) (hb1 : below 1 r0 = true)
    (hop : opA P st.hp.length o.op st.ev st.hp (Cn (fun v hp' kb => v = ren (fun i => [st.hp.length].getD i 0) r0 ∧ hp' = st.hp ++ [q] ∧ kb = none) .mk)) (h : Ol P b0 n0 ops ms bls K r .mk (st.put o.dst (view d [q] r0))) : Ol P b0 n0 ops ms bls K (k :: r) t st := by
  delta Ol at h ⊢
  exact ⟨o, ho, by rw [hm, hb]; exact ⟨_, .inl ⟨hw, Yields.fresh q hl hf hflat d r0 hb1 (by rw [Cn_eq] at hop; exact hop)⟩, (fun h => by cases h), h⟩⟩
end
end Go.Abs
/- The abstract layer, part ZK: at the head of a loop blocks of plain values may be told as lists that nobody writes any more, wherever they are named. -/
set_option linter.unusedSimpArgs false
set_option linter.unusedVariables false
namespace Go.Abs
open Go
def FrzC (new : List Blk) (N : Nat) (a b : AV) : Prop := b = .any ∨ (below N a = true ∧ b = a) ∨ ∃ d d' r0, a = ren (fun i => i + N) r0 ∧ below new.length r0 = true ∧ b = nilD d' (view d new r0)
def FrzV (new : List Blk) (N : Nat) (a b : AV) : Prop := FrzC new N a b ∨ ∃ l l2, a = .agg l ∧ b = .agg l2 ∧ l.length = l2.length ∧ ∀ (i : Nat) x y, l[i]? = some x → l2[i]? = some y → FrzC new N x y
structure FrzB (new : List Blk) (N : Nat) (q q2 : Blk) : Prop where
  ty : q2.ty = q.ty
  w : q2.w = q.w
  live : q2.live = q.live
  els : ∀ (i : Nat) e2, q2.els[i]? = some e2 → ∃ e, q.els[i]? = some e ∧ e.cells.length = e2.cells.length ∧ ∀ (j : Nat) x y, e.cells[j]? = some x → e2.cells[j]? = some y → FrzC new N x y
def FrzHp (new : List Blk) (N : Nat) : List Blk → List Blk → Prop
  | [], [] => True
  | q :: l, q2 :: l2 => FrzB new N q q2 ∧ FrzHp new N l l2
  | _, _ => False
def FrzTm (new : List Blk) (N : Nat) : List AV → List AV → Prop
  | [], [] => True
  | a :: l, b :: l2 => FrzV new N a b ∧ FrzTm new N l l2
  | _, _ => False
theorem FrzHp.get {new : List Blk} {N : Nat} : ∀ {l l2 : List Blk}, FrzHp new N l l2 → l2.length = l.length ∧ ∀ (i : Nat) q2, l2[i]? = some q2 → ∃ q, l[i]? = some q ∧ FrzB new N q q2
  | [], [], _ => ⟨rfl, by simp⟩
  | q :: l, q2 :: l2, h => by
    obtain ⟨h1, h2⟩ := FrzHp.get h.2
    refine ⟨by simp [h1], fun i q' hq => ?_⟩
    cases i with
    | zero => simp at hq; subst hq; exact ⟨q, rfl, h.1⟩
    | succ i => simpa using h2 i q' (by simpa using hq)
  | [], _ :: _, h => h.elim
  | _ :: _, [], h => h.elim
theorem FrzTm.get {new : List Blk} {N : Nat} : ∀ {l l2 : List AV}, FrzTm new N l l2 → l2.length = l.length ∧ ∀ (i : Nat) b, l2[i]? = some b → ∃ a, l[i]? = some a ∧ FrzV new N a b
  | [], [], _ => ⟨rfl, by simp⟩
  | q :: l, q2 :: l2, h => by
    obtain ⟨h1, h2⟩ := FrzTm.get h.2
    refine ⟨by simp [h1], fun i q' hq => ?_⟩
    cases i with
    | zero => simp at hq; subst hq; exact ⟨q, rfl, h.1⟩
    | succ i => simpa using h2 i q' (by simpa using hq)
  | [], _ :: _, h => h.elim
  | _ :: _, [], h => h.elim
theorem weak_freeze {n0 : Nat} {K K2 new : List Blk} {tm tm2 : List AV} (hn : n0 ≤ K.length) (hf : ∀ q ∈ new, allBelow 0 q.els = true) (hK : FrzHp new K.length K K2) (ht : FrzTm new K.length tm tm2) : Weak n0 ⟨tm, K ++ new⟩ ⟨tm2, K2⟩ := by
  intro P E0 hp0 E a hn0 hs
  have H := hs.hr
  have F := hs.fr
  obtain ⟨kl, kg⟩ := hK.get
  obtain ⟨tl, tg⟩ := ht.get
  have hlt : ∀ (b : Nat) blk, K[b]? = some blk → b < K.length ∧ (K ++ new)[b]? = some blk := fun b blk h => by
    have := (List.getElem?_eq_some_iff.1 h).1
    exact ⟨this, by rw [List.getElem?_append_left this]; exact h⟩
  have hnew : ∀ (b : Nat) blk, new[b]? = some blk → (K ++ new)[b + K.length]? = some blk := fun b blk h => by
    rw [List.getElem?_append_right (by omega), show b + K.length - K.length = b from by omega]; exact h
  let En : Env P := E.ren new.length fun i => i + K.length
  have Hn : HRel En new := by
    refine ⟨rfl, fun b blk h => H.wd _ blk (hnew b blk h), ?_, ?_, fun b blk h hl hF => H.apart _ blk (hnew b blk h) hl hF, H.old, H.laid⟩
    · intro b blk h hl
      obtain ⟨cs, h1, h2⟩ := (H.holds _ blk (hnew b blk h) hl).cells
      refine ⟨cs, h1, fun i e he => ⟨(h2 i e he).1, fun j x hx => ?_⟩⟩
      obtain ⟨u, h3, h4⟩ := (h2 i e he).2 j x hx
      refine ⟨u, h3, ?_⟩
      have hbe : below 0 e = true := by
        have := hf blk (List.mem_of_getElem? h)
        simp only [allBelow, List.all_eq_true] at this
        exact this e (List.mem_of_getElem? he)
      obtain ⟨_, h5⟩ := ren_cells (π := fun b => b) (below_mono0 (N := 0) (fun b => b) e hbe).1
      obtain ⟨c', h6, h7⟩ := h5 j x hx
      rw [ren_id 0 hbe, hx] at h6
      cases h6
      exact (h7 h4).mono ⟨fun _ h => h, fun _ _ => rfl, Nat.zero_le _, fun _ hb => absurd hb (Nat.not_lt_zero _), fun _ hb => absurd hb (Nat.not_lt_zero _), fun _ => Nat.le_refl _⟩
    · intro b b' blk blk' h1 h2 h3 h4 h5
      have := H.inj _ _ blk blk' (hnew _ _ h1) h2 (hnew _ _ h3) h4 h5
      omega
  let E2 : Env P := { E with F := fun c => E.F c ∨ ∃ b, Live new b ∧ E.ρ (b + K.length) = c, N := K.length }
  have leN : (E.ren K.length fun b => b).le E2 := ⟨fun _ h => .inl h, fun _ _ => rfl, Nat.le_refl _, fun _ _ => rfl, fun _ _ => rfl, fun _ => Nat.le_refl _⟩
  have frzC : ∀ x y u, FrzC new K.length x y → RV E x u → RV E2 y u := by
    intro x y u h hr
    rcases h with rfl | ⟨hb, rfl⟩ | ⟨d, d', r0, rfl, hb, rfl⟩
    · exact .any _
    · have : RV (E.ren K.length fun b => b) y u := RV.unren hb (by rw [ren_id _ hb]; exact hr)
      exact this.mono leN
    · have h1 : RV En r0 u := RV.unren hb hr
      have h2 := (view_sound Hn d r0).1 u h1
      refine RV.nil d' (h2.mono ⟨fun c hc => ?_, fun _ _ => rfl, Nat.zero_le _, fun _ hb => absurd hb (Nat.not_lt_zero _), fun _ hb => absurd hb (Nat.not_lt_zero _), fun _ => Nat.le_refl _⟩)
      rcases hc with h | ⟨b, hl, rfl⟩
      · exact .inl h
      · exact .inr ⟨b, hl, rfl⟩
  have frzV : ∀ x y u, FrzV new K.length x y → RV E x u → RV E2 y u := by
    intro x y u h hr
    rcases h with h | ⟨l, l2, rfl, rfl, hl, hc⟩
    · exact frzC x y u h hr
    · cases hr with
      | agg _ vs hls hv =>
        refine .agg l2 vs (hl ▸ hls) fun i y u hy hu => ?_
        have hi : i < l.length := by rw [hl]; exact (List.getElem?_eq_some_iff.1 hy).1
        exact frzC _ y u (hc i l[i] y (List.getElem?_eq_getElem hi) hy) (hv i l[i] u (List.getElem?_eq_getElem hi) hu)
  have old : ∀ c, E2.F c → c < E.w.heap.size := by
    rintro c (h | ⟨b', ⟨q, hq, hl⟩, rfl⟩)
    · exact H.old c h
    · obtain ⟨cs, h1, _⟩ := (H.holds _ q (hnew b' q hq) hl).cells
      exact (Row.lt h1)
  have H2 : HRel E2 K2 := by
    refine ⟨kl.symm, fun b blk h => ?_, ?_, ?_, ?_, old, H.laid.keep (fun c h => .inl h) (fun _ _ => rfl)⟩
    · obtain ⟨q, hq, hB⟩ := kg b blk h
      rw [hB.w]
      exact H.wd b q (hlt b q hq).2
    · intro b blk h hlv
      obtain ⟨q, hq, hB⟩ := kg b blk h
      obtain ⟨cs, h1, h2⟩ := (H.holds b q (hlt b q hq).2 (hB.live ▸ hlv)).cells
      refine ⟨cs, by rw [hB.ty]; exact h1, fun i e2 he2 => ?_⟩
      obtain ⟨e, he, hl, hc⟩ := hB.els i e2 he2
      refine ⟨by rw [← hl, hB.w]; exact (h2 i e he).1, fun j y hy => ?_⟩
      have hj : j < e.cells.length := by rw [hl]; exact (List.getElem?_eq_some_iff.1 hy).1
      obtain ⟨u, h3, h4⟩ := (h2 i e he).2 j e.cells[j] (List.getElem?_eq_getElem hj)
      exact ⟨u, by rw [hB.w]; exact h3, frzC _ y u (hc j _ y (List.getElem?_eq_getElem hj) hy) h4⟩
    · intro b b' blk blk' h1 h2 h3 h4 h5
      obtain ⟨q, hq, hB⟩ := kg b blk h1
      obtain ⟨q', hq', hB'⟩ := kg b' blk' h3
      exact H.inj b b' q q' (hlt _ _ hq).2 (hB.live ▸ h2) (hlt _ _ hq').2 (hB'.live ▸ h4) h5
    · intro b blk h hlv hF
      obtain ⟨q, hq, hB⟩ := kg b blk h
      rcases hF with h1 | ⟨b', ⟨q', hq', hl⟩, h1⟩
      · exact H.apart b q (hlt b q hq).2 (hB.live ▸ hlv) h1
      · have := H.inj b (b' + K.length) q q' (hlt b q hq).2 (hB.live ▸ hlv) (hnew b' q' hq') hl h1.symm
        have := (hlt b q hq).1
        omega
  have F2 : Fr E0 hp0 E2 K2 :=
    { size := F.size, os := F.os, tape := F.tape, output := F.output, block := F.block, len := by rw [hn0, kl]; exact hn, ρ := F.ρ, wd := F.wd, csz := F.csz
      F := fun c h => .inl (F.F c h)
      F' := fun c hc => by
        rcases hc with h | ⟨b', ⟨q, hq, hl⟩, rfl⟩
        · exact F.F' c h
        · rcases F.live (b' + K.length) ⟨q, hnew b' q hq, hl⟩ with ⟨h1, _⟩ | ⟨_, h2⟩
          · exact absurd h1 (by omega)
          · exact .inr h2
      live := fun b ⟨blk, h, hlv⟩ => by
        obtain ⟨q, hq, hB⟩ := kg b blk h
        exact F.live b ⟨q, (hlt b q hq).2, hB.live ▸ hlv⟩ }
  exact ⟨E2, rfl, H2, F2, tl.trans hs.len, fun i v u h1 h2 => by
    obtain ⟨x, hx, hv⟩ := tg i v h1
    exact frzV x v u hv (hs.tm i x u hx h2), hs.df⟩
theorem Weak.and {n0 : Nat} {a b c : St} (h1 : Weak n0 a b) (h2 : Weak n0 b c) : Weak n0 a c := by
  intro P E0 hp0 E s hn hs
  obtain ⟨E1, e1, s1⟩ := h1 P E0 hp0 E s hn hs
  obtain ⟨E2, e2, s2⟩ := h2 P E0 hp0 E1 s hn s1
  exact ⟨E2, e2.trans e1, s2⟩
theorem frzB_keep {new : List Blk} {N : Nat} {q : Blk} (hb : ∀ e ∈ q.els, ∀ c ∈ e.cells, below N c = true) : FrzB new N q q :=
  ⟨rfl, rfl, rfl, fun i e h => ⟨e, h, rfl, fun j x y hx hy => by
    rw [hx] at hy
    cases hy
    exact .inr (.inl ⟨hb e (List.mem_of_getElem? h) x (List.mem_of_getElem? hx), rfl⟩)⟩⟩
end Go.Abs
