/- The abstract layer: parts ZA ZB ZC ZD ZE ZF ZG ZH ZI ZJ ZK ZL ZM. -/
import Derived.Test.YtodjjpmigcacoaaGreatDoorAbsM3
import Derived.Sort.OwnSortedInts
import Derived.Lib.ItoaNum
import Derived.Lib.LaidTab
import Derived.Below
import Derived.Lib.Join
import Derived.Sort.Grow
import Derived.Deep.Draws
import Derived.Lib.Strings
import Derived.Lib.Split
import Derived.Lib.SplitLaws
import Derived.Lib.CountLaws
import Derived.Lib.IndexMore
set_option linter.unusedSimpArgs false
set_option linter.unusedVariables false
namespace Go.Abs
open Go
variable {P : Program}
def namesL : AV → List Nat
  | .sl b _ _ | .ptr b _ _ | .mp b => [b]
  | _ => []
def namesM : AV → List Nat
  | .agg l | .fn _ l | .mv _ l => l.flatMap namesL
  | v => namesL v
def names : AV → List Nat
  | .tup l => l.flatMap namesM
  | v => namesM v
section
variable {P : Program} {n0 : Nat}
theorem quietA_congr {op : Op} {f f' : Operand → AV} {hp : List Blk} {k : AV → Prop} (he : ∀ x ∈ op.operands, f x = f' x) (h : quietA P op f hp k) : quietA P op f' hp k := by
  cases op with
  | move x => simp only [quietA] at h ⊢; rw [← he x (by simp [Op.operands])]; exact h
  | assign x => simp only [quietA] at h ⊢; rw [← he x (by simp [Op.operands])]; exact h
  | pick c a b => simp only [quietA] at h ⊢; rw [← he c (by simp [Op.operands]), ← he a (by simp [Op.operands]), ← he b (by simp [Op.operands])]; exact h
  | build t parts =>
    simp only [quietA] at h ⊢
    have e : (parts.toList.map fun p => (p.1, f' p.2)) = parts.toList.map fun p => (p.1, f p.2) := List.map_congr_left fun p hp => by rw [he p.2 (by simp only [Op.operands]; simpa using ⟨p.1, by simpa using hp⟩)]
    rw [e]
    exact h
  | load t a => simp only [quietA] at h ⊢; rw [← he a (by simp [Op.operands])]; exact h
  | nilCheck x => simp only [quietA] at h ⊢; rw [← he x (by simp [Op.operands])]; exact h
  | binOp o t x y t' => simp only [quietA] at h ⊢; rw [← he x (by simp [Op.operands]), ← he y (by simp [Op.operands])]; exact h
  | unOp o t x => simp only [quietA] at h ⊢; rw [← he x (by simp [Op.operands])]; exact h
  | convert s d x => simp only [quietA] at h ⊢; rw [← he x (by simp [Op.operands])]; exact h
  | makeFunc c first cap =>
    cases c with
    | func g =>
      simp only [quietA] at h ⊢
      have e : cap.toList.map f' = cap.toList.map f := List.map_congr_left fun x hx => (he x (by simp [Op.operands]; simp at hx; simp [hx])).symm
      have e2 : first.toList.map f' = first.toList.map f := List.map_congr_left fun x hx => (he x (by simp [Op.operands]; simp at hx; simp [hx])).symm
      rw [e]
      cases hq : first.toList with
      | nil => rw [hq] at h; exact h
      | cons y l => rw [hq] at h e2; simp only [] at h ⊢; rw [e2]; exact h
    | _ => exact h.elim
  | slice t x lo hi mx =>
    cases mx with
    | some m => exact h.elim
    | none =>
      simp only [quietA] at h ⊢
      have e1 : lo.map f' = lo.map f := by
        cases lo with
        | none => rfl
        | some a => simp [he a (by simp [Op.operands])]
      have e2 : hi.map f' = hi.map f := by
        cases hi with
        | none => rfl
        | some a => simp [he a (by simp [Op.operands])]
      rw [← he x (by simp [Op.operands]), e1, e2]
      exact h
  | fieldAddr s x i => simp only [quietA] at h ⊢; rw [← he x (by simp [Op.operands])]; exact h
  | field t x i => simp only [quietA] at h ⊢; rw [← he x (by simp [Op.operands])]; exact h
  | indexAddr t x ix => simp only [quietA] at h ⊢; rw [← he x (by simp [Op.operands]), ← he ix (by simp [Op.operands])]; exact h
  | index t x ix => simp only [quietA] at h ⊢; rw [← he x (by simp [Op.operands]), ← he ix (by simp [Op.operands])]; exact h
  | lookup t x ix ok =>
    cases ok with
    | true => exact h.elim
    | false => simp only [quietA] at h ⊢; rw [← he x (by simp [Op.operands]), ← he ix (by simp [Op.operands])]; exact h
  | extract x i => simp only [quietA] at h ⊢; rw [← he x (by simp [Op.operands])]; exact h
  | call c =>
    obtain ⟨callee, args, ts⟩ := c
    cases callee with
    | builtin b =>
      simp only [quietA] at h ⊢
      have e : args.toList.map f' = args.toList.map f := List.map_congr_left fun x hx => (he x (by simp [Op.operands, Call.operands]; simpa using hx)).symm
      rw [e]
      exact h
    | _ => exact h.elim
  | _ => exact h.elim
theorem opA_congr {op : Op} {f f' : Operand → AV} {hp : List Blk} {k : AV → List Blk → Option Nat → Prop} (he : ∀ x ∈ op.operands, f x = f' x) (h : opA P n0 op f hp k) : opA P n0 op f' hp k := by
  cases op with
  | alloc t => exact h
  | box t x => simp only [opA] at h ⊢; rw [← he x (by simp [Op.operands])]; exact h
  | buildSlice t len parts =>
    simp only [opA] at h ⊢
    have e : (parts.toList.map fun p => (p.1, f' p.2)) = parts.toList.map fun p => (p.1, f p.2) := List.map_congr_left fun p hp => by rw [he p.2 (by simp only [Op.operands]; simpa using ⟨p.1, by simpa using hp⟩)]
    rw [e]
    exact h
  | store t a x => simp only [opA] at h ⊢; rw [← he a (by simp [Op.operands]), ← he x (by simp [Op.operands])]; exact h
  | makeMap t r =>
    cases r with
    | none => exact h
    | some r => exact h.elim
  | mapUpdate t m n x => simp only [opA] at h ⊢; rw [← he m (by simp [Op.operands]), ← he n (by simp [Op.operands]), ← he x (by simp [Op.operands])]; exact h
  | mapEntry t m n => simp only [opA] at h ⊢; rw [← he m (by simp [Op.operands]), ← he n (by simp [Op.operands])]; exact h
  | entryStore t m n x => simp only [opA] at h ⊢; rw [← he m (by simp [Op.operands]), ← he n (by simp [Op.operands]), ← he x (by simp [Op.operands])]; exact h
  | makeSlice t l c => simp only [opA] at h ⊢; rw [← he l (by simp [Op.operands]), ← he c (by simp [Op.operands])]; exact h
  | call c =>
    obtain ⟨callee, args, ts⟩ := c
    cases callee with
    | value g =>
      simp only [opA] at h ⊢
      have e : args.toList.map f' = args.toList.map f := List.map_congr_left fun x hx => (he x (by simp [Op.operands, Call.operands]; simp at hx; simp [hx])).symm
      rw [← he g (by simp [Op.operands, Call.operands]), e]
      exact h
    | builtin b =>
      have e : args.toList.map f' = args.toList.map f := List.map_congr_left fun x hx => (he x (by simp [Op.operands, Call.operands]; simpa using hx)).symm
      by_cases hb : b = .append
      · subst hb
        obtain ⟨l⟩ := args
        simp only [opA] at h ⊢
        match l, he, h with
        | [s, x], he, h => simp only [] at h ⊢; rw [← he s (by simp [Op.operands, Call.operands]), ← he x (by simp [Op.operands, Call.operands])]; exact h
        | [], _, h => exact h.elim
        | [_], _, h => exact h.elim
        | _ :: _ :: _ :: _, _, h => exact h.elim
      · by_cases hb2 : b = .clear
        · subst hb2
          obtain ⟨l⟩ := args
          simp only [opA] at h ⊢
          match l, he, h with
          | [x], he, h => simp only [] at h ⊢; rw [← he x (by simp [Op.operands, Call.operands])]; exact h
          | [], _, h => exact h.elim
          | _ :: _ :: _, _, h => exact h.elim
        · cases b <;> first | exact absurd rfl hb | exact absurd rfl hb2 | (simp only [opA] at h ⊢; rw [e]; exact h)
    | _ => exact h.elim
  | move x => exact quietA_congr (P := P) (hp := hp) (k := fun v => k v hp none) he h
  | assign x => exact quietA_congr (P := P) (hp := hp) (k := fun v => k v hp none) he h
  | pick c a b => exact quietA_congr (P := P) (hp := hp) (k := fun v => k v hp none) he h
  | build t parts => exact quietA_congr (P := P) (hp := hp) (k := fun v => k v hp none) he h
  | load t a => exact quietA_congr (P := P) (hp := hp) (k := fun v => k v hp none) he h
  | nilCheck x => exact quietA_congr (P := P) (hp := hp) (k := fun v => k v hp none) he h
  | binOp o t x y t' => exact quietA_congr (P := P) (hp := hp) (k := fun v => k v hp none) he h
  | unOp o t x => exact quietA_congr (P := P) (hp := hp) (k := fun v => k v hp none) he h
  | convert s d x => simp only [opA] at h ⊢; rw [← he x (by simp [Op.operands])]; exact h
  | makeFunc c first cap => exact quietA_congr (P := P) (hp := hp) (k := fun v => k v hp none) he h
  | slice t x lo hi mx => exact quietA_congr (P := P) (hp := hp) (k := fun v => k v hp none) he h
  | fieldAddr s x i => exact quietA_congr (P := P) (hp := hp) (k := fun v => k v hp none) he h
  | field t x i => exact quietA_congr (P := P) (hp := hp) (k := fun v => k v hp none) he h
  | indexAddr t x ix => exact quietA_congr (P := P) (hp := hp) (k := fun v => k v hp none) he h
  | index t x ix => exact quietA_congr (P := P) (hp := hp) (k := fun v => k v hp none) he h
  | lookup t x ix ok => exact quietA_congr (P := P) (hp := hp) (k := fun v => k v hp none) he h
  | extract x i => exact quietA_congr (P := P) (hp := hp) (k := fun v => k v hp none) he h
  | _ => exact h.elim
end
section
variable {P : Program} {n0 : Nat}
end
abbrev PEs := List (Nat × AV × Option Blk)
section
variable {P : Program} {n0 : Nat}
section
variable {ops : List Oper} {ms : List Bool} {st0 : St} {pv : PEs} {k n : Nat}
end
end
end Go.Abs
namespace Go.Abs
open Go
variable {P : Program}
theorem view_tup (d : Nat) (hp : List Blk) (l : List AV) : view (d + 1) hp (.tup l) = .tup (l.map (view d hp)) := rfl
theorem view_ptr (d : Nat) (hp : List Blk) (b i j : Nat) : view (d + 1) hp (.ptr b i j) = match hp[b]? with
  | some blk => if blk.live then (match blk.els[i]? with
    | some e => .rop ((e.cells.drop j).map (view d hp))
    | none => .any) else .any
  | none => .any := rfl
section
variable {P : Program}
theorem freeze_many {E E' : Env P} {hp new : List Blk} (H : HRel E hp) (H' : HRel E' (hp ++ new)) (F' : Fr E hp E' (hp ++ new)) (hf : ∀ q ∈ new, allBelow 0 q.els = true) (hflat : ∀ b ∈ hp, allBelow hp.length b.els = true)
    (d : Nat) (r0 : AV) (hb : below new.length r0 = true) (v : Value) (hv : RV E' (ren (fun i => i + hp.length) r0) v) :
    ∃ E2 : Env P, E2.w = E'.w ∧ RV E2 (view d new r0) v ∧ HRel E2 hp ∧ Fr E hp E2 hp ∧ E.le E2 := by
  have hlt : ∀ (b : Nat) blk, hp[b]? = some blk → b < hp.length ∧ (hp ++ new)[b]? = some blk := fun b blk h => by
    have := (List.getElem?_eq_some_iff.1 h).1
    exact ⟨this, by rw [List.getElem?_append_left this]; exact h⟩
  have hnew : ∀ (b : Nat) blk, new[b]? = some blk → (hp ++ new)[b + hp.length]? = some blk := fun b blk h => by
    rw [List.getElem?_append_right (by omega), show b + hp.length - hp.length = b from by omega]; exact h
  let En : Env P := E'.ren new.length fun i => i + hp.length
  have Hn : HRel En new := by
    refine ⟨rfl, fun b blk h => H'.wd _ blk (hnew b blk h), ?_, ?_, fun b blk h hl hF => H'.apart _ blk (hnew b blk h) hl hF, H'.old, H'.laid⟩
    · intro b blk h hl
      refine (H'.holds _ blk (hnew b blk h) hl).keepE rfl fun e he j x hx u h4 => ?_
      have hbe : below 0 e = true := by
        have := hf blk (List.mem_of_getElem? h)
        simp only [allBelow, List.all_eq_true] at this
        exact this e he
      obtain ⟨_, h5⟩ := ren_cells (π := fun b => b) (below_mono0 (N := 0) (fun b => b) e hbe).1
      obtain ⟨c', h6, h7⟩ := h5 j x hx
      rw [ren_id 0 hbe, hx] at h6
      cases h6
      exact (h7 h4).mono ⟨fun _ h => h, fun _ _ => rfl, Nat.zero_le _, fun _ hb => absurd hb (Nat.not_lt_zero _), fun _ hb => absurd hb (Nat.not_lt_zero _), fun _ => Nat.le_refl _⟩
    · intro b b' blk blk' h1 h2 h3 h4 h5
      have := H'.inj _ _ blk blk' (hnew _ _ h1) h2 (hnew _ _ h3) h4 h5
      omega
  let E2 : Env P := { E' with F := fun c => E'.F c ∨ ∃ b, Live new b ∧ E'.ρ (b + hp.length) = c, N := hp.length }
  have leN : (E'.ren hp.length fun b => b).le E2 := ⟨fun _ h => .inl h, fun _ _ => rfl, Nat.le_refl _, fun _ _ => rfl, fun _ _ => rfl, fun _ => Nat.le_refl _⟩
  have H2 : HRel E2 hp := by
    refine ⟨rfl, fun b blk h => H'.wd b blk (hlt b blk h).2, ?_, ?_, ?_, ?_, H'.laid.keep (fun c h => .inl h) (fun _ _ => rfl)⟩
    · intro b blk h hlv
      refine (H'.holds b blk (hlt b blk h).2 hlv).keepE rfl fun e he j x hx u h4 => ?_
      have hbe : below hp.length e = true := by
        have := hflat blk (List.mem_of_getElem? h)
        simp only [allBelow, List.all_eq_true] at this
        exact this e he
      obtain ⟨_, h5⟩ := ren_cells (π := fun b => b) hbe
      obtain ⟨c', h6, h7⟩ := h5 j x hx
      rw [ren_id _ hbe, hx] at h6
      cases h6
      exact (h7 h4).mono leN
    · intro b b' blk blk' h1 h2 h3 h4 h5
      exact H'.inj b b' blk blk' (hlt _ _ h1).2 h2 (hlt _ _ h3).2 h4 h5
    · intro b blk h hlv hF
      rcases hF with h1 | ⟨b', ⟨q, hq, hl⟩, h1⟩
      · exact H'.apart b blk (hlt b blk h).2 hlv h1
      · have := H'.inj b (b' + hp.length) blk q (hlt b blk h).2 hlv (hnew b' q hq) hl h1.symm
        have := (hlt b blk h).1
        omega
    · rintro c (h | ⟨b', ⟨q, hq, hl⟩, rfl⟩)
      · exact H'.old c h
      · exact (H'.holds _ q (hnew b' q hq) hl).lt
  have F2 : Fr E hp E2 hp :=
    { size := F'.size, os := F'.os, tape := F'.tape, output := F'.output, block := F'.block, len := Nat.le_refl _, ρ := F'.ρ, wd := F'.wd, csz := F'.csz
      F := fun c h => .inl (F'.F c h)
      F' := fun c hc => by
        rcases hc with h | ⟨b', ⟨q, hq, hl⟩, rfl⟩
        · exact F'.F' c h
        · rcases F'.live (b' + hp.length) ⟨q, hnew b' q hq, hl⟩ with ⟨h1, _⟩ | ⟨_, h2⟩
          · exact absurd h1 (by omega)
          · exact .inr h2
      live := fun b ⟨blk, h, hlv⟩ => .inl ⟨(hlt b blk h).1, blk, h, hlv⟩ }
  refine ⟨E2, rfl, ?_, H2, F2, F2.le H H2⟩
  have h1 := RV.unren (E := E') (N := new.length) (π := fun i => i + hp.length) hb hv
  have h2 := (view_sound Hn d r0).1 v h1
  refine h2.mono ⟨fun c hc => ?_, fun _ _ => rfl, Nat.zero_le _, fun _ hb => absurd hb (Nat.not_lt_zero _), fun _ hb => absurd hb (Nat.not_lt_zero _), fun _ => Nat.le_refl _⟩
  rcases hc with h | ⟨b, hl, rfl⟩
  · exact .inl h
  · exact .inr ⟨b, hl, rfl⟩
theorem CallA.lentFrozen {f : FuncId} {args : List AV} {hp : List Blk} (d d' : Nat) {r r2 : AV} {new : List Blk} {args' : List AV} (hv : args.map (view d hp) = args') (h : CallA P f args' [] (Ret r new)) (hc : clean r = true) (hn : new.all cleanB = true)
    (hf : ∀ q ∈ new, allBelow 0 q.els = true) (hflat : ∀ b ∈ hp, allBelow hp.length b.els = true) (hb : below new.length r = true) (hr : view d' new r = r2) : CallA P f args hp (Ret r2 hp) := by
  have h1 : CallA P f args hp (Ret (ren (fun b => b + hp.length) r) (hp ++ new)) := by
    refine CallA.borrow d ?_
    rw [hv]
    refine h.mono ?_
    rintro r' hp' ⟨rfl, rfl⟩
    exact ⟨⟨hc, hn⟩, rfl, joinHp_flat hf⟩
  intro E vs H hl hrv
  refine (h1 E vs H hl hrv).mono ?_
  rintro v w' ⟨r', hp', E', rfl, ⟨rfl, rfl⟩, hv', H', F'⟩
  obtain ⟨E2, e1, e2, e3, e4, _⟩ := freeze_many H H' F' hf hflat d' r hb v hv'
  exact ⟨r2, hp, E2, e1, ⟨rfl, rfl⟩, hr ▸ e2, e3, e4⟩
end
end Go.Abs
namespace Go.Abs
open Go
variable {P : Program}
theorem nearest_word (k : FloatKind) (neg : Bool) (m : Nat) (e : Int) : ∃ r, k.format.nearest neg m e = k.format.word neg r ∧ r ≤ k.format.infRung ∧ (m = 0 → r = 0) := by
  unfold Ieee.Format.nearest
  split
  · exact ⟨0, rfl, Nat.zero_le _, fun _ => rfl⟩
  · rename_i h
    exact ⟨_, rfl, Nat.min_le_right _ _, fun h0 => absurd h0 h⟩
end Go.Abs
namespace Go.Abs
open Go
variable {P : Program}
theorem HRel.extend {E : Env P} {hp : List Blk} (H : HRel E hp) {w' : World} (hs : E.w.heap.size ≤ w'.heap.size) (hh : ∀ c, c < E.w.heap.size → w'.heap[c]? = E.w.heap[c]?) (h1 : w'.os = E.w.os) (h2 : w'.tape = E.w.tape) (h3 : w'.output = E.w.output) :
    HRel (E.with w') hp ∧ (∀ {E0 : Env P} {hp0 : List Blk}, Fr E0 hp0 E hp → Fr E0 hp0 (E.with w') hp) ∧ E.le (E.with w') := by
  have hcsz : ∀ c, csz E.w c ≤ csz w' c := fun c => by
    by_cases hc : c < E.w.heap.size
    · unfold csz; rw [hh c hc]; exact Nat.le_refl _
    · unfold csz
      rw [Array.getElem?_eq_none (by omega)]
      exact Nat.zero_le _
  have le : E.le (E.with w') := ⟨fun _ h => h, fun c hc => hh c (H.old c hc), Nat.le_refl _, fun _ _ => rfl, fun _ _ => rfl, hcsz⟩
  refine ⟨⟨H.N, H.wd, fun b blk hb hl => ?_, H.inj, H.apart, fun c hc => Nat.lt_of_lt_of_le (H.old c hc) hs, H.laidLe le⟩, ?_, le⟩
  · exact (H.holds b blk hb hl).keep (hh _ (H.holds b blk hb hl).lt) fun x u hu => hu.mono le
  · intro E0 hp0 F
    exact { size := Nat.le_trans F.size hs, os := h1.trans F.os, tape := h2.trans F.tape, output := h3.trans F.output
            block := fun c hc hn => by
              show w'.heap[c]? = _
              rw [hh c (Nat.lt_of_lt_of_le hc F.size)]
              exact F.block c hc hn
            len := F.len, ρ := F.ρ, wd := F.wd, F := F.F, F' := F.F', live := F.live, csz := fun c => Nat.le_trans (F.csz c) (hcsz c) }
def sortI (zs : List Int) : List Int := zs.mergeSort fun x y => decide (x ≤ y)
theorem sortI_len (zs : List Int) : (sortI zs).length = zs.length := by simp [sortI]
theorem sort_call {P : Program} {f : FuncId} {e : TypeId} {zs : List Int} (hgo : isGo P f)
    (h : ∀ (blk off cap : Nat) (w : World), Sort.Holds (Value.int .i64) w blk off zs.toArray → blk < w.heap.size → Calls P f #[.slice (some ⟨blk, off, none⟩) zs.length cap] w fun ex w' =>
      ex = .returned (.tuple #[]) ∧ ∃ n os, w' = Sort.grow (Sort.putRow (Value.int .i64) (Sort.ahead w n) blk off (zs.mergeSort fun x y => decide (x ≤ y)).toArray) os) :
    CallA P f [.sl 0 0 zs.length] [{ ty := e, w := 1, els := ints zs }] (Ret (.tup []) [{ ty := e, w := 1, els := ints (sortI zs) }]) := by
  intro E vs H hl hrv
  obtain ⟨v, rfl, hv⟩ := RV.one hl hrv
  have hv := hv
  cases hv with
  | sl _ _ _ off cap hb ho hcap hmax hroom hwE =>
    obtain ⟨cs, hc1, hc2⟩ := (H.holds 0 _ rfl rfl).cells Nat.one_pos
    have hwd : E.wd 0 = 1 := H.wd 0 _ rfl
    have hoff : 0 < zs.length → off = 0 := fun hp => by have := ho (by omega); omega
    have hget : ∀ (i : Nat) (hi : i < zs.length), cs[i]? = some (.int .i64 zs[i]) := by
      intro i hi
      have he : (ints zs)[i]? = some (.int .i64 zs[i]) := by simp [ints, hi]
      obtain ⟨u, h3, h4⟩ := (hc2 i _ he).2 0 _ rfl
      cases h4
      simpa using h3
    have hlen : zs.length ≤ cs.size := by
      by_cases hz : zs.length = 0
      · omega
      · have := hget (zs.length - 1) (by omega)
        have := (Array.getElem?_eq_some_iff.1 this).1
        omega
    have hblk : E.ρ 0 < E.w.heap.size := Row.lt hc1
    have hH : Sort.Holds (Value.int .i64) E.w (E.ρ 0) off zs.toArray := by
      by_cases hz : zs.length = 0
      · intro j hj
        simp [hz] at hj
      · intro j hj
        have hj' : j < zs.length := by simpa using hj
        rw [hoff (by omega), Nat.zero_add, hc1.cell, hc1.frozen j (by omega), hget j hj']
        simp [hj']
    refine .inl ⟨hgo, (h (E.ρ 0) off cap E.w hH hblk).mono ?_⟩
    rintro ex w' ⟨rfl, n, os, rfl⟩
    refine ⟨_, rfl, .tup [], [{ ty := e, w := 1, els := ints (sortI zs) }], E.with _, rfl, ⟨rfl, rfl⟩, .tup [] #[] rfl (fun i a v h => by simp at h), ?_⟩
    let new := Sort.putCells (Value.int .i64) off (sortI zs).toArray cs
    have hnew : new.size = cs.size := by simp [new, Sort.putCells]
    have hel : EA E 1 (ints (sortI zs)) new := by
      intro i a ha
      have hi : i < zs.length := by
        have := (List.getElem?_eq_some_iff.1 ha).1
        simpa [ints, sortI_len] using this
      have ea : a = .int .i64 ((sortI zs)[i]'(by rw [sortI_len]; exact hi)) := by
        have : (ints (sortI zs))[i]? = some (.int .i64 ((sortI zs)[i]'(by rw [sortI_len]; exact hi))) := by simp [ints, sortI_len, hi]
        rw [this] at ha
        exact (Option.some.inj ha).symm
      subst ea
      refine ⟨rfl, fun j x hx => ?_⟩
      have hj : j = 0 := by
        have := (List.getElem?_eq_some_iff.1 hx).1
        simp [AV.cells] at this
        exact this
      subst hj
      have hx' : x = .int .i64 ((sortI zs)[i]'(by rw [sortI_len]; exact hi)) := by simpa [AV.cells] using hx.symm
      subst hx'
      refine ⟨_, ?_, .int .i64 _⟩
      have h0 : off = 0 := hoff (by omega)
      simp only [new, Sort.putCells, Array.getElem?_mapIdx, Nat.mul_one, Nat.add_zero]
      rw [Array.getElem?_eq_getElem (show i < cs.size from by omega), Option.map_some, if_pos (by simp [h0, sortI_len]; omega)]
      simp [h0, sortI_len, hi]
    obtain ⟨H1, F1, le1⟩ := write_block (b := 0) H (Fr.refl E _) rfl rfl (ints (sortI zs)) cs new hc1 hnew Nat.one_pos hel
    obtain ⟨fr, hc1, _⟩ := hc1
    have hw : ∀ c, c < E.w.heap.size → (Sort.grow (Sort.putRow (Value.int .i64) (Sort.ahead E.w n) (E.ρ 0) off (sortI zs).toArray) os).heap[c]? = (E.w.setRow (E.ρ 0) new).heap[c]? := by
      intro c hc
      rw [Sort.heap_grow_old _ _ (by simpa using hc), setRow_get _ _ _ _ _ _ _ hc1]
      by_cases hcc : c = E.ρ 0
      · subst hcc
        rw [if_pos rfl]
        simp [Sort.putRow, Sort.mapBlock, Sort.ahead, Array.getElem?_modify, hc1, Sort.onCells, new]
      · rw [if_neg hcc]
        have : E.ρ 0 ≠ c := fun e => hcc e.symm
        simp [Sort.putRow, Sort.mapBlock, Sort.ahead, Array.getElem?_modify, this]
    have hsz1 : (E.w.setRow (E.ρ 0) new).heap.size = E.w.heap.size := by simp [World.setRow]
    obtain ⟨H2, F2, _⟩ := H1.extend (w' := Sort.grow (Sort.putRow (Value.int .i64) (Sort.ahead E.w n) (E.ρ 0) off (sortI zs).toArray) os) (by
      show (E.w.setRow (E.ρ 0) new).heap.size ≤ _
      rw [hsz1]; simp [Sort.putRow, Sort.mapBlock, Sort.ahead]) (fun c hc => hw c (by rw [← hsz1]; exact hc)) rfl rfl rfl
    exact ⟨H2, F2 F1⟩
end Go.Abs
namespace Go.Abs
open Go Go.RowKit
variable {P : Program}
theorem HRel.table {E : Env P} {hp : List Blk} (H : HRel E hp) {n : String} {k : IntKind} {zs : List Int} (ht : (n, k, zs) ∈ tables) {g : Nat} (hg : P.globalNamed n = some g) : Lib.TabIs P E.w n k zs := by
  obtain ⟨_, ty, fr, h⟩ := H.laid.1 _ ht g hg
  simp only [Lib.TabIs, World.var?, hg, Option.bind_some, h]
theorem itoa_call {f : FuncId} (hg : (P.globalNamed "internal/strconv.uint64pow10").isSome = true) (hgo : isGo P f) (n : Int)
    (h : ∀ w : World, Lib.TabIs P w "internal/strconv.uint64pow10" .u64 Lib.pow10Tab → Calls P f #[.int .i64 n, .int .i64 10] w fun e w' => e = .returned (.string ⟨(Lib.itoa n).toArray⟩) ∧ ∃ k os, w' = Sort.grow (w.drewN k) os) :
    CallA P f [.int .i64 n, .int .i64 10] [] (Ret (.str (Lib.itoa n)) []) := by
  intro E vs H hl hrv
  obtain ⟨g, hg⟩ := Option.isSome_iff_exists.1 hg
  obtain ⟨v, u, rfl, hv, hu⟩ := RV.two hl hrv
  cases hv
  cases hu
  refine .inl ⟨hgo, (h E.w (H.table (by simp [tables]) hg)).mono ?_⟩
  rintro ex w' ⟨rfl, k, os, rfl⟩
  have hh : (E.w.drewN k).heap = E.w.heap := rfl
  obtain ⟨H2, F2, _⟩ := H.extend (w' := Sort.grow (E.w.drewN k) os) (by simp [Sort.grow, World.drewN]) (fun c hc => by rw [Sort.heap_grow_old _ _ (by rw [hh]; exact hc), hh]) rfl rfl rfl
  exact ⟨_, rfl, .str _, [], E.with _, rfl, ⟨rfl, rfl⟩, .str _, H2, F2 (Fr.refl E _)⟩
theorem byts_len (l : List UInt8) : (byts l).length = l.length := by simp [byts]
theorem byts_app (l r : List UInt8) : byts (l ++ r) = byts l ++ byts r := by simp [byts]
theorem byts_cons (x : UInt8) (l : List UInt8) : AV.int .u8 (x.toNat : Int) :: byts l = byts (x :: l) := rfl
theorem byts_below (n : Nat) : ∀ l : List UInt8, allBelow n (byts l) = true
  | [] => rfl
  | x :: l => byts_below n l
theorem byts_kill (b : Nat) (l : List UInt8) : (byts l).map (kill b) = byts l := by
  unfold byts
  rw [List.map_map]
  exact List.map_congr_left fun x _ => rfl
theorem byts_ren (ρ : Nat → Nat) (l : List UInt8) : (byts l).map (ren ρ) = byts l := by
  unfold byts
  rw [List.map_map]
  exact List.map_congr_left fun x _ => rfl
theorem w8 {n : Int} (h0 : 0 ≤ n) (h1 : n ≤ 255) : IntKind.u8.wrap n = n := by
  unfold IntKind.wrap
  simp [IntKind.bits, IntKind.signed]
  omega
theorem take_byts (l : List UInt8) : (byts l).take l.length = byts l := List.take_of_length_le (by simp [byts_len])
theorem allW_byts (l : List UInt8) : AllW 1 (byts l) := by
  intro a ha
  obtain ⟨x, _, rfl⟩ := List.mem_map.1 ha
  exact ⟨rfl, rfl⟩
def firstAt (c : UInt8) : List UInt8 → Option (List UInt8 × List UInt8)
  | [] => none
  | x :: t => if x = c then some ([], t) else (firstAt c t).map fun p => (x :: p.1, p.2)
theorem firstAt_none {c : UInt8} : ∀ {s : List UInt8}, firstAt c s = none → Lib.indexByte s c = -1
  | [], _ => rfl
  | x :: t, h => by
    unfold firstAt at h
    by_cases e : x = c
    · rw [if_pos e] at h; cases h
    · rw [if_neg e] at h
      have := firstAt_none (s := t) (by simpa using h)
      unfold Lib.indexByte
      rw [if_neg (by simpa using e), this]
      rfl
theorem firstAt_some {c : UInt8} : ∀ {s a b : List UInt8}, firstAt c s = some (a, b) → Lib.indexByte s c = a.length ∧ s = a ++ c :: b ∧ c ∉ a
  | [], _, _, h => by cases h
  | x :: t, a, b, h => by
    unfold firstAt at h
    by_cases e : x = c
    · rw [if_pos e] at h
      cases h
      subst e
      exact ⟨by simp [Lib.indexByte], rfl, by simp⟩
    · rw [if_neg e] at h
      simp only [Option.map_eq_some_iff] at h
      obtain ⟨⟨a', b'⟩, h1, h2⟩ := h
      cases h2
      obtain ⟨h3, h4, h5⟩ := firstAt_some h1
      refine ⟨?_, by rw [h4]; rfl, by simp [h5, Ne.symm e]⟩
      unfold Lib.indexByte
      rw [if_neg (by simpa using e), h3, if_neg (by simp)]
      simp
theorem firstAt_take {c : UInt8} {s a b : List UInt8} (h : firstAt c s = some (a, b)) : s.take a.length = a ∧ s.drop (a.length + 1) = b ∧ s.length = a.length + 1 + b.length := by
  obtain ⟨_, h1, _⟩ := firstAt_some h
  rw [h1]
  refine ⟨by simp, ?_, by simp; omega⟩
  rw [show a ++ c :: b = (a ++ [c]) ++ b from by simp, List.drop_append_of_le_length (by simp)]
  simp
theorem cutA_nil (c : UInt8) (acc : List UInt8) : cutA c acc [] = [acc] := rfl
theorem cutA_cons (c : UInt8) (acc : List UInt8) (x : UInt8) (s : List UInt8) : cutA c acc (x :: s) = if x = c then acc :: cutA c [] s else cutA c (acc ++ [x]) s := rfl
theorem cutA_first (c : UInt8) : ∀ (s acc : List UInt8), cutA c acc s = match firstAt c s with
    | none => [acc ++ s]
    | some (a, b) => (acc ++ a) :: cutA c [] b
  | [], acc => by simp [cutA_nil, firstAt]
  | x :: t, acc => by
    rw [cutA_cons]
    by_cases e : x = c
    · rw [if_pos e]
      simp only [firstAt, if_pos e, List.append_nil]
    · rw [if_neg e, cutA_first c t (acc ++ [x])]
      simp only [firstAt, if_neg e]
      cases firstAt c t with
      | none => simp only [Option.map_none, List.append_assoc]; rfl
      | some p => simp only [Option.map_some, List.append_assoc]; rfl
theorem join_call {f : FuncId} (hgo : isGo P f) (sep : List UInt8) (xs : List (List UInt8))
    (hnone : ∀ (a : Option Addr) (c : Nat) (w : World), Calls P f #[.slice a 0 c, .string ⟨sep.toArray⟩] w fun e w' => e = .returned (.string ⟨#[]⟩) ∧ w' = w)
    (h : ∀ (bk o c : Nat) (w : World), (∀ (j : Nat) x, xs[j]? = some x → w.cell? ⟨bk, o + j, none⟩ = some (.string ⟨x.toArray⟩)) → bk < w.heap.size → xs.length ≤ c →
      Calls P f #[.slice (some ⟨bk, o, none⟩) xs.length c, .string ⟨sep.toArray⟩] w fun e w' => e = .returned (.string ⟨(Lib.join xs sep).toArray⟩) ∧ Below w.heap.size w w') :
    CallA P f [.ro (strs xs), .str sep] [] (Ret (.str (Lib.join xs sep)) []) := by
  intro E vs H hl hrv
  obtain ⟨v, u, rfl, hv, hu⟩ := RV.two hl hrv
  cases hu
  generalize hs : strs xs = l at hv
  cases hv with
  | roNil a cap =>
    have : xs = [] := by cases xs with | nil => rfl | cons _ _ => simp [strs] at hs
    subst this
    refine .inl ⟨hgo, (hnone a cap E.w).mono ?_⟩
    rintro ex w' ⟨rfl, rfl⟩
    exact ⟨_, rfl, .str [], [], E, rfl, ⟨rfl, rfl⟩, .str [], H, Fr.refl E _⟩
  | ro _ b off cap wd val hF hcap hmax hw hc hv =>
    subst hs
    have hlen : (strs xs).length = xs.length := strs_len xs
    refine .inl ⟨hgo, ?_⟩
    rw [hlen]
    refine (h b off cap E.w (fun j x hx => ?_) (H.old _ hF) (by omega)).mono ?_
    · have g1 : (strs xs)[j]? = some (.str x) := by simp [strs, hx]
      have hwd : wd = 1 := by have := hw j _ g1; simpa [AV.cells] using this.symm
      have g2 := hc j _ g1 0 _ rfl
      have g3 := hv j _ g1 0 _ rfl
      rw [hwd] at g2
      generalize val j 0 = vv at g2 g3
      cases g3
      simpa using g2
    · rintro ex w' ⟨rfl, bel⟩
      obtain ⟨H2, F2, _⟩ := H.extend (w' := w') bel.size bel.block bel.os bel.tape bel.output
      exact ⟨_, rfl, .str _, [], E.with _, rfl, ⟨rfl, rfl⟩, .str _, H2, F2 (Fr.refl E _)⟩
theorem laid_of_tabs {w : World} (h : ∀ t ∈ tables, (P.globalNamed t.1).isSome = true → Lib.TabIs P w t.1 t.2.1 t.2.2) (he : ∀ n ∈ errs, (P.globalNamed n).isSome = true → ∃ v, w.var? P n = some #[v] ∧ isErr v)
    (hi : ∀ n ∈ intVars, ∀ g, P.globalNamed n = some g → ∃ m, w.cell? ⟨g, 0, none⟩ = some (.int .i64 m)) : Laid P w fun c => c < w.heap.size := by
  refine ⟨fun t ht g hg => ?_, fun n hn g hg => ?_, fun n hn g hg => ?_⟩
  · have h1 := h t ht (by rw [hg]; rfl)
    simp only [Lib.TabIs, World.var?, hg, Option.bind_some] at h1
    split at h1
    · rename_i cs ty fr hx
      refine ⟨(Array.getElem?_eq_some_iff.1 hx).1, ty, fr, ?_⟩
      rw [hx]
      cases h1
      rfl
    · cases h1
  · obtain ⟨v, h1, h2⟩ := he n hn (by rw [hg]; rfl)
    simp only [World.var?, hg, Option.bind_some] at h1
    split at h1
    · rename_i cs ty fr hx
      refine ⟨(Array.getElem?_eq_some_iff.1 hx).1, v, ty, fr, ?_, h2⟩
      rw [hx]
      cases h1
      rfl
    · cases h1
  · obtain ⟨m, h1⟩ := hi n hn g hg
    unfold World.cell? at h1
    split at h1
    · rename_i cs ty fr hx
      exact ⟨(Array.getElem?_eq_some_iff.1 hx).1, m, cs, ty, fr, hx, by simpa using h1⟩
    · cases h1
theorem HRel.err {E : Env P} {hp : List Blk} (H : HRel E hp) {n : String} (hn : n ∈ errs) {g : Nat} (hg : P.globalNamed n = some g) : ∃ v, E.w.cell? ⟨g, 0, none⟩ = some v ∧ isErr v := by
  obtain ⟨_, v, ty, fr, h, h2⟩ := H.laid.2.1 _ hn g hg
  exact ⟨v, by simp [World.cell?, h], h2⟩
theorem HRel.intVar {E : Env P} {hp : List Blk} (H : HRel E hp) {n : String} (hn : n ∈ intVars) {g : Nat} (hg : P.globalNamed n = some g) : ∃ m, E.w.cell? ⟨g, 0, none⟩ = some (.int .i64 m) := by
  obtain ⟨_, m, cs, ty, fr, h, h2⟩ := H.laid.2.2 _ hn g hg
  exact ⟨m, by simp [World.cell?, h, h2]⟩
end Go.Abs
namespace Go.Abs
open Go
variable {P : Program}
structure LeHpW (N : Nat) (π : Nat → Nat) (n0 : Nat) (hp hp2 : List Blk) : Prop where
  len : hp2.length = N
  hn0 : n0 ≤ N
  low : ∀ b, b < n0 → π b = b
  inj : ∀ (b b' : Nat) r r', hp2[b]? = some r → r.live = true → hp2[b']? = some r' → r'.live = true → π b = π b' → b = b'
  blk : ∀ (b : Nat) r, hp2[b]? = some r → ∃ q, hp[π b]? = some q ∧ q.w = r.w ∧ (r.live = true → q.live = true ∧ q.ty = r.ty ∧ q.els = r.els.map (ren π) ∧ ∀ e ∈ r.els, below N e = true)
theorem LeHpW.sound {N : Nat} {π : Nat → Nat} {n0 : Nat} {hp hp2 : List Blk} (h : LeHpW N π n0 hp hp2) {E0 : Env P} {hp0 : List Blk} {E : Env P} (hn : hp0.length = n0) (H : HRel E hp) (F : Fr E0 hp0 E hp) : HRel (E.ren N π) hp2 ∧ Fr E0 hp0 (E.ren N π) hp2 := by
  have lt : ∀ (b : Nat) r, hp2[b]? = some r → b < N := fun b r hb => by rw [← h.len]; exact (List.getElem?_eq_some_iff.1 hb).1
  refine ⟨⟨h.len.symm, ?_, ?_, ?_, ?_, H.old, H.laid⟩, ?_⟩
  · intro b r hb
    obtain ⟨q, hq, hw, _⟩ := h.blk b r hb
    show E.wd (π b) = r.w
    rw [H.wd (π b) q hq, hw]
  · intro b r hb hl
    obtain ⟨q, hq, hw, hx⟩ := h.blk b r hb
    obtain ⟨hql, hty, hels, hbel⟩ := hx hl
    refine ⟨fun hw0 => ?_, fun hw0 => ?_⟩
    rotate_left
    · have := (H.holds (π b) q hq hql).map (hw.trans hw0)
      rw [hels] at this
      exact this.unmap (ren_still π)
    obtain ⟨cs, h1, h2⟩ := (H.holds (π b) q hq hql).cells (hw ▸ hw0)
    refine ⟨cs, by rw [← hty]; exact h1, fun i e he => ?_⟩
    have hbe := hbel e (List.mem_of_getElem? he)
    obtain ⟨k1, k2⟩ := ren_cells (π := π) hbe
    have hqe : q.els[i]? = some (Abs.ren π e) := by rw [hels]; simp [he]
    obtain ⟨h3, h4⟩ := h2 i _ hqe
    refine ⟨by rw [← hw, ← h3, k1], fun j c hc => ?_⟩
    obtain ⟨c', hc', k3⟩ := k2 j c hc
    obtain ⟨v, h5, h6⟩ := h4 j c' hc'
    exact ⟨v, by rw [← hw]; exact h5, k3 h6⟩
  · intro b b' r r' hb hl hb' hl' he
    obtain ⟨q, hq, _, hx⟩ := h.blk b r hb
    obtain ⟨q', hq', _, hx'⟩ := h.blk b' r' hb'
    exact h.inj b b' r r' hb hl hb' hl' (H.inj (π b) (π b') q q' hq (hx hl).1 hq' (hx' hl').1 he)
  · intro b r hb hl
    obtain ⟨q, hq, _, hx⟩ := h.blk b r hb
    exact H.apart (π b) q hq (hx hl).1
  · exact {
      size := F.size
      os := F.os
      tape := F.tape
      output := F.output
      block := F.block
      len := by rw [hn, h.len]; exact h.hn0
      ρ := fun b hb => by show E.ρ (π b) = _; rw [h.low b (by omega)]; exact F.ρ b hb
      wd := fun b hb => by show E.wd (π b) = _; rw [h.low b (by omega)]; exact F.wd b hb
      F := F.F
      F' := F.F'
      live := fun b ⟨r, hb, hl⟩ => by
        obtain ⟨q, hq, _, hx⟩ := h.blk b r hb
        have hlive := F.live (π b) ⟨q, hq, (hx hl).1⟩
        by_cases hbn : b < n0
        · rw [h.low b hbn] at hlive
          rcases hlive with h1 | ⟨h1, _⟩
          · exact .inl h1
          · omega
        · rcases hlive with ⟨h1, h2⟩ | ⟨_, h2⟩
          · exact .inr ⟨by omega, .inr ⟨π b, h2, (F.ρ (π b) h1).symm⟩⟩
          · exact .inr ⟨by omega, h2⟩
      csz := F.csz }
theorem weak_renW {n0 : Nat} {st st2 : St} (N : Nat) (π : Nat → Nat) (ht : LeTm N π st.tm st2.tm) (hh : LeHpW N π n0 st.hp st2.hp) : Weak n0 st st2 := by
  intro _ E0 hp0 E a hn hs
  obtain ⟨H, F⟩ := hh.sound hn hs.hr hs.fr
  refine ⟨E.ren N π, rfl, H, F, ht.len.symm.trans hs.len, fun i v u h1 h2 => ?_, hs.df⟩
  obtain ⟨v0, h3, h4⟩ := ht.get i v h1
  rcases h4 with rfl | ⟨rfl, hb⟩
  · exact .any _
  · exact RV.unren hb (hs.tm i _ u h3 h2)
theorem call_taken {f : FuncId} {fn : Func} {c : Code} {md : Nat → List Bool} {args : List AV} {hp : List Blk} {Q : AV → List Blk → Prop} (hm : P.follows .mixedOrders = true) (hf : P.funcs[f]? = some fn) (hb : fn.body = some c) (hgo : isGo P f) (hok : modesOk md c = true)
    (st2 : St) (hw : Weak hp.length ⟨args ++ List.replicate (fn.ntmps - args.length) .any, hp⟩ st2) (h : V P md hp.length c (retQ P fn hp.length Q) .mk st2) : CallA P f args hp Q := by
  refine callA_code hf hb hgo ?_
  refine code_weak hw ?_
  rw [V_def] at h
  exact vc_sound hm c st2 _ hok h
end Go.Abs
namespace Go.Abs
open Go
variable {P : Program}
theorem size_byts (s : List UInt8) : (⟨s.toArray⟩ : ByteArray).size = s.length := by simp [ByteArray.size]
def words (sep s : List UInt8) : List (List UInt8) := (Lib.splitB ⟨sep.toArray⟩ 0 (Lib.countB ⟨s.toArray⟩ ⟨sep.toArray⟩) ⟨s.toArray⟩).map (·.data.toList)
theorem words_len (sep s : List UInt8) (h1 : 1 ≤ sep.length) : (words sep s).length = Lib.countB ⟨s.toArray⟩ ⟨sep.toArray⟩ + 1 := by
  unfold words
  rw [List.length_map]
  exact Lib.splitB_all ⟨sep.toArray⟩ (by rw [size_byts]; exact h1) 0 _ _ rfl
theorem words_le (sep s : List UInt8) (h1 : 1 ≤ sep.length) : (words sep s).length ≤ s.length + 1 := by
  rw [words_len sep s h1]
  have := Lib.countB_le ⟨sep.toArray⟩ (by rw [size_byts]; exact h1) _ ⟨s.toArray⟩ (Nat.le_refl _)
  rw [size_byts] at this
  omega
theorem str_of (b : ByteArray) {E : Env P} : RV E (.str b.data.toList) (.string b) := RV.str b.data.toList
theorem split_call' {f : FuncId} (hgo : isGo P f) {g : Nat} (hg : P.globalNamed "internal/bytealg.MaxLen" = some g) {t : TypeId} (s sep : List UInt8) (h1 : 1 ≤ sep.length) (hs : s.length ≤ 4294967280)
    (h : ∀ (m : Int) (w : World), w.cell? ⟨g, 0, none⟩ = some (.int .i64 m) → Calls P f #[.string ⟨s.toArray⟩, .string ⟨sep.toArray⟩] w fun e w' =>
      e = .returned (.slice (some ⟨w.heap.size, 0, none⟩) (Lib.countB ⟨s.toArray⟩ ⟨sep.toArray⟩ + 1) (Lib.countB ⟨s.toArray⟩ ⟨sep.toArray⟩ + 1)) ∧ w' = w.alloc (.cells ((Lib.splitB ⟨sep.toArray⟩ 0 (Lib.countB ⟨s.toArray⟩ ⟨sep.toArray⟩) ⟨s.toArray⟩).map Value.string).toArray t)) :
    CallA P f [.str s, .str sep] [] (Ret (.ro (strs (words sep s))) []) := by
  intro E vs H hl hrv
  obtain ⟨v, u, rfl, hv, hu⟩ := RV.two hl hrv
  cases hv
  cases hu
  obtain ⟨m, hm⟩ := H.intVar (n := "internal/bytealg.MaxLen") (by simp [intVars]) hg
  refine .inl ⟨hgo, (h m E.w hm).mono ?_⟩
  rintro ex w' ⟨rfl, rfl⟩
  have wl := words_len sep s h1
  have wle := words_le sep s h1
  rw [← wl]
  generalize hb : Lib.splitB ⟨sep.toArray⟩ 0 (Lib.countB ⟨s.toArray⟩ ⟨sep.toArray⟩) ⟨s.toArray⟩ = bs
  have hw : words sep s = bs.map (·.data.toList) := by unfold words; rw [hb]
  have hnew : (E.w.alloc (.cells (bs.map Value.string).toArray t)).heap[E.w.heap.size]? = some (.cells (bs.map Value.string).toArray t) := by
    show (E.w.heap.push _)[E.w.heap.size]? = _
    rw [Array.getElem?_push, if_pos rfl]
  have hold : ∀ c, c < E.w.heap.size → (E.w.alloc (.cells (bs.map Value.string).toArray t)).heap[c]? = E.w.heap[c]? := fun c hc => by
    simp only [World.alloc]
    rw [Array.getElem?_push, if_neg (by omega)]
  obtain ⟨H2, F2, _⟩ := H.extend (w' := E.w.alloc (.cells (bs.map Value.string).toArray t)) (by show _ ≤ (E.w.heap.push _).size; rw [Array.size_push]; omega) hold rfl rfl rfl
  have F3 := F2 (Fr.refl E _)
  refine ⟨_, rfl, _, [], { E.with (E.w.alloc (.cells (bs.map Value.string).toArray t)) with F := fun c => E.F c ∨ c = E.w.heap.size }, rfl, ⟨rfl, rfl⟩, ?_, ?_, ?_⟩
  · have hsl : (strs (words sep s)).length = (words sep s).length := strs_len _
    rw [← hsl]
    refine .ro _ _ 0 _ 1 (fun i _ => .string ((bs[i]?).getD ⟨#[]⟩)) (.inr rfl) (Nat.le_refl _) (by rw [hsl]; unfold maxLen; omega) (fun i e he => ?_) (fun i e he j c hc => ?_) (fun i e he j c hc => ?_)
    · unfold strs at he
      rw [List.getElem?_map, Option.map_eq_some_iff] at he
      obtain ⟨x, _, rfl⟩ := he
      rfl
    · have he' : i < bs.length := by
        have := (List.getElem?_eq_some_iff.1 he).1
        rw [hsl, hw, List.length_map] at this
        exact this
      unfold strs at he
      rw [List.getElem?_map, Option.map_eq_some_iff] at he
      obtain ⟨x, _, rfl⟩ := he
      match j with
      | 0 =>
        show World.cell? (E.w.alloc _) ⟨E.w.heap.size, 0 + i * 1 + 0, none⟩ = _
        simp only [World.cell?, hnew]
        simp [List.getElem?_eq_getElem he']
      | j + 1 => simp [AV.cells] at hc
    · have he' : i < bs.length := by
        have := (List.getElem?_eq_some_iff.1 he).1
        rw [hsl, hw, List.length_map] at this
        exact this
      unfold strs at he
      rw [List.getElem?_map, Option.map_eq_some_iff] at he
      obtain ⟨x, hx, rfl⟩ := he
      rw [hw, List.getElem?_map, List.getElem?_eq_getElem he'] at hx
      have hx : bs[i].data.toList = x := by simpa using hx
      match j with
      | 0 =>
        have hc : AV.str x = c := by simpa [AV.cells] using hc
        subst hc
        rw [List.getElem?_eq_getElem he', ← hx]
        exact str_of _
      | j + 1 => simp [AV.cells] at hc
  · exact ⟨H2.N, H2.wd, fun b blk hb => by simp at hb, fun b b' blk blk' hb => by simp at hb, fun b blk hb => by simp at hb, fun c hc => by
      rcases hc with hc | rfl
      · exact H2.old c hc
      · show _ < (E.w.heap.push _).size
        rw [Array.size_push]; omega, H2.laid.keep (fun c hc => .inl hc) (fun _ _ => rfl)⟩
  · exact { size := F3.size, os := F3.os, tape := F3.tape, output := F3.output, block := F3.block, len := F3.len, ρ := F3.ρ, wd := F3.wd, F := fun c hc => .inl hc
            F' := fun c hc => by
              rcases hc with hc | rfl
              · exact .inl hc
              · exact .inr (.inl (Nat.le_refl _))
            live := fun b hb => by obtain ⟨blk, hb, _⟩ := hb; simp at hb
            csz := F3.csz }
end Go.Abs
namespace Go.Abs
open Go
variable {P : Program}
def nilD : Nat → AV → AV
  | 0, a => a
  | d + 1, a => match a with
    | .nils => .ro []
    | .agg l => .agg (l.map (nilD d))
    | .tup l => .tup (l.map (nilD d))
    | .ro l => .ro (l.map (nilD d))
    | .rop l => .rop (l.map (nilD d))
    | a => a
theorem nilD_cells (d : Nat) (e : AV) : (nilD d e).cells.length = e.cells.length ∧ ∀ (j : Nat) c, (nilD d e).cells[j]? = some c → ∃ d' c0, e.cells[j]? = some c0 ∧ d' ≤ d ∧ c = nilD d' c0 := by
  cases d with
  | zero => exact ⟨rfl, fun j c h => ⟨0, c, h, Nat.le_refl _, rfl⟩⟩
  | succ d =>
    cases e with
    | agg l =>
      refine ⟨by simp [nilD, AV.cells], fun j c h => ?_⟩
      simp only [nilD, AV.cells, List.getElem?_map, Option.map_eq_some_iff] at h
      obtain ⟨c0, h1, rfl⟩ := h
      exact ⟨d, c0, h1, Nat.le_succ _, rfl⟩
    | _ =>
      refine ⟨rfl, fun j c h => ?_⟩
      cases j with
      | zero => cases h; exact ⟨d + 1, _, rfl, Nat.le_refl _, rfl⟩
      | succ j => cases h
theorem RV.nil : ∀ (d : Nat) {E : Env P} {a : AV} {v : Value}, RV E a v → RV E (nilD d a) v := by
  intro d
  induction d using Nat.strongRecOn with
  | _ d ih =>
  intro E a v h
  match d, ih with
  | 0, _ => exact h
  | d + 1, ih =>
  cases h with
  | nils a => exact .roNil a 0
  | roNil a cap => exact .roNil a cap
  | agg l vs hl h =>
    refine .agg _ vs (by rw [List.length_map]; exact hl) fun i x v h1 h2 => ?_
    rw [List.getElem?_map, Option.map_eq_some_iff] at h1
    obtain ⟨y, h3, rfl⟩ := h1
    exact ih d (by omega) (h i y v h3 h2)
  | tup l vs hl h =>
    refine .tup _ vs (by rw [List.length_map]; exact hl) fun i x v h1 h2 => ?_
    rw [List.getElem?_map, Option.map_eq_some_iff] at h1
    obtain ⟨y, h3, rfl⟩ := h1
    exact ih d (by omega) (h i y v h3 h2)
  | ro l b off cap wd val hF hcap hmax hw hc hv =>
    have hlen : (l.map (nilD d)).length = l.length := List.length_map _
    show RV E (.ro (l.map (nilD d))) _
    rw [← hlen]
    refine .ro _ b off cap wd val hF (by rw [hlen]; exact hcap) hmax (fun i e he => ?_) (fun i e he j c hj => ?_) (fun i e he j c hj => ?_)
    all_goals
      rw [List.getElem?_map, Option.map_eq_some_iff] at he
      obtain ⟨e0, h1, rfl⟩ := he
    · rw [(nilD_cells d e0).1]; exact hw i e0 h1
    · obtain ⟨d', c0, h2, _, _⟩ := (nilD_cells d e0).2 j c hj
      exact hc i e0 h1 j c0 h2
    · obtain ⟨d', c0, h2, h3, rfl⟩ := (nilD_cells d e0).2 j c hj
      exact ih d' (by omega) (hv i e0 h1 j c0 h2)
  | any v => exact .any v
  | bool b => exact .bool b
  | int k n => exact .int k n
  | flt k x b h => exact .flt k x b h
  | cpx k x y a b h h' => exact .cpx k x y a b h h'
  | str s => exact .str s
  | sl b i n off cap hb ho hcap hmax hroom hw => exact .sl b i n off cap hb ho hcap hmax hroom hw
  | ptr b i j hb hw => exact .ptr b i j hb hw
  | mp b hb => exact .mp b hb
  | romNil => exact .romNil
  | rom l r hF hm => exact .rom l r hF hm
  | rop l b off val hF hc hv =>
    refine .rop _ b off val hF (fun j c hj => ?_) (fun j c hj => ?_)
    all_goals
      rw [List.getElem?_map, Option.map_eq_some_iff] at hj
      obtain ⟨c0, h1, rfl⟩ := hj
    · exact hc j c0 h1
    · exact ih d (by omega) (hv j c0 h1)
  | nilp => exact .nilp
  | fn f l vs hl h => exact .fn f l vs hl h
  | mv f l vs hl h => exact .mv f l vs hl h
  | nilf => exact .nilf
  | nili => exact .nili
theorem CallA.nilR (d : Nat) {f : FuncId} {args : List AV} {hp hp' : List Blk} {r r2 : AV} (hr : nilD d r = r2) (h : CallA P f args hp (Ret r hp')) : CallA P f args hp (Ret r2 hp') := by
  subst hr
  intro E vs H hl hrv
  refine (h E vs H hl hrv).mono ?_
  rintro v w' ⟨r', hp'', E', hw, ⟨rfl, rfl⟩, hv, H', F'⟩
  exact ⟨_, _, E', hw, ⟨rfl, rfl⟩, hv.nil d, H', F'⟩
section
variable {f : FuncId} {args : List AV} {hp : List Blk} {Q : AV → List Blk → Prop} {t : Tok Q} {g : AV → Prop} {u : Tok g}
end
end Go.Abs
namespace Go.Abs
open Go
variable {P : Program}
def ordB (P : Program) (b0 : Nat) (n0 : Nat) (ops : List Oper) (ms bls : List Bool) (K : St → Prop) : List Nat → St → Prop
  | [], st => K st
  | k :: r, st => ∃ o, ops[k]? = some o ∧
    if ms.getD k true then wantedA ops o st = some true ∧ ∃ g : AV → List Blk → Option Nat → Prop, opA P n0 o.op st.ev st.hp g ∧ ∀ v hp' kb, g v hp' kb → ordB P b0 n0 ops ms bls K r ((st.after hp' kb).put o.dst v)
    else ∃ v, yA P ops o st v ∧ (bls.getD k false = true → ∀ q, yA P ops o (st.after (st.hp.set b0 q) none) v) ∧ ordB P b0 n0 ops ms bls K r (st.put o.dst v)
def Ol (P : Program) (b0 : Nat) (n0 : Nat) (ops : List Oper) (ms bls : List Bool) (K : St → Prop) (ord : List Nat) (_t : Tok (ops, ord, K)) (st : St) : Prop := ordB P b0 n0 ops ms bls K ord st
section
variable {b0 : Nat} {n0 : Nat} {ops : List Oper} {ms bls : List Bool} {K : St → Prop} {k : Nat} {r : List Nat} {st : St} {t : Tok (ops, k :: r, K)} {o : Oper}
end
attribute [irreducible] Ol
end Go.Abs
namespace Go.Abs
open Go
section
variable {P : Program}
end
section
variable {P : Program} {b0 : Nat} {n0 : Nat} {ops : List Oper} {ms bls : List Bool} {K : St → Prop} {k : Nat} {r : List Nat} {st : St} {t : Tok (ops, k :: r, K)} {o : Oper}
end
variable {P : Program}
end Go.Abs
namespace Go.Abs
open Go
variable {P : Program}
section
variable {P : Program}
def stepM (P : Program) (n0 : Nat) (ops : List Oper) (ms : List Nat) (bks : List (Option Nat)) (Hs Hw : List Blk → Prop) (i : Nat) (K : St → Prop) (st : St) : Prop :=
  match ops[i]? with
  | none => K st
  | some o => o.guard = none ∧ match ms.getD i 1 with
    | 0 | 3 | 5 => ∃ v, Yields P o st.ev st.hp v ∧ K (st.put o.dst v)
    | 4 => ∃ g : AV → List Blk → Option Nat → Prop, opA P n0 o.op st.ev st.hp g ∧ ∀ v hp' kb, g v hp' kb → (kb = none ∨ kb = bks.getD i none) ∧ Hw hp' ∧ K ((st.after hp' kb).put o.dst v)
    | 2 => ∃ g : AV → List Blk → Option Nat → Prop, opA P n0 o.op st.ev st.hp g ∧ ∀ v hp' kb, g v hp' kb → (kb = none ∨ kb = bks.getD i none) ∧ Hs hp' ∧ K ((st.after hp' kb).put o.dst v)
    | _ => ∃ k : AV → List Blk → Option Nat → Prop, opA P n0 o.op st.ev st.hp k ∧ ∀ v hp' kb, k v hp' kb → K ((st.after hp' kb).put o.dst v)
def anyM (P : Program) (n0 : Nat) (ops : List Oper) (ms : List Nat) (bks : List (Option Nat)) (Hs Hw : List Blk → Prop) (K : St → Prop) : Nat → Array Bool → St → Prop
  | 0, listed, st => Region.ready .any ops.toArray listed = [] ∧ K st
  | fuel + 1, listed, st =>
    (Region.ready .any ops.toArray listed = [] → K st) ∧ ∀ i ∈ Region.ready .any ops.toArray listed, stepM P n0 ops ms bks Hs Hw i (anyM P n0 ops ms bks Hs Hw K fuel (listed.setIfInBounds i true)) st
def boolM3 (ms : List Nat) : List Bool := ms.map fun m => m != 0 && m != 3 && m != 5
theorem boolM3_get (ms : List Nat) (i : Nat) : (boolM3 ms).getD i true = (ms.getD i 1 != 0 && ms.getD i 1 != 3 && ms.getD i 1 != 5) := by
  simp only [boolM3, List.getD_eq_getElem?_getD, List.getElem?_map]
  cases ms[i]? <;> rfl
theorem stepM_stepA {n0 : Nat} {ops : List Oper} {ms : List Nat} {bks : List (Option Nat)} {Hs Hw : List Blk → Prop} {i : Nat} {K K' : St → Prop} {st : St} (hK : ∀ st, K st → K' st) (h : stepM P n0 ops ms bks Hs Hw i K st) : stepA P n0 ops (boolM3 ms) i K' st := by
  unfold stepM at h
  unfold stepA
  cases ho : ops[i]? with
  | none => rw [ho] at h; exact hK _ h
  | some o =>
    rw [ho] at h
    obtain ⟨hg, h⟩ := h
    have hw : wantedA ops o st = some true := by simp [wantedA, hg]
    simp only [boolM3_get]
    split at h
    · rename_i h0
      rw [h0]
      obtain ⟨v, hy, hk⟩ := h
      simp only [bne_self_eq_false, Bool.false_and, Bool.false_eq_true, if_false]
      exact ⟨v, .inl ⟨hw, hy⟩, hK _ hk⟩
    · rename_i h0
      rw [h0]
      obtain ⟨v, hy, hk⟩ := h
      simp only [bne_self_eq_false, Bool.and_false, Bool.false_and, Bool.false_eq_true, if_false]
      exact ⟨v, .inl ⟨hw, hy⟩, hK _ hk⟩
    · rename_i h0
      rw [h0]
      obtain ⟨v, hy, hk⟩ := h
      simp only [bne_self_eq_false, Bool.and_false, Bool.false_eq_true, if_false]
      exact ⟨v, .inl ⟨hw, hy⟩, hK _ hk⟩
    · rename_i h0
      rw [h0]
      obtain ⟨g, hop, hk⟩ := h
      simp only [show ((4 : Nat) != 0 && (4 : Nat) != 3 && (4 : Nat) != 5) = true from rfl, if_true]
      exact .inl ⟨hw, g, hop, fun v hp' kb hv => hK _ (hk v hp' kb hv).2.2⟩
    · rename_i h0
      rw [h0]
      obtain ⟨g, hop, hk⟩ := h
      simp only [show ((2 : Nat) != 0 && (2 : Nat) != 3 && (2 : Nat) != 5) = true from rfl, if_true]
      exact .inl ⟨hw, g, hop, fun v hp' kb hv => hK _ (hk v hp' kb hv).2.2⟩
    · rename_i h0 h3 h5 h4 h2
      have : (ms.getD i 1 != 0 && ms.getD i 1 != 3 && ms.getD i 1 != 5) = true := by rw [bne_iff_ne.2 h0, bne_iff_ne.2 h3, bne_iff_ne.2 h5]; rfl
      rw [this]
      obtain ⟨k, hop, hk⟩ := h
      simp only [if_true]
      exact .inl ⟨hw, k, hop, fun v hp' kb hv => hK _ (hk v hp' kb hv)⟩
theorem anyM_anyA {n0 : Nat} {ops : List Oper} {ms : List Nat} {bks : List (Option Nat)} {Hs Hw : List Blk → Prop} {K : St → Prop} : ∀ (fuel : Nat) (listed : Array Bool) (st : St), anyM P n0 ops ms bks Hs Hw K fuel listed st → anyA P n0 ops (boolM3 ms) K fuel listed st
  | 0, listed, st, h => h
  | fuel + 1, listed, st, h => ⟨h.1, fun i hi => stepM_stepA (fun st' h' => anyM_anyA fuel _ st' h') (h.2 i hi)⟩
def FreeM (ops : List Oper) (ms : List Nat) (bks : List (Option Nat)) (fx : List Nat) (listed : Array Bool) (i : Nat) (oi : Oper) : Prop :=
  ∃ D : List Nat, Waits ops listed i D ∧ ∀ j oj, ops[j]? = some oj → j ≠ i → listed.getD j true = false → j ∉ D → (∀ e ∈ oj.after, Region.binds .any e = true → e.on ≠ i) →
    oi.apart ops.toArray oj = true ∧ ((ms.getD j 1 = 0 ∨ ms.getD j 1 = 3 ∨ ms.getD j 1 = 5) ∨ ((ms.getD i 1 ≠ 3 ∧ ms.getD j 1 = 2 ∨ ms.getD i 1 = 5 ∧ ms.getD j 1 = 4) ∧ ∀ b, bks.getD j none = some b → b ∈ fx))
def Fixed (fx : List Nat) (v : AV) : Prop := ∀ b ∈ fx, kill b v = v
theorem getD_map_kill (b : Nat) (l : List AV) (t : Nat) : (l.map (kill b)).getD t .any = kill b (l.getD t .any) := by
  simp only [List.getD_eq_getElem?_getD, List.getElem?_map]
  cases l[t]? <;> rfl
theorem St.ev_after_fixed (st : St) (hp : List Blk) {kb : Option Nat} {x : Operand} (h : ∀ b, kb = some b → kill b (st.ev x) = st.ev x) : (st.after hp kb).ev x = st.ev x := by
  cases kb with
  | none => exact St.ev_after st hp x
  | some b =>
    cases x with
    | tmp t =>
      show (st.tm.map (kill b)).getD t .any = _
      rw [getD_map_kill]
      exact h b rfl
    | _ => rfl
theorem put_after_fixed (st : St) (hp : List Blk) (kb : Option Nat) (d : Option Tmp) {v : AV} (h : ∀ b, kb = some b → kill b v = v) : (st.put d v).after hp kb = (st.after hp kb).put d v := by
  cases kb with
  | none => exact put_after st hp d v
  | some b =>
    cases d with
    | none => rfl
    | some t =>
      simp only [St.put, St.after, List.map_set]
      rw [h b rfl]
theorem after_hpM (st : St) (hp : List Blk) (kb : Option Nat) : (st.after hp kb).hp = hp := by cases kb <;> rfl
theorem anyM_first {n0 : Nat} {ops : List Oper} {ms : List Nat} {bks : List (Option Nat)} {fx : List Nat} {Hs Hw : List Blk → Prop} {K : St → Prop} {i : Nat} {oi : Oper} {v : AV} (hi : ops[i]? = some oi) (hm : ms.getD i 1 = 0 ∨ ms.getD i 1 = 3 ∨ ms.getD i 1 = 5) (hgi : oi.guard = none) (hv : Fixed fx v) :
    ∀ (fuel : Nat) (listed : Array Bool) (st : St), FreeM ops ms bks fx listed i oi → i ∈ Region.ready .any ops.toArray listed → (∀ hp, (hp = st.hp ∨ (ms.getD i 1 ≠ 3 ∧ Hs hp) ∨ (ms.getD i 1 = 5 ∧ Hw hp)) → Yields P oi st.ev hp v) → (∀ x ∈ oi.op.operands, Fixed fx (st.ev x)) →
      anyM P n0 ops ms bks Hs Hw K fuel (listed.setIfInBounds i true) (st.put oi.dst v) → anyM P n0 ops ms bks Hs Hw K (fuel + 1) listed st := by
  have self : ∀ (fuel : Nat) (listed : Array Bool) (st : St), Yields P oi st.ev st.hp v → anyM P n0 ops ms bks Hs Hw K fuel (listed.setIfInBounds i true) (st.put oi.dst v) → stepM P n0 ops ms bks Hs Hw i (anyM P n0 ops ms bks Hs Hw K fuel (listed.setIfInBounds i true)) st := by
    intro fuel listed st hy H
    unfold stepM
    simp only [hi]
    rcases hm with hm | hm | hm <;> rw [hm] <;> exact ⟨hgi, v, hy, H⟩
  intro fuel
  induction fuel with
  | zero =>
    intro listed st _ hr hy hx H
    refine ⟨fun h => (by rw [h] at hr; cases hr), fun j hj => ?_⟩
    by_cases hji : j = i
    · subst hji; exact self 0 listed st (hy _ (.inl rfl)) H
    · have := ready_mono hj hji
      rw [H.1] at this
      cases this
  | succ fuel ih =>
    intro listed st hfree hr hy hx H
    refine ⟨fun h => (by rw [h] at hr; cases hr), fun j hj => ?_⟩
    by_cases hji : j = i
    · subst hji; exact self _ listed st (hy _ (.inl rfl)) H
    · have h1 := H.2 j (ready_mono hj hji)
      obtain ⟨hjun, oj, hoj, hall⟩ := mem_ready.1 hj
      have hoj' : ops[j]? = some oj := by simpa using hoj
      have hnot : ∀ e ∈ oj.after, Region.binds .any e = true → e.on ≠ i := fun e he hb heq => by
        have h1 := hall e he hb
        have h0 := (mem_ready.1 hr).1
        rw [heq] at h1
        rcases Nat.lt_or_ge i listed.size with h' | h'
        · simp [h'] at h0 h1; rw [h0] at h1; cases h1
        · simp [Array.getElem?_eq_none h'] at h1
      obtain ⟨D, hwait, hfree⟩ := hfree
      have hjD : j ∉ D := fun hD => by
        obtain ⟨_, oj', hoj'', e, he, hb, hc⟩ := hwait j hD
        have : oj' = oj := by rw [hoj'] at hoj''; cases hoj''; rfl
        subst this
        rcases hc with hc | hc
        · exact hnot e he hb hc
        · have h1 := hall e he hb
          have h0 := (hwait e.on hc).1
          rcases Nat.lt_or_ge e.on listed.size with h' | h'
          · simp [h'] at h0 h1; rw [h0] at h1; cases h1
          · simp [Array.getElem?_eq_none h'] at h1
      obtain ⟨hap, hmj⟩ := hfree j oj hoj' hji hjun hjD hnot
      obtain ⟨a1, a2, a3⟩ := Oper.apart_spec hap
      have hfree' : FreeM ops ms bks fx (listed.setIfInBounds j true) i oi := ⟨D, fun d hd => by
        have hne : j ≠ d := fun h => hjD (h ▸ hd)
        obtain ⟨w1, w2⟩ := hwait d hd
        exact ⟨by rw [getD_set_ne true hne]; exact w1, w2⟩, fun k ok hk hki hun hkD hno => by
        refine hfree k ok hk hki ?_ hkD hno
        by_cases hjk : j = k
        · subst hjk; exact hjun
        · rw [getD_set_ne true hjk] at hun; exact hun⟩
      unfold stepM at h1 ⊢
      simp only [hoj'] at h1 ⊢
      obtain ⟨hgj, h1⟩ := h1
      refine ⟨hgj, ?_⟩
      have evj : ∀ x ∈ oj.op.operands, (st.put oi.dst v).ev x = st.ev x := ev_apart (ops := ops) a1
      rcases hmj with hmj | ⟨hmj, hbk⟩
      · have h1' : ∃ u, Yields P oj (st.put oi.dst v).ev (st.put oi.dst v).hp u ∧ anyM P n0 ops ms bks Hs Hw K fuel ((listed.setIfInBounds i true).setIfInBounds j true) ((st.put oi.dst v).put oj.dst u) := by
          rcases hmj with hmj | hmj | hmj <;> simp only [hmj] at h1 <;> exact h1
        suffices h2 : ∃ u, Yields P oj st.ev st.hp u ∧ anyM P n0 ops ms bks Hs Hw K (fuel + 1) (listed.setIfInBounds j true) (st.put oj.dst u) by
          rcases hmj with hmj | hmj | hmj <;> simp only [hmj] <;> exact h2
        clear h1
        have h1 := h1'
        obtain ⟨u, hu, hK⟩ := h1
        rw [put_hp] at hu
        refine ⟨u, hu.congr evj, ?_⟩
        have ex : ∀ x ∈ oi.op.operands, (st.put oj.dst u).ev x = st.ev x := fun x hx' => ev_apart (ops := ops) a3 x hx'
        refine ih (listed.setIfInBounds j true) (st.put oj.dst u) hfree' (ready_mono hr (Ne.symm hji)) (fun hp hh => (hy hp (by rw [put_hp] at hh; exact hh)).congr fun x hx' => (ex x hx').symm) (fun x hx' => by rw [ex x hx']; exact hx x hx') ?_
        rw [Array.setIfInBounds_comm _ _ hji, St.put_comm st u v (fun d hd he => a2 d he hd)]
        exact hK
      · have fin : ∀ (u : AV) (hp' : List Blk) (kb : Option Nat), (kb = none ∨ kb = bks.getD j none) → ((ms.getD i 1 ≠ 3 ∧ Hs hp') ∨ (ms.getD i 1 = 5 ∧ Hw hp')) → anyM P n0 ops ms bks Hs Hw K fuel ((listed.setIfInBounds i true).setIfInBounds j true) (((st.put oi.dst v).after hp' kb).put oj.dst u) → anyM P n0 ops ms bks Hs Hw K (fuel + 1) (listed.setIfInBounds j true) ((st.after hp' kb).put oj.dst u) := by
          intro u hp' kb hkb hh hK
          have hkf : ∀ w, Fixed fx w → ∀ b, kb = some b → kill b w = w := fun w hw b hb => by
            rcases hkb with h | h
            · rw [h] at hb; cases hb
            · exact hw b (hbk b (by rw [← h]; exact hb))
          have ex : ∀ x ∈ oi.op.operands, ((st.after hp' kb).put oj.dst u).ev x = st.ev x := fun x hx' => by
            rw [ev_apart (ops := ops) a3 x hx']
            exact St.ev_after_fixed st hp' (hkf _ (hx x hx'))
          refine ih (listed.setIfInBounds j true) ((st.after hp' kb).put oj.dst u) hfree' (ready_mono hr (Ne.symm hji)) (fun hp hh' => (hy hp (.inr (by
            rcases hh' with h | h
            · rw [h, put_hp, after_hpM]; exact hh
            · exact h))).congr fun x hx' => (ex x hx').symm) (fun x hx' => by rw [ex x hx']; exact hx x hx') ?_
          rw [Array.setIfInBounds_comm _ _ hji, St.put_comm _ u v (fun d hd he => a2 d he hd), ← put_after_fixed st hp' kb oi.dst (hkf _ hv)]
          exact hK
        rcases hmj with ⟨hm3, hmj⟩ | ⟨hm5, hmj⟩
        · simp only [hmj] at h1 ⊢
          obtain ⟨g, hop, hK⟩ := h1
          rw [put_hp] at hop
          refine ⟨g, opA_congr evj hop, fun u hp' kb hq => ?_⟩
          obtain ⟨hkb, hh, hK⟩ := hK u hp' kb hq
          exact ⟨hkb, hh, fin u hp' kb hkb (.inl ⟨hm3, hh⟩) hK⟩
        · simp only [hmj] at h1 ⊢
          obtain ⟨g, hop, hK⟩ := h1
          rw [put_hp] at hop
          refine ⟨g, opA_congr evj hop, fun u hp' kb hq => ?_⟩
          obtain ⟨hkb, hw, hK⟩ := hK u hp' kb hq
          exact ⟨hkb, hw, fin u hp' kb hkb (.inr ⟨hm5, hw⟩) hK⟩
def freeMB (ops : Array Oper) (ms : List Nat) (bks : List (Option Nat)) (fx : List Nat) (listed : Array Bool) (k : Nat) : Bool :=
  match ops[k]? with
  | none => false
  | some o => lateOk ops listed k (lateOf ops listed k) && (List.range ops.size).all fun j =>
    j == k || listed.getD j true || (lateOf ops listed k).contains j ||
    match ops[j]? with
    | none => true
    | some oj => (oj.after.any fun e => Region.binds .any e && e.on == k) || (o.apart ops oj && ((ms.getD j 1 == 0 || (ms.getD j 1 == 3 || ms.getD j 1 == 5)) || ((ms.getD k 1 != 3 && ms.getD j 1 == 2 || ms.getD k 1 == 5 && ms.getD j 1 == 4) && match bks.getD j none with
      | none => true
      | some b => fx.contains b)))
theorem freeMB_spec {ops : List Oper} {ms : List Nat} {bks : List (Option Nat)} {fx : List Nat} {listed : Array Bool} {k : Nat} {o : Oper} (hk : ops[k]? = some o) (h : freeMB ops.toArray ms bks fx listed k = true) : FreeM ops ms bks fx listed k o := by
  unfold freeMB at h
  have hk' : ops.toArray[k]? = some o := by simpa using hk
  rw [hk'] at h
  simp only [Bool.and_eq_true] at h
  refine ⟨_, lateOk_spec h.1, ?_⟩
  have h := h.2
  intro j oj hoj hjk hun hD hno
  simp only [List.all_eq_true, List.mem_range] at h
  have hj : j < ops.toArray.size := by
    have := (List.getElem?_eq_some_iff.1 hoj).1
    simpa using this
  have h1 := h j hj
  have hoj' : ops.toArray[j]? = some oj := by simpa using hoj
  rw [hoj', hun] at h1
  have hjk' : (j == k) = false := by simpa using hjk
  have hD' : (lateOf ops.toArray listed k).contains j = false := by simpa using hD
  rw [hjk', hD'] at h1
  simp only [Bool.false_or, Bool.or_eq_true, Bool.and_eq_true, beq_iff_eq, bne_iff_ne] at h1
  rcases h1 with h1 | ⟨h1, h2⟩
  · exfalso
    rw [Array.any_eq_true] at h1
    obtain ⟨m, hm, he⟩ := h1
    simp only [Bool.and_eq_true, beq_iff_eq] at he
    exact hno _ (Array.getElem_mem hm) he.1 he.2
  · refine ⟨h1, h2.imp id fun ⟨h3, h4⟩ => ⟨h3, fun b hb => ?_⟩⟩
    rw [hb] at h4
    simpa using h4
def ordOkM (ops : Array Oper) (ms : List Nat) (bks : List (Option Nat)) (fx : List (List Nat)) : List Nat → Array Bool → Bool
  | [], listed => (Region.ready .any ops listed).isEmpty
  | k :: r, listed => (if ms.getD k 1 == 0 || (ms.getD k 1 == 3 || ms.getD k 1 == 5) then (Region.ready .any ops listed).contains k && freeMB ops ms bks (fx.getD k []) listed k else Region.ready .any ops listed == [k]) && ordOkM ops ms bks fx r (listed.setIfInBounds k true)
def ordM (P : Program) (n0 : Nat) (ops : List Oper) (ms : List Nat) (bks : List (Option Nat)) (fx : List (List Nat)) (Hs Hw : List Blk → Prop) (K : St → Prop) : List Nat → St → Prop
  | [], st => K st
  | k :: r, st => ∃ o, ops[k]? = some o ∧ o.guard = none ∧ match ms.getD k 1 with
    | 0 => ∃ v, Hs st.hp ∧ (∀ hp, Hs hp → Yields P o st.ev hp v) ∧ (Fixed (fx.getD k []) v ∧ ∀ x ∈ o.op.operands, Fixed (fx.getD k []) (st.ev x)) ∧ ordM P n0 ops ms bks fx Hs Hw K r (st.put o.dst v)
    | 3 => ∃ v, Yields P o st.ev st.hp v ∧ fx.getD k [] = [] ∧ ordM P n0 ops ms bks fx Hs Hw K r (st.put o.dst v)
    | 5 => ∃ v, Hw st.hp ∧ (∀ hp, Hw hp → Yields P o st.ev hp v) ∧ (Fixed (fx.getD k []) v ∧ ∀ x ∈ o.op.operands, Fixed (fx.getD k []) (st.ev x)) ∧ ordM P n0 ops ms bks fx Hs Hw K r (st.put o.dst v)
    | 4 => ∃ g : AV → List Blk → Option Nat → Prop, opA P n0 o.op st.ev st.hp g ∧ ∀ v hp' kb, g v hp' kb → (kb = none ∨ kb = bks.getD k none) ∧ Hw hp' ∧ ordM P n0 ops ms bks fx Hs Hw K r ((st.after hp' kb).put o.dst v)
    | 2 => ∃ g : AV → List Blk → Option Nat → Prop, opA P n0 o.op st.ev st.hp g ∧ ∀ v hp' kb, g v hp' kb → (kb = none ∨ kb = bks.getD k none) ∧ Hs hp' ∧ ordM P n0 ops ms bks fx Hs Hw K r ((st.after hp' kb).put o.dst v)
    | _ => ∃ g : AV → List Blk → Option Nat → Prop, opA P n0 o.op st.ev st.hp g ∧ ∀ v hp' kb, g v hp' kb → ordM P n0 ops ms bks fx Hs Hw K r ((st.after hp' kb).put o.dst v)
theorem anyM_ord {n0 : Nat} {ops : List Oper} {ms : List Nat} {bks : List (Option Nat)} {fx : List (List Nat)} {Hs Hw : List Blk → Prop} {K : St → Prop} (hsw : ∀ hp, Hs hp → Hw hp) : ∀ (ord : List Nat) (listed : Array Bool) (st : St), ordOkM ops.toArray ms bks fx ord listed = true → ordM P n0 ops ms bks fx Hs Hw K ord st → anyM P n0 ops ms bks Hs Hw K ord.length listed st
  | [], listed, st, hB, h => ⟨by simpa [ordOkM] using hB, h⟩
  | k :: r, listed, st, hB, h => by
    obtain ⟨o, ho, hg, h⟩ := h
    simp only [ordOkM, Bool.and_eq_true] at hB
    obtain ⟨hB1, hB2⟩ := hB
    split at h
    · rename_i hm
      obtain ⟨v, hh, hy, ⟨hv, hx⟩, hK⟩ := h
      rw [hm] at hB1
      simp only [beq_self_eq_true, Bool.true_or, if_true, Bool.and_eq_true] at hB1
      exact anyM_first ho (.inl hm) hg hv r.length listed st (freeMB_spec ho hB1.2) (by simpa using hB1.1) (fun hp h => hy hp (by rcases h with h | h | h; exact h ▸ hh; exact h.2; rw [hm] at h; cases h.1)) hx (anyM_ord hsw r _ _ hB2 hK)
    · rename_i hm
      obtain ⟨v, hy, hfx, hK⟩ := h
      rw [hm] at hB1
      simp only [beq_self_eq_true, Bool.true_or, Bool.or_true, if_true, Bool.and_eq_true] at hB1
      have hF := freeMB_spec ho hB1.2
      rw [hfx] at hF
      exact anyM_first ho (.inr (.inl hm)) hg (fun b hb => by cases hb) r.length listed st hF (by simpa using hB1.1) (fun hp h => by rcases h with h | h | h; exact h ▸ hy; exact absurd hm h.1; rw [hm] at h; cases h.1) (fun x _ b hb => by cases hb) (anyM_ord hsw r _ _ hB2 hK)
    · rename_i hm
      obtain ⟨v, hw, hy, ⟨hv, hx⟩, hK⟩ := h
      rw [hm] at hB1
      simp only [beq_self_eq_true, Bool.or_true, if_true, Bool.and_eq_true] at hB1
      exact anyM_first ho (.inr (.inr hm)) hg hv r.length listed st (freeMB_spec ho hB1.2) (by simpa using hB1.1) (fun hp h => hy hp (by rcases h with h | h | h; exact h ▸ hw; exact hsw _ h.2; exact h.2)) hx (anyM_ord hsw r _ _ hB2 hK)
    · rename_i hm
      obtain ⟨g, hop, hK⟩ := h
      rw [hm] at hB1
      simp only [show ((4 : Nat) == 0 || ((4 : Nat) == 3 || (4 : Nat) == 5)) = false from rfl, Bool.false_eq_true, if_false, beq_iff_eq] at hB1
      refine ⟨fun h => (by rw [hB1] at h; cases h), fun i hi => ?_⟩
      rw [hB1] at hi
      have : i = k := by simpa using hi
      subst this
      unfold stepM
      simp only [ho, hm]
      exact ⟨hg, g, hop, fun v hp' kb hq => ⟨(hK v hp' kb hq).1, (hK v hp' kb hq).2.1, anyM_ord hsw r _ _ hB2 (hK v hp' kb hq).2.2⟩⟩
    · rename_i hm
      obtain ⟨g, hop, hK⟩ := h
      rw [hm] at hB1
      simp only [show ((2 : Nat) == 0 || ((2 : Nat) == 3 || (2 : Nat) == 5)) = false from rfl, Bool.false_eq_true, if_false, beq_iff_eq] at hB1
      refine ⟨fun h => (by rw [hB1] at h; cases h), fun i hi => ?_⟩
      rw [hB1] at hi
      have : i = k := by simpa using hi
      subst this
      unfold stepM
      simp only [ho, hm]
      exact ⟨hg, g, hop, fun v hp' kb hq => ⟨(hK v hp' kb hq).1, (hK v hp' kb hq).2.1, anyM_ord hsw r _ _ hB2 (hK v hp' kb hq).2.2⟩⟩
    · rename_i hm hm3 hm5 hm4 hm2
      obtain ⟨g, hop, hK⟩ := h
      have hm' : (ms.getD k 1 == 0 || (ms.getD k 1 == 3 || ms.getD k 1 == 5)) = false := by rw [beq_false_of_ne hm, beq_false_of_ne hm3, beq_false_of_ne hm5]; rfl
      rw [hm'] at hB1
      simp only [Bool.false_eq_true, if_false, beq_iff_eq] at hB1
      refine ⟨fun h => (by rw [hB1] at h; cases h), fun i hi => ?_⟩
      rw [hB1] at hi
      have : i = k := by simpa using hi
      subst this
      unfold stepM
      simp only [ho]
      refine ⟨hg, ?_⟩
      exact ⟨g, hop, fun v hp' kb hv => anyM_ord hsw r _ _ hB2 (hK v hp' kb hv)⟩
def Om (P : Program) (n0 : Nat) (ops : List Oper) (ms : List Nat) (bks : List (Option Nat)) (fx : List (List Nat)) (Hs Hw : List Blk → Prop) (K : St → Prop) (ord : List Nat) (_t : Tok (ops, ord, K)) (st : St) : Prop := ordM P n0 ops ms bks fx Hs Hw K ord st
theorem go_float2 (hm : P.follows .mixedOrders = true) {n0 : Nat} {id : Nat} {ops : Array Oper} {Q : Ex → St → Prop} {st : St} {t} (Hs Hw : List Blk → Prop) (ord : List Nat) (ms : List Nat) (bks : List (Option Nat)) (fx : List (List Nat)) (hsw : ∀ hp, Hs hp → Hw hp)
    (hok : (ord.length == ops.size && ordOkM ops ms bks fx ord (Array.replicate ops.size false)) = true) (h : Om P n0 ops.toList ms bks fx Hs Hw (Q .normal) ord .mk st) : Lp P n0 (.region id ops true) Q t st := by
  delta Lp
  simp only [Bool.and_eq_true, beq_iff_eq] at hok
  intro E0 hp0 E a hn hs
  subst hn
  have h1 := anyM_anyA _ _ _ (anyM_ord hsw (P := P) (n0 := hp0.length) (ops := ops.toList) (ms := ms) (bks := bks) (fx := fx) (Hs := Hs) (Hw := Hw) (K := Q .normal) ord (Array.replicate ops.size false) st (by simpa using hok.2) h)
  rw [hok.1] at h1
  refine wp_region_any hm ?_
  have hs' : SR E0 hp0 (E.with { E.w with drawn := E.w.drawn + 1 }) st a := ⟨hs.hr.with (Same.drew _ _), hs.fr.with (Same.drew _ _), hs.len, fun i v u a1 a2 => (hs.tm i v u a1 a2).mono (Env.le_with (Same.drew _ _)), hs.df⟩
  have h2 := anyA_sound (P := P) (Q := liftQ E0 hp0 Q) (fun E st a hs hk => ⟨.normal, st, E, rfl, rfl, hs, hk⟩) _ _ _ st a hs' h1
  rw [show ops.toList.toArray = ops from by simp] at h2
  exact h2
theorem go_float (hm : P.follows .mixedOrders = true) {n0 : Nat} {id : Nat} {ops : Array Oper} {Q : Ex → St → Prop} {st : St} {t} (Hs : List Blk → Prop) (ord : List Nat) (ms : List Nat) (bks : List (Option Nat)) (fx : List (List Nat))
    (hok : (ord.length == ops.size && ordOkM ops ms bks fx ord (Array.replicate ops.size false)) = true) (h : Om P n0 ops.toList ms bks fx Hs (fun _ => True) (Q .normal) ord .mk st) : Lp P n0 (.region id ops true) Q t st :=
  go_float2 hm Hs (fun _ => True) ord ms bks fx (fun _ _ => trivial) hok h
section
variable {n0 : Nat} {ops : List Oper} {ms : List Nat} {bks : List (Option Nat)} {fx : List (List Nat)} {Hs Hw : List Blk → Prop} {K : St → Prop} {k : Nat} {r : List Nat} {st : St} {t : Tok (ops, k :: r, K)} {o : Oper}
theorem om_nil {t : Tok (ops, ([] : List Nat), K)} (h : K st) : Om P n0 ops ms bks fx Hs Hw K [] t st := h
theorem om_quiet (ho : ops[k]? = some o) (hg : o.guard = none) (hm : ms.getD k 1 = 0) (hh : Hs st.hp) {v : AV} (hq : ∀ hp, Hs hp → quietA P o.op st.ev hp (fun v' => v' = v)) (hf : Fixed (fx.getD k []) v ∧ ∀ x ∈ o.op.operands, Fixed (fx.getD k []) (st.ev x)) (h : Om P n0 ops ms bks fx Hs Hw K r .mk (st.put o.dst v)) : Om P n0 ops ms bks fx Hs Hw K (k :: r) t st :=
  ⟨o, ho, hg, by
    rw [hm]
    refine ⟨v, hh, fun hp hp' => ?_, hf, h⟩
    obtain ⟨v', h1, h2⟩ := Yields.quiet (hq hp hp')
    subst h1
    exact h2⟩
theorem om_calm (ho : ops[k]? = some o) (hg : o.guard = none) (hm : ms.getD k 1 = 3) (hx : fx.getD k [] = []) (h : quietA P o.op st.ev st.hp (fun v => Om P n0 ops ms bks fx Hs Hw K r .mk (st.put o.dst v))) : Om P n0 ops ms bks fx Hs Hw K (k :: r) t st :=
  ⟨o, ho, hg, by
    rw [hm]
    obtain ⟨v, h1, h2⟩ := Yields.quiet h
    exact ⟨v, h2, hx, h1⟩⟩
theorem om_calmF (ho : ops[k]? = some o) (hg : o.guard = none) (hm : ms.getD k 1 = 3) (hx : fx.getD k [] = []) (q : Blk) (d : Nat) (r0 : AV) (hl : q.live = true) (hf : allBelow 0 q.els = true) (hflat : ∀ b ∈ st.hp, allBelow st.hp.length b.els = true) (hb : below 1 r0 = true)
    (hop : opA P st.hp.length o.op st.ev st.hp (Cn (fun v hp' kb => v = ren (fun i => [st.hp.length].getD i 0) r0 ∧ hp' = st.hp ++ [q] ∧ kb = none) .mk)) (h : Om P n0 ops ms bks fx Hs Hw K r .mk (st.put o.dst (view d [q] r0))) : Om P n0 ops ms bks fx Hs Hw K (k :: r) t st :=
  ⟨o, ho, hg, by rw [hm]; exact ⟨_, Yields.fresh q hl hf hflat d r0 hb (by rw [Cn_eq] at hop; exact hop), hx, h⟩⟩
theorem om_still (ho : ops[k]? = some o) (hg : o.guard = none) (hm : ms.getD k 1 = 0) (hx : fx.getD k [] = []) (hh : Hs st.hp) {v : AV} (hq : ∀ hp, Hs hp → quietA P o.op st.ev hp (fun v' => v' = v)) (h : Om P n0 ops ms bks fx Hs Hw K r .mk (st.put o.dst v)) : Om P n0 ops ms bks fx Hs Hw K (k :: r) t st :=
  om_quiet ho hg hm hh hq (by rw [hx]; exact ⟨fun b hb => (by cases hb), fun x _ b hb => (by cases hb)⟩) h
theorem om_fresh (ho : ops[k]? = some o) (hg : o.guard = none) (hm : ms.getD k 1 = 0) (hh : Hs st.hp) (q : Blk) (d : Nat) (r0 : AV) (hl : q.live = true) (hf : allBelow 0 q.els = true) (hb : below 1 r0 = true) (hflat : ∀ hp, Hs hp → ∀ b ∈ hp, allBelow hp.length b.els = true)
    (hop : ∀ hp, Hs hp → opA P hp.length o.op st.ev hp (Cn (fun v hp' kb => v = ren (fun i => [hp.length].getD i 0) r0 ∧ hp' = hp ++ [q] ∧ kb = none) .mk))
    (hfx : Fixed (fx.getD k []) (view d [q] r0) ∧ ∀ x ∈ o.op.operands, Fixed (fx.getD k []) (st.ev x)) (h : Om P n0 ops ms bks fx Hs Hw K r .mk (st.put o.dst (view d [q] r0))) : Om P n0 ops ms bks fx Hs Hw K (k :: r) t st :=
  ⟨o, ho, hg, by
    rw [hm]
    exact ⟨_, hh, fun hp hp' => Yields.fresh q hl hf (hflat hp hp') d r0 hb (by have := hop hp hp'; rw [Cn_eq] at this; exact this), hfx, h⟩⟩
theorem om_call (ho : ops[k]? = some o) (hg : o.guard = none) (hm : ms.getD k 1 = 0) (hh : Hs st.hp) {gf : Operand} {args : Array Operand} {ts : Array TypeId} (hop : o.op = .call { callee := .value gf, args := args, argTypes := ts }) {fid : FuncId} {caps : List AV} (hfn : st.ev gf = .fn fid caps) {v : AV}
    (hc : ∀ hp, Hs hp → CallA P fid (args.toList.map st.ev ++ caps) hp (Ret v hp)) (hfx : Fixed (fx.getD k []) v ∧ ∀ x ∈ o.op.operands, Fixed (fx.getD k []) (st.ev x)) (h : Om P n0 ops ms bks fx Hs Hw K r .mk (st.put o.dst v)) : Om P n0 ops ms bks fx Hs Hw K (k :: r) t st :=
  ⟨o, ho, hg, by rw [hm]; exact ⟨v, hh, fun hp hp' => Yields.call hop rfl hfn (hc hp hp'), hfx, h⟩⟩
theorem om_float (ho : ops[k]? = some o) (hg : o.guard = none) (hm : ms.getD k 1 = 2) (h : opA P n0 o.op st.ev st.hp (Cn (fun v hp' kb => (kb = none ∨ kb = bks.getD k none) ∧ Hs hp' ∧ Om P n0 ops ms bks fx Hs Hw K r .mk ((st.after hp' kb).put o.dst v)) .mk)) : Om P n0 ops ms bks fx Hs Hw K (k :: r) t st :=
  ⟨o, ho, hg, by rw [hm]; exact ⟨_, h, fun v hp' kb hv => by rw [Cn_go] at hv; exact hv⟩⟩
theorem om_blind (ho : ops[k]? = some o) (hg : o.guard = none) (hm : ms.getD k 1 = 5) {v : AV} (hq : ∀ hp, quietA P o.op st.ev hp (fun v' => v' = v)) (hf : Fixed (fx.getD k []) v ∧ ∀ x ∈ o.op.operands, Fixed (fx.getD k []) (st.ev x)) (h : Om P n0 ops ms bks fx Hs (fun _ => True) K r .mk (st.put o.dst v)) : Om P n0 ops ms bks fx Hs (fun _ => True) K (k :: r) t st :=
  ⟨o, ho, hg, by
    rw [hm]
    refine ⟨v, trivial, fun hp _ => ?_, hf, h⟩
    obtain ⟨v', h1, h2⟩ := Yields.quiet (hq hp)
    subst h1
    exact h2⟩
theorem om_free (ho : ops[k]? = some o) (hg : o.guard = none) (hm : ms.getD k 1 = 4) (h : opA P n0 o.op st.ev st.hp (Cn (fun v hp' kb => (kb = none ∨ kb = bks.getD k none) ∧ Om P n0 ops ms bks fx Hs (fun _ => True) K r .mk ((st.after hp' kb).put o.dst v)) .mk)) : Om P n0 ops ms bks fx Hs (fun _ => True) K (k :: r) t st :=
  ⟨o, ho, hg, by rw [hm]; exact ⟨_, h, fun v hp' kb hv => by rw [Cn_go] at hv; exact ⟨hv.1, trivial, hv.2⟩⟩⟩
theorem om_weak (ho : ops[k]? = some o) (hg : o.guard = none) (hm : ms.getD k 1 = 5) (hh : Hw st.hp) {v : AV} (hq : ∀ hp, Hw hp → quietA P o.op st.ev hp (fun v' => v' = v)) (hf : Fixed (fx.getD k []) v ∧ ∀ x ∈ o.op.operands, Fixed (fx.getD k []) (st.ev x)) (h : Om P n0 ops ms bks fx Hs Hw K r .mk (st.put o.dst v)) : Om P n0 ops ms bks fx Hs Hw K (k :: r) t st :=
  ⟨o, ho, hg, by
    rw [hm]
    refine ⟨v, hh, fun hp hp' => ?_, hf, h⟩
    obtain ⟨v', h1, h2⟩ := Yields.quiet (hq hp hp')
    subst h1
    exact h2⟩
theorem om_weakF (ho : ops[k]? = some o) (hg : o.guard = none) (hm : ms.getD k 1 = 5) (hh : Hw st.hp) (q : Blk) (d : Nat) (r0 : AV) (hl : q.live = true) (hf : allBelow 0 q.els = true) (hb : below 1 r0 = true) (hflat : ∀ hp, Hw hp → ∀ b ∈ hp, allBelow hp.length b.els = true)
    (hop : ∀ hp, Hw hp → opA P hp.length o.op st.ev hp (Cn (fun v hp' kb => v = ren (fun i => [hp.length].getD i 0) r0 ∧ hp' = hp ++ [q] ∧ kb = none) .mk))
    (hfx : Fixed (fx.getD k []) (view d [q] r0) ∧ ∀ x ∈ o.op.operands, Fixed (fx.getD k []) (st.ev x)) (h : Om P n0 ops ms bks fx Hs Hw K r .mk (st.put o.dst (view d [q] r0))) : Om P n0 ops ms bks fx Hs Hw K (k :: r) t st :=
  ⟨o, ho, hg, by
    rw [hm]
    exact ⟨_, hh, fun hp hp' => Yields.fresh q hl hf (hflat hp hp') d r0 hb (by have := hop hp hp'; rw [Cn_eq] at this; exact this), hfx, h⟩⟩
theorem om_freeW (ho : ops[k]? = some o) (hg : o.guard = none) (hm : ms.getD k 1 = 4) (h : opA P n0 o.op st.ev st.hp (Cn (fun v hp' kb => (kb = none ∨ kb = bks.getD k none) ∧ Hw hp' ∧ Om P n0 ops ms bks fx Hs Hw K r .mk ((st.after hp' kb).put o.dst v)) .mk)) : Om P n0 ops ms bks fx Hs Hw K (k :: r) t st :=
  ⟨o, ho, hg, by rw [hm]; exact ⟨_, h, fun v hp' kb hv => by rw [Cn_go] at hv; exact hv⟩⟩
theorem om_one (ho : ops[k]? = some o) (hg : o.guard = none) (hm : ms.getD k 1 = 1) (h : opA P n0 o.op st.ev st.hp (Cn (fun v hp' kb => Om P n0 ops ms bks fx Hs Hw K r .mk ((st.after hp' kb).put o.dst v)) .mk)) : Om P n0 ops ms bks fx Hs Hw K (k :: r) t st :=
  ⟨o, ho, hg, by rw [hm]; exact ⟨_, h, fun v hp' kb hv => by rw [Cn_go] at hv; exact hv⟩⟩
end
end
attribute [irreducible] Om
end Go.Abs
