/- The abstract layer: parts ZA ZB ZC ZD ZE ZF ZG ZH ZI ZJ ZK ZL ZM. -/
import Derived.Test.YteenpfegadlkfaaGreatDoorAbsM3
import Derived.Sort.OwnSortedInts
import Derived.Lib.ItoaNum
import Derived.Lib.LaidTab
import Derived.Below
import Derived.Lib.Join
import Derived.Sort.Grow
import Derived.Deep.Draws
import Derived.Lib.Strings
import Derived.Lib.Split
import Derived.Lib.SplitLaws
import Derived.Lib.CountLaws
import Derived.Lib.IndexMore
/- The abstract layer, part ZA: a drawn region whose operations make blocks of their own, told by a plan: what each operation yields; its end told by names of one's choice, ahead of the last operation. -/
set_option linter.unusedSimpArgs false
set_option linter.unusedVariables false
namespace Go.Abs
open Go
variable {P : Program}

def namesL : AV → List Nat
  | .sl b _ _ | .ptr b _ _ | .mp b => [b]
  | _ => []
def namesM : AV → List Nat
  | .agg l | .fn _ l | .mv _ l => l.flatMap namesL
  | v => namesL v
def names : AV → List Nat
  | .tup l => l.flatMap namesM
  | v => namesM v
section
variable {P : Program} {n0 : Nat}
theorem quietA_congr {op : Op} {f f' : Operand → AV} {hp : List Blk} {k : AV → Prop} (he : ∀ x ∈ op.operands, f x = f' x) (h : quietA P op f hp k) : quietA P op f' hp k := by
  cases op with
  | move x => simp only [quietA] at h ⊢; rw [← he x (by simp [Op.operands])]; exact h
  | assign x => simp only [quietA] at h ⊢; rw [← he x (by simp [Op.operands])]; exact h
  | pick c a b => simp only [quietA] at h ⊢; rw [← he c (by simp [Op.operands]), ← he a (by simp [Op.operands]), ← he b (by simp [Op.operands])]; exact h
  | build t parts =>
    simp only [quietA] at h ⊢
    have e : (parts.toList.map fun p => (p.1, f' p.2)) = parts.toList.map fun p => (p.1, f p.2) := List.map_congr_left fun p hp => by rw [he p.2 (by simp only [Op.operands]; simpa using ⟨p.1, by simpa using hp⟩)]
    rw [e]
    exact h
  | load t a => simp only [quietA] at h ⊢; rw [← he a (by simp [Op.operands])]; exact h
  | nilCheck x => simp only [quietA] at h ⊢; rw [← he x (by simp [Op.operands])]; exact h
  | binOp o t x y t' => simp only [quietA] at h ⊢; rw [← he x (by simp [Op.operands]), ← he y (by simp [Op.operands])]; exact h
  | unOp o t x => simp only [quietA] at h ⊢; rw [← he x (by simp [Op.operands])]; exact h
  | convert s d x => simp only [quietA] at h ⊢; rw [← he x (by simp [Op.operands])]; exact h
  | makeFunc c first cap =>
    cases c with
    | func g =>
      simp only [quietA] at h ⊢
      have e : cap.toList.map f' = cap.toList.map f := List.map_congr_left fun x hx => (he x (by simp [Op.operands]; simp at hx; simp [hx])).symm
      have e2 : first.toList.map f' = first.toList.map f := List.map_congr_left fun x hx => (he x (by simp [Op.operands]; simp at hx; simp [hx])).symm
      rw [e]
      cases hq : first.toList with
      | nil => rw [hq] at h; exact h
      | cons y l => rw [hq] at h e2; simp only [] at h ⊢; rw [e2]; exact h
    | _ => exact h.elim
  | slice t x lo hi mx =>
    cases mx with
    | some m => exact h.elim
    | none =>
      simp only [quietA] at h ⊢
      have e1 : lo.map f' = lo.map f := by
        cases lo with
        | none => rfl
        | some a => simp [he a (by simp [Op.operands])]
      have e2 : hi.map f' = hi.map f := by
        cases hi with
        | none => rfl
        | some a => simp [he a (by simp [Op.operands])]
      rw [← he x (by simp [Op.operands]), e1, e2]
      exact h
  | fieldAddr s x i => simp only [quietA] at h ⊢; rw [← he x (by simp [Op.operands])]; exact h
  | field t x i => simp only [quietA] at h ⊢; rw [← he x (by simp [Op.operands])]; exact h
  | indexAddr t x ix => simp only [quietA] at h ⊢; rw [← he x (by simp [Op.operands]), ← he ix (by simp [Op.operands])]; exact h
  | index t x ix => simp only [quietA] at h ⊢; rw [← he x (by simp [Op.operands]), ← he ix (by simp [Op.operands])]; exact h
  | lookup t x ix ok =>
    cases ok with
    | true => exact h.elim
    | false => simp only [quietA] at h ⊢; rw [← he x (by simp [Op.operands]), ← he ix (by simp [Op.operands])]; exact h
  | extract x i => simp only [quietA] at h ⊢; rw [← he x (by simp [Op.operands])]; exact h
  | call c =>
    obtain ⟨callee, args, ts⟩ := c
    cases callee with
    | builtin b =>
      simp only [quietA] at h ⊢
      have e : args.toList.map f' = args.toList.map f := List.map_congr_left fun x hx => (he x (by simp [Op.operands, Call.operands]; simpa using hx)).symm
      rw [e]
      exact h
    | _ => exact h.elim
  | _ => exact h.elim
theorem opA_congr {op : Op} {f f' : Operand → AV} {hp : List Blk} {k : AV → List Blk → Option Nat → Prop} (he : ∀ x ∈ op.operands, f x = f' x) (h : opA P n0 op f hp k) : opA P n0 op f' hp k := by
  cases op with
  | alloc t => exact h
  | box t x => simp only [opA] at h ⊢; rw [← he x (by simp [Op.operands])]; exact h
  | buildSlice t len parts =>
    simp only [opA] at h ⊢
    have e : (parts.toList.map fun p => (p.1, f' p.2)) = parts.toList.map fun p => (p.1, f p.2) := List.map_congr_left fun p hp => by rw [he p.2 (by simp only [Op.operands]; simpa using ⟨p.1, by simpa using hp⟩)]
    rw [e]
    exact h
  | store t a x => simp only [opA] at h ⊢; rw [← he a (by simp [Op.operands]), ← he x (by simp [Op.operands])]; exact h
  | makeMap t r =>
    cases r with
    | none => exact h
    | some r => exact h.elim
  | mapUpdate t m n x => simp only [opA] at h ⊢; rw [← he m (by simp [Op.operands]), ← he n (by simp [Op.operands]), ← he x (by simp [Op.operands])]; exact h
  | mapEntry t m n => simp only [opA] at h ⊢; rw [← he m (by simp [Op.operands]), ← he n (by simp [Op.operands])]; exact h
  | entryStore t m n x => simp only [opA] at h ⊢; rw [← he m (by simp [Op.operands]), ← he n (by simp [Op.operands]), ← he x (by simp [Op.operands])]; exact h
  | makeSlice t l c => simp only [opA] at h ⊢; rw [← he l (by simp [Op.operands]), ← he c (by simp [Op.operands])]; exact h
  | call c =>
    obtain ⟨callee, args, ts⟩ := c
    cases callee with
    | value g =>
      simp only [opA] at h ⊢
      have e : args.toList.map f' = args.toList.map f := List.map_congr_left fun x hx => (he x (by simp [Op.operands, Call.operands]; simp at hx; simp [hx])).symm
      rw [← he g (by simp [Op.operands, Call.operands]), e]
      exact h
    | builtin b =>
      have e : args.toList.map f' = args.toList.map f := List.map_congr_left fun x hx => (he x (by simp [Op.operands, Call.operands]; simpa using hx)).symm
      by_cases hb : b = .append
      · subst hb
        obtain ⟨l⟩ := args
        simp only [opA] at h ⊢
        match l, he, h with
        | [s, x], he, h => simp only [] at h ⊢; rw [← he s (by simp [Op.operands, Call.operands]), ← he x (by simp [Op.operands, Call.operands])]; exact h
        | [], _, h => exact h.elim
        | [_], _, h => exact h.elim
        | _ :: _ :: _ :: _, _, h => exact h.elim
      · by_cases hb2 : b = .clear
        · subst hb2
          obtain ⟨l⟩ := args
          simp only [opA] at h ⊢
          match l, he, h with
          | [x], he, h => simp only [] at h ⊢; rw [← he x (by simp [Op.operands, Call.operands])]; exact h
          | [], _, h => exact h.elim
          | _ :: _ :: _, _, h => exact h.elim
        · cases b <;> first | exact absurd rfl hb | exact absurd rfl hb2 | (simp only [opA] at h ⊢; rw [e]; exact h)
    | _ => exact h.elim
  | move x => exact quietA_congr (P := P) (hp := hp) (k := fun v => k v hp none) he h
  | assign x => exact quietA_congr (P := P) (hp := hp) (k := fun v => k v hp none) he h
  | pick c a b => exact quietA_congr (P := P) (hp := hp) (k := fun v => k v hp none) he h
  | build t parts => exact quietA_congr (P := P) (hp := hp) (k := fun v => k v hp none) he h
  | load t a => exact quietA_congr (P := P) (hp := hp) (k := fun v => k v hp none) he h
  | nilCheck x => exact quietA_congr (P := P) (hp := hp) (k := fun v => k v hp none) he h
  | binOp o t x y t' => exact quietA_congr (P := P) (hp := hp) (k := fun v => k v hp none) he h
  | unOp o t x => exact quietA_congr (P := P) (hp := hp) (k := fun v => k v hp none) he h
  | convert s d x => simp only [opA] at h ⊢; rw [← he x (by simp [Op.operands])]; exact h
  | makeFunc c first cap => exact quietA_congr (P := P) (hp := hp) (k := fun v => k v hp none) he h
  | slice t x lo hi mx => exact quietA_congr (P := P) (hp := hp) (k := fun v => k v hp none) he h
  | fieldAddr s x i => exact quietA_congr (P := P) (hp := hp) (k := fun v => k v hp none) he h
  | field t x i => exact quietA_congr (P := P) (hp := hp) (k := fun v => k v hp none) he h
  | indexAddr t x ix => exact quietA_congr (P := P) (hp := hp) (k := fun v => k v hp none) he h
  | index t x ix => exact quietA_congr (P := P) (hp := hp) (k := fun v => k v hp none) he h
  | lookup t x ix ok => exact quietA_congr (P := P) (hp := hp) (k := fun v => k v hp none) he h
  | extract x i => exact quietA_congr (P := P) (hp := hp) (k := fun v => k v hp none) he h
  | _ => exact h.elim
end

section
variable {P : Program} {n0 : Nat}
theorem Weak.refl {st : St} : Weak n0 st st := fun _ _ _ E _ _ hs => ⟨E, rfl, hs⟩
end

def plName (N0 : Nat) (nm : Nat → Nat) (b : Nat) : Nat := if b < N0 then b else nm (b - N0)
abbrev PEs := List (Nat × AV × Option Blk)
def PEs.v (pv : PEs) (i : Nat) : AV := (pv.getD i (0, .any, none)).2.1
def PEs.b (pv : PEs) (i : Nat) : Option Blk := (pv.getD i (0, .any, none)).2.2
def PEs.uses (N0 : Nat) (pv : PEs) (i : Nat) : List Nat := (names (pv.v i)).filterMap fun b => if N0 ≤ b ∧ b ≠ N0 + i then some (b - N0) else none
def edgeOn (o : Oper) (i : Nat) : Bool := o.after.any fun e => Region.binds .any e && e.on == i
def slotP (π : Nat → Nat) (tm : List AV) : PEs → Nat → AV
  | [], t => tm.getD t .any
  | (d, v, _) :: r, t => if d = t then ren π v else slotP π tm r t
def evP (π : Nat → Nat) (tm : List AV) (pv : PEs) : Operand → AV
  | .tmp t => slotP π tm pv t
  | .const v => ofV v
  | .func f => .fn f []
  | .global _ => .any
def oldOk (hp : List Blk) : Nat → List Blk → Prop
  | _, [] => True
  | k, b :: r => hp[k]? = some b ∧ oldOk hp (k + 1) r
def newOk (hp : List Blk) (nm : Nat → Nat) (o : Oper) : Nat → PEs → Prop
  | _, [] => True
  | k, (_, _, some b) :: r => (edgeOn o k = true → hp[nm k]? = some b) ∧ newOk hp nm o (k + 1) r
  | k, (_, _, none) :: r => newOk hp nm o (k + 1) r
section
variable {P : Program} {n0 : Nat}
def HopAt (P : Program) (n0 : Nat) (ops : List Oper) (ms : List Bool) (st0 : St) (pv : PEs) (i : Nat) : Prop :=
  ∀ o, ops[i]? = some o → ∀ (nm : Nat → Nat) (hp : List Blk), oldOk hp 0 st0.hp → newOk hp nm o 0 pv → st0.hp.length ≤ hp.length →
    (ms.getD i true = true ∧ opA P n0 o.op (evP (plName st0.hp.length nm) st0.tm pv) hp (Cn (fun v hp' kb => kb = none ∧ match pv.b i with
      | none => v = ren (plName st0.hp.length nm) (pv.v i) ∧ hp' = hp
      | some b => v = ren (plName st0.hp.length (upd nm i hp.length)) (pv.v i) ∧ hp' = hp ++ [b]) .mk)) ∨
    (ms.getD i true = false ∧ pv.b i = none ∧ Yields P o (evP (plName st0.hp.length nm) st0.tm pv) hp (ren (plName st0.hp.length nm) (pv.v i)))
def HopsFrom (P : Program) (n0 : Nat) (ops : List Oper) (ms : List Bool) (st0 : St) (pv : PEs) : Nat → Nat → Prop
  | _, 0 => True
  | k, n + 1 => HopAt P n0 ops ms st0 pv k ∧ HopsFrom P n0 ops ms st0 pv (k + 1) n
theorem HopsFrom.get {ops : List Oper} {ms : List Bool} {st0 : St} {pv : PEs} : ∀ {n k : Nat}, HopsFrom P n0 ops ms st0 pv k n → ∀ i, k ≤ i → i < k + n → HopAt P n0 ops ms st0 pv i
  | 0, k, _, i, h1, h2 => by omega
  | n + 1, k, h, i, h1, h2 => by
    by_cases he : i = k
    · subst he; exact h.1
    · exact h.2.get i (by omega) (by omega)

section
variable {ops : List Oper} {ms : List Bool} {st0 : St} {pv : PEs} {k n : Nat}
end
end
end Go.Abs
/- The abstract layer, part ZB: a call that reads known blocks; what it makes is told as lists that nobody writes any more. -/
set_option linter.unusedSimpArgs false
set_option linter.unusedVariables false
namespace Go.Abs
open Go
variable {P : Program}
theorem view_tup (d : Nat) (hp : List Blk) (l : List AV) : view (d + 1) hp (.tup l) = .tup (l.map (view d hp)) := rfl
section
variable {P : Program}
end
end Go.Abs
/- The abstract layer, part ZC: numbers that are not negative: sums, products and quotients keep it. Of no program. -/
set_option linter.unusedSimpArgs false
set_option linter.unusedVariables false
namespace Go.Abs
open Go
variable {P : Program}

theorem nearest_word (k : FloatKind) (neg : Bool) (m : Nat) (e : Int) : ∃ r, k.format.nearest neg m e = k.format.word neg r ∧ r ≤ k.format.infRung ∧ (m = 0 → r = 0) := by
  unfold Ieee.Format.nearest
  split
  · exact ⟨0, rfl, Nat.zero_le _, fun _ => rfl⟩
  · rename_i h
    exact ⟨_, rfl, Nat.min_le_right _ _, fun h0 => absurd h0 h⟩
end Go.Abs
/- The abstract layer, part ZD: the library's sort, by the kit's contract. -/
set_option linter.unusedSimpArgs false
set_option linter.unusedVariables false
namespace Go.Abs
open Go
variable {P : Program}

theorem HRel.extend {E : Env P} {hp : List Blk} (H : HRel E hp) {w' : World} (hs : E.w.heap.size ≤ w'.heap.size) (hh : ∀ c, c < E.w.heap.size → w'.heap[c]? = E.w.heap[c]?) (h1 : w'.os = E.w.os) (h2 : w'.tape = E.w.tape) (h3 : w'.output = E.w.output) :
    HRel (E.with w') hp ∧ (∀ {E0 : Env P} {hp0 : List Blk}, Fr E0 hp0 E hp → Fr E0 hp0 (E.with w') hp) ∧ E.le (E.with w') := by
  have hcsz : ∀ c, csz E.w c ≤ csz w' c := fun c => by
    by_cases hc : c < E.w.heap.size
    · unfold csz; rw [hh c hc]; exact Nat.le_refl _
    · unfold csz
      rw [Array.getElem?_eq_none (by omega)]
      exact Nat.zero_le _
  have le : E.le (E.with w') := ⟨fun _ h => h, fun c hc => hh c (H.old c hc), Nat.le_refl _, fun _ _ => rfl, fun _ _ => rfl, hcsz⟩
  refine ⟨⟨H.N, H.wd, fun b blk hb hl => ?_, H.inj, H.apart, fun c hc => Nat.lt_of_lt_of_le (H.old c hc) hs, H.laidLe le⟩, ?_, le⟩
  · exact (H.holds b blk hb hl).keep (hh _ (H.holds b blk hb hl).lt) fun x u hu => hu.mono le
  · intro E0 hp0 F
    exact { size := Nat.le_trans F.size hs, os := h1.trans F.os, tape := h2.trans F.tape, output := h3.trans F.output
            block := fun c hc hn => by
              show w'.heap[c]? = _
              rw [hh c (Nat.lt_of_lt_of_le hc F.size)]
              exact F.block c hc hn
            len := F.len, ρ := F.ρ, wd := F.wd, F := F.F, F' := F.F', live := F.live, csz := fun c => Nat.le_trans (F.csz c) (hcsz c) }

end Go.Abs
/- The abstract layer, part ZE: numerals by the kit's contract; bytes; places in strings. -/
set_option linter.unusedSimpArgs false
set_option linter.unusedVariables false
namespace Go.Abs
open Go Go.RowKit
variable {P : Program}

theorem HRel.table {E : Env P} {hp : List Blk} (H : HRel E hp) {n : String} {k : IntKind} {zs : List Int} (ht : (n, k, zs) ∈ tables) {g : Nat} (hg : P.globalNamed n = some g) : Lib.TabIs P E.w n k zs := by
  obtain ⟨_, ty, fr, h⟩ := H.laid.1 _ ht g hg
  simp only [Lib.TabIs, World.var?, hg, Option.bind_some, h]

theorem itoa_call {f : FuncId} (hg : (P.globalNamed "internal/strconv.uint64pow10").isSome = true) (hgo : isGo P f) (n : Int)
    (h : ∀ w : World, Lib.TabIs P w "internal/strconv.uint64pow10" .u64 Lib.pow10Tab → Calls P f #[.int .i64 n, .int .i64 10] w fun e w' => e = .returned (.string ⟨(Lib.itoa n).toArray⟩) ∧ ∃ k os, w' = Sort.grow (w.drewN k) os) :
    CallA P f [.int .i64 n, .int .i64 10] [] (Ret (.str (Lib.itoa n)) []) := by
  intro E vs H hl hrv
  obtain ⟨g, hg⟩ := Option.isSome_iff_exists.1 hg
  obtain ⟨v, u, rfl, hv, hu⟩ := RV.two hl hrv
  cases hv
  cases hu
  refine .inl ⟨hgo, (h E.w (H.table (by simp [tables]) hg)).mono ?_⟩
  rintro ex w' ⟨rfl, k, os, rfl⟩
  have hh : (E.w.drewN k).heap = E.w.heap := rfl
  obtain ⟨H2, F2, _⟩ := H.extend (w' := Sort.grow (E.w.drewN k) os) (by simp [Sort.grow, World.drewN]) (fun c hc => by rw [Sort.heap_grow_old _ _ (by rw [hh]; exact hc), hh]) rfl rfl rfl
  exact ⟨_, rfl, .str _, [], E.with _, rfl, ⟨rfl, rfl⟩, .str _, H2, F2 (Fr.refl E _)⟩

theorem byts_len (l : List UInt8) : (byts l).length = l.length := by simp [byts]
theorem byts_app (l r : List UInt8) : byts (l ++ r) = byts l ++ byts r := by simp [byts]
theorem byts_below (n : Nat) : ∀ l : List UInt8, allBelow n (byts l) = true
  | [] => rfl
  | x :: l => byts_below n l
theorem byts_kill (b : Nat) (l : List UInt8) : (byts l).map (kill b) = byts l := by
  unfold byts
  rw [List.map_map]
  exact List.map_congr_left fun x _ => rfl
theorem byts_ren (ρ : Nat → Nat) (l : List UInt8) : (byts l).map (ren ρ) = byts l := by
  unfold byts
  rw [List.map_map]
  exact List.map_congr_left fun x _ => rfl
theorem allW_byts (l : List UInt8) : AllW 1 (byts l) := by
  intro a ha
  obtain ⟨x, _, rfl⟩ := List.mem_map.1 ha
  exact ⟨rfl, rfl⟩

def firstAt (c : UInt8) : List UInt8 → Option (List UInt8 × List UInt8)
  | [] => none
  | x :: t => if x = c then some ([], t) else (firstAt c t).map fun p => (x :: p.1, p.2)
theorem firstAt_none {c : UInt8} : ∀ {s : List UInt8}, firstAt c s = none → Lib.indexByte s c = -1
  | [], _ => rfl
  | x :: t, h => by
    unfold firstAt at h
    by_cases e : x = c
    · rw [if_pos e] at h; cases h
    · rw [if_neg e] at h
      have := firstAt_none (s := t) (by simpa using h)
      unfold Lib.indexByte
      rw [if_neg (by simpa using e), this]
      rfl
theorem firstAt_some {c : UInt8} : ∀ {s a b : List UInt8}, firstAt c s = some (a, b) → Lib.indexByte s c = a.length ∧ s = a ++ c :: b ∧ c ∉ a
  | [], _, _, h => by cases h
  | x :: t, a, b, h => by
    unfold firstAt at h
    by_cases e : x = c
    · rw [if_pos e] at h
      cases h
      subst e
      exact ⟨by simp [Lib.indexByte], rfl, by simp⟩
    · rw [if_neg e] at h
      simp only [Option.map_eq_some_iff] at h
      obtain ⟨⟨a', b'⟩, h1, h2⟩ := h
      cases h2
      obtain ⟨h3, h4, h5⟩ := firstAt_some h1
      refine ⟨?_, by rw [h4]; rfl, by simp [h5, Ne.symm e]⟩
      unfold Lib.indexByte
      rw [if_neg (by simpa using e), h3, if_neg (by simp)]
      simp
theorem firstAt_take {c : UInt8} {s a b : List UInt8} (h : firstAt c s = some (a, b)) : s.take a.length = a ∧ s.drop (a.length + 1) = b ∧ s.length = a.length + 1 + b.length := by
  obtain ⟨_, h1, _⟩ := firstAt_some h
  rw [h1]
  refine ⟨by simp, ?_, by simp; omega⟩
  rw [show a ++ c :: b = (a ++ [c]) ++ b from by simp, List.drop_append_of_le_length (by simp)]
  simp
theorem cutA_nil (c : UInt8) (acc : List UInt8) : cutA c acc [] = [acc] := rfl
theorem cutA_cons (c : UInt8) (acc : List UInt8) (x : UInt8) (s : List UInt8) : cutA c acc (x :: s) = if x = c then acc :: cutA c [] s else cutA c (acc ++ [x]) s := rfl
theorem cutA_first (c : UInt8) : ∀ (s acc : List UInt8), cutA c acc s = match firstAt c s with
    | none => [acc ++ s]
    | some (a, b) => (acc ++ a) :: cutA c [] b
  | [], acc => by simp [cutA_nil, firstAt]
  | x :: t, acc => by
    rw [cutA_cons]
    by_cases e : x = c
    · rw [if_pos e]
      simp only [firstAt, if_pos e, List.append_nil]
    · rw [if_neg e, cutA_first c t (acc ++ [x])]
      simp only [firstAt, if_neg e]
      cases firstAt c t with
      | none => simp only [Option.map_none, List.append_assoc]; rfl
      | some p => simp only [Option.map_some, List.append_assoc]; rfl
theorem join_call {f : FuncId} (hgo : isGo P f) (sep : List UInt8) (xs : List (List UInt8))
    (hnone : ∀ (a : Option Addr) (c : Nat) (w : World), Calls P f #[.slice a 0 c, .string ⟨sep.toArray⟩] w fun e w' => e = .returned (.string ⟨#[]⟩) ∧ w' = w)
    (h : ∀ (bk o c : Nat) (w : World), (∀ (j : Nat) x, xs[j]? = some x → w.cell? ⟨bk, o + j, none⟩ = some (.string ⟨x.toArray⟩)) → bk < w.heap.size → xs.length ≤ c →
      Calls P f #[.slice (some ⟨bk, o, none⟩) xs.length c, .string ⟨sep.toArray⟩] w fun e w' => e = .returned (.string ⟨(Lib.join xs sep).toArray⟩) ∧ Below w.heap.size w w') :
    CallA P f [.ro (strs xs), .str sep] [] (Ret (.str (Lib.join xs sep)) []) := by
  intro E vs H hl hrv
  obtain ⟨v, u, rfl, hv, hu⟩ := RV.two hl hrv
  cases hu
  generalize hs : strs xs = l at hv
  cases hv with
  | roNil a cap =>
    have : xs = [] := by cases xs with | nil => rfl | cons _ _ => simp [strs] at hs
    subst this
    refine .inl ⟨hgo, (hnone a cap E.w).mono ?_⟩
    rintro ex w' ⟨rfl, rfl⟩
    exact ⟨_, rfl, .str [], [], E, rfl, ⟨rfl, rfl⟩, .str [], H, Fr.refl E _⟩
  | ro _ b off cap wd val hF hcap hmax hw hc hv =>
    subst hs
    have hlen : (strs xs).length = xs.length := strs_len xs
    refine .inl ⟨hgo, ?_⟩
    rw [hlen]
    refine (h b off cap E.w (fun j x hx => ?_) (H.old _ hF) (by omega)).mono ?_
    · have g1 : (strs xs)[j]? = some (.str x) := by simp [strs, hx]
      have hwd : wd = 1 := by have := hw j _ g1; simpa [AV.cells] using this.symm
      have g2 := hc j _ g1 0 _ rfl
      have g3 := hv j _ g1 0 _ rfl
      rw [hwd] at g2
      generalize val j 0 = vv at g2 g3
      cases g3
      simpa using g2
    · rintro ex w' ⟨rfl, bel⟩
      obtain ⟨H2, F2, _⟩ := H.extend (w' := w') bel.size bel.block bel.os bel.tape bel.output
      exact ⟨_, rfl, .str _, [], E.with _, rfl, ⟨rfl, rfl⟩, .str _, H2, F2 (Fr.refl E _)⟩
theorem laid_of_tabs {w : World} (h : ∀ t ∈ tables, (P.globalNamed t.1).isSome = true → Lib.TabIs P w t.1 t.2.1 t.2.2) (he : ∀ n ∈ errs, (P.globalNamed n).isSome = true → ∃ v, w.var? P n = some #[v] ∧ isErr v)
    (hi : ∀ n ∈ intVars, ∀ g, P.globalNamed n = some g → ∃ m, w.cell? ⟨g, 0, none⟩ = some (.int .i64 m)) : Laid P w fun c => c < w.heap.size := by
  refine ⟨fun t ht g hg => ?_, fun n hn g hg => ?_, fun n hn g hg => ?_⟩
  · have h1 := h t ht (by rw [hg]; rfl)
    simp only [Lib.TabIs, World.var?, hg, Option.bind_some] at h1
    split at h1
    · rename_i cs ty fr hx
      refine ⟨(Array.getElem?_eq_some_iff.1 hx).1, ty, fr, ?_⟩
      rw [hx]
      cases h1
      rfl
    · cases h1
  · obtain ⟨v, h1, h2⟩ := he n hn (by rw [hg]; rfl)
    simp only [World.var?, hg, Option.bind_some] at h1
    split at h1
    · rename_i cs ty fr hx
      refine ⟨(Array.getElem?_eq_some_iff.1 hx).1, v, ty, fr, ?_, h2⟩
      rw [hx]
      cases h1
      rfl
    · cases h1
  · obtain ⟨m, h1⟩ := hi n hn g hg
    unfold World.cell? at h1
    split at h1
    · rename_i cs ty fr hx
      exact ⟨(Array.getElem?_eq_some_iff.1 hx).1, m, cs, ty, fr, hx, by simpa using h1⟩
    · cases h1
theorem HRel.err {E : Env P} {hp : List Blk} (H : HRel E hp) {n : String} (hn : n ∈ errs) {g : Nat} (hg : P.globalNamed n = some g) : ∃ v, E.w.cell? ⟨g, 0, none⟩ = some v ∧ isErr v := by
  obtain ⟨_, v, ty, fr, h, h2⟩ := H.laid.2.1 _ hn g hg
  exact ⟨v, by simp [World.cell?, h], h2⟩
theorem HRel.intVar {E : Env P} {hp : List Blk} (H : HRel E hp) {n : String} (hn : n ∈ intVars) {g : Nat} (hg : P.globalNamed n = some g) : ∃ m, E.w.cell? ⟨g, 0, none⟩ = some (.int .i64 m) := by
  obtain ⟨_, m, cs, ty, fr, h, h2⟩ := H.laid.2.2 _ hn g hg
  exact ⟨m, by simp [World.cell?, h, h2]⟩
end Go.Abs
/- The abstract layer, part ZF: a block of the caller's is taken over: it is dead, and a new one lies in its place. -/
set_option linter.unusedSimpArgs false
set_option linter.unusedVariables false
namespace Go.Abs
open Go
variable {P : Program}

structure LeHpW (N : Nat) (π : Nat → Nat) (n0 : Nat) (hp hp2 : List Blk) : Prop where
  len : hp2.length = N
  hn0 : n0 ≤ N
  low : ∀ b, b < n0 → π b = b
  inj : ∀ (b b' : Nat) r r', hp2[b]? = some r → r.live = true → hp2[b']? = some r' → r'.live = true → π b = π b' → b = b'
  blk : ∀ (b : Nat) r, hp2[b]? = some r → ∃ q, hp[π b]? = some q ∧ q.w = r.w ∧ (r.live = true → q.live = true ∧ q.ty = r.ty ∧ q.els = r.els.map (ren π) ∧ ∀ e ∈ r.els, below N e = true)
theorem LeHpW.sound {N : Nat} {π : Nat → Nat} {n0 : Nat} {hp hp2 : List Blk} (h : LeHpW N π n0 hp hp2) {E0 : Env P} {hp0 : List Blk} {E : Env P} (hn : hp0.length = n0) (H : HRel E hp) (F : Fr E0 hp0 E hp) : HRel (E.ren N π) hp2 ∧ Fr E0 hp0 (E.ren N π) hp2 := by
  have lt : ∀ (b : Nat) r, hp2[b]? = some r → b < N := fun b r hb => by rw [← h.len]; exact (List.getElem?_eq_some_iff.1 hb).1
  refine ⟨⟨h.len.symm, ?_, ?_, ?_, ?_, H.old, H.laid⟩, ?_⟩
  · intro b r hb
    obtain ⟨q, hq, hw, _⟩ := h.blk b r hb
    show E.wd (π b) = r.w
    rw [H.wd (π b) q hq, hw]
  · intro b r hb hl
    obtain ⟨q, hq, hw, hx⟩ := h.blk b r hb
    obtain ⟨hql, hty, hels, hbel⟩ := hx hl
    refine ⟨fun hw0 => ?_, fun hw0 => ?_⟩
    rotate_left
    · have := (H.holds (π b) q hq hql).map (hw.trans hw0)
      rw [hels] at this
      exact this.unmap (ren_still π)
    obtain ⟨cs, h1, h2⟩ := (H.holds (π b) q hq hql).cells (hw ▸ hw0)
    refine ⟨cs, by rw [← hty]; exact h1, fun i e he => ?_⟩
    have hbe := hbel e (List.mem_of_getElem? he)
    obtain ⟨k1, k2⟩ := ren_cells (π := π) hbe
    have hqe : q.els[i]? = some (Abs.ren π e) := by rw [hels]; simp [he]
    obtain ⟨h3, h4⟩ := h2 i _ hqe
    refine ⟨by rw [← hw, ← h3, k1], fun j c hc => ?_⟩
    obtain ⟨c', hc', k3⟩ := k2 j c hc
    obtain ⟨v, h5, h6⟩ := h4 j c' hc'
    exact ⟨v, by rw [← hw]; exact h5, k3 h6⟩
  · intro b b' r r' hb hl hb' hl' he
    obtain ⟨q, hq, _, hx⟩ := h.blk b r hb
    obtain ⟨q', hq', _, hx'⟩ := h.blk b' r' hb'
    exact h.inj b b' r r' hb hl hb' hl' (H.inj (π b) (π b') q q' hq (hx hl).1 hq' (hx' hl').1 he)
  · intro b r hb hl
    obtain ⟨q, hq, _, hx⟩ := h.blk b r hb
    exact H.apart (π b) q hq (hx hl).1
  · exact {
      size := F.size
      os := F.os
      tape := F.tape
      output := F.output
      block := F.block
      len := by rw [hn, h.len]; exact h.hn0
      ρ := fun b hb => by show E.ρ (π b) = _; rw [h.low b (by omega)]; exact F.ρ b hb
      wd := fun b hb => by show E.wd (π b) = _; rw [h.low b (by omega)]; exact F.wd b hb
      F := F.F
      F' := F.F'
      live := fun b ⟨r, hb, hl⟩ => by
        obtain ⟨q, hq, _, hx⟩ := h.blk b r hb
        have hlive := F.live (π b) ⟨q, hq, (hx hl).1⟩
        by_cases hbn : b < n0
        · rw [h.low b hbn] at hlive
          rcases hlive with h1 | ⟨h1, _⟩
          · exact .inl h1
          · omega
        · rcases hlive with ⟨h1, h2⟩ | ⟨_, h2⟩
          · exact .inr ⟨by omega, .inr ⟨π b, h2, (F.ρ (π b) h1).symm⟩⟩
          · exact .inr ⟨by omega, h2⟩
      csz := F.csz }
theorem weak_renW {n0 : Nat} {st st2 : St} (N : Nat) (π : Nat → Nat) (ht : LeTm N π st.tm st2.tm) (hh : LeHpW N π n0 st.hp st2.hp) : Weak n0 st st2 := by
  intro _ E0 hp0 E a hn hs
  obtain ⟨H, F⟩ := hh.sound hn hs.hr hs.fr
  refine ⟨E.ren N π, rfl, H, F, ht.len.symm.trans hs.len, fun i v u h1 h2 => ?_, hs.df⟩
  obtain ⟨v0, h3, h4⟩ := ht.get i v h1
  rcases h4 with rfl | ⟨rfl, hb⟩
  · exact .any _
  · exact RV.unren hb (hs.tm i _ u h3 h2)
theorem call_taken {f : FuncId} {fn : Func} {c : Code} {md : Nat → List Bool} {args : List AV} {hp : List Blk} {Q : AV → List Blk → Prop} (hm : P.follows .mixedOrders = true) (hf : P.funcs[f]? = some fn) (hb : fn.body = some c) (hgo : isGo P f) (hok : modesOk md c = true)
    (st2 : St) (hw : Weak hp.length ⟨args ++ List.replicate (fn.ntmps - args.length) .any, hp⟩ st2) (h : V P md hp.length c (retQ P fn hp.length Q) .mk st2) : CallA P f args hp Q := by
  refine callA_code hf hb hgo ?_
  refine code_weak hw ?_
  rw [V_def] at h
  exact vc_sound hm c st2 _ hok h
end Go.Abs
/- The abstract layer, part ZG: strings.Cut, TrimSuffix and Split, by the kit's own contracts. -/
set_option linter.unusedSimpArgs false
set_option linter.unusedVariables false
namespace Go.Abs
open Go
variable {P : Program}

theorem size_byts (s : List UInt8) : (⟨s.toArray⟩ : ByteArray).size = s.length := by simp [ByteArray.size]
def words (sep s : List UInt8) : List (List UInt8) := (Lib.splitB ⟨sep.toArray⟩ 0 (Lib.countB ⟨s.toArray⟩ ⟨sep.toArray⟩) ⟨s.toArray⟩).map (·.data.toList)
theorem words_len (sep s : List UInt8) (h1 : 1 ≤ sep.length) : (words sep s).length = Lib.countB ⟨s.toArray⟩ ⟨sep.toArray⟩ + 1 := by
  unfold words
  rw [List.length_map]
  exact Lib.splitB_all ⟨sep.toArray⟩ (by rw [size_byts]; exact h1) 0 _ _ rfl
theorem words_le (sep s : List UInt8) (h1 : 1 ≤ sep.length) : (words sep s).length ≤ s.length + 1 := by
  rw [words_len sep s h1]
  have := Lib.countB_le ⟨sep.toArray⟩ (by rw [size_byts]; exact h1) _ ⟨s.toArray⟩ (Nat.le_refl _)
  rw [size_byts] at this
  omega
theorem str_of (b : ByteArray) {E : Env P} : RV E (.str b.data.toList) (.string b) := RV.str b.data.toList
theorem split_call' {f : FuncId} (hgo : isGo P f) {g : Nat} (hg : P.globalNamed "internal/bytealg.MaxLen" = some g) {t : TypeId} (s sep : List UInt8) (h1 : 1 ≤ sep.length) (hs : s.length ≤ 4294967280)
    (h : ∀ (m : Int) (w : World), w.cell? ⟨g, 0, none⟩ = some (.int .i64 m) → Calls P f #[.string ⟨s.toArray⟩, .string ⟨sep.toArray⟩] w fun e w' =>
      e = .returned (.slice (some ⟨w.heap.size, 0, none⟩) (Lib.countB ⟨s.toArray⟩ ⟨sep.toArray⟩ + 1) (Lib.countB ⟨s.toArray⟩ ⟨sep.toArray⟩ + 1)) ∧ w' = w.alloc (.cells ((Lib.splitB ⟨sep.toArray⟩ 0 (Lib.countB ⟨s.toArray⟩ ⟨sep.toArray⟩) ⟨s.toArray⟩).map Value.string).toArray t)) :
    CallA P f [.str s, .str sep] [] (Ret (.ro (strs (words sep s))) []) := by
  intro E vs H hl hrv
  obtain ⟨v, u, rfl, hv, hu⟩ := RV.two hl hrv
  cases hv
  cases hu
  obtain ⟨m, hm⟩ := H.intVar (n := "internal/bytealg.MaxLen") (by simp [intVars]) hg
  refine .inl ⟨hgo, (h m E.w hm).mono ?_⟩
  rintro ex w' ⟨rfl, rfl⟩
  have wl := words_len sep s h1
  have wle := words_le sep s h1
  rw [← wl]
  generalize hb : Lib.splitB ⟨sep.toArray⟩ 0 (Lib.countB ⟨s.toArray⟩ ⟨sep.toArray⟩) ⟨s.toArray⟩ = bs
  have hw : words sep s = bs.map (·.data.toList) := by unfold words; rw [hb]
  have hnew : (E.w.alloc (.cells (bs.map Value.string).toArray t)).heap[E.w.heap.size]? = some (.cells (bs.map Value.string).toArray t) := by
    show (E.w.heap.push _)[E.w.heap.size]? = _
    rw [Array.getElem?_push, if_pos rfl]
  have hold : ∀ c, c < E.w.heap.size → (E.w.alloc (.cells (bs.map Value.string).toArray t)).heap[c]? = E.w.heap[c]? := fun c hc => by
    simp only [World.alloc]
    rw [Array.getElem?_push, if_neg (by omega)]
  obtain ⟨H2, F2, _⟩ := H.extend (w' := E.w.alloc (.cells (bs.map Value.string).toArray t)) (by show _ ≤ (E.w.heap.push _).size; rw [Array.size_push]; omega) hold rfl rfl rfl
  have F3 := F2 (Fr.refl E _)
  refine ⟨_, rfl, _, [], { E.with (E.w.alloc (.cells (bs.map Value.string).toArray t)) with F := fun c => E.F c ∨ c = E.w.heap.size }, rfl, ⟨rfl, rfl⟩, ?_, ?_, ?_⟩
  · have hsl : (strs (words sep s)).length = (words sep s).length := strs_len _
    rw [← hsl]
    refine .ro _ _ 0 _ 1 (fun i _ => .string ((bs[i]?).getD ⟨#[]⟩)) (.inr rfl) (Nat.le_refl _) (by rw [hsl]; unfold maxLen; omega) (fun i e he => ?_) (fun i e he j c hc => ?_) (fun i e he j c hc => ?_)
    · unfold strs at he
      rw [List.getElem?_map, Option.map_eq_some_iff] at he
      obtain ⟨x, _, rfl⟩ := he
      rfl
    · have he' : i < bs.length := by
        have := (List.getElem?_eq_some_iff.1 he).1
        rw [hsl, hw, List.length_map] at this
        exact this
      unfold strs at he
      rw [List.getElem?_map, Option.map_eq_some_iff] at he
      obtain ⟨x, _, rfl⟩ := he
      match j with
      | 0 =>
        show World.cell? (E.w.alloc _) ⟨E.w.heap.size, 0 + i * 1 + 0, none⟩ = _
        simp only [World.cell?, hnew]
        simp [List.getElem?_eq_getElem he']
      | j + 1 => simp [AV.cells] at hc
    · have he' : i < bs.length := by
        have := (List.getElem?_eq_some_iff.1 he).1
        rw [hsl, hw, List.length_map] at this
        exact this
      unfold strs at he
      rw [List.getElem?_map, Option.map_eq_some_iff] at he
      obtain ⟨x, hx, rfl⟩ := he
      rw [hw, List.getElem?_map, List.getElem?_eq_getElem he'] at hx
      have hx : bs[i].data.toList = x := by simpa using hx
      match j with
      | 0 =>
        have hc : AV.str x = c := by simpa [AV.cells] using hc
        subst hc
        rw [List.getElem?_eq_getElem he', ← hx]
        exact str_of _
      | j + 1 => simp [AV.cells] at hc
  · exact ⟨H2.N, H2.wd, fun b blk hb => by simp at hb, fun b b' blk blk' hb => by simp at hb, fun b blk hb => by simp at hb, fun c hc => by
      rcases hc with hc | rfl
      · exact H2.old c hc
      · show _ < (E.w.heap.push _).size
        rw [Array.size_push]; omega, H2.laid.keep (fun c hc => .inl hc) (fun _ _ => rfl)⟩
  · exact { size := F3.size, os := F3.os, tape := F3.tape, output := F3.output, block := F3.block, len := F3.len, ρ := F3.ρ, wd := F3.wd, F := fun c hc => .inl hc
            F' := fun c hc => by
              rcases hc with hc | rfl
              · exact .inl hc
              · exact .inr (.inl (Nat.le_refl _))
            live := fun b hb => by obtain ⟨blk, hb, _⟩ := hb; simp at hb
            csz := F3.csz }
end Go.Abs
/- The abstract layer, part ZH: nil slices told as empty lists; a block that holds nothing; heaps whose blocks name one another. -/
set_option linter.unusedSimpArgs false
set_option linter.unusedVariables false
namespace Go.Abs
open Go
variable {P : Program}

def nilD : Nat → AV → AV
  | 0, a => a
  | d + 1, a => match a with
    | .nils => .ro []
    | .agg l => .agg (l.map (nilD d))
    | .tup l => .tup (l.map (nilD d))
    | .ro l => .ro (l.map (nilD d))
    | .rop l => .rop (l.map (nilD d))
    | a => a
theorem nilD_cells (d : Nat) (e : AV) : (nilD d e).cells.length = e.cells.length ∧ ∀ (j : Nat) c, (nilD d e).cells[j]? = some c → ∃ d' c0, e.cells[j]? = some c0 ∧ d' ≤ d ∧ c = nilD d' c0 := by
  cases d with
  | zero => exact ⟨rfl, fun j c h => ⟨0, c, h, Nat.le_refl _, rfl⟩⟩
  | succ d =>
    cases e with
    | agg l =>
      refine ⟨by simp [nilD, AV.cells], fun j c h => ?_⟩
      simp only [nilD, AV.cells, List.getElem?_map, Option.map_eq_some_iff] at h
      obtain ⟨c0, h1, rfl⟩ := h
      exact ⟨d, c0, h1, Nat.le_succ _, rfl⟩
    | _ =>
      refine ⟨rfl, fun j c h => ?_⟩
      cases j with
      | zero => cases h; exact ⟨d + 1, _, rfl, Nat.le_refl _, rfl⟩
      | succ j => cases h
theorem RV.nil : ∀ (d : Nat) {E : Env P} {a : AV} {v : Value}, RV E a v → RV E (nilD d a) v := by
  intro d
  induction d using Nat.strongRecOn with
  | _ d ih =>
  intro E a v h
  match d, ih with
  | 0, _ => exact h
  | d + 1, ih =>
  cases h with
  | nils a => exact .roNil a 0
  | roNil a cap => exact .roNil a cap
  | agg l vs hl h =>
    refine .agg _ vs (by rw [List.length_map]; exact hl) fun i x v h1 h2 => ?_
    rw [List.getElem?_map, Option.map_eq_some_iff] at h1
    obtain ⟨y, h3, rfl⟩ := h1
    exact ih d (by omega) (h i y v h3 h2)
  | tup l vs hl h =>
    refine .tup _ vs (by rw [List.length_map]; exact hl) fun i x v h1 h2 => ?_
    rw [List.getElem?_map, Option.map_eq_some_iff] at h1
    obtain ⟨y, h3, rfl⟩ := h1
    exact ih d (by omega) (h i y v h3 h2)
  | ro l b off cap wd val hF hcap hmax hw hc hv =>
    have hlen : (l.map (nilD d)).length = l.length := List.length_map _
    show RV E (.ro (l.map (nilD d))) _
    rw [← hlen]
    refine .ro _ b off cap wd val hF (by rw [hlen]; exact hcap) hmax (fun i e he => ?_) (fun i e he j c hj => ?_) (fun i e he j c hj => ?_)
    all_goals
      rw [List.getElem?_map, Option.map_eq_some_iff] at he
      obtain ⟨e0, h1, rfl⟩ := he
    · rw [(nilD_cells d e0).1]; exact hw i e0 h1
    · obtain ⟨d', c0, h2, _, _⟩ := (nilD_cells d e0).2 j c hj
      exact hc i e0 h1 j c0 h2
    · obtain ⟨d', c0, h2, h3, rfl⟩ := (nilD_cells d e0).2 j c hj
      exact ih d' (by omega) (hv i e0 h1 j c0 h2)
  | any v => exact .any v
  | bool b => exact .bool b
  | int k n => exact .int k n
  | flt k x b h => exact .flt k x b h
  | cpx k x y a b h h' => exact .cpx k x y a b h h'
  | str s => exact .str s
  | sl b i n off cap hb ho hcap hmax hroom hw => exact .sl b i n off cap hb ho hcap hmax hroom hw
  | ptr b i j hb hw => exact .ptr b i j hb hw
  | mp b hb => exact .mp b hb
  | romNil => exact .romNil
  | rom l r hF hm => exact .rom l r hF hm
  | rop l b off val hF hc hv =>
    refine .rop _ b off val hF (fun j c hj => ?_) (fun j c hj => ?_)
    all_goals
      rw [List.getElem?_map, Option.map_eq_some_iff] at hj
      obtain ⟨c0, h1, rfl⟩ := hj
    · exact hc j c0 h1
    · exact ih d (by omega) (hv j c0 h1)
  | nilp => exact .nilp
  | fn f l vs hl h => exact .fn f l vs hl h
  | mv f l vs hl h => exact .mv f l vs hl h
  | nilf => exact .nilf
  | nili => exact .nili
theorem CallA.nil (d : Nat) {f : FuncId} {args args' : List AV} {hp : List Blk} {Q : AV → List Blk → Prop} (ha : args.map (nilD d) = args') (h : CallA P f args' hp Q) : CallA P f args hp Q := by
  subst ha
  intro E vs H hl hrv
  refine h E vs H (by rw [List.length_map]; exact hl) fun i a v h1 h2 => ?_
  rw [List.getElem?_map, Option.map_eq_some_iff] at h1
  obtain ⟨y, h3, rfl⟩ := h1
  exact (hrv i y v h3 h2).nil d
theorem CallA.nilR (d : Nat) {f : FuncId} {args : List AV} {hp hp' : List Blk} {r r2 : AV} (hr : nilD d r = r2) (h : CallA P f args hp (Ret r hp')) : CallA P f args hp (Ret r2 hp') := by
  subst hr
  intro E vs H hl hrv
  refine (h E vs H hl hrv).mono ?_
  rintro v w' ⟨r', hp'', E', hw, ⟨rfl, rfl⟩, hv, H', F'⟩
  exact ⟨_, _, E', hw, ⟨rfl, rfl⟩, hv.nil d, H', F'⟩
section
variable {f : FuncId} {args : List AV} {hp : List Blk} {Q : AV → List Blk → Prop} {t : Tok Q} {g : AV → Prop} {u : Tok g}
end

def deadB : Blk := { ty := 0, w := 1, els := [], live := false }
def Env.more (E : Env P) : Env P := { E with N := E.N + 1, wd := fun b => if b = E.N then 1 else E.wd b }
theorem Env.le_more (E : Env P) : E.le E.more :=
  ⟨fun _ h => h, fun _ _ => rfl, Nat.le_succ _, fun _ _ => rfl, fun b hb => by show (if b = E.N then 1 else E.wd b) = _; rw [if_neg (by omega)], fun _ => Nat.le_refl _⟩
theorem dead_get {hp : List Blk} {b : Nat} {blk : Blk} (h : (hp ++ [deadB])[b]? = some blk) : hp[b]? = some blk ∨ (b = hp.length ∧ blk = deadB) := by
  rcases Nat.lt_trichotomy b hp.length with hb | hb | hb
  · rw [List.getElem?_append_left hb] at h; exact .inl h
  · rw [List.getElem?_append_right (by omega), hb] at h
    simp at h
    exact .inr ⟨hb, h.symm⟩
  · rw [List.getElem?_append_right (by omega)] at h
    rw [List.getElem?_eq_none (by simp; omega)] at h
    cases h
theorem HRel.dead {E : Env P} {hp : List Blk} (H : HRel E hp) : HRel E.more (hp ++ [deadB]) := by
  have live : ∀ {b : Nat} {blk : Blk}, (hp ++ [deadB])[b]? = some blk → blk.live = true → hp[b]? = some blk := fun h hl => by
    rcases dead_get h with h | ⟨_, rfl⟩
    · exact h
    · cases hl
  refine ⟨by show E.N + 1 = _; rw [H.N]; simp, fun b blk hb => ?_, fun b blk hb hl => ?_, fun b b' blk blk' h1 h2 h3 h4 h5 => H.inj b b' blk blk' (live h1 h2) h2 (live h3 h4) h4 h5, fun b blk hb hl => H.apart b blk (live hb hl) hl, H.old, H.laid⟩
  · show (if b = E.N then 1 else E.wd b) = _
    rcases dead_get hb with h | ⟨rfl, rfl⟩
    · have := (List.getElem?_eq_some_iff.1 h).1
      rw [if_neg (by rw [H.N]; omega)]
      exact H.wd b blk h
    · rw [if_pos H.N.symm]; rfl
  · refine (H.holds b blk (live hb hl) hl).keep ?_ fun x u hu => hu.mono E.le_more
    rfl
theorem Fr.dead {E0 E : Env P} {hp0 hp : List Blk} (H : HRel E hp) (F : Fr E0 hp0 E hp) : Fr E0 hp0 E.more (hp ++ [deadB]) :=
  { size := F.size, os := F.os, tape := F.tape, output := F.output, block := F.block
    len := by rw [List.length_append]; have := F.len; omega
    ρ := F.ρ
    wd := fun b hb => by
      show (if b = E.N then 1 else E.wd b) = _
      rw [if_neg (by rw [H.N]; have := F.len; omega)]
      exact F.wd b hb
    F := F.F, F' := F.F'
    live := fun b ⟨blk, hb, hl⟩ => by
      rcases dead_get hb with h | ⟨_, rfl⟩
      · exact F.live b ⟨blk, h, hl⟩
      · cases hl
    csz := F.csz }
theorem PostR.dead {n0 : Nat} {r : AV} {hp : List Blk} {Q : AV → List Blk → Prop} (h : Q r (hp ++ [deadB])) : PostR n0 r hp Q :=
  ⟨r, hp ++ [deadB], fun P E0 hp0 E v hn H F hv => ⟨E.more, rfl, H.dead, F.dead H, hv.mono E.le_more⟩, h⟩

theorem WeakR.trans {n0 : Nat} {r1 r2 r3 : AV} {h1 h2 h3 : List Blk} (g : WeakR n0 r1 h1 r2 h2) (k : WeakR n0 r2 h2 r3 h3) : WeakR n0 r1 h1 r3 h3 := by
  intro P E0 hp0 E v hn H F hv
  obtain ⟨E1, e1, H1, F1, v1⟩ := g P E0 hp0 E v hn H F hv
  obtain ⟨E2, e2, H2, F2, v2⟩ := k P E0 hp0 E1 v hn H1 F1 v1
  exact ⟨E2, e2.trans e1, H2, F2, v2⟩
def SameTm : List AV → List AV → Prop
  | [], [] => True
  | a :: l, b :: m => (b = .any ∨ a = b) ∧ SameTm l m
  | _, _ => False
theorem SameTm.len : ∀ {l m : List AV}, SameTm l m → l.length = m.length
  | [], [], _ => rfl
  | a :: l, b :: m, h => by simp [SameTm.len h.2]
  | [], _ :: _, h => h.elim
  | _ :: _, [], h => h.elim
theorem SameTm.get : ∀ {l m : List AV}, SameTm l m → ∀ (i : Nat) b, m[i]? = some b → b = .any ∨ l[i]? = some b
  | [], [], _, i, b, h => by simp at h
  | a :: l, b :: m, h, 0, x, hx => by
    simp at hx; subst hx
    rcases h.1 with h1 | rfl
    · exact .inl h1
    · exact .inr rfl
  | a :: l, b :: m, h, i + 1, x, hx => by simpa using SameTm.get h.2 i x (by simpa using hx)
  | [], _ :: _, h, _, _, _ => h.elim
  | _ :: _, [], h, _, _, _ => h.elim
theorem Weak.trans {n0 : Nat} {a b c : St} (h : Weak n0 a b) (g : Weak n0 b c) : Weak n0 a c := by
  intro P E0 hp0 E act hn hs
  obtain ⟨E1, h1, h2⟩ := h P E0 hp0 E act hn hs
  obtain ⟨E2, h3, h4⟩ := g P E0 hp0 E1 act hn h2
  exact ⟨E2, h3.trans h1, h4⟩
end Go.Abs
/- The abstract layer, part ZI: a drawn region with a store that may come before operations that look at no memory; guards are told one by one. -/
set_option linter.unusedSimpArgs false
set_option linter.unusedVariables false
namespace Go.Abs
open Go
variable {P : Program}

def ordB (P : Program) (b0 : Nat) (n0 : Nat) (ops : List Oper) (ms bls : List Bool) (K : St → Prop) : List Nat → St → Prop
  | [], st => K st
  | k :: r, st => ∃ o, ops[k]? = some o ∧
    if ms.getD k true then wantedA ops o st = some true ∧ ∃ g : AV → List Blk → Option Nat → Prop, opA P n0 o.op st.ev st.hp g ∧ ∀ v hp' kb, g v hp' kb → ordB P b0 n0 ops ms bls K r ((st.after hp' kb).put o.dst v)
    else ∃ v, yA P ops o st v ∧ (bls.getD k false = true → ∀ q, yA P ops o (st.after (st.hp.set b0 q) none) v) ∧ ordB P b0 n0 ops ms bls K r (st.put o.dst v)
def Ol (P : Program) (b0 : Nat) (n0 : Nat) (ops : List Oper) (ms bls : List Bool) (K : St → Prop) (ord : List Nat) (_t : Tok (ops, ord, K)) (st : St) : Prop := ordB P b0 n0 ops ms bls K ord st
section
variable {b0 : Nat} {n0 : Nat} {ops : List Oper} {ms bls : List Bool} {K : St → Prop} {k : Nat} {r : List Nat} {st : St} {t : Tok (ops, k :: r, K)} {o : Oper}
end
attribute [irreducible] Ol
end Go.Abs
/- The abstract layer, part ZJ: what a function makes beside blocks that it changes is told as lists that nobody writes. -/
set_option linter.unusedSimpArgs false
set_option linter.unusedVariables false
namespace Go.Abs
open Go
section
variable {P : Program}
end
section
variable {P : Program} {b0 : Nat} {n0 : Nat} {ops : List Oper} {ms bls : List Bool} {K : St → Prop} {k : Nat} {r : List Nat} {st : St} {t : Tok (ops, k :: r, K)} {o : Oper}
end
end Go.Abs
/- The abstract layer, part ZK: at the head of a loop blocks of plain values may be told as lists that nobody writes any more, wherever they are named. -/
set_option linter.unusedSimpArgs false
set_option linter.unusedVariables false
namespace Go.Abs
open Go
def FrzC (new : List Blk) (N : Nat) (a b : AV) : Prop := b = .any ∨ (below N a = true ∧ b = a) ∨ ∃ d d' r0, a = ren (fun i => i + N) r0 ∧ below new.length r0 = true ∧ b = nilD d' (view d new r0)
def FrzV (new : List Blk) (N : Nat) (a b : AV) : Prop := FrzC new N a b ∨ ∃ l l2, a = .agg l ∧ b = .agg l2 ∧ l.length = l2.length ∧ ∀ (i : Nat) x y, l[i]? = some x → l2[i]? = some y → FrzC new N x y
structure FrzB (new : List Blk) (N : Nat) (q q2 : Blk) : Prop where
  map : 0 < q.w ∨ q2 = q
  ty : q2.ty = q.ty
  w : q2.w = q.w
  live : q2.live = q.live
  els : ∀ (i : Nat) e2, q2.els[i]? = some e2 → ∃ e, q.els[i]? = some e ∧ e.cells.length = e2.cells.length ∧ ∀ (j : Nat) x y, e.cells[j]? = some x → e2.cells[j]? = some y → FrzC new N x y
def FrzHp (new : List Blk) (N : Nat) : List Blk → List Blk → Prop
  | [], [] => True
  | q :: l, q2 :: l2 => FrzB new N q q2 ∧ FrzHp new N l l2
  | _, _ => False
def FrzTm (new : List Blk) (N : Nat) : List AV → List AV → Prop
  | [], [] => True
  | a :: l, b :: l2 => FrzV new N a b ∧ FrzTm new N l l2
  | _, _ => False
theorem FrzHp.get {new : List Blk} {N : Nat} : ∀ {l l2 : List Blk}, FrzHp new N l l2 → l2.length = l.length ∧ ∀ (i : Nat) q2, l2[i]? = some q2 → ∃ q, l[i]? = some q ∧ FrzB new N q q2
  | [], [], _ => ⟨rfl, by simp⟩
  | q :: l, q2 :: l2, h => by
    obtain ⟨h1, h2⟩ := FrzHp.get h.2
    refine ⟨by simp [h1], fun i q' hq => ?_⟩
    cases i with
    | zero => simp at hq; subst hq; exact ⟨q, rfl, h.1⟩
    | succ i => simpa using h2 i q' (by simpa using hq)
  | [], _ :: _, h => h.elim
  | _ :: _, [], h => h.elim
theorem FrzTm.get {new : List Blk} {N : Nat} : ∀ {l l2 : List AV}, FrzTm new N l l2 → l2.length = l.length ∧ ∀ (i : Nat) b, l2[i]? = some b → ∃ a, l[i]? = some a ∧ FrzV new N a b
  | [], [], _ => ⟨rfl, by simp⟩
  | q :: l, q2 :: l2, h => by
    obtain ⟨h1, h2⟩ := FrzTm.get h.2
    refine ⟨by simp [h1], fun i q' hq => ?_⟩
    cases i with
    | zero => simp at hq; subst hq; exact ⟨q, rfl, h.1⟩
    | succ i => simpa using h2 i q' (by simpa using hq)
  | [], _ :: _, h => h.elim
  | _ :: _, [], h => h.elim
theorem Weak.and {n0 : Nat} {a b c : St} (h1 : Weak n0 a b) (h2 : Weak n0 b c) : Weak n0 a c := by
  intro P E0 hp0 E s hn hs
  obtain ⟨E1, e1, s1⟩ := h1 P E0 hp0 E s hn hs
  obtain ⟨E2, e2, s2⟩ := h2 P E0 hp0 E1 s hn s1
  exact ⟨E2, e2.trans e1, s2⟩
end Go.Abs
/- The abstract layer, part ZL: a known block, told with its first elements alone. -/
namespace Go.Abs
open Go
variable {P : Program}

theorem cut_get {hp : List Blk} {b : Nat} {blk : Blk} (m : Nat) (hb : hp[b]? = some blk) {b' : Nat} {q : Blk} (h : (hp.set b { blk with els := blk.els.take m })[b']? = some q) :
    ∃ q0, hp[b']? = some q0 ∧ q0.w = q.w ∧ q0.live = q.live ∧ q0.ty = q.ty ∧ ∀ (i : Nat) e, q.els[i]? = some e → q0.els[i]? = some e := by
  by_cases hbb : b = b'
  · subst hbb
    rw [List.getElem?_set_self (List.getElem?_eq_some_iff.1 hb).1] at h
    simp only [Option.some.injEq] at h
    subst h
    refine ⟨blk, hb, rfl, rfl, rfl, fun i e he => ?_⟩
    have he' : (blk.els.take m)[i]? = some e := he
    rw [List.getElem?_take] at he'
    split at he'
    · exact he'
    · simp at he'
  · rw [List.getElem?_set_ne hbb] at h
    exact ⟨q, h, rfl, rfl, rfl, fun _ _ he => he⟩
theorem HRel.cut {E : Env P} {hp : List Blk} (H : HRel E hp) {b : Nat} {blk : Blk} (m : Nat) (hb : hp[b]? = some blk) (hw : 0 < blk.w) : HRel E (hp.set b { blk with els := blk.els.take m }) where
  N := by rw [List.length_set]; exact H.N
  wd := fun b' q h => by
    obtain ⟨q0, h1, h2, _⟩ := cut_get m hb h
    rw [H.wd b' q0 h1, h2]
  holds := fun b' q h hl => by
    obtain ⟨q0, h1, h2, h3, h4, h5⟩ := cut_get m hb h
    have hold := H.holds b' q0 h1 (by rw [h3]; exact hl)
    refine ⟨fun h0 => ?_, fun h0 => ?_⟩
    · obtain ⟨cs, g1, g2⟩ := hold.cells (h2 ▸ h0)
      exact ⟨cs, h4 ▸ g1, fun i e he => by rw [← h2]; exact g2 i e (h5 i e he)⟩
    · by_cases hbb : b = b'
      · subst hbb
        rw [hb] at h1
        cases h1
        omega
      · rw [List.getElem?_set_ne hbb, h1] at h
        cases h
        exact hold.map h0
  inj := fun b' b'' q q' h hl h' hl' he => by
    obtain ⟨q0, h1, _, h3, _⟩ := cut_get m hb h
    obtain ⟨q1, h1', _, h3', _⟩ := cut_get m hb h'
    exact H.inj b' b'' q0 q1 h1 (by rw [h3]; exact hl) h1' (by rw [h3']; exact hl') he
  apart := fun b' q h hl => by
    obtain ⟨q0, h1, _, h3, _⟩ := cut_get m hb h
    exact H.apart b' q0 h1 (by rw [h3]; exact hl)
  old := H.old
  laid := H.laid
theorem Fr.cut {E E0 : Env P} {hp0 hp : List Blk} (F : Fr E0 hp0 E hp) {b : Nat} {blk : Blk} (m : Nat) (hb : hp[b]? = some blk) : Fr E0 hp0 E (hp.set b { blk with els := blk.els.take m }) where
  size := F.size
  os := F.os
  tape := F.tape
  output := F.output
  block := F.block
  len := by rw [List.length_set]; exact F.len
  ρ := F.ρ
  wd := F.wd
  F := F.F
  F' := F.F'
  live := fun b' ⟨q, h, hl⟩ => by
    obtain ⟨q0, h1, _, h3, _⟩ := cut_get m hb h
    exact F.live b' ⟨q0, h1, by rw [h3]; exact hl⟩
  csz := F.csz
theorem PostR.cut {n0 : Nat} {r : AV} {hp : List Blk} {Q : AV → List Blk → Prop} (b m : Nat) {blk : Blk} (hb : hp[b]? = some blk) (hw0 : 0 < blk.w) (h : PostR n0 r (hp.set b { blk with els := blk.els.take m }) Q) : PostR n0 r hp Q := by
  obtain ⟨r2, hp2, hw, hq⟩ := h
  exact ⟨r2, hp2, fun P E0 hp0 E v hn H F hv => hw P E0 hp0 E v hn (H.cut m hb hw0) (F.cut m hb) hv, hq⟩
theorem Weak.cut {n0 : Nat} {tm : List AV} {hp : List Blk} {st2 : St} (b m : Nat) {blk : Blk} (hb : hp[b]? = some blk) (hw0 : 0 < blk.w) (h : Weak n0 ⟨tm, hp.set b { blk with els := blk.els.take m }⟩ st2) : Weak n0 ⟨tm, hp⟩ st2 := by
  intro P E0 hp0 E a hn hs
  exact h P E0 hp0 E a hn ⟨hs.hr.cut m hb hw0, hs.fr.cut m hb, hs.len, hs.tm, hs.df⟩
end Go.Abs
/- The abstract layer, part ZM: drawn regions in which appends and other operations that change memory float beside quiet operations that do not mind. -/
set_option linter.unusedSimpArgs false
set_option linter.unusedVariables false
namespace Go.Abs
open Go
variable {P : Program}
section
variable {P : Program}

def stepM (P : Program) (n0 : Nat) (ops : List Oper) (ms : List Nat) (bks : List (Option Nat)) (Hs Hw : List Blk → Prop) (i : Nat) (K : St → Prop) (st : St) : Prop :=
  match ops[i]? with
  | none => K st
  | some o => o.guard = none ∧ match ms.getD i 1 with
    | 0 | 3 | 5 => ∃ v, Yields P o st.ev st.hp v ∧ K (st.put o.dst v)
    | 4 => ∃ g : AV → List Blk → Option Nat → Prop, opA P n0 o.op st.ev st.hp g ∧ ∀ v hp' kb, g v hp' kb → (kb = none ∨ kb = bks.getD i none) ∧ Hw hp' ∧ K ((st.after hp' kb).put o.dst v)
    | 2 => ∃ g : AV → List Blk → Option Nat → Prop, opA P n0 o.op st.ev st.hp g ∧ ∀ v hp' kb, g v hp' kb → (kb = none ∨ kb = bks.getD i none) ∧ Hs hp' ∧ K ((st.after hp' kb).put o.dst v)
    | _ => ∃ k : AV → List Blk → Option Nat → Prop, opA P n0 o.op st.ev st.hp k ∧ ∀ v hp' kb, k v hp' kb → K ((st.after hp' kb).put o.dst v)
def anyM (P : Program) (n0 : Nat) (ops : List Oper) (ms : List Nat) (bks : List (Option Nat)) (Hs Hw : List Blk → Prop) (K : St → Prop) : Nat → Array Bool → St → Prop
  | 0, listed, st => Region.ready .any ops.toArray listed = [] ∧ K st
  | fuel + 1, listed, st =>
    (Region.ready .any ops.toArray listed = [] → K st) ∧ ∀ i ∈ Region.ready .any ops.toArray listed, stepM P n0 ops ms bks Hs Hw i (anyM P n0 ops ms bks Hs Hw K fuel (listed.setIfInBounds i true)) st

def boolM3 (ms : List Nat) : List Bool := ms.map fun m => m != 0 && m != 3 && m != 5
theorem boolM3_get (ms : List Nat) (i : Nat) : (boolM3 ms).getD i true = (ms.getD i 1 != 0 && ms.getD i 1 != 3 && ms.getD i 1 != 5) := by
  simp only [boolM3, List.getD_eq_getElem?_getD, List.getElem?_map]
  cases ms[i]? <;> rfl
theorem stepM_stepA {n0 : Nat} {ops : List Oper} {ms : List Nat} {bks : List (Option Nat)} {Hs Hw : List Blk → Prop} {i : Nat} {K K' : St → Prop} {st : St} (hK : ∀ st, K st → K' st) (h : stepM P n0 ops ms bks Hs Hw i K st) : stepA P n0 ops (boolM3 ms) i K' st := by
  unfold stepM at h
  unfold stepA
  cases ho : ops[i]? with
  | none => rw [ho] at h; exact hK _ h
  | some o =>
    rw [ho] at h
    obtain ⟨hg, h⟩ := h
    have hw : wantedA ops o st = some true := by simp [wantedA, hg]
    simp only [boolM3_get]
    split at h
    · rename_i h0
      rw [h0]
      obtain ⟨v, hy, hk⟩ := h
      simp only [bne_self_eq_false, Bool.false_and, Bool.false_eq_true, if_false]
      exact ⟨v, .inl ⟨hw, hy⟩, hK _ hk⟩
    · rename_i h0
      rw [h0]
      obtain ⟨v, hy, hk⟩ := h
      simp only [bne_self_eq_false, Bool.and_false, Bool.false_and, Bool.false_eq_true, if_false]
      exact ⟨v, .inl ⟨hw, hy⟩, hK _ hk⟩
    · rename_i h0
      rw [h0]
      obtain ⟨v, hy, hk⟩ := h
      simp only [bne_self_eq_false, Bool.and_false, Bool.false_eq_true, if_false]
      exact ⟨v, .inl ⟨hw, hy⟩, hK _ hk⟩
    · rename_i h0
      rw [h0]
      obtain ⟨g, hop, hk⟩ := h
      simp only [show ((4 : Nat) != 0 && (4 : Nat) != 3 && (4 : Nat) != 5) = true from rfl, if_true]
      exact .inl ⟨hw, g, hop, fun v hp' kb hv => hK _ (hk v hp' kb hv).2.2⟩
    · rename_i h0
      rw [h0]
      obtain ⟨g, hop, hk⟩ := h
      simp only [show ((2 : Nat) != 0 && (2 : Nat) != 3 && (2 : Nat) != 5) = true from rfl, if_true]
      exact .inl ⟨hw, g, hop, fun v hp' kb hv => hK _ (hk v hp' kb hv).2.2⟩
    · rename_i h0 h3 h5 h4 h2
      have : (ms.getD i 1 != 0 && ms.getD i 1 != 3 && ms.getD i 1 != 5) = true := by rw [bne_iff_ne.2 h0, bne_iff_ne.2 h3, bne_iff_ne.2 h5]; rfl
      rw [this]
      obtain ⟨k, hop, hk⟩ := h
      simp only [if_true]
      exact .inl ⟨hw, k, hop, fun v hp' kb hv => hK _ (hk v hp' kb hv)⟩
theorem anyM_anyA {n0 : Nat} {ops : List Oper} {ms : List Nat} {bks : List (Option Nat)} {Hs Hw : List Blk → Prop} {K : St → Prop} : ∀ (fuel : Nat) (listed : Array Bool) (st : St), anyM P n0 ops ms bks Hs Hw K fuel listed st → anyA P n0 ops (boolM3 ms) K fuel listed st
  | 0, listed, st, h => h
  | fuel + 1, listed, st, h => ⟨h.1, fun i hi => stepM_stepA (fun st' h' => anyM_anyA fuel _ st' h') (h.2 i hi)⟩

def FreeM (ops : List Oper) (ms : List Nat) (bks : List (Option Nat)) (fx : List Nat) (listed : Array Bool) (i : Nat) (oi : Oper) : Prop :=
  ∃ D : List Nat, Waits ops listed i D ∧ ∀ j oj, ops[j]? = some oj → j ≠ i → listed.getD j true = false → j ∉ D → (∀ e ∈ oj.after, Region.binds .any e = true → e.on ≠ i) →
    oi.apart ops.toArray oj = true ∧ ((ms.getD j 1 = 0 ∨ ms.getD j 1 = 3 ∨ ms.getD j 1 = 5) ∨ ((ms.getD i 1 ≠ 3 ∧ ms.getD j 1 = 2 ∨ ms.getD i 1 = 5 ∧ ms.getD j 1 = 4) ∧ ∀ b, bks.getD j none = some b → b ∈ fx))

def Fixed (fx : List Nat) (v : AV) : Prop := ∀ b ∈ fx, kill b v = v
theorem getD_map_kill (b : Nat) (l : List AV) (t : Nat) : (l.map (kill b)).getD t .any = kill b (l.getD t .any) := by
  simp only [List.getD_eq_getElem?_getD, List.getElem?_map]
  cases l[t]? <;> rfl
theorem St.ev_after_fixed (st : St) (hp : List Blk) {kb : Option Nat} {x : Operand} (h : ∀ b, kb = some b → kill b (st.ev x) = st.ev x) : (st.after hp kb).ev x = st.ev x := by
  cases kb with
  | none => exact St.ev_after st hp x
  | some b =>
    cases x with
    | tmp t =>
      show (st.tm.map (kill b)).getD t .any = _
      rw [getD_map_kill]
      exact h b rfl
    | _ => rfl
theorem put_after_fixed (st : St) (hp : List Blk) (kb : Option Nat) (d : Option Tmp) {v : AV} (h : ∀ b, kb = some b → kill b v = v) : (st.put d v).after hp kb = (st.after hp kb).put d v := by
  cases kb with
  | none => exact put_after st hp d v
  | some b =>
    cases d with
    | none => rfl
    | some t =>
      simp only [St.put, St.after, List.map_set]
      rw [h b rfl]
theorem after_hpM (st : St) (hp : List Blk) (kb : Option Nat) : (st.after hp kb).hp = hp := by cases kb <;> rfl

theorem anyM_first {n0 : Nat} {ops : List Oper} {ms : List Nat} {bks : List (Option Nat)} {fx : List Nat} {Hs Hw : List Blk → Prop} {K : St → Prop} {i : Nat} {oi : Oper} {v : AV} (hi : ops[i]? = some oi) (hm : ms.getD i 1 = 0 ∨ ms.getD i 1 = 3 ∨ ms.getD i 1 = 5) (hgi : oi.guard = none) (hv : Fixed fx v) :
    ∀ (fuel : Nat) (listed : Array Bool) (st : St), FreeM ops ms bks fx listed i oi → i ∈ Region.ready .any ops.toArray listed → (∀ hp, (hp = st.hp ∨ (ms.getD i 1 ≠ 3 ∧ Hs hp) ∨ (ms.getD i 1 = 5 ∧ Hw hp)) → Yields P oi st.ev hp v) → (∀ x ∈ oi.op.operands, Fixed fx (st.ev x)) →
      anyM P n0 ops ms bks Hs Hw K fuel (listed.setIfInBounds i true) (st.put oi.dst v) → anyM P n0 ops ms bks Hs Hw K (fuel + 1) listed st := by
  have self : ∀ (fuel : Nat) (listed : Array Bool) (st : St), Yields P oi st.ev st.hp v → anyM P n0 ops ms bks Hs Hw K fuel (listed.setIfInBounds i true) (st.put oi.dst v) → stepM P n0 ops ms bks Hs Hw i (anyM P n0 ops ms bks Hs Hw K fuel (listed.setIfInBounds i true)) st := by
    intro fuel listed st hy H
    unfold stepM
    simp only [hi]
    rcases hm with hm | hm | hm <;> rw [hm] <;> exact ⟨hgi, v, hy, H⟩
  intro fuel
  induction fuel with
  | zero =>
    intro listed st _ hr hy hx H
    refine ⟨fun h => (by rw [h] at hr; cases hr), fun j hj => ?_⟩
    by_cases hji : j = i
    · subst hji; exact self 0 listed st (hy _ (.inl rfl)) H
    · have := ready_mono hj hji
      rw [H.1] at this
      cases this
  | succ fuel ih =>
    intro listed st hfree hr hy hx H
    refine ⟨fun h => (by rw [h] at hr; cases hr), fun j hj => ?_⟩
    by_cases hji : j = i
    · subst hji; exact self _ listed st (hy _ (.inl rfl)) H
    · have h1 := H.2 j (ready_mono hj hji)
      obtain ⟨hjun, oj, hoj, hall⟩ := mem_ready.1 hj
      have hoj' : ops[j]? = some oj := by simpa using hoj
      have hnot : ∀ e ∈ oj.after, Region.binds .any e = true → e.on ≠ i := fun e he hb heq => by
        have h1 := hall e he hb
        have h0 := (mem_ready.1 hr).1
        rw [heq] at h1
        rcases Nat.lt_or_ge i listed.size with h' | h'
        · simp [h'] at h0 h1; rw [h0] at h1; cases h1
        · simp [Array.getElem?_eq_none h'] at h1
      obtain ⟨D, hwait, hfree⟩ := hfree
      have hjD : j ∉ D := fun hD => by
        obtain ⟨_, oj', hoj'', e, he, hb, hc⟩ := hwait j hD
        have : oj' = oj := by rw [hoj'] at hoj''; cases hoj''; rfl
        subst this
        rcases hc with hc | hc
        · exact hnot e he hb hc
        · have h1 := hall e he hb
          have h0 := (hwait e.on hc).1
          rcases Nat.lt_or_ge e.on listed.size with h' | h'
          · simp [h'] at h0 h1; rw [h0] at h1; cases h1
          · simp [Array.getElem?_eq_none h'] at h1
      obtain ⟨hap, hmj⟩ := hfree j oj hoj' hji hjun hjD hnot
      obtain ⟨a1, a2, a3⟩ := Oper.apart_spec hap
      have hfree' : FreeM ops ms bks fx (listed.setIfInBounds j true) i oi := ⟨D, fun d hd => by
        have hne : j ≠ d := fun h => hjD (h ▸ hd)
        obtain ⟨w1, w2⟩ := hwait d hd
        exact ⟨by rw [getD_set_ne true hne]; exact w1, w2⟩, fun k ok hk hki hun hkD hno => by
        refine hfree k ok hk hki ?_ hkD hno
        by_cases hjk : j = k
        · subst hjk; exact hjun
        · rw [getD_set_ne true hjk] at hun; exact hun⟩
      unfold stepM at h1 ⊢
      simp only [hoj'] at h1 ⊢
      obtain ⟨hgj, h1⟩ := h1
      refine ⟨hgj, ?_⟩
      have evj : ∀ x ∈ oj.op.operands, (st.put oi.dst v).ev x = st.ev x := ev_apart (ops := ops) a1
      rcases hmj with hmj | ⟨hmj, hbk⟩
      · have h1' : ∃ u, Yields P oj (st.put oi.dst v).ev (st.put oi.dst v).hp u ∧ anyM P n0 ops ms bks Hs Hw K fuel ((listed.setIfInBounds i true).setIfInBounds j true) ((st.put oi.dst v).put oj.dst u) := by
          rcases hmj with hmj | hmj | hmj <;> simp only [hmj] at h1 <;> exact h1
        suffices h2 : ∃ u, Yields P oj st.ev st.hp u ∧ anyM P n0 ops ms bks Hs Hw K (fuel + 1) (listed.setIfInBounds j true) (st.put oj.dst u) by
          rcases hmj with hmj | hmj | hmj <;> simp only [hmj] <;> exact h2
        clear h1
        have h1 := h1'
        obtain ⟨u, hu, hK⟩ := h1
        rw [put_hp] at hu
        refine ⟨u, hu.congr evj, ?_⟩
        have ex : ∀ x ∈ oi.op.operands, (st.put oj.dst u).ev x = st.ev x := fun x hx' => ev_apart (ops := ops) a3 x hx'
        refine ih (listed.setIfInBounds j true) (st.put oj.dst u) hfree' (ready_mono hr (Ne.symm hji)) (fun hp hh => (hy hp (by rw [put_hp] at hh; exact hh)).congr fun x hx' => (ex x hx').symm) (fun x hx' => by rw [ex x hx']; exact hx x hx') ?_
        rw [Array.setIfInBounds_comm _ _ hji, St.put_comm st u v (fun d hd he => a2 d he hd)]
        exact hK
      · have fin : ∀ (u : AV) (hp' : List Blk) (kb : Option Nat), (kb = none ∨ kb = bks.getD j none) → ((ms.getD i 1 ≠ 3 ∧ Hs hp') ∨ (ms.getD i 1 = 5 ∧ Hw hp')) → anyM P n0 ops ms bks Hs Hw K fuel ((listed.setIfInBounds i true).setIfInBounds j true) (((st.put oi.dst v).after hp' kb).put oj.dst u) → anyM P n0 ops ms bks Hs Hw K (fuel + 1) (listed.setIfInBounds j true) ((st.after hp' kb).put oj.dst u) := by
          intro u hp' kb hkb hh hK
          have hkf : ∀ w, Fixed fx w → ∀ b, kb = some b → kill b w = w := fun w hw b hb => by
            rcases hkb with h | h
            · rw [h] at hb; cases hb
            · exact hw b (hbk b (by rw [← h]; exact hb))
          have ex : ∀ x ∈ oi.op.operands, ((st.after hp' kb).put oj.dst u).ev x = st.ev x := fun x hx' => by
            rw [ev_apart (ops := ops) a3 x hx']
            exact St.ev_after_fixed st hp' (hkf _ (hx x hx'))
          refine ih (listed.setIfInBounds j true) ((st.after hp' kb).put oj.dst u) hfree' (ready_mono hr (Ne.symm hji)) (fun hp hh' => (hy hp (.inr (by
            rcases hh' with h | h
            · rw [h, put_hp, after_hpM]; exact hh
            · exact h))).congr fun x hx' => (ex x hx').symm) (fun x hx' => by rw [ex x hx']; exact hx x hx') ?_
          rw [Array.setIfInBounds_comm _ _ hji, St.put_comm _ u v (fun d hd he => a2 d he hd), ← put_after_fixed st hp' kb oi.dst (hkf _ hv)]
          exact hK
        rcases hmj with ⟨hm3, hmj⟩ | ⟨hm5, hmj⟩
        · simp only [hmj] at h1 ⊢
          obtain ⟨g, hop, hK⟩ := h1
          rw [put_hp] at hop
          refine ⟨g, opA_congr evj hop, fun u hp' kb hq => ?_⟩
          obtain ⟨hkb, hh, hK⟩ := hK u hp' kb hq
          exact ⟨hkb, hh, fin u hp' kb hkb (.inl ⟨hm3, hh⟩) hK⟩
        · simp only [hmj] at h1 ⊢
          obtain ⟨g, hop, hK⟩ := h1
          rw [put_hp] at hop
          refine ⟨g, opA_congr evj hop, fun u hp' kb hq => ?_⟩
          obtain ⟨hkb, hw, hK⟩ := hK u hp' kb hq
          exact ⟨hkb, hw, fin u hp' kb hkb (.inr ⟨hm5, hw⟩) hK⟩

def freeMB (ops : Array Oper) (ms : List Nat) (bks : List (Option Nat)) (fx : List Nat) (listed : Array Bool) (k : Nat) : Bool :=
  match ops[k]? with
  | none => false
  | some o => lateOk ops listed k (lateOf ops listed k) && (List.range ops.size).all fun j =>
    j == k || listed.getD j true || (lateOf ops listed k).contains j ||
    match ops[j]? with
    | none => true
    | some oj => (oj.after.any fun e => Region.binds .any e && e.on == k) || (o.apart ops oj && ((ms.getD j 1 == 0 || (ms.getD j 1 == 3 || ms.getD j 1 == 5)) || ((ms.getD k 1 != 3 && ms.getD j 1 == 2 || ms.getD k 1 == 5 && ms.getD j 1 == 4) && match bks.getD j none with
      | none => true
      | some b => fx.contains b)))
theorem freeMB_spec {ops : List Oper} {ms : List Nat} {bks : List (Option Nat)} {fx : List Nat} {listed : Array Bool} {k : Nat} {o : Oper} (hk : ops[k]? = some o) (h : freeMB ops.toArray ms bks fx listed k = true) : FreeM ops ms bks fx listed k o := by
  unfold freeMB at h
  have hk' : ops.toArray[k]? = some o := by simpa using hk
  rw [hk'] at h
  simp only [Bool.and_eq_true] at h
  refine ⟨_, lateOk_spec h.1, ?_⟩
  have h := h.2
  intro j oj hoj hjk hun hD hno
  simp only [List.all_eq_true, List.mem_range] at h
  have hj : j < ops.toArray.size := by
    have := (List.getElem?_eq_some_iff.1 hoj).1
    simpa using this
  have h1 := h j hj
  have hoj' : ops.toArray[j]? = some oj := by simpa using hoj
  rw [hoj', hun] at h1
  have hjk' : (j == k) = false := by simpa using hjk
  have hD' : (lateOf ops.toArray listed k).contains j = false := by simpa using hD
  rw [hjk', hD'] at h1
  simp only [Bool.false_or, Bool.or_eq_true, Bool.and_eq_true, beq_iff_eq, bne_iff_ne] at h1
  rcases h1 with h1 | ⟨h1, h2⟩
  · exfalso
    rw [Array.any_eq_true] at h1
    obtain ⟨m, hm, he⟩ := h1
    simp only [Bool.and_eq_true, beq_iff_eq] at he
    exact hno _ (Array.getElem_mem hm) he.1 he.2
  · refine ⟨h1, h2.imp id fun ⟨h3, h4⟩ => ⟨h3, fun b hb => ?_⟩⟩
    rw [hb] at h4
    simpa using h4

def ordOkM (ops : Array Oper) (ms : List Nat) (bks : List (Option Nat)) (fx : List (List Nat)) : List Nat → Array Bool → Bool
  | [], listed => (Region.ready .any ops listed).isEmpty
  | k :: r, listed => (if ms.getD k 1 == 0 || (ms.getD k 1 == 3 || ms.getD k 1 == 5) then (Region.ready .any ops listed).contains k && freeMB ops ms bks (fx.getD k []) listed k else Region.ready .any ops listed == [k]) && ordOkM ops ms bks fx r (listed.setIfInBounds k true)
def ordM (P : Program) (n0 : Nat) (ops : List Oper) (ms : List Nat) (bks : List (Option Nat)) (fx : List (List Nat)) (Hs Hw : List Blk → Prop) (K : St → Prop) : List Nat → St → Prop
  | [], st => K st
  | k :: r, st => ∃ o, ops[k]? = some o ∧ o.guard = none ∧ match ms.getD k 1 with
    | 0 => ∃ v, Hs st.hp ∧ (∀ hp, Hs hp → Yields P o st.ev hp v) ∧ (Fixed (fx.getD k []) v ∧ ∀ x ∈ o.op.operands, Fixed (fx.getD k []) (st.ev x)) ∧ ordM P n0 ops ms bks fx Hs Hw K r (st.put o.dst v)
    | 3 => ∃ v, Yields P o st.ev st.hp v ∧ fx.getD k [] = [] ∧ ordM P n0 ops ms bks fx Hs Hw K r (st.put o.dst v)
    | 5 => ∃ v, Hw st.hp ∧ (∀ hp, Hw hp → Yields P o st.ev hp v) ∧ (Fixed (fx.getD k []) v ∧ ∀ x ∈ o.op.operands, Fixed (fx.getD k []) (st.ev x)) ∧ ordM P n0 ops ms bks fx Hs Hw K r (st.put o.dst v)
    | 4 => ∃ g : AV → List Blk → Option Nat → Prop, opA P n0 o.op st.ev st.hp g ∧ ∀ v hp' kb, g v hp' kb → (kb = none ∨ kb = bks.getD k none) ∧ Hw hp' ∧ ordM P n0 ops ms bks fx Hs Hw K r ((st.after hp' kb).put o.dst v)
    | 2 => ∃ g : AV → List Blk → Option Nat → Prop, opA P n0 o.op st.ev st.hp g ∧ ∀ v hp' kb, g v hp' kb → (kb = none ∨ kb = bks.getD k none) ∧ Hs hp' ∧ ordM P n0 ops ms bks fx Hs Hw K r ((st.after hp' kb).put o.dst v)
    | _ => ∃ g : AV → List Blk → Option Nat → Prop, opA P n0 o.op st.ev st.hp g ∧ ∀ v hp' kb, g v hp' kb → ordM P n0 ops ms bks fx Hs Hw K r ((st.after hp' kb).put o.dst v)
theorem anyM_ord {n0 : Nat} {ops : List Oper} {ms : List Nat} {bks : List (Option Nat)} {fx : List (List Nat)} {Hs Hw : List Blk → Prop} {K : St → Prop} (hsw : ∀ hp, Hs hp → Hw hp) : ∀ (ord : List Nat) (listed : Array Bool) (st : St), ordOkM ops.toArray ms bks fx ord listed = true → ordM P n0 ops ms bks fx Hs Hw K ord st → anyM P n0 ops ms bks Hs Hw K ord.length listed st
  | [], listed, st, hB, h => ⟨by simpa [ordOkM] using hB, h⟩
  | k :: r, listed, st, hB, h => by
    obtain ⟨o, ho, hg, h⟩ := h
    simp only [ordOkM, Bool.and_eq_true] at hB
    obtain ⟨hB1, hB2⟩ := hB
    split at h
    · rename_i hm
      obtain ⟨v, hh, hy, ⟨hv, hx⟩, hK⟩ := h
      rw [hm] at hB1
      simp only [beq_self_eq_true, Bool.true_or, if_true, Bool.and_eq_true] at hB1
      exact anyM_first ho (.inl hm) hg hv r.length listed st (freeMB_spec ho hB1.2) (by simpa using hB1.1) (fun hp h => hy hp (by rcases h with h | h | h; exact h ▸ hh; exact h.2; rw [hm] at h; cases h.1)) hx (anyM_ord hsw r _ _ hB2 hK)
    · rename_i hm
      obtain ⟨v, hy, hfx, hK⟩ := h
      rw [hm] at hB1
      simp only [beq_self_eq_true, Bool.true_or, Bool.or_true, if_true, Bool.and_eq_true] at hB1
      have hF := freeMB_spec ho hB1.2
      rw [hfx] at hF
      exact anyM_first ho (.inr (.inl hm)) hg (fun b hb => by cases hb) r.length listed st hF (by simpa using hB1.1) (fun hp h => by rcases h with h | h | h; exact h ▸ hy; exact absurd hm h.1; rw [hm] at h; cases h.1) (fun x _ b hb => by cases hb) (anyM_ord hsw r _ _ hB2 hK)
    · rename_i hm
      obtain ⟨v, hw, hy, ⟨hv, hx⟩, hK⟩ := h
      rw [hm] at hB1
      simp only [beq_self_eq_true, Bool.or_true, if_true, Bool.and_eq_true] at hB1
      exact anyM_first ho (.inr (.inr hm)) hg hv r.length listed st (freeMB_spec ho hB1.2) (by simpa using hB1.1) (fun hp h => hy hp (by rcases h with h | h | h; exact h ▸ hw; exact hsw _ h.2; exact h.2)) hx (anyM_ord hsw r _ _ hB2 hK)
    · rename_i hm
      obtain ⟨g, hop, hK⟩ := h
      rw [hm] at hB1
      simp only [show ((4 : Nat) == 0 || ((4 : Nat) == 3 || (4 : Nat) == 5)) = false from rfl, Bool.false_eq_true, if_false, beq_iff_eq] at hB1
      refine ⟨fun h => (by rw [hB1] at h; cases h), fun i hi => ?_⟩
      rw [hB1] at hi
      have : i = k := by simpa using hi
      subst this
      unfold stepM
      simp only [ho, hm]
      exact ⟨hg, g, hop, fun v hp' kb hq => ⟨(hK v hp' kb hq).1, (hK v hp' kb hq).2.1, anyM_ord hsw r _ _ hB2 (hK v hp' kb hq).2.2⟩⟩
    · rename_i hm
      obtain ⟨g, hop, hK⟩ := h
      rw [hm] at hB1
      simp only [show ((2 : Nat) == 0 || ((2 : Nat) == 3 || (2 : Nat) == 5)) = false from rfl, Bool.false_eq_true, if_false, beq_iff_eq] at hB1
      refine ⟨fun h => (by rw [hB1] at h; cases h), fun i hi => ?_⟩
      rw [hB1] at hi
      have : i = k := by simpa using hi
      subst this
      unfold stepM
      simp only [ho, hm]
      exact ⟨hg, g, hop, fun v hp' kb hq => ⟨(hK v hp' kb hq).1, (hK v hp' kb hq).2.1, anyM_ord hsw r _ _ hB2 (hK v hp' kb hq).2.2⟩⟩
    · rename_i hm hm3 hm5 hm4 hm2
      obtain ⟨g, hop, hK⟩ := h
      have hm' : (ms.getD k 1 == 0 || (ms.getD k 1 == 3 || ms.getD k 1 == 5)) = false := by rw [beq_false_of_ne hm, beq_false_of_ne hm3, beq_false_of_ne hm5]; rfl
      rw [hm'] at hB1
      simp only [Bool.false_eq_true, if_false, beq_iff_eq] at hB1
      refine ⟨fun h => (by rw [hB1] at h; cases h), fun i hi => ?_⟩
      rw [hB1] at hi
      have : i = k := by simpa using hi
      subst this
      unfold stepM
      simp only [ho]
      refine ⟨hg, ?_⟩
      exact ⟨g, hop, fun v hp' kb hv => anyM_ord hsw r _ _ hB2 (hK v hp' kb hv)⟩

def Om (P : Program) (n0 : Nat) (ops : List Oper) (ms : List Nat) (bks : List (Option Nat)) (fx : List (List Nat)) (Hs Hw : List Blk → Prop) (K : St → Prop) (ord : List Nat) (_t : Tok (ops, ord, K)) (st : St) : Prop := ordM P n0 ops ms bks fx Hs Hw K ord st
theorem go_float2 (hm : P.follows .mixedOrders = true) {n0 : Nat} {id : Nat} {ops : Array Oper} {Q : Ex → St → Prop} {st : St} {t} (Hs Hw : List Blk → Prop) (ord : List Nat) (ms : List Nat) (bks : List (Option Nat)) (fx : List (List Nat)) (hsw : ∀ hp, Hs hp → Hw hp)
    (hok : (ord.length == ops.size && ordOkM ops ms bks fx ord (Array.replicate ops.size false)) = true) (h : Om P n0 ops.toList ms bks fx Hs Hw (Q .normal) ord .mk st) : Lp P n0 (.region id ops true) Q t st := by
  delta Lp
  simp only [Bool.and_eq_true, beq_iff_eq] at hok
  intro E0 hp0 E a hn hs
  subst hn
  have h1 := anyM_anyA _ _ _ (anyM_ord hsw (P := P) (n0 := hp0.length) (ops := ops.toList) (ms := ms) (bks := bks) (fx := fx) (Hs := Hs) (Hw := Hw) (K := Q .normal) ord (Array.replicate ops.size false) st (by simpa using hok.2) h)
  rw [hok.1] at h1
  refine wp_region_any hm ?_
  have hs' : SR E0 hp0 (E.with { E.w with drawn := E.w.drawn + 1 }) st a := ⟨hs.hr.with (Same.drew _ _), hs.fr.with (Same.drew _ _), hs.len, fun i v u a1 a2 => (hs.tm i v u a1 a2).mono (Env.le_with (Same.drew _ _)), hs.df⟩
  have h2 := anyA_sound (P := P) (Q := liftQ E0 hp0 Q) (fun E st a hs hk => ⟨.normal, st, E, rfl, rfl, hs, hk⟩) _ _ _ st a hs' h1
  rw [show ops.toList.toArray = ops from by simp] at h2
  exact h2

theorem go_float (hm : P.follows .mixedOrders = true) {n0 : Nat} {id : Nat} {ops : Array Oper} {Q : Ex → St → Prop} {st : St} {t} (Hs : List Blk → Prop) (ord : List Nat) (ms : List Nat) (bks : List (Option Nat)) (fx : List (List Nat))
    (hok : (ord.length == ops.size && ordOkM ops ms bks fx ord (Array.replicate ops.size false)) = true) (h : Om P n0 ops.toList ms bks fx Hs (fun _ => True) (Q .normal) ord .mk st) : Lp P n0 (.region id ops true) Q t st :=
  go_float2 hm Hs (fun _ => True) ord ms bks fx (fun _ _ => trivial) hok h

section
variable {n0 : Nat} {ops : List Oper} {ms : List Nat} {bks : List (Option Nat)} {fx : List (List Nat)} {Hs Hw : List Blk → Prop} {K : St → Prop} {k : Nat} {r : List Nat} {st : St} {t : Tok (ops, k :: r, K)} {o : Oper}
theorem om_nil {t : Tok (ops, ([] : List Nat), K)} (h : K st) : Om P n0 ops ms bks fx Hs Hw K [] t st := h
theorem om_quiet (ho : ops[k]? = some o) (hg : o.guard = none) (hm : ms.getD k 1 = 0) (hh : Hs st.hp) {v : AV} (hq : ∀ hp, Hs hp → quietA P o.op st.ev hp (fun v' => v' = v)) (hf : Fixed (fx.getD k []) v ∧ ∀ x ∈ o.op.operands, Fixed (fx.getD k []) (st.ev x)) (h : Om P n0 ops ms bks fx Hs Hw K r .mk (st.put o.dst v)) : Om P n0 ops ms bks fx Hs Hw K (k :: r) t st :=
  ⟨o, ho, hg, by
    rw [hm]
    refine ⟨v, hh, fun hp hp' => ?_, hf, h⟩
    obtain ⟨v', h1, h2⟩ := Yields.quiet (hq hp hp')
    subst h1
    exact h2⟩
theorem om_calm (ho : ops[k]? = some o) (hg : o.guard = none) (hm : ms.getD k 1 = 3) (hx : fx.getD k [] = []) (h : quietA P o.op st.ev st.hp (fun v => Om P n0 ops ms bks fx Hs Hw K r .mk (st.put o.dst v))) : Om P n0 ops ms bks fx Hs Hw K (k :: r) t st :=
  ⟨o, ho, hg, by
    rw [hm]
    obtain ⟨v, h1, h2⟩ := Yields.quiet h
    exact ⟨v, h2, hx, h1⟩⟩
theorem om_calmF (ho : ops[k]? = some o) (hg : o.guard = none) (hm : ms.getD k 1 = 3) (hx : fx.getD k [] = []) (q : Blk) (d : Nat) (r0 : AV) (hl : q.live = true) (hf : allBelow 0 q.els = true) (hflat : ∀ b ∈ st.hp, allBelow st.hp.length b.els = true) (hb : below 1 r0 = true)
    (hop : opA P st.hp.length o.op st.ev st.hp (Cn (fun v hp' kb => v = ren (fun i => [st.hp.length].getD i 0) r0 ∧ hp' = st.hp ++ [q] ∧ kb = none) .mk)) (h : Om P n0 ops ms bks fx Hs Hw K r .mk (st.put o.dst (view d [q] r0))) : Om P n0 ops ms bks fx Hs Hw K (k :: r) t st :=
  ⟨o, ho, hg, by rw [hm]; exact ⟨_, Yields.fresh q hl hf hflat d r0 hb (by rw [Cn_eq] at hop; exact hop), hx, h⟩⟩
theorem om_still (ho : ops[k]? = some o) (hg : o.guard = none) (hm : ms.getD k 1 = 0) (hx : fx.getD k [] = []) (hh : Hs st.hp) {v : AV} (hq : ∀ hp, Hs hp → quietA P o.op st.ev hp (fun v' => v' = v)) (h : Om P n0 ops ms bks fx Hs Hw K r .mk (st.put o.dst v)) : Om P n0 ops ms bks fx Hs Hw K (k :: r) t st :=
  om_quiet ho hg hm hh hq (by rw [hx]; exact ⟨fun b hb => (by cases hb), fun x _ b hb => (by cases hb)⟩) h
theorem om_fresh (ho : ops[k]? = some o) (hg : o.guard = none) (hm : ms.getD k 1 = 0) (hh : Hs st.hp) (q : Blk) (d : Nat) (r0 : AV) (hl : q.live = true) (hf : allBelow 0 q.els = true) (hb : below 1 r0 = true) (hflat : ∀ hp, Hs hp → ∀ b ∈ hp, allBelow hp.length b.els = true)
    (hop : ∀ hp, Hs hp → opA P hp.length o.op st.ev hp (Cn (fun v hp' kb => v = ren (fun i => [hp.length].getD i 0) r0 ∧ hp' = hp ++ [q] ∧ kb = none) .mk))
    (hfx : Fixed (fx.getD k []) (view d [q] r0) ∧ ∀ x ∈ o.op.operands, Fixed (fx.getD k []) (st.ev x)) (h : Om P n0 ops ms bks fx Hs Hw K r .mk (st.put o.dst (view d [q] r0))) : Om P n0 ops ms bks fx Hs Hw K (k :: r) t st :=
  ⟨o, ho, hg, by
    rw [hm]
    exact ⟨_, hh, fun hp hp' => Yields.fresh q hl hf (hflat hp hp') d r0 hb (by have := hop hp hp'; rw [Cn_eq] at this; exact this), hfx, h⟩⟩
theorem om_call (ho : ops[k]? = some o) (hg : o.guard = none) (hm : ms.getD k 1 = 0) (hh : Hs st.hp) {gf : Operand} {args : Array Operand} {ts : Array TypeId} (hop : o.op = .call { callee := .value gf, args := args, argTypes := ts }) {fid : FuncId} {caps : List AV} (hfn : st.ev gf = .fn fid caps) {v : AV}
    (hc : ∀ hp, Hs hp → CallA P fid (args.toList.map st.ev ++ caps) hp (Ret v hp)) (hfx : Fixed (fx.getD k []) v ∧ ∀ x ∈ o.op.operands, Fixed (fx.getD k []) (st.ev x)) (h : Om P n0 ops ms bks fx Hs Hw K r .mk (st.put o.dst v)) : Om P n0 ops ms bks fx Hs Hw K (k :: r) t st :=
  ⟨o, ho, hg, by rw [hm]; exact ⟨v, hh, fun hp hp' => Yields.call hop rfl hfn (hc hp hp'), hfx, h⟩⟩
theorem om_float (ho : ops[k]? = some o) (hg : o.guard = none) (hm : ms.getD k 1 = 2) (h : opA P n0 o.op st.ev st.hp (Cn (fun v hp' kb => (kb = none ∨ kb = bks.getD k none) ∧ Hs hp' ∧ Om P n0 ops ms bks fx Hs Hw K r .mk ((st.after hp' kb).put o.dst v)) .mk)) : Om P n0 ops ms bks fx Hs Hw K (k :: r) t st :=
  ⟨o, ho, hg, by rw [hm]; exact ⟨_, h, fun v hp' kb hv => by rw [Cn_go] at hv; exact hv⟩⟩
theorem om_blind (ho : ops[k]? = some o) (hg : o.guard = none) (hm : ms.getD k 1 = 5) {v : AV} (hq : ∀ hp, quietA P o.op st.ev hp (fun v' => v' = v)) (hf : Fixed (fx.getD k []) v ∧ ∀ x ∈ o.op.operands, Fixed (fx.getD k []) (st.ev x)) (h : Om P n0 ops ms bks fx Hs (fun _ => True) K r .mk (st.put o.dst v)) : Om P n0 ops ms bks fx Hs (fun _ => True) K (k :: r) t st :=
  ⟨o, ho, hg, by
    rw [hm]
    refine ⟨v, trivial, fun hp _ => ?_, hf, h⟩
    obtain ⟨v', h1, h2⟩ := Yields.quiet (hq hp)
    subst h1
    exact h2⟩
theorem om_free (ho : ops[k]? = some o) (hg : o.guard = none) (hm : ms.getD k 1 = 4) (h : opA P n0 o.op st.ev st.hp (Cn (fun v hp' kb => (kb = none ∨ kb = bks.getD k none) ∧ Om P n0 ops ms bks fx Hs (fun _ => True) K r .mk ((st.after hp' kb).put o.dst v)) .mk)) : Om P n0 ops ms bks fx Hs (fun _ => True) K (k :: r) t st :=
  ⟨o, ho, hg, by rw [hm]; exact ⟨_, h, fun v hp' kb hv => by rw [Cn_go] at hv; exact ⟨hv.1, trivial, hv.2⟩⟩⟩
theorem om_weak (ho : ops[k]? = some o) (hg : o.guard = none) (hm : ms.getD k 1 = 5) (hh : Hw st.hp) {v : AV} (hq : ∀ hp, Hw hp → quietA P o.op st.ev hp (fun v' => v' = v)) (hf : Fixed (fx.getD k []) v ∧ ∀ x ∈ o.op.operands, Fixed (fx.getD k []) (st.ev x)) (h : Om P n0 ops ms bks fx Hs Hw K r .mk (st.put o.dst v)) : Om P n0 ops ms bks fx Hs Hw K (k :: r) t st :=
  ⟨o, ho, hg, by
    rw [hm]
    refine ⟨v, hh, fun hp hp' => ?_, hf, h⟩
    obtain ⟨v', h1, h2⟩ := Yields.quiet (hq hp hp')
    subst h1
    exact h2⟩
theorem om_weakF (ho : ops[k]? = some o) (hg : o.guard = none) (hm : ms.getD k 1 = 5) (hh : Hw st.hp) (q : Blk) (d : Nat) (r0 : AV) (hl : q.live = true) (hf : allBelow 0 q.els = true) (hb : below 1 r0 = true) (hflat : ∀ hp, Hw hp → ∀ b ∈ hp, allBelow hp.length b.els = true)
    (hop : ∀ hp, Hw hp → opA P hp.length o.op st.ev hp (Cn (fun v hp' kb => v = ren (fun i => [hp.length].getD i 0) r0 ∧ hp' = hp ++ [q] ∧ kb = none) .mk))
    (hfx : Fixed (fx.getD k []) (view d [q] r0) ∧ ∀ x ∈ o.op.operands, Fixed (fx.getD k []) (st.ev x)) (h : Om P n0 ops ms bks fx Hs Hw K r .mk (st.put o.dst (view d [q] r0))) : Om P n0 ops ms bks fx Hs Hw K (k :: r) t st :=
  ⟨o, ho, hg, by
    rw [hm]
    exact ⟨_, hh, fun hp hp' => Yields.fresh q hl hf (hflat hp hp') d r0 hb (by have := hop hp hp'; rw [Cn_eq] at this; exact this), hfx, h⟩⟩
theorem om_freeW (ho : ops[k]? = some o) (hg : o.guard = none) (hm : ms.getD k 1 = 4) (h : opA P n0 o.op st.ev st.hp (Cn (fun v hp' kb => (kb = none ∨ kb = bks.getD k none) ∧ Hw hp' ∧ Om P n0 ops ms bks fx Hs Hw K r .mk ((st.after hp' kb).put o.dst v)) .mk)) : Om P n0 ops ms bks fx Hs Hw K (k :: r) t st :=
  ⟨o, ho, hg, by rw [hm]; exact ⟨_, h, fun v hp' kb hv => by rw [Cn_go] at hv; exact hv⟩⟩
theorem om_one (ho : ops[k]? = some o) (hg : o.guard = none) (hm : ms.getD k 1 = 1) (h : opA P n0 o.op st.ev st.hp (Cn (fun v hp' kb => Om P n0 ops ms bks fx Hs Hw K r .mk ((st.after hp' kb).put o.dst v)) .mk)) : Om P n0 ops ms bks fx Hs Hw K (k :: r) t st :=
  ⟨o, ho, hg, by rw [hm]; exact ⟨_, h, fun v hp' kb hv => by rw [Cn_go] at hv; exact hv⟩⟩
end
end
attribute [irreducible] Om
end Go.Abs
