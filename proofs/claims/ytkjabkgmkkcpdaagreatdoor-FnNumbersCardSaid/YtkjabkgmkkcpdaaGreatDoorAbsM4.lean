/- The abstract layer: parts ZA ZB ZC ZD ZE ZF ZG ZH ZI ZJ ZK ZL ZM. -/
import Derived.Test.YtkjabkgmkkcpdaaGreatDoorAbsM3
import Derived.Sort.OwnSortedInts
import Derived.Lib.ItoaNum
import Derived.Lib.LaidTab
import Derived.Below
import Derived.Lib.Join
import Derived.Sort.Grow
import Derived.Deep.Draws
import Derived.Lib.Strings
import Derived.Lib.Split
import Derived.Lib.SplitLaws
import Derived.Lib.CountLaws
import Derived.Lib.IndexMore
/- The abstract layer, part ZA: a drawn region whose operations make blocks of their own, told by a plan: what each operation yields; its end told by names of one's choice, ahead of the last operation. -/
set_option linter.unusedSimpArgs false
set_option linter.unusedVariables false
namespace Go.Abs
open Go
variable {P : Program}

def namesL : AV → List Nat
  | .sl b _ _ | .ptr b _ _ | .mp b => [b]
  | _ => []
def namesM : AV → List Nat
  | .agg l | .fn _ l | .mv _ l => l.flatMap namesL
  | v => namesL v
def names : AV → List Nat
  | .tup l => l.flatMap namesM
  | v => namesM v
section
variable {P : Program} {n0 : Nat}
end

section
variable {P : Program} {n0 : Nat}
theorem Weak.refl {st : St} : Weak n0 st st := fun _ _ _ E _ _ hs => ⟨E, rfl, hs⟩
end

def plName (N0 : Nat) (nm : Nat → Nat) (b : Nat) : Nat := if b < N0 then b else nm (b - N0)
abbrev PEs := List (Nat × AV × Option Blk)
def PEs.v (pv : PEs) (i : Nat) : AV := (pv.getD i (0, .any, none)).2.1
def PEs.b (pv : PEs) (i : Nat) : Option Blk := (pv.getD i (0, .any, none)).2.2
def PEs.uses (N0 : Nat) (pv : PEs) (i : Nat) : List Nat := (names (pv.v i)).filterMap fun b => if N0 ≤ b ∧ b ≠ N0 + i then some (b - N0) else none
def edgeOn (o : Oper) (i : Nat) : Bool := o.after.any fun e => Region.binds .any e && e.on == i
def slotP (π : Nat → Nat) (tm : List AV) : PEs → Nat → AV
  | [], t => tm.getD t .any
  | (d, v, _) :: r, t => if d = t then ren π v else slotP π tm r t
def evP (π : Nat → Nat) (tm : List AV) (pv : PEs) : Operand → AV
  | .tmp t => slotP π tm pv t
  | .const v => ofV v
  | .func f => .fn f []
  | .global _ => .any
def oldOk (hp : List Blk) : Nat → List Blk → Prop
  | _, [] => True
  | k, b :: r => hp[k]? = some b ∧ oldOk hp (k + 1) r
def newOk (hp : List Blk) (nm : Nat → Nat) (o : Oper) : Nat → PEs → Prop
  | _, [] => True
  | k, (_, _, some b) :: r => (edgeOn o k = true → hp[nm k]? = some b) ∧ newOk hp nm o (k + 1) r
  | k, (_, _, none) :: r => newOk hp nm o (k + 1) r
section
variable {P : Program} {n0 : Nat}
def HopAt (P : Program) (n0 : Nat) (ops : List Oper) (ms : List Bool) (st0 : St) (pv : PEs) (i : Nat) : Prop :=
  ∀ o, ops[i]? = some o → ∀ (nm : Nat → Nat) (hp : List Blk), oldOk hp 0 st0.hp → newOk hp nm o 0 pv → st0.hp.length ≤ hp.length →
    (ms.getD i true = true ∧ opA P n0 o.op (evP (plName st0.hp.length nm) st0.tm pv) hp (Cn (fun v hp' kb => kb = none ∧ match pv.b i with
      | none => v = ren (plName st0.hp.length nm) (pv.v i) ∧ hp' = hp
      | some b => v = ren (plName st0.hp.length (upd nm i hp.length)) (pv.v i) ∧ hp' = hp ++ [b]) .mk)) ∨
    (ms.getD i true = false ∧ pv.b i = none ∧ Yields P o (evP (plName st0.hp.length nm) st0.tm pv) hp (ren (plName st0.hp.length nm) (pv.v i)))
def HopsFrom (P : Program) (n0 : Nat) (ops : List Oper) (ms : List Bool) (st0 : St) (pv : PEs) : Nat → Nat → Prop
  | _, 0 => True
  | k, n + 1 => HopAt P n0 ops ms st0 pv k ∧ HopsFrom P n0 ops ms st0 pv (k + 1) n
theorem HopsFrom.get {ops : List Oper} {ms : List Bool} {st0 : St} {pv : PEs} : ∀ {n k : Nat}, HopsFrom P n0 ops ms st0 pv k n → ∀ i, k ≤ i → i < k + n → HopAt P n0 ops ms st0 pv i
  | 0, k, _, i, h1, h2 => by omega
  | n + 1, k, h, i, h1, h2 => by
    by_cases he : i = k
    · subst he; exact h.1
    · exact h.2.get i (by omega) (by omega)

section
variable {ops : List Oper} {ms : List Bool} {st0 : St} {pv : PEs} {k n : Nat}
end
end
end Go.Abs
/- The abstract layer, part ZB: a call that reads known blocks; what it makes is told as lists that nobody writes any more. -/
set_option linter.unusedSimpArgs false
set_option linter.unusedVariables false
namespace Go.Abs
open Go
variable {P : Program}
theorem view_tup (d : Nat) (hp : List Blk) (l : List AV) : view (d + 1) hp (.tup l) = .tup (l.map (view d hp)) := rfl
section
variable {P : Program}
end
end Go.Abs
/- The abstract layer, part ZC: numbers that are not negative: sums, products and quotients keep it. Of no program. -/
set_option linter.unusedSimpArgs false
set_option linter.unusedVariables false
namespace Go.Abs
open Go
variable {P : Program}

theorem inf_lt (k : FloatKind) : k.format.infRung < k.format.signWeight := by cases k <;> decide
theorem nearest_word (k : FloatKind) (neg : Bool) (m : Nat) (e : Int) : ∃ r, k.format.nearest neg m e = k.format.word neg r ∧ r ≤ k.format.infRung ∧ (m = 0 → r = 0) := by
  unfold Ieee.Format.nearest
  split
  · exact ⟨0, rfl, Nat.zero_le _, fun _ => rfl⟩
  · rename_i h
    exact ⟨_, rfl, Nat.min_le_right _ _, fun h0 => absurd h0 h⟩
end Go.Abs
/- The abstract layer, part ZD: the library's sort, by the kit's contract. -/
set_option linter.unusedSimpArgs false
set_option linter.unusedVariables false
namespace Go.Abs
open Go
variable {P : Program}

theorem HRel.extend {E : Env P} {hp : List Blk} (H : HRel E hp) {w' : World} (hs : E.w.heap.size ≤ w'.heap.size) (hh : ∀ c, c < E.w.heap.size → w'.heap[c]? = E.w.heap[c]?) (h1 : w'.os = E.w.os) (h2 : w'.tape = E.w.tape) (h3 : w'.output = E.w.output) :
    HRel (E.with w') hp ∧ (∀ {E0 : Env P} {hp0 : List Blk}, Fr E0 hp0 E hp → Fr E0 hp0 (E.with w') hp) ∧ E.le (E.with w') := by
  have hcsz : ∀ c, csz E.w c ≤ csz w' c := fun c => by
    by_cases hc : c < E.w.heap.size
    · unfold csz; rw [hh c hc]; exact Nat.le_refl _
    · unfold csz
      rw [Array.getElem?_eq_none (by omega)]
      exact Nat.zero_le _
  have le : E.le (E.with w') := ⟨fun _ h => h, fun c hc => hh c (H.old c hc), Nat.le_refl _, fun _ _ => rfl, fun _ _ => rfl, hcsz⟩
  refine ⟨⟨H.N, H.wd, fun b blk hb hl => ?_, H.inj, H.apart, fun c hc => Nat.lt_of_lt_of_le (H.old c hc) hs, H.laidLe le⟩, ?_, le⟩
  · exact (H.holds b blk hb hl).keep (hh _ (H.holds b blk hb hl).lt) fun x u hu => hu.mono le
  · intro E0 hp0 F
    exact { size := Nat.le_trans F.size hs, os := h1.trans F.os, tape := h2.trans F.tape, output := h3.trans F.output
            block := fun c hc hn => by
              show w'.heap[c]? = _
              rw [hh c (Nat.lt_of_lt_of_le hc F.size)]
              exact F.block c hc hn
            len := F.len, ρ := F.ρ, wd := F.wd, F := F.F, F' := F.F', live := F.live, csz := fun c => Nat.le_trans (F.csz c) (hcsz c) }

end Go.Abs
/- The abstract layer, part ZE: numerals by the kit's contract; bytes; places in strings. -/
set_option linter.unusedSimpArgs false
set_option linter.unusedVariables false
namespace Go.Abs
open Go Go.RowKit
variable {P : Program}

theorem HRel.table {E : Env P} {hp : List Blk} (H : HRel E hp) {n : String} {k : IntKind} {zs : List Int} (ht : (n, k, zs) ∈ tables) {g : Nat} (hg : P.globalNamed n = some g) : Lib.TabIs P E.w n k zs := by
  obtain ⟨_, ty, fr, h⟩ := H.laid.1 _ ht g hg
  simp only [Lib.TabIs, World.var?, hg, Option.bind_some, h]

theorem byts_below (n : Nat) : ∀ l : List UInt8, allBelow n (byts l) = true
  | [] => rfl
  | x :: l => byts_below n l
theorem join_call {f : FuncId} (hgo : isGo P f) (sep : List UInt8) (xs : List (List UInt8))
    (hnone : ∀ (a : Option Addr) (c : Nat) (w : World), Calls P f #[.slice a 0 c, .string ⟨sep.toArray⟩] w fun e w' => e = .returned (.string ⟨#[]⟩) ∧ w' = w)
    (h : ∀ (bk o c : Nat) (w : World), (∀ (j : Nat) x, xs[j]? = some x → w.cell? ⟨bk, o + j, none⟩ = some (.string ⟨x.toArray⟩)) → bk < w.heap.size → xs.length ≤ c →
      Calls P f #[.slice (some ⟨bk, o, none⟩) xs.length c, .string ⟨sep.toArray⟩] w fun e w' => e = .returned (.string ⟨(Lib.join xs sep).toArray⟩) ∧ Below w.heap.size w w') :
    CallA P f [.ro (strs xs), .str sep] [] (Ret (.str (Lib.join xs sep)) []) := by
  intro E vs H hl hrv
  obtain ⟨v, u, rfl, hv, hu⟩ := RV.two hl hrv
  cases hu
  generalize hs : strs xs = l at hv
  cases hv with
  | roNil a cap =>
    have : xs = [] := by cases xs with | nil => rfl | cons _ _ => simp [strs] at hs
    subst this
    refine .inl ⟨hgo, (hnone a cap E.w).mono ?_⟩
    rintro ex w' ⟨rfl, rfl⟩
    exact ⟨_, rfl, .str [], [], E, rfl, ⟨rfl, rfl⟩, .str [], H, Fr.refl E _⟩
  | ro _ b off cap wd val hF hcap hmax hw hc hv =>
    subst hs
    have hlen : (strs xs).length = xs.length := strs_len xs
    refine .inl ⟨hgo, ?_⟩
    rw [hlen]
    refine (h b off cap E.w (fun j x hx => ?_) (H.old _ hF) (by omega)).mono ?_
    · have g1 : (strs xs)[j]? = some (.str x) := by simp [strs, hx]
      have hwd : wd = 1 := by have := hw j _ g1; simpa [AV.cells] using this.symm
      have g2 := hc j _ g1 0 _ rfl
      have g3 := hv j _ g1 0 _ rfl
      rw [hwd] at g2
      generalize val j 0 = vv at g2 g3
      cases g3
      simpa using g2
    · rintro ex w' ⟨rfl, bel⟩
      obtain ⟨H2, F2, _⟩ := H.extend (w' := w') bel.size bel.block bel.os bel.tape bel.output
      exact ⟨_, rfl, .str _, [], E.with _, rfl, ⟨rfl, rfl⟩, .str _, H2, F2 (Fr.refl E _)⟩
theorem laid_of_tabs {w : World} (h : ∀ t ∈ tables, (P.globalNamed t.1).isSome = true → Lib.TabIs P w t.1 t.2.1 t.2.2) (he : ∀ n ∈ errs, (P.globalNamed n).isSome = true → ∃ v, w.var? P n = some #[v] ∧ isErr v)
    (hi : ∀ n ∈ intVars, ∀ g, P.globalNamed n = some g → ∃ m, w.cell? ⟨g, 0, none⟩ = some (.int .i64 m)) : Laid P w fun c => c < w.heap.size := by
  refine ⟨fun t ht g hg => ?_, fun n hn g hg => ?_, fun n hn g hg => ?_⟩
  · have h1 := h t ht (by rw [hg]; rfl)
    simp only [Lib.TabIs, World.var?, hg, Option.bind_some] at h1
    split at h1
    · rename_i cs ty fr hx
      refine ⟨(Array.getElem?_eq_some_iff.1 hx).1, ty, fr, ?_⟩
      rw [hx]
      cases h1
      rfl
    · cases h1
  · obtain ⟨v, h1, h2⟩ := he n hn (by rw [hg]; rfl)
    simp only [World.var?, hg, Option.bind_some] at h1
    split at h1
    · rename_i cs ty fr hx
      refine ⟨(Array.getElem?_eq_some_iff.1 hx).1, v, ty, fr, ?_, h2⟩
      rw [hx]
      cases h1
      rfl
    · cases h1
  · obtain ⟨m, h1⟩ := hi n hn g hg
    unfold World.cell? at h1
    split at h1
    · rename_i cs ty fr hx
      exact ⟨(Array.getElem?_eq_some_iff.1 hx).1, m, cs, ty, fr, hx, by simpa using h1⟩
    · cases h1
theorem HRel.err {E : Env P} {hp : List Blk} (H : HRel E hp) {n : String} (hn : n ∈ errs) {g : Nat} (hg : P.globalNamed n = some g) : ∃ v, E.w.cell? ⟨g, 0, none⟩ = some v ∧ isErr v := by
  obtain ⟨_, v, ty, fr, h, h2⟩ := H.laid.2.1 _ hn g hg
  exact ⟨v, by simp [World.cell?, h], h2⟩
theorem HRel.intVar {E : Env P} {hp : List Blk} (H : HRel E hp) {n : String} (hn : n ∈ intVars) {g : Nat} (hg : P.globalNamed n = some g) : ∃ m, E.w.cell? ⟨g, 0, none⟩ = some (.int .i64 m) := by
  obtain ⟨_, m, cs, ty, fr, h, h2⟩ := H.laid.2.2 _ hn g hg
  exact ⟨m, by simp [World.cell?, h, h2]⟩
end Go.Abs
/- The abstract layer, part ZF: a block of the caller's is taken over: it is dead, and a new one lies in its place. -/
set_option linter.unusedSimpArgs false
set_option linter.unusedVariables false
namespace Go.Abs
open Go
variable {P : Program}

structure LeHpW (N : Nat) (π : Nat → Nat) (n0 : Nat) (hp hp2 : List Blk) : Prop where
  len : hp2.length = N
  hn0 : n0 ≤ N
  low : ∀ b, b < n0 → π b = b
  inj : ∀ (b b' : Nat) r r', hp2[b]? = some r → r.live = true → hp2[b']? = some r' → r'.live = true → π b = π b' → b = b'
  blk : ∀ (b : Nat) r, hp2[b]? = some r → ∃ q, hp[π b]? = some q ∧ q.w = r.w ∧ (r.live = true → q.live = true ∧ q.ty = r.ty ∧ q.els = r.els.map (ren π) ∧ ∀ e ∈ r.els, below N e = true)
theorem LeHpW.sound {N : Nat} {π : Nat → Nat} {n0 : Nat} {hp hp2 : List Blk} (h : LeHpW N π n0 hp hp2) {E0 : Env P} {hp0 : List Blk} {E : Env P} (hn : hp0.length = n0) (H : HRel E hp) (F : Fr E0 hp0 E hp) : HRel (E.ren N π) hp2 ∧ Fr E0 hp0 (E.ren N π) hp2 := by
  have lt : ∀ (b : Nat) r, hp2[b]? = some r → b < N := fun b r hb => by rw [← h.len]; exact (List.getElem?_eq_some_iff.1 hb).1
  refine ⟨⟨h.len.symm, ?_, ?_, ?_, ?_, H.old, H.laid⟩, ?_⟩
  · intro b r hb
    obtain ⟨q, hq, hw, _⟩ := h.blk b r hb
    show E.wd (π b) = r.w
    rw [H.wd (π b) q hq, hw]
  · intro b r hb hl
    obtain ⟨q, hq, hw, hx⟩ := h.blk b r hb
    obtain ⟨hql, hty, hels, hbel⟩ := hx hl
    refine ⟨fun hw0 => ?_, fun hw0 => ?_⟩
    rotate_left
    · have := (H.holds (π b) q hq hql).map (hw.trans hw0)
      rw [hels] at this
      exact this.unmap (ren_still π)
    obtain ⟨cs, h1, h2⟩ := (H.holds (π b) q hq hql).cells (hw ▸ hw0)
    refine ⟨cs, by rw [← hty]; exact h1, fun i e he => ?_⟩
    have hbe := hbel e (List.mem_of_getElem? he)
    obtain ⟨k1, k2⟩ := ren_cells (π := π) hbe
    have hqe : q.els[i]? = some (Abs.ren π e) := by rw [hels]; simp [he]
    obtain ⟨h3, h4⟩ := h2 i _ hqe
    refine ⟨by rw [← hw, ← h3, k1], fun j c hc => ?_⟩
    obtain ⟨c', hc', k3⟩ := k2 j c hc
    obtain ⟨v, h5, h6⟩ := h4 j c' hc'
    exact ⟨v, by rw [← hw]; exact h5, k3 h6⟩
  · intro b b' r r' hb hl hb' hl' he
    obtain ⟨q, hq, _, hx⟩ := h.blk b r hb
    obtain ⟨q', hq', _, hx'⟩ := h.blk b' r' hb'
    exact h.inj b b' r r' hb hl hb' hl' (H.inj (π b) (π b') q q' hq (hx hl).1 hq' (hx' hl').1 he)
  · intro b r hb hl
    obtain ⟨q, hq, _, hx⟩ := h.blk b r hb
    exact H.apart (π b) q hq (hx hl).1
  · exact {
      size := F.size
      os := F.os
      tape := F.tape
      output := F.output
      block := F.block
      len := by rw [hn, h.len]; exact h.hn0
      ρ := fun b hb => by show E.ρ (π b) = _; rw [h.low b (by omega)]; exact F.ρ b hb
      wd := fun b hb => by show E.wd (π b) = _; rw [h.low b (by omega)]; exact F.wd b hb
      F := F.F
      F' := F.F'
      live := fun b ⟨r, hb, hl⟩ => by
        obtain ⟨q, hq, _, hx⟩ := h.blk b r hb
        have hlive := F.live (π b) ⟨q, hq, (hx hl).1⟩
        by_cases hbn : b < n0
        · rw [h.low b hbn] at hlive
          rcases hlive with h1 | ⟨h1, _⟩
          · exact .inl h1
          · omega
        · rcases hlive with ⟨h1, h2⟩ | ⟨_, h2⟩
          · exact .inr ⟨by omega, .inr ⟨π b, h2, (F.ρ (π b) h1).symm⟩⟩
          · exact .inr ⟨by omega, h2⟩
      csz := F.csz }
end Go.Abs
/- The abstract layer, part ZG: strings.Cut, TrimSuffix and Split, by the kit's own contracts. -/
set_option linter.unusedSimpArgs false
set_option linter.unusedVariables false
namespace Go.Abs
open Go
variable {P : Program}

theorem size_byts (s : List UInt8) : (⟨s.toArray⟩ : ByteArray).size = s.length := by simp [ByteArray.size]
def words (sep s : List UInt8) : List (List UInt8) := (Lib.splitB ⟨sep.toArray⟩ 0 (Lib.countB ⟨s.toArray⟩ ⟨sep.toArray⟩) ⟨s.toArray⟩).map (·.data.toList)
theorem words_len (sep s : List UInt8) (h1 : 1 ≤ sep.length) : (words sep s).length = Lib.countB ⟨s.toArray⟩ ⟨sep.toArray⟩ + 1 := by
  unfold words
  rw [List.length_map]
  exact Lib.splitB_all ⟨sep.toArray⟩ (by rw [size_byts]; exact h1) 0 _ _ rfl
theorem words_le (sep s : List UInt8) (h1 : 1 ≤ sep.length) : (words sep s).length ≤ s.length + 1 := by
  rw [words_len sep s h1]
  have := Lib.countB_le ⟨sep.toArray⟩ (by rw [size_byts]; exact h1) _ ⟨s.toArray⟩ (Nat.le_refl _)
  rw [size_byts] at this
  omega
theorem str_of (b : ByteArray) {E : Env P} : RV E (.str b.data.toList) (.string b) := RV.str b.data.toList
theorem split_call' {f : FuncId} (hgo : isGo P f) {g : Nat} (hg : P.globalNamed "internal/bytealg.MaxLen" = some g) {t : TypeId} (s sep : List UInt8) (h1 : 1 ≤ sep.length) (hs : s.length ≤ 4294967280)
    (h : ∀ (m : Int) (w : World), w.cell? ⟨g, 0, none⟩ = some (.int .i64 m) → Calls P f #[.string ⟨s.toArray⟩, .string ⟨sep.toArray⟩] w fun e w' =>
      e = .returned (.slice (some ⟨w.heap.size, 0, none⟩) (Lib.countB ⟨s.toArray⟩ ⟨sep.toArray⟩ + 1) (Lib.countB ⟨s.toArray⟩ ⟨sep.toArray⟩ + 1)) ∧ w' = w.alloc (.cells ((Lib.splitB ⟨sep.toArray⟩ 0 (Lib.countB ⟨s.toArray⟩ ⟨sep.toArray⟩) ⟨s.toArray⟩).map Value.string).toArray t)) :
    CallA P f [.str s, .str sep] [] (Ret (.ro (strs (words sep s))) []) := by
  intro E vs H hl hrv
  obtain ⟨v, u, rfl, hv, hu⟩ := RV.two hl hrv
  cases hv
  cases hu
  obtain ⟨m, hm⟩ := H.intVar (n := "internal/bytealg.MaxLen") (by simp [intVars]) hg
  refine .inl ⟨hgo, (h m E.w hm).mono ?_⟩
  rintro ex w' ⟨rfl, rfl⟩
  have wl := words_len sep s h1
  have wle := words_le sep s h1
  rw [← wl]
  generalize hb : Lib.splitB ⟨sep.toArray⟩ 0 (Lib.countB ⟨s.toArray⟩ ⟨sep.toArray⟩) ⟨s.toArray⟩ = bs
  have hw : words sep s = bs.map (·.data.toList) := by unfold words; rw [hb]
  have hnew : (E.w.alloc (.cells (bs.map Value.string).toArray t)).heap[E.w.heap.size]? = some (.cells (bs.map Value.string).toArray t) := by
    show (E.w.heap.push _)[E.w.heap.size]? = _
    rw [Array.getElem?_push, if_pos rfl]
  have hold : ∀ c, c < E.w.heap.size → (E.w.alloc (.cells (bs.map Value.string).toArray t)).heap[c]? = E.w.heap[c]? := fun c hc => by
    simp only [World.alloc]
    rw [Array.getElem?_push, if_neg (by omega)]
  obtain ⟨H2, F2, _⟩ := H.extend (w' := E.w.alloc (.cells (bs.map Value.string).toArray t)) (by show _ ≤ (E.w.heap.push _).size; rw [Array.size_push]; omega) hold rfl rfl rfl
  have F3 := F2 (Fr.refl E _)
  refine ⟨_, rfl, _, [], { E.with (E.w.alloc (.cells (bs.map Value.string).toArray t)) with F := fun c => E.F c ∨ c = E.w.heap.size }, rfl, ⟨rfl, rfl⟩, ?_, ?_, ?_⟩
  · have hsl : (strs (words sep s)).length = (words sep s).length := strs_len _
    rw [← hsl]
    refine .ro _ _ 0 _ 1 (fun i _ => .string ((bs[i]?).getD ⟨#[]⟩)) (.inr rfl) (Nat.le_refl _) (by rw [hsl]; unfold maxLen; omega) (fun i e he => ?_) (fun i e he j c hc => ?_) (fun i e he j c hc => ?_)
    · unfold strs at he
      rw [List.getElem?_map, Option.map_eq_some_iff] at he
      obtain ⟨x, _, rfl⟩ := he
      rfl
    · have he' : i < bs.length := by
        have := (List.getElem?_eq_some_iff.1 he).1
        rw [hsl, hw, List.length_map] at this
        exact this
      unfold strs at he
      rw [List.getElem?_map, Option.map_eq_some_iff] at he
      obtain ⟨x, _, rfl⟩ := he
      match j with
      | 0 =>
        show World.cell? (E.w.alloc _) ⟨E.w.heap.size, 0 + i * 1 + 0, none⟩ = _
        simp only [World.cell?, hnew]
        simp [List.getElem?_eq_getElem he']
      | j + 1 => simp [AV.cells] at hc
    · have he' : i < bs.length := by
        have := (List.getElem?_eq_some_iff.1 he).1
        rw [hsl, hw, List.length_map] at this
        exact this
      unfold strs at he
      rw [List.getElem?_map, Option.map_eq_some_iff] at he
      obtain ⟨x, hx, rfl⟩ := he
      rw [hw, List.getElem?_map, List.getElem?_eq_getElem he'] at hx
      have hx : bs[i].data.toList = x := by simpa using hx
      match j with
      | 0 =>
        have hc : AV.str x = c := by simpa [AV.cells] using hc
        subst hc
        rw [List.getElem?_eq_getElem he', ← hx]
        exact str_of _
      | j + 1 => simp [AV.cells] at hc
  · exact ⟨H2.N, H2.wd, fun b blk hb => by simp at hb, fun b b' blk blk' hb => by simp at hb, fun b blk hb => by simp at hb, fun c hc => by
      rcases hc with hc | rfl
      · exact H2.old c hc
      · show _ < (E.w.heap.push _).size
        rw [Array.size_push]; omega, H2.laid.keep (fun c hc => .inl hc) (fun _ _ => rfl)⟩
  · exact { size := F3.size, os := F3.os, tape := F3.tape, output := F3.output, block := F3.block, len := F3.len, ρ := F3.ρ, wd := F3.wd, F := fun c hc => .inl hc
            F' := fun c hc => by
              rcases hc with hc | rfl
              · exact .inl hc
              · exact .inr (.inl (Nat.le_refl _))
            live := fun b hb => by obtain ⟨blk, hb, _⟩ := hb; simp at hb
            csz := F3.csz }
end Go.Abs
/- The abstract layer, part ZH: nil slices told as empty lists; a block that holds nothing; heaps whose blocks name one another. -/
set_option linter.unusedSimpArgs false
set_option linter.unusedVariables false
namespace Go.Abs
open Go
variable {P : Program}

def nilD : Nat → AV → AV
  | 0, a => a
  | d + 1, a => match a with
    | .nils => .ro []
    | .agg l => .agg (l.map (nilD d))
    | .tup l => .tup (l.map (nilD d))
    | .ro l => .ro (l.map (nilD d))
    | .rop l => .rop (l.map (nilD d))
    | a => a
theorem nilD_cells (d : Nat) (e : AV) : (nilD d e).cells.length = e.cells.length ∧ ∀ (j : Nat) c, (nilD d e).cells[j]? = some c → ∃ d' c0, e.cells[j]? = some c0 ∧ d' ≤ d ∧ c = nilD d' c0 := by
  cases d with
  | zero => exact ⟨rfl, fun j c h => ⟨0, c, h, Nat.le_refl _, rfl⟩⟩
  | succ d =>
    cases e with
    | agg l =>
      refine ⟨by simp [nilD, AV.cells], fun j c h => ?_⟩
      simp only [nilD, AV.cells, List.getElem?_map, Option.map_eq_some_iff] at h
      obtain ⟨c0, h1, rfl⟩ := h
      exact ⟨d, c0, h1, Nat.le_succ _, rfl⟩
    | _ =>
      refine ⟨rfl, fun j c h => ?_⟩
      cases j with
      | zero => cases h; exact ⟨d + 1, _, rfl, Nat.le_refl _, rfl⟩
      | succ j => cases h
theorem RV.nil : ∀ (d : Nat) {E : Env P} {a : AV} {v : Value}, RV E a v → RV E (nilD d a) v := by
  intro d
  induction d using Nat.strongRecOn with
  | _ d ih =>
  intro E a v h
  match d, ih with
  | 0, _ => exact h
  | d + 1, ih =>
  cases h with
  | nils a => exact .roNil a 0
  | roNil a cap => exact .roNil a cap
  | agg l vs hl h =>
    refine .agg _ vs (by rw [List.length_map]; exact hl) fun i x v h1 h2 => ?_
    rw [List.getElem?_map, Option.map_eq_some_iff] at h1
    obtain ⟨y, h3, rfl⟩ := h1
    exact ih d (by omega) (h i y v h3 h2)
  | tup l vs hl h =>
    refine .tup _ vs (by rw [List.length_map]; exact hl) fun i x v h1 h2 => ?_
    rw [List.getElem?_map, Option.map_eq_some_iff] at h1
    obtain ⟨y, h3, rfl⟩ := h1
    exact ih d (by omega) (h i y v h3 h2)
  | ro l b off cap wd val hF hcap hmax hw hc hv =>
    have hlen : (l.map (nilD d)).length = l.length := List.length_map _
    show RV E (.ro (l.map (nilD d))) _
    rw [← hlen]
    refine .ro _ b off cap wd val hF (by rw [hlen]; exact hcap) hmax (fun i e he => ?_) (fun i e he j c hj => ?_) (fun i e he j c hj => ?_)
    all_goals
      rw [List.getElem?_map, Option.map_eq_some_iff] at he
      obtain ⟨e0, h1, rfl⟩ := he
    · rw [(nilD_cells d e0).1]; exact hw i e0 h1
    · obtain ⟨d', c0, h2, _, _⟩ := (nilD_cells d e0).2 j c hj
      exact hc i e0 h1 j c0 h2
    · obtain ⟨d', c0, h2, h3, rfl⟩ := (nilD_cells d e0).2 j c hj
      exact ih d' (by omega) (hv i e0 h1 j c0 h2)
  | any v => exact .any v
  | bool b => exact .bool b
  | int k n => exact .int k n
  | flt k x b h => exact .flt k x b h
  | cpx k x y a b h h' => exact .cpx k x y a b h h'
  | str s => exact .str s
  | sl b i n off cap hb ho hcap hmax hroom hw => exact .sl b i n off cap hb ho hcap hmax hroom hw
  | ptr b i j hb hw => exact .ptr b i j hb hw
  | mp b hb => exact .mp b hb
  | romNil => exact .romNil
  | rom l r hF hm => exact .rom l r hF hm
  | rop l b off val hF hc hv =>
    refine .rop _ b off val hF (fun j c hj => ?_) (fun j c hj => ?_)
    all_goals
      rw [List.getElem?_map, Option.map_eq_some_iff] at hj
      obtain ⟨c0, h1, rfl⟩ := hj
    · exact hc j c0 h1
    · exact ih d (by omega) (hv j c0 h1)
  | nilp => exact .nilp
  | fn f l vs hl h => exact .fn f l vs hl h
  | mv f l vs hl h => exact .mv f l vs hl h
  | nilf => exact .nilf
  | nili => exact .nili
theorem CallA.nil (d : Nat) {f : FuncId} {args args' : List AV} {hp : List Blk} {Q : AV → List Blk → Prop} (ha : args.map (nilD d) = args') (h : CallA P f args' hp Q) : CallA P f args hp Q := by
  subst ha
  intro E vs H hl hrv
  refine h E vs H (by rw [List.length_map]; exact hl) fun i a v h1 h2 => ?_
  rw [List.getElem?_map, Option.map_eq_some_iff] at h1
  obtain ⟨y, h3, rfl⟩ := h1
  exact (hrv i y v h3 h2).nil d
theorem CallA.nilR (d : Nat) {f : FuncId} {args : List AV} {hp hp' : List Blk} {r r2 : AV} (hr : nilD d r = r2) (h : CallA P f args hp (Ret r hp')) : CallA P f args hp (Ret r2 hp') := by
  subst hr
  intro E vs H hl hrv
  refine (h E vs H hl hrv).mono ?_
  rintro v w' ⟨r', hp'', E', hw, ⟨rfl, rfl⟩, hv, H', F'⟩
  exact ⟨_, _, E', hw, ⟨rfl, rfl⟩, hv.nil d, H', F'⟩
section
variable {f : FuncId} {args : List AV} {hp : List Blk} {Q : AV → List Blk → Prop} {t : Tok Q} {g : AV → Prop} {u : Tok g}
end

def deadB : Blk := { ty := 0, w := 1, els := [], live := false }
def Env.more (E : Env P) : Env P := { E with N := E.N + 1, wd := fun b => if b = E.N then 1 else E.wd b }
theorem Env.le_more (E : Env P) : E.le E.more :=
  ⟨fun _ h => h, fun _ _ => rfl, Nat.le_succ _, fun _ _ => rfl, fun b hb => by show (if b = E.N then 1 else E.wd b) = _; rw [if_neg (by omega)], fun _ => Nat.le_refl _⟩
theorem dead_get {hp : List Blk} {b : Nat} {blk : Blk} (h : (hp ++ [deadB])[b]? = some blk) : hp[b]? = some blk ∨ (b = hp.length ∧ blk = deadB) := by
  rcases Nat.lt_trichotomy b hp.length with hb | hb | hb
  · rw [List.getElem?_append_left hb] at h; exact .inl h
  · rw [List.getElem?_append_right (by omega), hb] at h
    simp at h
    exact .inr ⟨hb, h.symm⟩
  · rw [List.getElem?_append_right (by omega)] at h
    rw [List.getElem?_eq_none (by simp; omega)] at h
    cases h
theorem HRel.dead {E : Env P} {hp : List Blk} (H : HRel E hp) : HRel E.more (hp ++ [deadB]) := by
  have live : ∀ {b : Nat} {blk : Blk}, (hp ++ [deadB])[b]? = some blk → blk.live = true → hp[b]? = some blk := fun h hl => by
    rcases dead_get h with h | ⟨_, rfl⟩
    · exact h
    · cases hl
  refine ⟨by show E.N + 1 = _; rw [H.N]; simp, fun b blk hb => ?_, fun b blk hb hl => ?_, fun b b' blk blk' h1 h2 h3 h4 h5 => H.inj b b' blk blk' (live h1 h2) h2 (live h3 h4) h4 h5, fun b blk hb hl => H.apart b blk (live hb hl) hl, H.old, H.laid⟩
  · show (if b = E.N then 1 else E.wd b) = _
    rcases dead_get hb with h | ⟨rfl, rfl⟩
    · have := (List.getElem?_eq_some_iff.1 h).1
      rw [if_neg (by rw [H.N]; omega)]
      exact H.wd b blk h
    · rw [if_pos H.N.symm]; rfl
  · refine (H.holds b blk (live hb hl) hl).keep ?_ fun x u hu => hu.mono E.le_more
    rfl
theorem Fr.dead {E0 E : Env P} {hp0 hp : List Blk} (H : HRel E hp) (F : Fr E0 hp0 E hp) : Fr E0 hp0 E.more (hp ++ [deadB]) :=
  { size := F.size, os := F.os, tape := F.tape, output := F.output, block := F.block
    len := by rw [List.length_append]; have := F.len; omega
    ρ := F.ρ
    wd := fun b hb => by
      show (if b = E.N then 1 else E.wd b) = _
      rw [if_neg (by rw [H.N]; have := F.len; omega)]
      exact F.wd b hb
    F := F.F, F' := F.F'
    live := fun b ⟨blk, hb, hl⟩ => by
      rcases dead_get hb with h | ⟨_, rfl⟩
      · exact F.live b ⟨blk, h, hl⟩
      · cases hl
    csz := F.csz }
theorem PostR.dead {n0 : Nat} {r : AV} {hp : List Blk} {Q : AV → List Blk → Prop} (h : Q r (hp ++ [deadB])) : PostR n0 r hp Q :=
  ⟨r, hp ++ [deadB], fun P E0 hp0 E v hn H F hv => ⟨E.more, rfl, H.dead, F.dead H, hv.mono E.le_more⟩, h⟩

theorem WeakR.trans {n0 : Nat} {r1 r2 r3 : AV} {h1 h2 h3 : List Blk} (g : WeakR n0 r1 h1 r2 h2) (k : WeakR n0 r2 h2 r3 h3) : WeakR n0 r1 h1 r3 h3 := by
  intro P E0 hp0 E v hn H F hv
  obtain ⟨E1, e1, H1, F1, v1⟩ := g P E0 hp0 E v hn H F hv
  obtain ⟨E2, e2, H2, F2, v2⟩ := k P E0 hp0 E1 v hn H1 F1 v1
  exact ⟨E2, e2.trans e1, H2, F2, v2⟩
def SameTm : List AV → List AV → Prop
  | [], [] => True
  | a :: l, b :: m => (b = .any ∨ a = b) ∧ SameTm l m
  | _, _ => False
theorem SameTm.len : ∀ {l m : List AV}, SameTm l m → l.length = m.length
  | [], [], _ => rfl
  | a :: l, b :: m, h => by simp [SameTm.len h.2]
  | [], _ :: _, h => h.elim
  | _ :: _, [], h => h.elim
theorem SameTm.get : ∀ {l m : List AV}, SameTm l m → ∀ (i : Nat) b, m[i]? = some b → b = .any ∨ l[i]? = some b
  | [], [], _, i, b, h => by simp at h
  | a :: l, b :: m, h, 0, x, hx => by
    simp at hx; subst hx
    rcases h.1 with h1 | rfl
    · exact .inl h1
    · exact .inr rfl
  | a :: l, b :: m, h, i + 1, x, hx => by simpa using SameTm.get h.2 i x (by simpa using hx)
  | [], _ :: _, h, _, _, _ => h.elim
  | _ :: _, [], h, _, _, _ => h.elim
theorem Weak.trans {n0 : Nat} {a b c : St} (h : Weak n0 a b) (g : Weak n0 b c) : Weak n0 a c := by
  intro P E0 hp0 E act hn hs
  obtain ⟨E1, h1, h2⟩ := h P E0 hp0 E act hn hs
  obtain ⟨E2, h3, h4⟩ := g P E0 hp0 E1 act hn h2
  exact ⟨E2, h3.trans h1, h4⟩
end Go.Abs
/- The abstract layer, part ZI: a drawn region with a store that may come before operations that look at no memory; guards are told one by one. -/
set_option linter.unusedSimpArgs false
set_option linter.unusedVariables false
namespace Go.Abs
open Go
variable {P : Program}

def ordB (P : Program) (b0 : Nat) (n0 : Nat) (ops : List Oper) (ms bls : List Bool) (K : St → Prop) : List Nat → St → Prop
  | [], st => K st
  | k :: r, st => ∃ o, ops[k]? = some o ∧
    if ms.getD k true then wantedA ops o st = some true ∧ ∃ g : AV → List Blk → Option Nat → Prop, opA P n0 o.op st.ev st.hp g ∧ ∀ v hp' kb, g v hp' kb → ordB P b0 n0 ops ms bls K r ((st.after hp' kb).put o.dst v)
    else ∃ v, yA P ops o st v ∧ (bls.getD k false = true → ∀ q, yA P ops o (st.after (st.hp.set b0 q) none) v) ∧ ordB P b0 n0 ops ms bls K r (st.put o.dst v)
def Ol (P : Program) (b0 : Nat) (n0 : Nat) (ops : List Oper) (ms bls : List Bool) (K : St → Prop) (ord : List Nat) (_t : Tok (ops, ord, K)) (st : St) : Prop := ordB P b0 n0 ops ms bls K ord st
section
variable {b0 : Nat} {n0 : Nat} {ops : List Oper} {ms bls : List Bool} {K : St → Prop} {k : Nat} {r : List Nat} {st : St} {t : Tok (ops, k :: r, K)} {o : Oper}
end
attribute [irreducible] Ol
end Go.Abs
/- The abstract layer, part ZJ: what a function makes beside blocks that it changes is told as lists that nobody writes. -/
set_option linter.unusedSimpArgs false
set_option linter.unusedVariables false
namespace Go.Abs
open Go
section
variable {P : Program}
end
section
variable {P : Program} {b0 : Nat} {n0 : Nat} {ops : List Oper} {ms bls : List Bool} {K : St → Prop} {k : Nat} {r : List Nat} {st : St} {t : Tok (ops, k :: r, K)} {o : Oper}
end
end Go.Abs
/- The abstract layer, part ZK: at the head of a loop blocks of plain values may be told as lists that nobody writes any more, wherever they are named. -/
set_option linter.unusedSimpArgs false
set_option linter.unusedVariables false
namespace Go.Abs
open Go
def FrzC (new : List Blk) (N : Nat) (a b : AV) : Prop := b = .any ∨ (below N a = true ∧ b = a) ∨ ∃ d d' r0, a = ren (fun i => i + N) r0 ∧ below new.length r0 = true ∧ b = nilD d' (view d new r0)
def FrzV (new : List Blk) (N : Nat) (a b : AV) : Prop := FrzC new N a b ∨ ∃ l l2, a = .agg l ∧ b = .agg l2 ∧ l.length = l2.length ∧ ∀ (i : Nat) x y, l[i]? = some x → l2[i]? = some y → FrzC new N x y
structure FrzB (new : List Blk) (N : Nat) (q q2 : Blk) : Prop where
  map : 0 < q.w ∨ q2 = q
  ty : q2.ty = q.ty
  w : q2.w = q.w
  live : q2.live = q.live
  els : ∀ (i : Nat) e2, q2.els[i]? = some e2 → ∃ e, q.els[i]? = some e ∧ e.cells.length = e2.cells.length ∧ ∀ (j : Nat) x y, e.cells[j]? = some x → e2.cells[j]? = some y → FrzC new N x y
def FrzHp (new : List Blk) (N : Nat) : List Blk → List Blk → Prop
  | [], [] => True
  | q :: l, q2 :: l2 => FrzB new N q q2 ∧ FrzHp new N l l2
  | _, _ => False
def FrzTm (new : List Blk) (N : Nat) : List AV → List AV → Prop
  | [], [] => True
  | a :: l, b :: l2 => FrzV new N a b ∧ FrzTm new N l l2
  | _, _ => False
theorem FrzHp.get {new : List Blk} {N : Nat} : ∀ {l l2 : List Blk}, FrzHp new N l l2 → l2.length = l.length ∧ ∀ (i : Nat) q2, l2[i]? = some q2 → ∃ q, l[i]? = some q ∧ FrzB new N q q2
  | [], [], _ => ⟨rfl, by simp⟩
  | q :: l, q2 :: l2, h => by
    obtain ⟨h1, h2⟩ := FrzHp.get h.2
    refine ⟨by simp [h1], fun i q' hq => ?_⟩
    cases i with
    | zero => simp at hq; subst hq; exact ⟨q, rfl, h.1⟩
    | succ i => simpa using h2 i q' (by simpa using hq)
  | [], _ :: _, h => h.elim
  | _ :: _, [], h => h.elim
theorem FrzTm.get {new : List Blk} {N : Nat} : ∀ {l l2 : List AV}, FrzTm new N l l2 → l2.length = l.length ∧ ∀ (i : Nat) b, l2[i]? = some b → ∃ a, l[i]? = some a ∧ FrzV new N a b
  | [], [], _ => ⟨rfl, by simp⟩
  | q :: l, q2 :: l2, h => by
    obtain ⟨h1, h2⟩ := FrzTm.get h.2
    refine ⟨by simp [h1], fun i q' hq => ?_⟩
    cases i with
    | zero => simp at hq; subst hq; exact ⟨q, rfl, h.1⟩
    | succ i => simpa using h2 i q' (by simpa using hq)
  | [], _ :: _, h => h.elim
  | _ :: _, [], h => h.elim
theorem Weak.and {n0 : Nat} {a b c : St} (h1 : Weak n0 a b) (h2 : Weak n0 b c) : Weak n0 a c := by
  intro P E0 hp0 E s hn hs
  obtain ⟨E1, e1, s1⟩ := h1 P E0 hp0 E s hn hs
  obtain ⟨E2, e2, s2⟩ := h2 P E0 hp0 E1 s hn s1
  exact ⟨E2, e2.trans e1, s2⟩
end Go.Abs
/- The abstract layer, part ZL: a known block, told with its first elements alone. -/
namespace Go.Abs
open Go
variable {P : Program}

theorem cut_get {hp : List Blk} {b : Nat} {blk : Blk} (m : Nat) (hb : hp[b]? = some blk) {b' : Nat} {q : Blk} (h : (hp.set b { blk with els := blk.els.take m })[b']? = some q) :
    ∃ q0, hp[b']? = some q0 ∧ q0.w = q.w ∧ q0.live = q.live ∧ q0.ty = q.ty ∧ ∀ (i : Nat) e, q.els[i]? = some e → q0.els[i]? = some e := by
  by_cases hbb : b = b'
  · subst hbb
    rw [List.getElem?_set_self (List.getElem?_eq_some_iff.1 hb).1] at h
    simp only [Option.some.injEq] at h
    subst h
    refine ⟨blk, hb, rfl, rfl, rfl, fun i e he => ?_⟩
    have he' : (blk.els.take m)[i]? = some e := he
    rw [List.getElem?_take] at he'
    split at he'
    · exact he'
    · simp at he'
  · rw [List.getElem?_set_ne hbb] at h
    exact ⟨q, h, rfl, rfl, rfl, fun _ _ he => he⟩
theorem HRel.cut {E : Env P} {hp : List Blk} (H : HRel E hp) {b : Nat} {blk : Blk} (m : Nat) (hb : hp[b]? = some blk) (hw : 0 < blk.w) : HRel E (hp.set b { blk with els := blk.els.take m }) where
  N := by rw [List.length_set]; exact H.N
  wd := fun b' q h => by
    obtain ⟨q0, h1, h2, _⟩ := cut_get m hb h
    rw [H.wd b' q0 h1, h2]
  holds := fun b' q h hl => by
    obtain ⟨q0, h1, h2, h3, h4, h5⟩ := cut_get m hb h
    have hold := H.holds b' q0 h1 (by rw [h3]; exact hl)
    refine ⟨fun h0 => ?_, fun h0 => ?_⟩
    · obtain ⟨cs, g1, g2⟩ := hold.cells (h2 ▸ h0)
      exact ⟨cs, h4 ▸ g1, fun i e he => by rw [← h2]; exact g2 i e (h5 i e he)⟩
    · by_cases hbb : b = b'
      · subst hbb
        rw [hb] at h1
        cases h1
        omega
      · rw [List.getElem?_set_ne hbb, h1] at h
        cases h
        exact hold.map h0
  inj := fun b' b'' q q' h hl h' hl' he => by
    obtain ⟨q0, h1, _, h3, _⟩ := cut_get m hb h
    obtain ⟨q1, h1', _, h3', _⟩ := cut_get m hb h'
    exact H.inj b' b'' q0 q1 h1 (by rw [h3]; exact hl) h1' (by rw [h3']; exact hl') he
  apart := fun b' q h hl => by
    obtain ⟨q0, h1, _, h3, _⟩ := cut_get m hb h
    exact H.apart b' q0 h1 (by rw [h3]; exact hl)
  old := H.old
  laid := H.laid
theorem Fr.cut {E E0 : Env P} {hp0 hp : List Blk} (F : Fr E0 hp0 E hp) {b : Nat} {blk : Blk} (m : Nat) (hb : hp[b]? = some blk) : Fr E0 hp0 E (hp.set b { blk with els := blk.els.take m }) where
  size := F.size
  os := F.os
  tape := F.tape
  output := F.output
  block := F.block
  len := by rw [List.length_set]; exact F.len
  ρ := F.ρ
  wd := F.wd
  F := F.F
  F' := F.F'
  live := fun b' ⟨q, h, hl⟩ => by
    obtain ⟨q0, h1, _, h3, _⟩ := cut_get m hb h
    exact F.live b' ⟨q0, h1, by rw [h3]; exact hl⟩
  csz := F.csz
theorem PostR.cut {n0 : Nat} {r : AV} {hp : List Blk} {Q : AV → List Blk → Prop} (b m : Nat) {blk : Blk} (hb : hp[b]? = some blk) (hw0 : 0 < blk.w) (h : PostR n0 r (hp.set b { blk with els := blk.els.take m }) Q) : PostR n0 r hp Q := by
  obtain ⟨r2, hp2, hw, hq⟩ := h
  exact ⟨r2, hp2, fun P E0 hp0 E v hn H F hv => hw P E0 hp0 E v hn (H.cut m hb hw0) (F.cut m hb) hv, hq⟩
theorem Weak.cut {n0 : Nat} {tm : List AV} {hp : List Blk} {st2 : St} (b m : Nat) {blk : Blk} (hb : hp[b]? = some blk) (hw0 : 0 < blk.w) (h : Weak n0 ⟨tm, hp.set b { blk with els := blk.els.take m }⟩ st2) : Weak n0 ⟨tm, hp⟩ st2 := by
  intro P E0 hp0 E a hn hs
  exact h P E0 hp0 E a hn ⟨hs.hr.cut m hb hw0, hs.fr.cut m hb, hs.len, hs.tm, hs.df⟩
end Go.Abs
/- The abstract layer, part ZM: drawn regions in which appends and other operations that change memory float beside quiet operations that do not mind. -/
set_option linter.unusedSimpArgs false
set_option linter.unusedVariables false
namespace Go.Abs
open Go
variable {P : Program}
section
variable {P : Program}

def Fixed (fx : List Nat) (v : AV) : Prop := ∀ b ∈ fx, kill b v = v
def ordM (P : Program) (n0 : Nat) (ops : List Oper) (ms : List Nat) (bks : List (Option Nat)) (fx : List (List Nat)) (Hs Hw : List Blk → Prop) (K : St → Prop) : List Nat → St → Prop
  | [], st => K st
  | k :: r, st => ∃ o, ops[k]? = some o ∧ o.guard = none ∧ match ms.getD k 1 with
    | 0 => ∃ v, Hs st.hp ∧ (∀ hp, Hs hp → Yields P o st.ev hp v) ∧ (Fixed (fx.getD k []) v ∧ ∀ x ∈ o.op.operands, Fixed (fx.getD k []) (st.ev x)) ∧ ordM P n0 ops ms bks fx Hs Hw K r (st.put o.dst v)
    | 3 => ∃ v, Yields P o st.ev st.hp v ∧ fx.getD k [] = [] ∧ ordM P n0 ops ms bks fx Hs Hw K r (st.put o.dst v)
    | 5 => ∃ v, Hw st.hp ∧ (∀ hp, Hw hp → Yields P o st.ev hp v) ∧ (Fixed (fx.getD k []) v ∧ ∀ x ∈ o.op.operands, Fixed (fx.getD k []) (st.ev x)) ∧ ordM P n0 ops ms bks fx Hs Hw K r (st.put o.dst v)
    | 4 => ∃ g : AV → List Blk → Option Nat → Prop, opA P n0 o.op st.ev st.hp g ∧ ∀ v hp' kb, g v hp' kb → (kb = none ∨ kb = bks.getD k none) ∧ Hw hp' ∧ ordM P n0 ops ms bks fx Hs Hw K r ((st.after hp' kb).put o.dst v)
    | 2 => ∃ g : AV → List Blk → Option Nat → Prop, opA P n0 o.op st.ev st.hp g ∧ ∀ v hp' kb, g v hp' kb → (kb = none ∨ kb = bks.getD k none) ∧ Hs hp' ∧ ordM P n0 ops ms bks fx Hs Hw K r ((st.after hp' kb).put o.dst v)
    | _ => ∃ g : AV → List Blk → Option Nat → Prop, opA P n0 o.op st.ev st.hp g ∧ ∀ v hp' kb, g v hp' kb → ordM P n0 ops ms bks fx Hs Hw K r ((st.after hp' kb).put o.dst v)
def Om (P : Program) (n0 : Nat) (ops : List Oper) (ms : List Nat) (bks : List (Option Nat)) (fx : List (List Nat)) (Hs Hw : List Blk → Prop) (K : St → Prop) (ord : List Nat) (_t : Tok (ops, ord, K)) (st : St) : Prop := ordM P n0 ops ms bks fx Hs Hw K ord st
section
variable {n0 : Nat} {ops : List Oper} {ms : List Nat} {bks : List (Option Nat)} {fx : List (List Nat)} {Hs Hw : List Blk → Prop} {K : St → Prop} {k : Nat} {r : List Nat} {st : St} {t : Tok (ops, k :: r, K)} {o : Oper}
end
end
attribute [irreducible] Om
end Go.Abs
