/- The abstract layer, part D: the operations that make and write no memory do what 'quietA' says. -/
import Derived.Test.YtdhomifcjakbgaaDoorAbsC
set_option linter.unusedSimpArgs false
set_option linter.unusedVariables false
namespace Go.Abs
open Go
variable {P : Program}

/-- The same memory, streams and tape; draws may have been made. -/
def Same (w w' : World) : Prop := w'.heap = w.heap ∧ w'.os = w.os ∧ w'.tape = w.tape ∧ w'.output = w.output
theorem Same.refl (w : World) : Same w w := ⟨rfl, rfl, rfl, rfl⟩
theorem Same.drew (w : World) (n : Nat) : Same w { w with drawn := n } := ⟨rfl, rfl, rfl, rfl⟩
theorem Same.trans {w w' w'' : World} (h : Same w w') (g : Same w' w'') : Same w w'' :=
  ⟨g.1.trans h.1, g.2.1.trans h.2.1, g.2.2.1.trans h.2.2.1, g.2.2.2.trans h.2.2.2⟩

def Env.with (E : Env P) (w : World) : Env P := { E with w := w }
theorem Env.le_with {E : Env P} {w : World} (h : Same E.w w) : E.le (E.with w) :=
  ⟨fun _ h => h, fun c _ => by show w.heap[c]? = _; rw [h.1], Nat.le_refl _, fun _ _ => rfl, fun _ _ => rfl, fun c => by show csz E.w c ≤ csz w c; unfold csz; rw [h.1]; exact Nat.le_refl _⟩
theorem HRel.with {E : Env P} {hp : List Blk} (H : HRel E hp) {w : World} (h : Same E.w w) : HRel (E.with w) hp where
  N := H.N
  wd := H.wd
  holds := fun b blk hb hl => by
    obtain ⟨cs, h1, h2⟩ := (H.holds b blk hb hl).cells
    refine ⟨cs, ?_, fun i e he => ⟨(h2 i e he).1, fun j x hx => ?_⟩⟩
    · show w.heap[E.ρ b]? = _; rw [h.1]; exact h1
    · obtain ⟨v, h3, h4⟩ := (h2 i e he).2 j x hx
      exact ⟨v, h3, h4.mono (Env.le_with h)⟩
  inj := H.inj
  apart := H.apart
  old := fun c hc => by show c < w.heap.size; rw [h.1]; exact H.old c hc
  laid := H.laidLe (Env.le_with h)
theorem Fr.with {E E' : Env P} {hp hp' : List Blk} (F : Fr E hp E' hp') {w : World} (h : Same E'.w w) : Fr E hp (E'.with w) hp' where
  size := by show _ ≤ w.heap.size; rw [h.1]; exact F.size
  os := h.2.1.trans F.os
  tape := h.2.2.1.trans F.tape
  output := h.2.2.2.trans F.output
  block := fun c hc hn => by show w.heap[c]? = _; rw [h.1]; exact F.block c hc hn
  len := F.len
  ρ := F.ρ
  wd := F.wd
  F := F.F
  F' := F.F'
  live := F.live
  csz := fun c => Nat.le_trans (F.csz c) ((Env.le_with h).csz c)

theorem info_of {P : Program} {t : TypeId} {d : TypeDesc} (h : P.underlying t = some d) : ∃ i, P.info? t = some i ∧ P.cellsOf t = i.size ∧ P.bytesOf t = i.bytes := by
  unfold Program.underlying at h
  cases hi : P.info? t with
  | none => simp [hi] at h
  | some i => exact ⟨i, rfl, by simp [Program.cellsOf, hi], by simp [Program.bytesOf, hi]⟩

theorem run_sizeOf' {P : Program} {t : TypeId} {d : TypeDesc} (h : P.underlying t = some d) (w : World) : (sizeOf t).run P w = .ok (P.cellsOf t) w := by
  obtain ⟨i, hi, hs, _⟩ := info_of h
  simp [sizeOf, typeInfo, hi, hs, Result.andThen]
theorem run_underlying' {P : Program} {t : TypeId} {d : TypeDesc} (h : P.underlying t = some d) (w : World) : (underlying t).run P w = .ok d w := by
  simp [underlying, h, Result.andThen]

/-- What a constant's abstract value says of it. -/
theorem RV_ofL (E : Env P) (v : Value) : RV E (ofL v) v := by
  unfold ofL
  split
  · exact .bool _
  · exact .int _ _
  · exact .flt _ _ _ rfl
  · exact .cpx _ _ _ _ _ rfl rfl
  · exact .str _
  · exact .nilp
  · exact .nils _
  · exact .nilf
  · exact .any _
theorem RV_ofV (E : Env P) (v : Value) : RV E (ofV v) v := by
  unfold ofV
  split
  · rename_i cs
    refine .agg _ _ (by simp) fun i a v h1 h2 => ?_
    have h2' : cs.toList[i]? = some v := by simpa using h2
    simp only [List.getElem?_map, h2', Option.map_some, Option.some.injEq] at h1
    exact h1 ▸ RV_ofL E v
  · exact RV_ofL E _

theorem RV.one_cells {E : Env P} {a : AV} {v : Value} (h : RV E a v) (ho : a.one = true) : v.oneCell' = true ∧ v.cells = #[v] := by
  cases h <;> first | (cases ho; done) | exact ⟨rfl, rfl⟩
theorem one_acells {a : AV} (h : a.one = true) : a.cells = [a] := by cases a <;> first | rfl | cases h
theorem RV.not_agg {E : Env P} {a : AV} {v : Value} (h : RV E a v) (ho : a.solid = true) : a.cells.length = v.cells.size ∧ (∀ (i : Nat) c x, a.cells[i]? = some c → v.cells[i]? = some x → RV E c x ∧ c.one = true ∧ x.oneCell' = true) := by
  cases h with
  | agg l vs hl h =>
    refine ⟨hl, fun i c x h1 h2 => ?_⟩
    have hc : c.one = true := by
      simp only [AV.solid, List.all_eq_true] at ho
      exact ho c (List.mem_of_getElem? h1)
    have hr := h i c x h1 h2
    exact ⟨hr, hc, (hr.one_cells hc).1⟩
  | any v => cases ho
  | tup l vs hl h => cases ho
  | bool | int | flt | cpx | str | nils | roNil | ro | sl | ptr | rop | nilp | fn | nilf =>
    refine ⟨rfl, fun i c x h1 h2 => ?_⟩
    cases i with
    | zero =>
      simp only [AV.cells, Value.cells, List.getElem?_cons_zero, Option.some.injEq, List.getElem?_toArray] at h1 h2
      subst h1; subst h2
      exact ⟨by constructor <;> assumption, rfl, rfl⟩
    | succ i => simp [AV.cells] at h1

section
variable {P : Program}

def QRun (P : Program) (E : Env P) (s : Sem Value) (av : AV) : Prop := ∃ v w', s.run P E.w = .ok v w' ∧ Same E.w w' ∧ RV E av v


theorem add_none (b off i : Nat) : (⟨b, off, none⟩ : Addr).add i = ⟨b, off + i, none⟩ := by
  unfold Addr.add; split <;> simp_all
theorem info_pos {t : TypeId} (h : 0 < P.cellsOf t) : ∃ i, P.info? t = some i ∧ P.cellsOf t = i.size ∧ P.bytesOf t = i.bytes := by
  cases hi : P.info? t with
  | none => simp [Program.cellsOf, hi] at h
  | some i => exact ⟨i, rfl, by simp [Program.cellsOf, hi], by simp [Program.bytesOf, hi]⟩
theorem run_sizeOf_pos {t : TypeId} (h : 0 < P.cellsOf t) (w : World) : (sizeOf t).run P w = .ok (P.cellsOf t) w := by
  obtain ⟨i, hi, hs, _⟩ := info_pos h
  simp [sizeOf, typeInfo, hi, hs, Result.andThen]

/-- A reading: it leaves the world as it is. -/
def QLoad (P : Program) (E : Env P) (s : Sem Value) (av : AV) : Prop := ∃ v, s.run P E.w = .ok v E.w ∧ RV E av v
theorem QLoad.run {E : Env P} {s : Sem Value} {av : AV} (h : QLoad P E s av) : QRun P E s av := by
  obtain ⟨v, h1, h2⟩ := h
  exact ⟨v, E.w, h1, Same.refl _, h2⟩

/-- Reading a variable out of cells. -/
theorem loadC_sound {t : TypeId} {cs : List AV} {j : Nat} {k : AV → Prop} (h : loadC P t cs j k) :
    ∃ av, k av ∧ ∀ (E : Env P) (a : Addr) (val : Nat → Value), (∀ (i : Nat) c, cs[j + i]? = some c → E.w.cell? (a.add i) = some (val i) ∧ RV E c (val i)) → QLoad P E (loadVar t a) av := by
  have aggCase : ∀ d, P.underlying t = some d → (match d with | .struct _ | .array _ _ => True | _ => False) → j + P.cellsOf t ≤ cs.length → ∀ (E : Env P) (a : Addr) (val : Nat → Value), (∀ (i : Nat) c, cs[j + i]? = some c → E.w.cell? (a.add i) = some (val i) ∧ RV E c (val i)) →
      QLoad P E (loadVar t a) (.agg ((cs.drop j).take (P.cellsOf t))) := by
    intro d hd hm hle E a val hc
    have hi : (isAgg t).run P E.w = .ok true E.w := by
      unfold isAgg
      simp only [Sem.run_bind, run_underlying' hd, Result.andThen_ok]
      cases d <;> first | rfl | exact hm.elim
    refine ⟨.agg ((List.range (P.cellsOf t)).map val).toArray, ?_, ?_⟩
    · simp only [loadVar, Sem.run_bind, hi, Result.andThen_ok, if_true, run_sizeOf' hd]
      rw [run_loadCells E.w a _ val (fun i hi' => by
        have : j + i < cs.length := by omega
        exact (hc i _ (List.getElem?_eq_getElem this)).1)]
      rfl
    · refine .agg _ _ (by simp; omega) fun i c v h1 h2 => ?_
      have hi' : i < P.cellsOf t := by
        have := (List.getElem?_eq_some_iff.1 h1).1
        simp at this; omega
      have e1 : cs[j + i]? = some c := by
        rw [List.getElem?_take_of_lt hi', List.getElem?_drop] at h1
        exact h1
      have e2 : v = val i := by
        simp [hi'] at h2
        exact h2.symm
      rw [e2]
      exact (hc i c e1).2
  unfold loadC at h
  split at h
  · rename_i fs hd
    exact ⟨_, h.2, aggCase _ hd trivial h.1⟩
  · rename_i n e hd
    exact ⟨_, h.2, aggCase _ hd trivial h.1⟩
  · rename_i d hn1 hn2 hd
    obtain ⟨hj, hk⟩ := h
    refine ⟨_, hk, fun E a val hc => ?_⟩
    have hi : (isAgg t).run P E.w = .ok false E.w := by
      unfold isAgg
      simp only [Sem.run_bind, run_underlying' hd, Result.andThen_ok]
      cases d <;> first | rfl | exact absurd rfl (hn1 _) | exact absurd rfl (hn2 _ _)
    obtain ⟨h1, h2⟩ := hc 0 cs[j] (by simp [hj])
    have e : a.add 0 = a := by simp [Addr.add]
    rw [e] at h1
    refine ⟨val 0, ?_, h2⟩
    simp [loadVar, hi, Result.andThen, h1]
  · exact h.elim

/-- Out of a known block. -/
theorem HRel.cell {E : Env P} {hp : List Blk} (H : HRel E hp) {b i : Nat} {blk : Blk} (hb : hp[b]? = some blk) (hl : blk.live = true) {e : AV} (he : blk.els[i]? = some e) {j : Nat} {c : AV} (hc : e.cells[j]? = some c) :
    ∃ v, E.w.cell? ⟨E.ρ b, i * E.wd b + j, none⟩ = some v ∧ RV E c v := by
  obtain ⟨cs, h1, h2⟩ := (H.holds b blk hb hl).cells
  obtain ⟨v, h3, h4⟩ := (h2 i e he).2 j c hc
  refine ⟨v, ?_, h4⟩
  rw [H.wd b blk hb]
  simp [World.cell?, h1, h3]

theorem loadA_sound {t : TypeId} {hp : List Blk} {a : AV} {k : AV → Prop} (h : loadA P t hp a k) :
    ∃ av, k av ∧ ∀ (E : Env P) v, HRel E hp → RV E a v → QLoad P E (Instr.loadAt t v) av := by
  unfold loadA at h
  split at h
  · rename_i l
    obtain ⟨av, hk, hr⟩ := loadC_sound h
    refine ⟨av, hk, fun E v H hv => ?_⟩
    cases hv with
    | rop l b off val hF hc hv =>
      have := hr E ⟨b, off, none⟩ val (fun i c hi => ⟨by rw [add_none]; exact hc i c (by simpa using hi), (hv i c (by simpa using hi)).mono (Env.le.of_bare E)⟩)
      obtain ⟨v, h1, h3⟩ := this
      exact ⟨v, by simp [Instr.loadAt, Instr.sureAddr, Result.andThen, h1], h3⟩
  · rename_i b i j
    split at h
    · rename_i blk hb
      obtain ⟨hl, hi, h⟩ := h
      obtain ⟨av, hk, hr⟩ := loadC_sound h
      refine ⟨av, hk, fun E v H hv => ?_⟩
      cases hv with
      | ptr b i j hbN =>
        have hcell : ∀ (m : Nat) c, blk.els[i].cells[j + m]? = some c → ∃ v, E.w.cell? ⟨E.ρ b, i * E.wd b + (j + m), none⟩ = some v ∧ RV E c v :=
          fun m c hc => H.cell hb hl (by simp [hi]) hc
        have := hr E ⟨E.ρ b, i * E.wd b + j, none⟩ (fun m => (E.w.cell? ⟨E.ρ b, i * E.wd b + (j + m), none⟩).getD undef) (fun m c hc => by
          obtain ⟨v, h1, h2⟩ := hcell m c hc
          have e : (⟨E.ρ b, i * E.wd b + j, none⟩ : Addr).add m = ⟨E.ρ b, i * E.wd b + (j + m), none⟩ := by rw [add_none, Nat.add_assoc]
          rw [e, h1]
          exact ⟨rfl, by simpa using h2⟩)
        obtain ⟨v, h1, h3⟩ := this
        exact ⟨v, by simp [Instr.loadAt, Instr.sureAddr, Result.andThen, h1], h3⟩
    · exact h.elim
  · exact h.elim

theorem indexA_sound {t : TypeId} {hp : List Blk} {x ix : AV} {k : AV → Prop} (h : indexA P t hp x ix k) :
    ∃ av, k av ∧ ∀ (E : Env P) v u, HRel E hp → RV E x v → RV E ix u → QRun P E (Instr.indexAt t v u) av := by
  unfold indexA at h
  split at h
  · rename_i e kd n hd
    have tiny : ∀ w : World, (underlying t).run P w = .ok (.slice e) w := run_underlying' hd
    split at h
    · rename_i l
      obtain ⟨h0, hp0, hn, hw, hk⟩ := h
      refine ⟨_, hk, fun E v u H hv hu => ?_⟩
      cases hu
      cases hv with
      | roNil a cap => exact absurd hn (by simp)
      | ro l b off cap wd val hF hcap hmax hws hc hvs =>
        have hwd : wd = P.cellsOf e := by rw [← hws n.toNat _ (List.getElem?_eq_getElem hn)]; exact hw
        have hlt : 0 ≤ n ∧ n < (l.length : Int) := by omega
        refine ⟨.pointer (some ⟨b, off + n.toNat * P.cellsOf e, none⟩), E.w, ?_, Same.refl _, ?_⟩
        · simp [Instr.indexAt, asIntOf, tiny, Result.andThen, hlt, run_sizeOf_pos hp0, add_none]
        · refine .rop _ _ _ (val n.toNat) hF (fun j c hj => ?_) (fun j c hj => hvs _ _ (List.getElem?_eq_getElem hn) j c hj)
          rw [← hwd]
          exact hc _ _ (List.getElem?_eq_getElem hn) j c hj
    · rename_i b i len
      obtain ⟨h0, hn, hp0, hwb, hk⟩ := h
      refine ⟨_, hk, fun E v u H hv hu => ?_⟩
      cases hu
      cases hv with
      | sl b i len off cap hb ho hcap hmax hroom =>
        have hlt : 0 ≤ n ∧ n < (len : Int) := by omega
        cases hbk : hp[b]? with
        | none => simp [hbk] at hwb
        | some blk =>
          have hwd : E.wd b = P.cellsOf e := by rw [H.wd b blk hbk]; simpa [hbk] using hwb
          have hoff : off = i * P.cellsOf e := by rw [← hwd]; exact ho (by omega)
          refine ⟨.pointer (some ⟨E.ρ b, off + n.toNat * P.cellsOf e, none⟩), E.w, ?_, Same.refl _, ?_⟩
          · simp [Instr.indexAt, asIntOf, tiny, Result.andThen, hlt, run_sizeOf_pos hp0, add_none]
          · have := RV.ptr (E := E) b (i + n.toNat) 0 hb
            rw [hwd] at this
            rw [hoff, ← Nat.add_mul]
            simpa using this
    · exact h.elim
  · exact h.elim

theorem indexS_sound {t : TypeId} {x ix : AV} {k : AV → Prop} (h : indexS P t x ix k) :
    ∃ av, k av ∧ ∀ (E : Env P) v u, RV E x v → RV E ix u → QRun P E (Instr.index t v u) av := by
  unfold indexS at h
  split at h
  · rename_i s kd n hd
    obtain ⟨h0, hn, hk⟩ := h
    refine ⟨_, hk, fun E v u hv hu => ?_⟩
    cases hu
    cases hv
    refine ⟨_, E.w, ?_, Same.refl _, .int _ _⟩
    simp only [Instr.index, asIntOf, Sem.run_bind, Sem.run_pure, Result.andThen_ok, run_underlying' hd, h0, if_true]
    have e : (⟨s.toArray⟩ : ByteArray)[n.toNat]? = some s[n.toNat] := by
      show (if h : n.toNat < (⟨s.toArray⟩ : ByteArray).size then _ else _) = _
      rw [dif_pos (by simpa [ByteArray.size] using hn)]
      rfl
    rw [e]
    rfl
  · exact h.elim

theorem field_of {s : TypeId} {i : Nat} {fd : Field} (h : fieldOf P s i = some fd) : ∃ fs, P.underlying s = some (.struct fs) ∧ fs[i]? = some fd := by
  unfold fieldOf at h
  split at h
  · rename_i fs hd; exact ⟨fs, hd, h⟩
  · cases h

theorem fieldA_sound {s : TypeId} {x : AV} {i : Nat} {k : AV → Prop} (h : fieldA P s x i k) :
    ∃ av, k av ∧ ∀ (E : Env P) v, RV E x v → QRun P E (Instr.fieldAt s v i) av := by
  unfold fieldA at h
  split at h
  · rename_i fd hf
    obtain ⟨fs, hd, hfi⟩ := field_of hf
    obtain ⟨hpos, h⟩ := h
    have run : ∀ (w : World) b off, (Instr.fieldAt s (.pointer (some ⟨b, off, none⟩)) i).run P w = .ok (.pointer (some ⟨b, off + fd.offset, none⟩)) w := by
      intro w b off
      have h0 : ¬ P.cellsOf fd.type = 0 := by omega
      simp [Instr.fieldAt, run_underlying' hd, Result.andThen, hfi, Instr.sureAddr, fieldPlace, run_sizeOf_pos hpos, h0, add_none]
    split at h
    · rename_i l
      refine ⟨_, h, fun E v hv => ?_⟩
      cases hv with
      | rop l b off val hF hc hvs =>
        refine ⟨_, E.w, run _ _ _, Same.refl _, .rop _ _ _ (fun j => val (fd.offset + j)) hF (fun j c hj => ?_) (fun j c hj => hvs _ c (by simpa using hj))⟩
        rw [Nat.add_assoc]
        exact hc _ c (by simpa using hj)
    · rename_i b i' j
      refine ⟨_, h, fun E v hv => ?_⟩
      cases hv with
      | ptr b i j hb =>
        refine ⟨_, E.w, run _ _ _, Same.refl _, ?_⟩
        rw [Nat.add_assoc]
        exact .ptr _ _ _ hb
    · exact h.elim
  · exact h.elim

theorem partA_sound {s : TypeId} {x : AV} {i : Nat} {k : AV → Prop} (h : partA P s x i k) :
    ∃ av, k av ∧ ∀ (E : Env P) v, RV E x v → QRun P E (Instr.field s v i) av := by
  unfold partA at h
  split at h
  · rename_i fd l hf
    obtain ⟨fs, hd, hfi⟩ := field_of hf
    have agg : ∀ d, P.underlying fd.type = some d → (match d with | .struct _ | .array _ _ => True | _ => False) → fd.offset + P.cellsOf fd.type ≤ l.length → ∀ (E : Env P) v, RV E (.agg l) v → QRun P E (Instr.field s v i) (.agg ((l.drop fd.offset).take (P.cellsOf fd.type))) := by
      intro d hdt hm hle E v hv
      cases hv with
      | agg l vs hl h =>
        have hi : (isAgg fd.type).run P E.w = .ok true E.w := by
          unfold isAgg
          simp only [Sem.run_bind, run_underlying' hdt, Result.andThen_ok]
          cases d <;> first | rfl | exact hm.elim
        refine ⟨.agg (vs.extract fd.offset (fd.offset + P.cellsOf fd.type)), E.w, ?_, Same.refl _, ?_⟩
        · simp [Instr.field, run_underlying' hd, Result.andThen, hfi, asAgg, part, hi, run_sizeOf' hdt]
        · refine .agg _ _ (by simp; omega) fun m c x h1 h2 => ?_
          have hm' : m < P.cellsOf fd.type := by
            have := (List.getElem?_eq_some_iff.1 h1).1
            simp at this; omega
          rw [List.getElem?_take_of_lt hm', List.getElem?_drop] at h1
          rw [Array.getElem?_extract] at h2
          split at h2
          · exact h _ _ _ h1 h2
          · cases h2
    unfold loadC at h
    split at h
    · rename_i fs' hdt
      exact ⟨_, h.2, agg _ hdt trivial h.1⟩
    · rename_i n e hdt
      exact ⟨_, h.2, agg _ hdt trivial h.1⟩
    · rename_i d hn1 hn2 hdt
      obtain ⟨hj, hk⟩ := h
      refine ⟨_, hk, fun E v hv => ?_⟩
      cases hv with
      | agg l vs hl h =>
        have hi : (isAgg fd.type).run P E.w = .ok false E.w := by
          unfold isAgg
          simp only [Sem.run_bind, run_underlying' hdt, Result.andThen_ok]
          cases d <;> first | rfl | exact absurd rfl (hn1 _) | exact absurd rfl (hn2 _ _)
        have hsz : fd.offset < vs.size := by omega
        refine ⟨vs[fd.offset], E.w, ?_, Same.refl _, h _ _ _ (List.getElem?_eq_getElem hj) (by simp [hsz])⟩
        simp [Instr.field, run_underlying' hd, Result.andThen, hfi, asAgg, part, hi, hsz]
    · exact h.elim
  · exact h.elim

theorem lenA_sound {t : TypeId} {x : AV} {k : AV → Prop} (h : lenA P t x k) :
    ∃ av, k av ∧ ∀ (E : Env P) v ty, RV E x v → QRun P E (Builtin.len_ #[t] ty #[v]) av := by
  unfold lenA at h
  split at h
  · rename_i s hd
    refine ⟨_, h, fun E v ty hv => ?_⟩
    cases hv
    exact ⟨_, E.w, by simp [Builtin.len_, run_underlying' hd, Result.andThen]; rfl, Same.refl _, .int _ _⟩
  · rename_i e hd
    refine ⟨_, h, fun E v ty hv => ?_⟩
    cases hv
    exact ⟨_, E.w, by simp [Builtin.len_, run_underlying' hd, Result.andThen]; rfl, Same.refl _, .int _ _⟩
  · rename_i e l hd
    refine ⟨_, h, fun E v ty hv => ?_⟩
    cases hv with
    | roNil a cap => exact ⟨_, E.w, by simp [Builtin.len_, run_underlying' hd, Result.andThen]; rfl, Same.refl _, .int _ _⟩
    | ro => exact ⟨_, E.w, by simp [Builtin.len_, run_underlying' hd, Result.andThen]; rfl, Same.refl _, .int _ _⟩
  · rename_i e b i n hd
    refine ⟨_, h, fun E v ty hv => ?_⟩
    cases hv
    exact ⟨_, E.w, by simp [Builtin.len_, run_underlying' hd, Result.andThen]; rfl, Same.refl _, .int _ _⟩
  · exact h.elim

end
end Go.Abs
