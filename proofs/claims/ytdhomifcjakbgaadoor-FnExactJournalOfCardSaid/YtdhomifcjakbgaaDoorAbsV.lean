/- The abstract layer, part V: what a law's arguments are. -/
import Derived.Test.YtdhomifcjakbgaaDoorAbsU
import Derived.ChangeArms
set_option linter.unusedSimpArgs false
set_option linter.unusedVariables false
namespace Go.Abs
open Go
variable {P : Program}

section
variable (P : Program)
/-- A type of plain data: no pointer, no map; fields lie one behind another. -/
def PlainF (q : TypeId → Bool) : Nat → List Field → Option Nat
  | o, [] => some o
  | o, f :: fs => if f.offset = o ∧ q f.type = true then PlainF q (o + P.cellsOf f.type) fs else none
def PlainT : Nat → TypeId → Bool
  | 0, _ => false
  | n + 1, t => match P.underlying t with
    | some .bool | some (.int _) | some (.float _) | some .string => true
    | some (.slice e) => decide (0 < P.cellsOf e) && PlainT n e
    | some (.struct fs) => PlainF P (PlainT n) 0 fs.toList == some (P.cellsOf t)
    | _ => false
/-- What the cells of a value of plain data are. -/
def OfT : Nat → TypeId → List AV → Prop
  | 0, _, _ => False
  | n + 1, t, l => match P.underlying t with
    | some .bool => ∃ b, l = [.bool b]
    | some (.int k) => ∃ z, l = [.int k z] ∧ (Lit.int k z).wf = true
    | some (.float k) => ∃ x, l = [.flt k x] ∧ canon k x = x ∧ (Lit.float k x).wf = true
    | some .string => ∃ s, l = [.str s] ∧ s.length ≤ maxLen
    | some (.slice e) => ∃ els, l = [.ro els] ∧ els.length ≤ maxLen ∧ ∀ a ∈ els, OfT n e a.cells ∧ ((∃ fs, P.underlying e = some (.struct fs)) → ∃ c, a = .agg c) ∧ ((∀ fs, P.underlying e ≠ some (.struct fs)) → a.one = true)
    | some (.struct fs) => l.length = P.cellsOf t ∧ ∀ f ∈ fs.toList, OfT n f.type ((l.drop f.offset).take (P.cellsOf f.type))
    | _ => False
end

section
variable {P : Program}
theorem plainF_le {q : TypeId → Bool} : ∀ (fs : List Field) (o tot : Nat), PlainF P q o fs = some tot → o ≤ tot
  | [], o, tot, h => by simp only [PlainF, Option.some.injEq] at h; omega
  | f :: fs, o, tot, h => by
    simp only [PlainF] at h
    split at h
    · have := plainF_le fs _ _ h; omega
    · cases h

/-- A list of things that each do what they ought. -/
theorem list_of {α : Type} {R : Nat → α → Prop} : ∀ (n : Nat), (∀ i, i < n → ∃ b, R i b) → ∃ L : List α, L.length = n ∧ ∀ (i : Nat) b, L[i]? = some b → R i b
  | 0, _ => ⟨[], rfl, fun i b h => by simp at h⟩
  | n + 1, h => by
    obtain ⟨L, h1, h2⟩ := list_of n fun i hi => h i (by omega)
    obtain ⟨b, hb⟩ := h n (by omega)
    refine ⟨L ++ [b], by simp [h1], fun i c hc => ?_⟩
    by_cases hi : i < L.length
    · rw [List.getElem?_append_left hi] at hc; exact h2 i c hc
    · rw [List.getElem?_append_right (by omega)] at hc
      have : i - L.length = 0 := by
        apply Decidable.byContradiction
        intro hne
        rw [List.getElem?_eq_none (by simp; omega)] at hc
        cases hc
      rw [this] at hc
      simp only [List.getElem?_cons_zero, Option.some.injEq] at hc
      have hi' : i = n := by omega
      subst hc; subst hi'; exact hb

def Pt (E : Env P) (l : List AV) (cs : List Value) : Prop := l.length = cs.length ∧ ∀ (j : Nat) c v, l[j]? = some c → cs[j]? = some v → RV E c v

theorem Pt.append {E : Env P} {l l' : List AV} {cs cs' : List Value} (h : Pt E l cs) (h' : Pt E l' cs') : Pt E (l ++ l') (cs ++ cs') := by
  refine ⟨by simp [h.1, h'.1], fun j c v h1 h2 => ?_⟩
  by_cases hj : j < l.length
  · rw [List.getElem?_append_left hj] at h1
    rw [List.getElem?_append_left (by rw [← h.1]; exact hj)] at h2
    exact h.2 j c v h1 h2
  · rw [List.getElem?_append_right (by omega)] at h1
    rw [List.getElem?_append_right (by rw [← h.1]; omega), ← h.1] at h2
    exact h'.2 _ c v h1 h2

theorem fields_of {H : Type} {enc : TypeId × Value → H} {w : World} {spare : Nat → Bool} {held : Bool} {m n : Nat} {cs : List Value} {E : Env P}
    (ih : ∀ (t : TypeId) (cs : List Value) x, PlainT P m t = true → DataW.trod enc P w 0 spare held n t cs = some x → ∃ l, Pt E l cs ∧ OfT P m t l) :
    ∀ (fs : List Field) (o tot : Nat), PlainF P (PlainT P m) o fs = some tot → cs.length = tot → (∀ f ∈ fs, ∃ y, DataW.trod enc P w 0 spare held n f.type ((cs.drop f.offset).take (P.cellsOf f.type)) = some y) →
      ∃ l, Pt E l (cs.drop o) ∧ ∀ f ∈ fs, o ≤ f.offset ∧ OfT P m f.type ((l.drop (f.offset - o)).take (P.cellsOf f.type))
  | [], o, tot, h, hc, _ => by
    simp only [PlainF, Option.some.injEq] at h
    refine ⟨[], ⟨by simp; omega, fun j c v h1 => by simp at h1⟩, fun f hf => by simp at hf⟩
  | f :: fs, o, tot, h, hc, hy => by
    simp only [PlainF] at h
    split at h
    · rename_i hf
      have hle := plainF_le fs _ _ h
      obtain ⟨y, hy0⟩ := hy f (by simp)
      obtain ⟨lf, hp, hof⟩ := ih _ _ _ hf.2 hy0
      obtain ⟨l', hp', hof'⟩ := fields_of ih fs _ _ h hc fun g hg => hy g (by simp [hg])
      have hlen : lf.length = P.cellsOf f.type := by rw [hp.1, hf.1]; simp; omega
      refine ⟨lf ++ l', ?_, fun g hg => ?_⟩
      · have e : cs.drop o = (cs.drop f.offset).take (P.cellsOf f.type) ++ cs.drop (o + P.cellsOf f.type) := by
          rw [hf.1, ← List.drop_drop, List.take_append_drop]
        rw [e]
        exact hp.append hp'
      · rcases List.mem_cons.1 hg with rfl | hg
        · refine ⟨by omega, ?_⟩
          rw [hf.1, Nat.sub_self, List.drop_zero, ← hlen, List.take_left' rfl]
          exact hof
        · obtain ⟨h1, h2⟩ := hof' g hg
          refine ⟨by omega, ?_⟩
          rw [List.drop_append, List.drop_of_length_le (by omega), List.nil_append, show g.offset - o - lf.length = g.offset - (o + P.cellsOf f.type) from by omega]
          exact h2
    · cases h

theorem canon_wf (k : FloatKind) (b : Nat) (h : (Lit.float k b).wf = true) : (Lit.float k (canon k b)).wf = true := by
  cases hn : (k.decode b).isNaN with
  | true => rw [canon_of_nan hn]; cases k <;> decide
  | false => rw [canon_of_not hn]; exact h

theorem ofT_one {m : Nat} {e : TypeId} {l : List AV} (hs : ¬ ∃ fs, P.underlying e = some (.struct fs)) (h : OfT P m e l) : ∃ c, l = [c] ∧ c.cells = [c] ∧ c.one = true := by
  cases m with
  | zero => exact h.elim
  | succ m =>
    unfold OfT at h
    split at h
    · obtain ⟨b, rfl⟩ := h; exact ⟨_, rfl, rfl, rfl⟩
    · obtain ⟨b, rfl, _⟩ := h; exact ⟨_, rfl, rfl, rfl⟩
    · obtain ⟨b, rfl, _⟩ := h; exact ⟨_, rfl, rfl, rfl⟩
    · obtain ⟨b, rfl, _⟩ := h; exact ⟨_, rfl, rfl, rfl⟩
    · obtain ⟨b, rfl, _⟩ := h; exact ⟨_, rfl, rfl, rfl⟩
    · rename_i fs hfs; exact absurd ⟨fs, hfs⟩ hs
    · exact h.elim

/-- What a reading of plain data has met. -/
theorem trod_of {H : Type} {enc : TypeId × Value → H} {w : World} {spare : Nat → Bool} {held : Bool} : ∀ (m n : Nat) (t : TypeId) (cs : List Value) (x : DataW H × List MemPlace), PlainT P m t = true → DataW.trod enc P w 0 spare held n t cs = some x →
    ∃ l, Pt (lawEnv (P := P) w fun c => c < w.heap.size) l cs ∧ OfT P m t l := by
  intro m
  induction m with
  | zero => intro n t cs x hp; cases hp
  | succ m ih =>
    intro n t cs x hp h
    have one : ∀ {c : AV} {v : Value}, RV (lawEnv (P := P) w fun c => c < w.heap.size) c v → Pt (lawEnv (P := P) w fun c => c < w.heap.size) [c] [v] := by
      intro c v hr
      refine ⟨rfl, fun j c' v' h1 h2 => ?_⟩
      cases j with
      | zero => simp at h1 h2; subst h1; subst h2; exact hr
      | succ j => simp at h1
    unfold PlainT at hp
    unfold OfT
    cases ht : P.underlying t with
    | none => rw [ht] at hp; cases hp
    | some d =>
      rw [ht] at hp
      cases d with
      | bool =>
        cases n with
        | zero => simp [DataW.trod] at h
        | succ n =>
          unfold DataW.trod at h
          rw [ht] at h
          split at h <;> simp_all
          rename_i b
          exact ⟨_, one (.bool b), by cases b <;> simp⟩
      | int k =>
        obtain ⟨z, rfl, _, hw⟩ := DataW.trod_int ht h
        exact ⟨_, one (.int k z), z, rfl, hw⟩
      | float k =>
        cases n with
        | zero => simp [DataW.trod] at h
        | succ n =>
          unfold DataW.trod at h
          rw [ht] at h
          split at h <;> simp_all
          obtain ⟨⟨rfl, hw⟩, _⟩ := h
          exact ⟨_, one (.flt _ _ _ rfl), _, rfl, canon_canon _ _, canon_wf _ _ hw⟩
      | string =>
        obtain ⟨b, rfl, _, hs⟩ := DataW.trod_string ht h
        refine ⟨_, one (.str b.data.toList), _, rfl, by simpa using hs⟩
      | slice e =>
        simp only [Bool.and_eq_true, decide_eq_true_eq] at hp
        rcases DataW.trod_slice ht h with ⟨rfl, rfl⟩ | ⟨a, len, cap, elems, rest, n', rfl, rfl, rfl, hb, hl, hm, hlen, hel, hsp, hns⟩
        · exact ⟨_, one (.roNil none 0), [], rfl, by simp [maxLen], by simp⟩
        · have each : ∀ i, i < len → ∃ b : AV, b.cells.length = P.cellsOf e ∧ (OfT P m e b.cells ∧ ((∃ fs, P.underlying e = some (.struct fs)) → ∃ c, b = .agg c) ∧ ((∀ fs, P.underlying e ≠ some (.struct fs)) → b.one = true)) ∧
              ∃ csi, (∀ j, j < P.cellsOf e → w.cell? ((a.add (i * P.cellsOf e)).add j) = csi[j]?) ∧ Pt (lawEnv (P := P) w fun c => c < w.heap.size) b.cells csi := by
            intro i hi
            have h1 := hel i hi
            rw [List.getElem?_eq_getElem (by omega), Option.bind_eq_some_iff] at h1
            obtain ⟨csi, h2, h3⟩ := h1
            obtain ⟨_, h4, h5⟩ := World.cells?_some h2
            obtain ⟨li, h6, h7⟩ := ih n' e csi _ hp.2 h3
            by_cases hst : ∃ fs, P.underlying e = some (.struct fs)
            · exact ⟨.agg li, by show li.length = _; rw [h6.1, h4], ⟨h7, fun _ => ⟨li, rfl⟩, fun hn => by obtain ⟨fs, hfs⟩ := hst; exact absurd hfs (hn fs)⟩, csi, h5, h6⟩
            · obtain ⟨c, rfl, hc1, hc2⟩ := ofT_one hst h7
              exact ⟨c, by rw [hc1, ← h4, ← h6.1], ⟨by rw [hc1]; exact h7, fun hs => absurd hs hst, fun _ => hc2⟩, csi, h5, by rw [hc1]; exact h6⟩
          obtain ⟨els, hl1, hl2⟩ := list_of (R := fun i (b : AV) => b.cells.length = P.cellsOf e ∧ (OfT P m e b.cells ∧ ((∃ fs, P.underlying e = some (.struct fs)) → ∃ c, b = .agg c) ∧ ((∀ fs, P.underlying e ≠ some (.struct fs)) → b.one = true)) ∧
              ∃ csi, (∀ j, j < P.cellsOf e → w.cell? ((a.add (i * P.cellsOf e)).add j) = csi[j]?) ∧ Pt (lawEnv (P := P) w fun c => c < w.heap.size) b.cells csi) len each
          refine ⟨[.ro els], one ?_, els, rfl, by omega, fun b hb' => ?_⟩
          · by_cases h0 : els = []
            · subst h0
              have : len = 0 := by simpa using hl1.symm
              subst this
              exact .roNil _ _
            · have hpos : 0 < els.length := by cases els with
                | nil => exact absurd rfl h0
                | cons _ _ => simp
              obtain ⟨c1, _, csi, c2, c3⟩ := hl2 0 els[0] (List.getElem?_eq_getElem hpos)
              have c4 := c2 0 hp.1
              have c5 : ∃ v, csi[0]? = some v := ⟨_, List.getElem?_eq_getElem (by rw [← c3.1, c1]; exact hp.1)⟩
              obtain ⟨v, c5⟩ := c5
              rw [c5] at c4
              have ha : (a.add (0 * P.cellsOf e)).add 0 = a := by simp [Addr.add]
              rw [ha] at c4
              have hspot : a.spot = none := by
                simp only [World.cell?] at c4
                split at c4
                · split at c4
                  · cases c4
                  · rename_i hn; simpa using hn
                · cases c4
              have hblk : a.block < w.heap.size := by
                simp only [World.cell?] at c4
                split at c4
                · rename_i hh; exact (Array.getElem?_eq_some_iff.1 hh).1
                · cases c4
              obtain ⟨ab, ao, asp⟩ := a
              simp only at hspot hblk
              subst hspot
              have hadd : ∀ i j, (Addr.add (Addr.add ⟨ab, ao, none⟩ i) j) = ⟨ab, ao + i + j, none⟩ := by
                intro i j
                simp only [Addr.add]
                split <;> split <;> simp_all
              rw [← hl1]
              refine .ro els ab ao cap (P.cellsOf e) (fun i j => (w.cell? ⟨ab, ao + i * P.cellsOf e + j, none⟩).getD undef) hblk (by omega) hm (fun i b hb' => (hl2 i b hb').1) (fun i b hb' j c hc => ?_) (fun i b hb' j c hc => ?_)
              · obtain ⟨d1, _, csi', d2, d3⟩ := hl2 i b hb'
                have hj : j < b.cells.length := (List.getElem?_eq_some_iff.1 hc).1
                have d4 := d2 j (by omega)
                rw [hadd] at d4
                have : csi'[j]? = some (csi'[j]'(by rw [← d3.1]; exact hj)) := List.getElem?_eq_getElem _
                show w.cell? _ = _
                rw [d4, this]; rfl
              · obtain ⟨d1, _, csi', d2, d3⟩ := hl2 i b hb'
                have hj : j < b.cells.length := (List.getElem?_eq_some_iff.1 hc).1
                have d4 := d2 j (by omega)
                rw [hadd] at d4
                have : csi'[j]? = some (csi'[j]'(by rw [← d3.1]; exact hj)) := List.getElem?_eq_getElem _
                rw [d4, this]
                exact d3.2 j c _ hc this
          · obtain ⟨i, hi⟩ := List.getElem?_of_mem hb'
            exact (hl2 i b hi).2.1
      | struct fs =>
        simp only [beq_iff_eq] at hp
        obtain ⟨xs, n', rfl, rfl, hlen, hxs, hf⟩ := DataW.trod_struct ht h
        obtain ⟨l, h1, h2⟩ := fields_of (H := H) (n := n') (ih n') fs.toList 0 _ hp hlen (fun f hf' => by
          obtain ⟨i, hi⟩ := List.getElem?_of_mem hf'
          have hi' : fs[i]? = some f := by simpa using hi
          rw [hf i f hi']
          have : i < xs.length := by rw [hxs]; exact (Array.getElem?_eq_some_iff.1 hi').1
          exact ⟨_, List.getElem?_eq_getElem this⟩)
        refine ⟨l, by simpa using h1, by rw [h1.1]; simpa using hlen, fun f hf' => by simpa using (h2 f hf').2⟩
      | _ => cases hp

theorem arg_one {H : Type} {enc : TypeId × Value → H} {w : World} {spare : Nat → Bool} {held : Bool} {m : Nat} {t : TypeId} {v : Value} {d : DataW H} {ps : List MemPlace} (hp : PlainT P m t = true) (hv : v.cells = #[v])
    (h : DataW.Trod enc P w 0 spare held t v d ps) : ∃ c, RV (lawEnv (P := P) w fun c => c < w.heap.size) c v ∧ OfT P m t [c] := by
  obtain ⟨n, h⟩ := h
  rw [hv] at h
  obtain ⟨l, h1, h2⟩ := trod_of m n t _ _ hp h
  match l, h1, h2 with
  | [], h1, _ => exact absurd h1.1 (by simp)
  | [c], h1, h2 => exact ⟨c, h1.2 0 c v rfl rfl, h2⟩
  | _ :: _ :: _, h1, _ => exact absurd h1.1 (by simp)
theorem arg_agg {H : Type} {enc : TypeId × Value → H} {w : World} {spare : Nat → Bool} {held : Bool} {m : Nat} {t : TypeId} {cs : Array Value} {d : DataW H} {ps : List MemPlace} (hp : PlainT P m t = true)
    (h : DataW.Trod enc P w 0 spare held t (.agg cs) d ps) : ∃ l, RV (lawEnv (P := P) w fun c => c < w.heap.size) (.agg l) (.agg cs) ∧ OfT P m t l := by
  obtain ⟨n, h⟩ := h
  obtain ⟨l, h1, h2⟩ := trod_of m n t _ _ hp h
  exact ⟨l, .agg _ _ (by simpa [Value.cells] using h1.1) fun i a v e1 e2 => h1.2 i a v e1 (by simpa [Value.cells] using e2), h2⟩

theorem ofT_ints {m : Nat} {t e : TypeId} {l : List AV} (ht : P.underlying t = some (.slice e)) (he : P.underlying e = some (.int .i64)) (h : OfT P (m + 2) t l) : ∃ xs : List Int, l = [.ro (ints xs)] ∧ xs.length ≤ maxLen ∧ ∀ x ∈ xs, (Lit.int .i64 x).wf = true := by
  unfold OfT at h
  rw [ht] at h
  obtain ⟨els, rfl, hl, h⟩ := h
  have key : ∀ els : List AV, (∀ a ∈ els, OfT P (m + 1) e a.cells ∧ ((∃ fs, P.underlying e = some (.struct fs)) → ∃ c, a = .agg c) ∧ ((∀ fs, P.underlying e ≠ some (.struct fs)) → a.one = true)) → ∃ xs : List Int, els = ints xs ∧ ∀ x ∈ xs, (Lit.int .i64 x).wf = true := by
    intro els
    induction els with
    | nil => intro _; exact ⟨[], rfl, by simp⟩
    | cons a els ih =>
      intro h
      obtain ⟨xs, h1, h2⟩ := ih fun b hb => h b (by simp [hb])
      obtain ⟨h3, _, h4⟩ := h a (by simp)
      have h5 := h4 (by rw [he]; intro fs h; cases h)
      unfold OfT at h3
      rw [he] at h3
      obtain ⟨z, h6, h7⟩ := h3
      have : a = .int .i64 z := by cases a <;> simp_all [AV.cells, AV.one]
      exact ⟨z :: xs, by simp [ints, this, h1], by simp only [List.mem_cons, forall_eq_or_imp]; exact ⟨h7, h2⟩⟩
  obtain ⟨xs, rfl, h2⟩ := key els h
  exact ⟨xs, rfl, by simpa [ints_len] using hl, h2⟩
theorem ofT_flts {m : Nat} {t e : TypeId} {l : List AV} (ht : P.underlying t = some (.slice e)) (he : P.underlying e = some (.float .f32)) (h : OfT P (m + 2) t l) : ∃ xs : List Nat, l = [.ro (flts xs)] ∧ xs.length ≤ maxLen ∧ ∀ x ∈ xs, canon .f32 x = x ∧ (Lit.float .f32 x).wf = true := by
  unfold OfT at h
  rw [ht] at h
  obtain ⟨els, rfl, hl, h⟩ := h
  have key : ∀ els : List AV, (∀ a ∈ els, OfT P (m + 1) e a.cells ∧ ((∃ fs, P.underlying e = some (.struct fs)) → ∃ c, a = .agg c) ∧ ((∀ fs, P.underlying e ≠ some (.struct fs)) → a.one = true)) → ∃ xs : List Nat, els = flts xs ∧ ∀ x ∈ xs, canon .f32 x = x ∧ (Lit.float .f32 x).wf = true := by
    intro els
    induction els with
    | nil => intro _; exact ⟨[], rfl, by simp⟩
    | cons a els ih =>
      intro h
      obtain ⟨xs, h1, h2⟩ := ih fun b hb => h b (by simp [hb])
      obtain ⟨h3, _, h4⟩ := h a (by simp)
      have h5 := h4 (by rw [he]; intro fs h; cases h)
      unfold OfT at h3
      rw [he] at h3
      obtain ⟨z, h6, h7⟩ := h3
      have : a = .flt .f32 z := by cases a <;> simp_all [AV.cells, AV.one]
      exact ⟨z :: xs, by simp [flts, this, h1], by simp only [List.mem_cons, forall_eq_or_imp]; exact ⟨h7, h2⟩⟩
  obtain ⟨xs, rfl, h2⟩ := key els h
  exact ⟨xs, rfl, by simpa [flts_len] using hl, h2⟩
end
end Go.Abs
