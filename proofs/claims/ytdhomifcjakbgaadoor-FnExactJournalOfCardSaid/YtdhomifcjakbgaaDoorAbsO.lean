/- The abstract layer, part O: known blocks lent to a call that only reads them. -/
import Derived.Test.YtdhomifcjakbgaaDoorAbsN
set_option linter.unusedSimpArgs false
set_option linter.unusedVariables false
namespace Go.Abs
open Go
variable {P : Program}

/-- The environment in which all known blocks are lent. -/
def Env.lent (E : Env P) (hp : List Blk) : Env P := { E.ren 0 (fun b => b) with F := fun c => E.F c ∨ ∃ b, Live hp b ∧ E.ρ b = c }

theorem lent_le {E : Env P} {hp : List Blk} : E.bare.le (E.lent hp).bare :=
  ⟨fun c h => .inl h, fun _ _ => rfl, Nat.le_refl _, fun _ hb => absurd hb (Nat.not_lt_zero _), fun _ hb => absurd hb (Nat.not_lt_zero _), fun _ => Nat.le_refl _⟩
theorem lent_bare {E : Env P} {hp : List Blk} : (E.lent hp).bare = E.lent hp := rfl

theorem view_cells (d : Nat) (hp : List Blk) (e : AV) : (view d hp e).cells.length = e.cells.length := by
  cases d with
  | zero => cases e <;> simp [view, AV.cells]
  | succ d =>
    cases e with
    | agg l => simp [view, AV.cells]
    | sl b i n =>
      simp only [view]
      split
      · split <;> rfl
      · rfl
    | ptr b i j =>
      simp only [view]
      split
      · split
        · split <;> rfl
        · rfl
      · rfl
    | _ => rfl

/-- A value seen through the lent blocks, and its cells. -/
theorem view_sound {E : Env P} {hp : List Blk} (H : HRel E hp) : ∀ (d : Nat) (a : AV), (∀ v, RV E a v → RV (E.lent hp) (view d hp a) v) ∧
    (∀ (j : Nat) c, (view d hp a).cells[j]? = some c → ∃ c0, a.cells[j]? = some c0 ∧ ∀ v, RV E c0 v → RV (E.lent hp) c v) := by
  intro d
  induction d with
  | zero =>
    intro a
    have plain : ∀ a v, RV E a v → (match a with | .sl _ _ _ | .ptr _ _ _ | .tup _ | .fn _ _ | .agg _ => False | _ => True) → RV (E.lent hp) a v := by
      intro a v h hm
      cases h with
      | any => exact .any _
      | bool => exact .bool _
      | int => exact .int _ _
      | flt _ _ _ h => exact .flt _ _ _ h
      | cpx _ _ _ _ _ h h' => exact .cpx _ _ _ _ _ h h'
      | str => exact .str _
      | agg => exact hm.elim
      | tup => exact hm.elim
      | nils => exact .nils _
      | roNil => exact .roNil _ _
      | ro l b off cap wd val hF hcap hmax hw hc hv => exact .ro (E := E.lent hp) l b off cap wd val (.inl hF) hcap hmax hw hc (fun i e hi j c hj => (hv i e hi j c hj).mono lent_le)
      | sl => exact hm.elim
      | ptr => exact hm.elim
      | rop l b off val hF hc hv => exact .rop (E := E.lent hp) l b off val (.inl hF) hc (fun j c hj => (hv j c hj).mono lent_le)
      | nilp => exact .nilp
      | fn => exact hm.elim
      | nilf => exact .nilf
    cases a with
    | agg l =>
      refine ⟨fun v h => ?_, fun j c hc => ?_⟩
      · cases h with
        | agg _ vs hl h =>
          refine .agg _ _ (by simpa using hl) fun i c v h1 h2 => ?_
          obtain ⟨a0, _, rfl⟩ := get_map_kill (f := fun _ => AV.any) h1
          exact .any _
      · have hc' : (l.map fun _ => AV.any)[j]? = some c := hc
        obtain ⟨a0, h1, rfl⟩ := get_map_kill hc'
        exact ⟨a0, h1, fun v _ => .any _⟩
    | sl | ptr | tup | fn =>
      refine ⟨fun v h => .any _, fun j c hc => ?_⟩
      cases j with
      | zero => simp [view, AV.cells] at hc; subst hc; exact ⟨_, rfl, fun v _ => .any _⟩
      | succ j => simp [view, AV.cells] at hc
    | any | bool | int | flt | cpx | str | nils | ro | rop | nilp | nilf =>
      refine ⟨fun v h => plain _ v h trivial, fun j c hc => ?_⟩
      cases j with
      | zero => simp only [view, AV.cells, List.getElem?_cons_zero, Option.some.injEq] at hc; subst hc; exact ⟨_, rfl, fun v h => plain _ v h trivial⟩
      | succ j => simp [view, AV.cells] at hc
  | succ d ih =>
    intro a
    have main : ∀ v, RV E a v → RV (E.lent hp) (view (d + 1) hp a) v := by
      intro v h
      cases h with
      | any => exact .any _
      | bool => exact .bool _
      | int => exact .int _ _
      | flt _ _ _ h => exact .flt _ _ _ h
      | cpx _ _ _ _ _ h h' => exact .cpx _ _ _ _ _ h h'
      | str => exact .str _
      | agg l vs hl h =>
        refine .agg _ _ (by simpa using hl) fun i c v h1 h2 => ?_
        obtain ⟨a0, h3, rfl⟩ := get_map_kill (f := view d hp) h1
        exact (ih a0).1 v (h i a0 v h3 h2)
      | tup l vs hl h =>
        refine .tup _ _ (by simpa using hl) fun i c v h1 h2 => ?_
        obtain ⟨a0, h3, rfl⟩ := get_map_kill (f := view d hp) h1
        exact (ih a0).1 v (h i a0 v h3 h2)
      | nils => exact .nils _
      | roNil => exact .roNil _ _
      | ro l b off cap wd val hF hcap hmax hw hc hv => exact .ro (E := E.lent hp) l b off cap wd val (.inl hF) hcap hmax hw hc (fun i e hi j c hj => (hv i e hi j c hj).mono lent_le)
      | sl b i n off cap hb ho hcap hmax hroom =>
        simp only [view]
        split
        · rename_i blk hblk
          split
          · rename_i hcond
            simp only [Bool.and_eq_true, decide_eq_true_eq] at hcond
            obtain ⟨hl, hin⟩ := hcond
            have hlen : (((blk.els.drop i).take n).map (view d hp)).length = n := by simp; omega
            by_cases hn : n = 0
            · subst hn
              simp only [List.take_zero, List.map_nil]
              exact .roNil _ _
            · have hcp : 0 < cap := by omega
              have hoff := ho hcp
              have hwd := H.wd b blk hblk
              obtain ⟨cs, hcs1, hcs2⟩ := (H.holds b blk hblk hl).cells
              have tr : ∀ (m : Nat) e, (((blk.els.drop i).take n).map (view d hp))[m]? = some e → ∃ e0, blk.els[i + m]? = some e0 ∧ e = view d hp e0 := by
                intro m e he
                obtain ⟨e0, h1, h2⟩ := get_map_kill he
                rw [List.getElem?_take] at h1
                split at h1
                · rw [List.getElem?_drop] at h1; exact ⟨e0, h1, h2.symm⟩
                · cases h1
              have cellAt : ∀ (m : Nat) e, (((blk.els.drop i).take n).map (view d hp))[m]? = some e → ∀ (j : Nat) c, e.cells[j]? = some c → ∃ v, E.w.cell? ⟨E.ρ b, off + m * blk.w + j, none⟩ = some v ∧ RV (E.lent hp) c v := by
                intro m e he j c hc
                obtain ⟨e0, h1, rfl⟩ := tr m e he
                obtain ⟨c0, h2, h3⟩ := (ih e0).2 j c hc
                obtain ⟨v, h4, h5⟩ := H.cell hblk hl h1 h2
                refine ⟨v, ?_, h3 v h5⟩
                rw [hoff, hwd]
                rw [hwd, Nat.add_mul] at h4
                exact h4
              have := RV.ro (E := E.lent hp) (((blk.els.drop i).take n).map (view d hp)) (E.ρ b) off cap blk.w (fun m j => (E.w.cell? ⟨E.ρ b, off + m * blk.w + j, none⟩).getD undef)
                (.inr ⟨b, ⟨blk, hblk, hl⟩, rfl⟩) (by rw [hlen]; exact hcap) hmax
                (fun m e he => by
                  obtain ⟨e0, h1, rfl⟩ := tr m e he
                  rw [view_cells]; exact (hcs2 _ e0 h1).1)
                (fun m e he j c hc => by
                  obtain ⟨v, h1, _⟩ := cellAt m e he j c hc
                  show E.w.cell? _ = _
                  rw [h1]; rfl)
                (fun m e he j c hc => by
                  obtain ⟨v, h1, h2⟩ := cellAt m e he j c hc
                  simp only [h1, Option.getD_some]
                  exact h2)
              rw [hlen] at this
              exact this
          · exact .any _
        · exact .any _
      | ptr b i j hb =>
        simp only [view]
        split
        · rename_i blk hblk
          split
          · rename_i hl
            split
            · rename_i e he
              have hl' : blk.live = true := hl
              have cellAt : ∀ (m : Nat) c, ((e.cells.drop j).map (view d hp))[m]? = some c → ∃ v, E.w.cell? ⟨E.ρ b, i * E.wd b + j + m, none⟩ = some v ∧ RV (E.lent hp) c v := by
                intro m c hc
                obtain ⟨c0, h1, rfl⟩ := get_map_kill hc
                rw [List.getElem?_drop] at h1
                obtain ⟨v, h4, h5⟩ := H.cell hblk hl' he h1
                refine ⟨v, ?_, (ih c0).1 v h5⟩
                rw [Nat.add_assoc]; exact h4
              exact .rop (E := E.lent hp) _ (E.ρ b) _ (fun m => (E.w.cell? ⟨E.ρ b, i * E.wd b + j + m, none⟩).getD undef) (.inr ⟨b, ⟨blk, hblk, hl'⟩, rfl⟩)
                (fun m c hc => by
                  obtain ⟨v, h1, _⟩ := cellAt m c hc
                  show E.w.cell? _ = _
                  rw [h1]; rfl)
                (fun m c hc => by
                  obtain ⟨v, h1, h2⟩ := cellAt m c hc
                  simp only [h1, Option.getD_some]
                  exact h2)
            · exact .any _
          · exact .any _
        · exact .any _
      | rop l b off val hF hc hv => exact .rop (E := E.lent hp) l b off val (.inl hF) hc (fun j c hj => (hv j c hj).mono lent_le)
      | nilp => exact .nilp
      | fn f l vs hl h =>
        refine .fn _ _ _ (by simpa using hl) fun i c v h1 h2 => ?_
        obtain ⟨a0, h3, rfl⟩ := get_map_kill (f := view d hp) h1
        exact (ih a0).1 v (h i a0 v h3 h2)
      | nilf => exact .nilf
    refine ⟨main, fun j c hc => ?_⟩
    cases a with
    | agg l =>
      have hc' : (l.map (view d hp))[j]? = some c := hc
      obtain ⟨a0, h1, rfl⟩ := get_map_kill hc'
      exact ⟨a0, h1, (ih a0).1⟩
    | sl b i n =>
      have hcells : (view (d + 1) hp (.sl b i n)).cells = [view (d + 1) hp (.sl b i n)] := by
        simp only [view]; split
        · split <;> rfl
        · rfl
      rw [hcells] at hc
      cases j with
      | zero => simp at hc; subst hc; exact ⟨_, rfl, main⟩
      | succ j => simp at hc
    | ptr b i n =>
      have hcells : (view (d + 1) hp (.ptr b i n)).cells = [view (d + 1) hp (.ptr b i n)] := by
        simp only [view]; split
        · split
          · split <;> rfl
          · rfl
        · rfl
      rw [hcells] at hc
      cases j with
      | zero => simp at hc; subst hc; exact ⟨_, rfl, main⟩
      | succ j => simp at hc
    | any | bool | int | flt | cpx | str | tup | nils | ro | rop | nilp | fn | nilf =>
      cases j with
      | zero => simp only [view, AV.cells, List.getElem?_cons_zero, Option.some.injEq] at hc; subst hc; exact ⟨_, rfl, main⟩
      | succ j => simp [view, AV.cells] at hc

theorem RV.cleanL {E : Env P} {G : Nat → Prop} {a : AV} {v : Value} (hc : cleanL a = true) (h : RV E a v) : RV ({ E with F := G } : Env P) a v := by
  cases h with
  | any => exact .any _
  | bool => exact .bool _
  | int => exact .int _ _
  | flt _ _ _ h => exact .flt _ _ _ h
  | cpx _ _ _ _ _ h h' => exact .cpx _ _ _ _ _ h h'
  | str => exact .str _
  | nils => exact .nils _
  | sl b i n off cap hb ho hcap hmax hroom => exact .sl (E := { E with F := G }) b i n off cap hb ho hcap hmax hroom
  | ptr b i j hb => exact .ptr (E := { E with F := G }) b i j hb
  | nilp => exact .nilp
  | nilf => exact .nilf
  | agg => cases hc
  | tup => cases hc
  | fn => cases hc
  | roNil => exact .roNil _ _
  | ro => cases hc
  | rop => cases hc
theorem RV.cleanM {E : Env P} {G : Nat → Prop} {a : AV} {v : Value} (hc : Abs.cleanM a = true) (h : RV E a v) : RV ({ E with F := G } : Env P) a v := by
  cases a with
  | agg l =>
    simp only [Abs.cleanM, List.all_eq_true] at hc
    cases h with
    | agg _ vs hl h => exact .agg _ _ hl fun i c v h1 h2 => (h i c v h1 h2).cleanL (hc c (List.mem_of_getElem? h1))
  | fn f l =>
    simp only [Abs.cleanM, List.all_eq_true] at hc
    cases h with
    | fn _ _ vs hl h => exact .fn _ _ _ hl fun i c v h1 h2 => (h i c v h1 h2).cleanL (hc c (List.mem_of_getElem? h1))
  | _ => exact h.cleanL hc
theorem RV.clean {E : Env P} {G : Nat → Prop} {a : AV} {v : Value} (hc : Abs.clean a = true) (h : RV E a v) : RV ({ E with F := G } : Env P) a v := by
  cases a with
  | tup l =>
    simp only [Abs.clean, List.all_eq_true] at hc
    cases h with
    | tup _ vs hl h => exact .tup _ _ hl fun i c v h1 h2 => (h i c v h1 h2).cleanM (hc c (List.mem_of_getElem? h1))
  | _ => exact h.cleanM hc

theorem clean_cells {e : AV} (hc : Abs.clean e = true) {j : Nat} {c : AV} (h : e.cells[j]? = some c) {E : Env P} {G : Nat → Prop} {v : Value} (hv : RV E c v) : RV ({ E with F := G } : Env P) c v := by
  cases e with
  | agg l =>
    have hc' : ∀ a ∈ l, Abs.cleanL a = true := by simpa [Abs.clean, Abs.cleanM, List.all_eq_true] using hc
    have h' : l[j]? = some c := h
    exact hv.cleanL (hc' c (List.mem_of_getElem? h'))
  | _ =>
    cases j with
    | zero =>
      simp only [AV.cells, List.getElem?_cons_zero, Option.some.injEq] at h
      subst h
      exact hv.clean hc
    | succ j => simp [AV.cells] at h

section
variable {P : Program}

/-- A function that is proved without known blocks, called where there are some: its arguments name none. -/
theorem CallA.lift {f : FuncId} {args : List AV} {hp : List Blk} {Q : AV → List Blk → Prop} (ha : args.all (below 0) = true)
    (h : CallA P f args [] fun r new => Q (ren (fun b => b + hp.length) r) (joinHp hp new)) : CallA P f args hp Q := by
  intro E vs H hl hrv
  simp only [List.all_eq_true] at ha
  have H0 : HRel (E.ren 0 fun b => b) [] := ⟨rfl, by simp, by simp, by simp, by simp, H.old, H.laid⟩
  refine (h (E.ren 0 fun b => b) vs H0 hl (fun i a v h1 h2 => RV.bare (ha a (List.mem_of_getElem? h1)) (hrv i a v h1 h2))).mono ?_
  rintro v w' ⟨r, new, E', hw, hQ, hv, H', F'⟩
  obtain ⟨E2, h1, h2, h3, h4⟩ := join_sound H (F0 := E.F) (fun _ h => h) H.old H' F' E'.F (F'.F) (fun _ h => h) (fun b hb hF => by
      rcases F'.F' _ hF with g1 | g1 | ⟨b', ⟨q, hq, _⟩, _⟩
      · obtain ⟨q, hq, hl⟩ := hb; exact H.apart b q hq hl g1
      · obtain ⟨q, hq, hl⟩ := hb
        obtain ⟨cs', g2, _⟩ := (H.holds b q hq hl).cells
        have := (Array.getElem?_eq_some_iff.1 g2).1
        have g1' : E.w.heap.size ≤ E.ρ b := g1
        omega
      · simp at hq)
    (fun c hc => by
      rcases F'.F' _ hc with g1 | g1 | ⟨b', ⟨q, hq, _⟩, _⟩
      · exact .inl g1
      · exact .inr g1
      · simp at hq) (fun b q hq hl i e he j c hc v hv => hv)
  exact ⟨_, _, E2, h1.trans hw, hQ, RV.ren h4 hv, h2, h3⟩

/-- A function that is proved without known blocks, called with known blocks, which it only reads: what it returns names no memory but its own new one. -/
theorem CallA.borrow (d : Nat) {f : FuncId} {args : List AV} {hp : List Blk} {Q : AV → List Blk → Prop}
    (h : CallA P f (args.map (view d hp)) [] fun r new => (clean r = true ∧ new.all cleanB = true) ∧ Q (ren (fun b => b + hp.length) r) (joinHp hp new)) : CallA P f args hp Q := by
  intro E vs H hl hrv
  have H0 : HRel (E.lent hp) [] := ⟨rfl, by simp, by simp, by simp, by simp, fun c hc => by
    rcases hc with h1 | ⟨b, ⟨q, hq, hlv⟩, rfl⟩
    · exact H.old c h1
    · obtain ⟨cs', g2, _⟩ := (H.holds b q hq hlv).cells
      exact (Array.getElem?_eq_some_iff.1 g2).1, H.laid.keep (fun c h => .inl h) (fun _ _ => rfl)⟩
  refine (h (E.lent hp) vs H0 (by simpa using hl) (fun i a v h1 h2 => ?_)).mono ?_
  · obtain ⟨a0, h3, rfl⟩ := get_map_kill h1
    exact (view_sound H d a0).1 v (hrv i a0 v h3 h2)
  rintro v w' ⟨r, new, E', hw, ⟨⟨hcr, hcn⟩, hQ⟩, hv, H', F'⟩
  simp only [List.all_eq_true] at hcn
  obtain ⟨E2, h1, h2, h3, h4⟩ := join_sound H (F0 := (E.lent hp).F) (fun _ h => .inl h) (fun c hc => H0.old c hc) H' F' E.F (fun _ h => h) (fun c hc => F'.F c (.inl hc)) (fun b ⟨q, hq, hl⟩ hF => H.apart b q hq hl hF)
    (fun c hc => .inl hc) (fun b q hq hl i e he j c hc v hv => by
      have hq' := hcn q (List.mem_of_getElem? hq)
      simp only [cleanB, List.all_eq_true] at hq'
      exact clean_cells (hq' e (List.mem_of_getElem? he)) hc hv)
  exact ⟨_, _, E2, h1.trans hw, hQ, RV.ren h4 (hv.clean hcr), h2, h3⟩
end
end Go.Abs
