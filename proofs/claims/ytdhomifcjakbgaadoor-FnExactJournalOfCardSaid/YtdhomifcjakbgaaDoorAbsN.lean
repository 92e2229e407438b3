/- The abstract layer, part N: a function that is proved for itself, called from anywhere. -/
import Derived.Test.YtdhomifcjakbgaaDoorAbsM
set_option linter.unusedSimpArgs false
set_option linter.unusedVariables false
namespace Go.Abs
open Go
variable {P : Program}

/-- One environment's known blocks are among another's, by other names. -/
structure Into (π : Nat → Nat) (E E2 : Env P) : Prop where
  le : E.bare.le E2.bare
  N : ∀ b, b < E.N → π b < E2.N
  ρ : ∀ b, b < E.N → E2.ρ (π b) = E.ρ b
  wd : ∀ b, b < E.N → E2.wd (π b) = E.wd b

theorem RV.renL {π : Nat → Nat} {E E2 : Env P} (h : Into π E E2) {a : AV} {v : Value} (hv : RV E a v) : RV E2 (renL π a) v := by
  cases hv with
  | any => exact .any _
  | bool => exact .bool _
  | int => exact .int _ _
  | flt _ _ _ h => exact .flt _ _ _ h
  | cpx _ _ _ _ _ h h' => exact .cpx _ _ _ _ _ h h'
  | str => exact .str _
  | agg => exact .any _
  | tup => exact .any _
  | nils => exact .nils _
  | roNil => exact .roNil _ _
  | ro l b off cap wd val hF hcap hmax hw hc hv =>
    refine .ro l b off cap wd val (h.le.F _ hF) hcap hmax hw (fun i e hi j c hj => ?_) (fun i e hi j c hj => (hv i e hi j c hj).mono h.le)
    have := h.le.cell _ hF
    rw [show E2.w.cell? ⟨b, off + i * wd + j, none⟩ = E.w.cell? ⟨b, off + i * wd + j, none⟩ from cell_of_heap this _]
    exact hc i e hi j c hj
  | sl b i n off cap hb ho hcap hmax hroom =>
    show RV E2 (.sl (π b) i n) _
    rw [← h.ρ b hb]
    exact .sl (π b) i n off cap (h.N b hb) (by rw [h.wd b hb]; exact ho) hcap hmax (fun hc => by rw [h.wd b hb, h.ρ b hb]; exact Nat.le_trans (hroom hc) (h.le.csz _))
  | ptr b i j hb =>
    show RV E2 (.ptr (π b) i j) _
    rw [← h.ρ b hb, ← h.wd b hb]
    exact .ptr (π b) i j (h.N b hb)
  | rop l b off val hF hc hv =>
    refine .rop l b off val (h.le.F _ hF) (fun j c hj => ?_) (fun j c hj => (hv j c hj).mono h.le)
    have := h.le.cell _ hF
    rw [show E2.w.cell? ⟨b, off + j, none⟩ = E.w.cell? ⟨b, off + j, none⟩ from cell_of_heap this _]
    exact hc j c hj
  | nilp => exact .nilp
  | fn => exact .any _
  | nilf => exact .nilf

theorem RV.renM {π : Nat → Nat} {E E2 : Env P} (h : Into π E E2) {a : AV} {v : Value} (hv : RV E a v) : RV E2 (renM π a) v := by
  cases a with
  | agg l =>
    cases hv with
    | agg l vs hl hc =>
      refine .agg _ _ (by simpa using hl) fun i c v h1 h2 => ?_
      obtain ⟨a0, h3, rfl⟩ := get_map_kill h1
      exact (hc i a0 v h3 h2).renL h
  | fn f l =>
    cases hv with
    | fn f l vs hl hc =>
      refine .fn _ _ _ (by simpa using hl) fun i c v h1 h2 => ?_
      obtain ⟨a0, h3, rfl⟩ := get_map_kill h1
      exact (hc i a0 v h3 h2).renL h
  | _ => exact hv.renL h
theorem RV.ren {π : Nat → Nat} {E E2 : Env P} (h : Into π E E2) {a : AV} {v : Value} (hv : RV E a v) : RV E2 (Abs.ren π a) v := by
  cases a with
  | tup l =>
    cases hv with
    | tup l vs hl hc =>
      refine .tup _ _ (by simpa using hl) fun i c v h1 h2 => ?_
      obtain ⟨a0, h3, rfl⟩ := get_map_kill h1
      exact (hc i a0 v h3 h2).renM h
  | _ => exact hv.renM h

theorem ren_cells' (π : Nat → Nat) (e : AV) : (Abs.ren π e).cells.length = e.cells.length ∧ ∀ (j : Nat) c, (Abs.ren π e).cells[j]? = some c → ∃ c0, e.cells[j]? = some c0 ∧ ∀ {E E2 : Env P} {v : Value}, Into π E E2 → RV E c0 v → RV E2 c v := by
  cases e with
  | agg l =>
    refine ⟨by simp [Abs.ren, Abs.renM, AV.cells], fun j c hc => ?_⟩
    have hc' : (l.map (Abs.renL π))[j]? = some c := hc
    obtain ⟨a0, h1, rfl⟩ := get_map_kill hc'
    exact ⟨a0, h1, fun h hv => hv.renL h⟩
  | any | bool | int | flt | cpx | str | tup | nils | ro | sl | ptr | rop | nilp | fn | nilf =>
    refine ⟨rfl, fun j c hc => ?_⟩
    cases j with
    | zero =>
      refine ⟨_, rfl, fun h hv => ?_⟩
      have := hv.ren h
      simp only [Abs.ren, Abs.renM, Abs.renL, AV.cells, List.getElem?_cons_zero, Option.some.injEq] at hc this
      rw [← hc]; exact this
    | succ j => simp [Abs.ren, Abs.renM, Abs.renL, AV.cells] at hc

/-- Without known blocks there is nothing to rename. -/
theorem RV.bareL {N : Nat} {E : Env P} {a : AV} {v : Value} (hb : belowL 0 a = true) (h : RV E a v) : RV (E.ren 0 fun b => b) a v := by
  have : Abs.renL (fun b => b) a = a := renL_id 0 hb
  rw [← this] at h
  exact RV.unrenL hb h
theorem RV.bare {E : Env P} {a : AV} {v : Value} (hb : Abs.below 0 a = true) (h : RV E a v) : RV (E.ren 0 fun b => b) a v := by
  have : Abs.ren (fun b => b) a = a := ren_id 0 hb
  rw [← this] at h
  exact RV.unren hb h

/-- What a call without known blocks of the caller leaves, joined to the caller's. -/
theorem join_sound {E : Env P} {hp : List Blk} (H : HRel E hp) {F0 : Nat → Prop} (hF0 : ∀ c, E.F c → F0 c) (hF0' : ∀ c, F0 c → c < E.w.heap.size) {E' : Env P} {new : List Blk} (H' : HRel E' new) (F' : Fr { E.ren 0 (fun b => b) with F := F0 } [] E' new)
    (G : Nat → Prop) (hG : ∀ c, E.F c → G c) (hG1 : ∀ c, G c → E'.F c) (hG2 : ∀ b, Live hp b → ¬ G (E.ρ b)) (hGsmall : ∀ c, G c → E.F c ∨ E.w.heap.size ≤ c)
    (hels : ∀ (b : Nat) q, new[b]? = some q → q.live = true → ∀ (i : Nat) e, q.els[i]? = some e → ∀ (j : Nat) c, e.cells[j]? = some c → ∀ v, RV E' c v → RV ({ E' with F := G } : Env P) c v) :
    ∃ E2 : Env P, E2.w = E'.w ∧ HRel E2 (joinHp hp new) ∧ Fr E hp E2 (joinHp hp new) ∧ Into (fun b => b + hp.length) { E' with F := G } E2 := by
  have hsize : E.w.heap.size ≤ E'.w.heap.size := F'.size
  have hblock : ∀ c, c < E.w.heap.size → E'.w.heap[c]? = E.w.heap[c]? := fun c hc => F'.block c hc (fun b ⟨q, hq, _⟩ => by simp at hq)
  have hfresh : ∀ b, Live new b → E.w.heap.size ≤ E'.ρ b := fun b hb => by
    rcases F'.live b hb with ⟨h, _⟩ | ⟨_, h | ⟨b0, ⟨q, hq, _⟩, _⟩⟩
    · simp at h
    · exact h
    · simp at hq
  let E2 : Env P := { w := E'.w, F := G, N := hp.length + new.length, ρ := fun b => if b < hp.length then E.ρ b else E'.ρ (b - hp.length), wd := fun b => if b < hp.length then E.wd b else E'.wd (b - hp.length) }
  have hbound : ∀ (b : Nat) bk, hp[b]? = some bk → bk.live = true → E.ρ b < E.w.heap.size := fun b bk hb hlv => by
    obtain ⟨cs', h1, _⟩ := (H.holds b bk hb hlv).cells
    exact (Array.getElem?_eq_some_iff.1 h1).1
  have le : E.le E2 := ⟨fun c h => hG c h, fun c hc => hblock c (H.old c hc), by show E.N ≤ hp.length + new.length; rw [H.N]; omega,
    fun b hb => by have : b < hp.length := by rw [← H.N]; exact hb
                   simp [E2, this], fun b hb => by have : b < hp.length := by rw [← H.N]; exact hb
                                                   simp [E2, this], fun c => F'.csz c⟩
  have into : Into (fun b => b + hp.length) { E' with F := G } E2 := ⟨⟨fun _ h => h, fun _ _ => rfl, Nat.le_refl _, fun _ hb => absurd hb (Nat.not_lt_zero _), fun _ hb => absurd hb (Nat.not_lt_zero _), fun _ => Nat.le_refl _⟩,
    fun b hb => by have : b < new.length := by rw [← H'.N]; exact hb
                   show b + hp.length < hp.length + new.length; omega,
    fun b _ => by have h1 : ¬ b + hp.length < hp.length := by omega
                  have h2 : b + hp.length - hp.length = b := by omega
                  simp only [E2, h1, if_false, h2],
    fun b _ => by have h1 : ¬ b + hp.length < hp.length := by omega
                  have h2 : b + hp.length - hp.length = b := by omega
                  simp only [E2, h1, if_false, h2]⟩
  have hat : ∀ (b : Nat) bk, (joinHp hp new)[b]? = some bk → (b < hp.length ∧ hp[b]? = some bk) ∨ (hp.length ≤ b ∧ ∃ q, new[b - hp.length]? = some q ∧ bk = renB (fun b => b + hp.length) q) := by
    intro b bk h
    unfold joinHp at h
    rw [List.getElem?_append] at h
    split at h
    · exact .inl ⟨by assumption, h⟩
    · rename_i hge
      obtain ⟨q, h1, h2, _⟩ := mem_map_get h
      exact .inr ⟨by omega, q, h1, h2.symm⟩
  refine ⟨E2, rfl, ⟨?_, ?_, ?_, ?_, ?_, ?_, H.laidLe le⟩, ?_, into⟩
  · simp [E2, joinHp]
  · intro b bk hb
    rcases hat b bk hb with ⟨h1, h2⟩ | ⟨h1, q, h2, rfl⟩
    · simp only [E2, h1, if_true]; exact H.wd b bk h2
    · have : ¬ b < hp.length := by omega
      simp only [E2, this, if_false]
      exact H'.wd _ q h2
  · intro b bk hb hl
    rcases hat b bk hb with ⟨h1, h2⟩ | ⟨h1, q, h2, rfl⟩
    · obtain ⟨cs, h3, h4⟩ := (H.holds b bk h2 hl).cells
      refine ⟨cs, ?_, fun i e he => ⟨(h4 i e he).1, fun j x hx => ?_⟩⟩
      · simp only [E2, h1, if_true]; rw [hblock _ (hbound b bk h2 hl)]; exact h3
      · obtain ⟨v, h5, h6⟩ := (h4 i e he).2 j x hx
        exact ⟨v, h5, h6.mono le⟩
    · have hlt : ¬ b < hp.length := by omega
      obtain ⟨cs, h3, h4⟩ := (H'.holds _ q h2 hl).cells
      refine ⟨cs, ?_, fun i e he => ?_⟩
      · simp only [E2, hlt, if_false]; exact h3
      · obtain ⟨e0, h5, rfl⟩ := get_map_kill (f := Abs.ren fun b => b + hp.length) he
        obtain ⟨k1, k2⟩ := ren_cells' (fun b => b + hp.length) e0
        refine ⟨k1.trans (h4 i e0 h5).1, fun j x hx => ?_⟩
        obtain ⟨c0, h6, h7⟩ := k2 j x hx
        obtain ⟨v, h8, h9⟩ := (h4 i e0 h5).2 j c0 h6
        exact ⟨v, h8, h7 into (hels _ q h2 hl i e0 h5 j c0 h6 v h9)⟩
  · intro b1 b2 k1 k2 hb1 hl1 hb2 hl2 he
    rcases hat b1 k1 hb1 with ⟨h1, h2⟩ | ⟨h1, q1, h2, rfl⟩ <;> rcases hat b2 k2 hb2 with ⟨h3, h4⟩ | ⟨h3, q2, h4, rfl⟩
    · simp only [E2, h1, h3, if_true] at he
      exact H.inj b1 b2 k1 k2 h2 hl1 h4 hl2 he
    · have n2 : ¬ b2 < hp.length := by omega
      simp only [E2, h1, n2, if_true, if_false] at he
      have := hbound b1 k1 h2 hl1
      have := hfresh _ ⟨q2, h4, hl2⟩
      omega
    · have n1 : ¬ b1 < hp.length := by omega
      simp only [E2, h3, n1, if_true, if_false] at he
      have := hbound b2 k2 h4 hl2
      have := hfresh _ ⟨q1, h2, hl1⟩
      omega
    · have n1 : ¬ b1 < hp.length := by omega
      have n2 : ¬ b2 < hp.length := by omega
      simp only [E2, n1, n2, if_false] at he
      have := H'.inj _ _ q1 q2 h2 hl1 h4 hl2 he
      omega
  · intro b bk hb hl
    rcases hat b bk hb with ⟨h1, h2⟩ | ⟨h1, q, h2, rfl⟩
    · simp only [E2, h1, if_true]; exact hG2 b ⟨bk, h2, hl⟩
    · have : ¬ b < hp.length := by omega
      simp only [E2, this, if_false]
      exact fun h => H'.apart _ q h2 hl (hG1 _ h)
  · intro c hc
    exact H'.old c (hG1 c hc)
  · exact {
      size := hsize
      os := F'.os
      tape := F'.tape
      output := F'.output
      block := fun c hc _ => hblock c hc
      len := by simp [joinHp]
      ρ := fun b hb => by simp [E2, hb]
      wd := fun b hb => by simp [E2, hb]
      F := fun c h => hG c h
      F' := fun c h => by
        rcases F'.F' c (hG1 c h) with h1 | h1 | ⟨b, ⟨q, hq, _⟩, _⟩
        · by_cases hEF : E.F c
          · exact .inl hEF
          · by_cases hlv : ∃ b, Live hp b ∧ E.ρ b = c
            · exact .inr (.inr hlv)
            · exact (hGsmall c h).elim (fun x => .inl x) (fun x => .inr (.inl x))
        · exact .inr (.inl h1)
        · simp at hq
      live := fun b ⟨bk, hb, hl⟩ => by
        rcases hat b bk hb with ⟨h1, h2⟩ | ⟨h1, q, h2, rfl⟩
        · exact .inl ⟨h1, bk, h2, hl⟩
        · have : ¬ b < hp.length := by omega
          refine .inr ⟨h1, ?_⟩
          simp only [E2, this, if_false]
          exact .inl (hfresh _ ⟨q, h2, hl⟩)
      csz := F'.csz }
end Go.Abs
