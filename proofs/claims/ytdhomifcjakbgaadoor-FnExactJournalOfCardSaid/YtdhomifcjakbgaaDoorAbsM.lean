/- The abstract layer, part M: known blocks renamed, dropped, lent. -/
import Derived.Test.YtdhomifcjakbgaaDoorAbsL
set_option linter.unusedSimpArgs false
set_option linter.unusedVariables false
namespace Go.Abs
open Go
variable {P : Program}

/-- The environment with the known blocks renamed. -/
def Env.ren (E : Env P) (N : Nat) (π : Nat → Nat) : Env P := { E with N := N, ρ := fun b => E.ρ (π b), wd := fun b => E.wd (π b) }

theorem ren_one {π : Nat → Nat} {N : Nat} {a : AV} (h : belowL N a = true) : (renL π a).cells = [renL π a] := by
  cases a <;> first | rfl | cases h

theorem RV.unrenL {π : Nat → Nat} {N : Nat} {E : Env P} {a : AV} {v : Value} (hb : belowL N a = true) (h : RV E (renL π a) v) : RV (E.ren N π) a v := by
  have lb : E.bare.le (E.ren N π).bare := ⟨fun _ h => h, fun _ _ => rfl, Nat.le_refl _, fun _ hb => absurd hb (Nat.not_lt_zero _), fun _ hb => absurd hb (Nat.not_lt_zero _), fun _ => Nat.le_refl _⟩
  cases a with
  | sl b i n =>
    have hb' : b < N := by simpa [belowL] using hb
    cases h with
    | sl _ _ _ off cap _ ho hcap hmax hroom => exact .sl (E := E.ren N π) b i n off cap hb' ho hcap hmax hroom
  | ptr b i j =>
    have hb' : b < N := by simpa [belowL] using hb
    cases h with
    | ptr _ _ _ _ => exact .ptr (E := E.ren N π) b i j hb'
  | agg => cases hb
  | tup => cases hb
  | fn => cases hb
  | any => exact .any _
  | bool => cases h; exact .bool _
  | int => cases h; exact .int _ _
  | flt => cases h with | flt _ _ _ h => exact .flt _ _ _ h
  | cpx => cases h with | cpx _ _ _ _ _ h h' => exact .cpx _ _ _ _ _ h h'
  | str => cases h; exact .str _
  | nils => cases h; exact .nils _
  | nilp => cases h; exact .nilp
  | nilf => cases h; exact .nilf
  | ro l =>
    cases h with
    | roNil => exact .roNil _ _
    | ro _ b off cap wd val hF hcap hmax hw hc hv => exact .ro (E := E.ren N π) l b off cap wd val hF hcap hmax hw hc (fun i e hi j c hj => (hv i e hi j c hj).mono lb)
  | rop l =>
    cases h with
    | rop _ b off val hF hc hv => exact .rop (E := E.ren N π) l b off val hF hc (fun j c hj => (hv j c hj).mono lb)

theorem RV.unrenM {π : Nat → Nat} {N : Nat} {E : Env P} {a : AV} {v : Value} (hb : belowM N a = true) (h : RV E (renM π a) v) : RV (E.ren N π) a v := by
  cases a with
  | agg l =>
    simp only [belowM, List.all_eq_true] at hb
    cases h with
    | agg _ vs hl h =>
      refine .agg _ _ (by simpa using hl) fun i c v h1 h2 => RV.unrenL (hb c (List.mem_of_getElem? h1)) (h i (renL π c) v (by simp [h1]) h2)
  | fn f l =>
    simp only [belowM, List.all_eq_true] at hb
    cases h with
    | fn _ _ vs hl h =>
      refine .fn _ _ _ (by simpa using hl) fun i c v h1 h2 => RV.unrenL (hb c (List.mem_of_getElem? h1)) (h i (renL π c) v (by simp [h1]) h2)
  | _ => exact RV.unrenL hb h

theorem RV.unren {π : Nat → Nat} {N : Nat} {E : Env P} {a : AV} {v : Value} (hb : Abs.below N a = true) (h : RV E (Abs.ren π a) v) : RV (E.ren N π) a v := by
  cases a with
  | tup l =>
    simp only [Abs.below, List.all_eq_true] at hb
    cases h with
    | tup _ vs hl h =>
      refine .tup _ _ (by simpa using hl) fun i c v h1 h2 => RV.unrenM (hb c (List.mem_of_getElem? h1)) (h i (renM π c) v (by simp [h1]) h2)
  | _ => exact RV.unrenM hb h

theorem ren_cells {π : Nat → Nat} {N : Nat} {e : AV} (hb : below N e = true) : (Abs.ren π e).cells.length = e.cells.length ∧ ∀ (j : Nat) c, e.cells[j]? = some c → ∃ c', (Abs.ren π e).cells[j]? = some c' ∧ ∀ {E : Env P} {v : Value}, RV E c' v → RV (E.ren N π) c v := by
  cases e with
  | agg l =>
    have hb' : ∀ c ∈ l, belowL N c = true := by simpa [below, belowM, List.all_eq_true] using hb
    refine ⟨by simp [Abs.ren, renM, AV.cells], fun j c hc => ?_⟩
    have hc' : l[j]? = some c := hc
    exact ⟨renL π c, by simp [Abs.ren, renM, AV.cells, hc'], fun h => RV.unrenL (hb' c (List.mem_of_getElem? hc')) h⟩
  | any | bool | int | flt | cpx | str | tup | nils | ro | sl | ptr | rop | nilp | fn | nilf =>
    refine ⟨rfl, fun j c hc => ?_⟩
    cases j with
    | zero =>
      simp only [AV.cells, List.getElem?_cons_zero, Option.some.injEq] at hc
      subst hc
      exact ⟨_, rfl, fun h => RV.unren hb h⟩
    | succ j => simp [AV.cells] at hc

/-- The known blocks of one state are some of another's, by other names. -/
structure LeHp (N : Nat) (π : Nat → Nat) (n0 : Nat) (hp hp2 : List Blk) : Prop where
  len : hp2.length = N
  hn0 : n0 ≤ N
  low : ∀ b, b < n0 → π b = b
  inj : ∀ b b', b < N → b' < N → π b = π b' → b = b'
  blk : ∀ (b : Nat) r, hp2[b]? = some r → ∃ q, hp[π b]? = some q ∧ q.w = r.w ∧ (r.live = true → q.live = true ∧ q.ty = r.ty ∧ q.els = r.els.map (ren π) ∧ ∀ e ∈ r.els, below N e = true)

theorem LeHp.sound {N : Nat} {π : Nat → Nat} {n0 : Nat} {hp hp2 : List Blk} (h : LeHp N π n0 hp hp2) {E0 : Env P} {hp0 : List Blk} {E : Env P} (hn : hp0.length = n0) (H : HRel E hp) (F : Fr E0 hp0 E hp) : HRel (E.ren N π) hp2 ∧ Fr E0 hp0 (E.ren N π) hp2 := by
  have lt : ∀ (b : Nat) r, hp2[b]? = some r → b < N := fun b r hb => by rw [← h.len]; exact (List.getElem?_eq_some_iff.1 hb).1
  refine ⟨⟨h.len.symm, ?_, ?_, ?_, ?_, H.old, H.laid⟩, ?_⟩
  · intro b r hb
    obtain ⟨q, hq, hw, _⟩ := h.blk b r hb
    show E.wd (π b) = r.w
    rw [H.wd (π b) q hq, hw]
  · intro b r hb hl
    obtain ⟨q, hq, hw, hx⟩ := h.blk b r hb
    obtain ⟨hql, hty, hels, hbel⟩ := hx hl
    obtain ⟨cs, h1, h2⟩ := (H.holds (π b) q hq hql).cells
    refine ⟨cs, by rw [← hty]; exact h1, fun i e he => ?_⟩
    have hbe := hbel e (List.mem_of_getElem? he)
    obtain ⟨k1, k2⟩ := ren_cells (π := π) hbe
    have hqe : q.els[i]? = some (Abs.ren π e) := by rw [hels]; simp [he]
    obtain ⟨h3, h4⟩ := h2 i _ hqe
    refine ⟨by rw [← hw, ← h3, k1], fun j c hc => ?_⟩
    obtain ⟨c', hc', k3⟩ := k2 j c hc
    obtain ⟨v, h5, h6⟩ := h4 j c' hc'
    exact ⟨v, by rw [← hw]; exact h5, k3 h6⟩
  · intro b b' r r' hb hl hb' hl' he
    obtain ⟨q, hq, _, hx⟩ := h.blk b r hb
    obtain ⟨q', hq', _, hx'⟩ := h.blk b' r' hb'
    exact h.inj b b' (lt b r hb) (lt b' r' hb') (H.inj (π b) (π b') q q' hq (hx hl).1 hq' (hx' hl').1 he)
  · intro b r hb hl
    obtain ⟨q, hq, _, hx⟩ := h.blk b r hb
    exact H.apart (π b) q hq (hx hl).1
  · exact {
      size := F.size
      os := F.os
      tape := F.tape
      output := F.output
      block := F.block
      len := by rw [hn, h.len]; exact h.hn0
      ρ := fun b hb => by show E.ρ (π b) = _; rw [h.low b (by omega)]; exact F.ρ b hb
      wd := fun b hb => by show E.wd (π b) = _; rw [h.low b (by omega)]; exact F.wd b hb
      F := F.F
      F' := F.F'
      live := fun b ⟨r, hb, hl⟩ => by
        obtain ⟨q, hq, _, hx⟩ := h.blk b r hb
        have hlive := F.live (π b) ⟨q, hq, (hx hl).1⟩
        by_cases hbn : b < n0
        · rw [h.low b hbn] at hlive
          rcases hlive with h1 | ⟨h1, _⟩
          · exact .inl h1
          · omega
        · have hpi : n0 ≤ π b := by
            apply Decidable.byContradiction
            intro hlt
            have hlt' : π b < n0 := by omega
            have e1 := h.low (π b) hlt'
            have := h.inj (π b) b (Nat.lt_of_lt_of_le hlt' h.hn0) (lt b r hb) e1
            omega
          rcases hlive with ⟨h1, _⟩ | ⟨_, h2⟩
          · omega
          · exact .inr ⟨by omega, h2⟩
      csz := F.csz }

/-- One slot says no more than another. -/
def LeV (N : Nat) (π : Nat → Nat) (a b : AV) : Prop := b = .any ∨ (a = ren π b ∧ below N b = true)
def LeTm (N : Nat) (π : Nat → Nat) : List AV → List AV → Prop
  | [], [] => True
  | a :: l, b :: m => LeV N π a b ∧ LeTm N π l m
  | _, _ => False
theorem LeTm.len {N : Nat} {π : Nat → Nat} : ∀ {l m : List AV}, LeTm N π l m → l.length = m.length
  | [], [], _ => rfl
  | a :: l, b :: m, h => by simp [LeTm.len h.2]
  | [], _ :: _, h => h.elim
  | _ :: _, [], h => h.elim
theorem LeTm.get {N : Nat} {π : Nat → Nat} : ∀ {l m : List AV}, LeTm N π l m → ∀ (i : Nat) b, m[i]? = some b → ∃ a, l[i]? = some a ∧ LeV N π a b
  | [], [], _, i, b, h => by simp at h
  | a :: l, b :: m, h, 0, x, hx => by simp at hx; subst hx; exact ⟨a, rfl, h.1⟩
  | a :: l, b :: m, h, i + 1, x, hx => by simpa using LeTm.get h.2 i x (by simpa using hx)
  | [], _ :: _, h, _, _, _ => h.elim
  | _ :: _, [], h, _, _, _ => h.elim

theorem weak_ren {n0 : Nat} {st st2 : St} (N : Nat) (π : Nat → Nat) (ht : LeTm N π st.tm st2.tm) (hh : LeHp N π n0 st.hp st2.hp) : Weak n0 st st2 := by
  intro _ E0 hp0 E a hn hs
  obtain ⟨H, F⟩ := hh.sound hn hs.hr hs.fr
  refine ⟨E.ren N π, rfl, H, F, ht.len.symm.trans hs.len, fun i v u h1 h2 => ?_, hs.df⟩
  obtain ⟨v0, h3, h4⟩ := ht.get i v h1
  rcases h4 with rfl | ⟨rfl, hb⟩
  · exact .any _
  · exact RV.unren hb (hs.tm i _ u h3 h2)

theorem weakR_ren {n0 : Nat} {r r2 : AV} {hp hp2 : List Blk} (N : Nat) (π : Nat → Nat) (hr : LeV N π r r2) (hh : LeHp N π n0 hp hp2) : WeakR n0 r hp r2 hp2 := by
  intro _ E0 hp0 E v hn H F hv
  obtain ⟨H', F'⟩ := hh.sound hn H F
  refine ⟨E.ren N π, rfl, H', F', ?_⟩
  rcases hr with rfl | ⟨rfl, hb⟩
  · exact .any _
  · exact RV.unren hb hv

/-! ### Without new names -/
theorem renL_id (N : Nat) {a : AV} (h : belowL N a = true) : renL (fun b => b) a = a := by cases a <;> first | rfl | cases h
theorem map_id_of {f : AV → AV} {l : List AV} (h : ∀ a ∈ l, f a = a) : l.map f = l := by
  induction l with
  | nil => rfl
  | cons a l ih => simp [h a (by simp), ih (fun x hx => h x (by simp [hx]))]
theorem renM_id (N : Nat) {a : AV} (h : belowM N a = true) : renM (fun b => b) a = a := by
  cases a with
  | agg l =>
    simp only [belowM, List.all_eq_true] at h
    show AV.agg (l.map (renL fun b => b)) = _
    rw [map_id_of fun a ha => renL_id N (h a ha)]
  | fn f l =>
    simp only [belowM, List.all_eq_true] at h
    show AV.fn f (l.map (renL fun b => b)) = _
    rw [map_id_of fun a ha => renL_id N (h a ha)]
  | _ => first | rfl | cases h
theorem ren_id (N : Nat) {a : AV} (h : below N a = true) : ren (fun b => b) a = a := by
  cases a with
  | tup l =>
    simp only [below, List.all_eq_true] at h
    show AV.tup (l.map (renM fun b => b)) = _
    rw [map_id_of fun a ha => renM_id N (h a ha)]
  | agg l => exact renM_id N (a := .agg l) h
  | fn f l => exact renM_id N (a := .fn f l) h
  | _ => first | rfl | cases h

def allBelow (N : Nat) (l : List AV) : Bool := l.all (below N)
/-- A state's known blocks, some dropped at the end or forgotten. -/
def DropHp (N : Nat) : List Blk → List Blk → Prop
  | _, [] => True
  | q :: l, r :: m => (q.w = r.w ∧ (r.live = true → q.live = true ∧ q.ty = r.ty ∧ q.els = r.els ∧ allBelow N r.els = true)) ∧ DropHp N l m
  | [], _ :: _ => False
def DropV (N : Nat) (a b : AV) : Prop := b = .any ∨ (a = b ∧ below N b = true)
def DropTm (N : Nat) : List AV → List AV → Prop
  | [], [] => True
  | a :: l, b :: m => DropV N a b ∧ DropTm N l m
  | _, _ => False

theorem DropHp.get {N : Nat} : ∀ {hp hp2 : List Blk}, DropHp N hp hp2 → ∀ (b : Nat) r, hp2[b]? = some r → ∃ q, hp[b]? = some q ∧ q.w = r.w ∧ (r.live = true → q.live = true ∧ q.ty = r.ty ∧ q.els = r.els ∧ allBelow N r.els = true)
  | _, [], _, b, r, h => by simp at h
  | q :: l, r :: m, h, 0, x, hx => by simp at hx; subst hx; exact ⟨q, rfl, h.1⟩
  | q :: l, r :: m, h, b + 1, x, hx => by simpa using DropHp.get h.2 b x (by simpa using hx)
  | [], _ :: _, h, _, _, _ => h.elim

theorem DropHp.le {n0 : Nat} {hp hp2 : List Blk} (h : DropHp hp2.length hp hp2) (hn : n0 ≤ hp2.length) : LeHp hp2.length (fun b => b) n0 hp hp2 where
  len := rfl
  hn0 := hn
  low := fun _ _ => rfl
  inj := fun _ _ _ _ h => h
  blk := fun b r hb => by
    obtain ⟨q, h1, h2, h3⟩ := h.get b r hb
    refine ⟨q, h1, h2, fun hl => ?_⟩
    obtain ⟨a1, a2, a3, a4⟩ := h3 hl
    simp only [allBelow, List.all_eq_true] at a4
    exact ⟨a1, a2, by rw [a3, map_id_of fun e he => ren_id _ (a4 e he)], a4⟩
theorem DropTm.le {N : Nat} : ∀ {l m : List AV}, DropTm N l m → LeTm N (fun b => b) l m
  | [], [], _ => trivial
  | a :: l, b :: m, h => ⟨by
      rcases h.1 with h1 | ⟨h1, h2⟩
      · exact .inl h1
      · exact .inr ⟨by rw [h1, ren_id N h2], h2⟩, DropTm.le h.2⟩
  | [], _ :: _, h => h.elim
  | _ :: _, [], h => h.elim

/-- A state, with slots forgotten and known blocks dropped at the end. -/
theorem weak_drop {n0 : Nat} {st st2 : St} (hn : n0 ≤ st2.hp.length) (hh : DropHp st2.hp.length st.hp st2.hp) (ht : DropTm st2.hp.length st.tm st2.tm) : Weak n0 st st2 :=
  weak_ren _ _ ht.le (hh.le hn)
theorem weakR_drop {n0 : Nat} {r r2 : AV} {hp hp2 : List Blk} (hn : n0 ≤ hp2.length) (hh : DropHp hp2.length hp hp2) (hr : DropV hp2.length r r2) : WeakR n0 r hp r2 hp2 := by
  refine weakR_ren _ (fun b => b) ?_ (hh.le hn)
  rcases hr with h1 | ⟨h1, h2⟩
  · exact .inl h1
  · exact .inr ⟨by rw [h1, ren_id _ h2], h2⟩

/-- A result that names no known block. -/
theorem PostR.pure {r : AV} {hp : List Blk} {Q : AV → List Blk → Prop} (h : Q r []) (hb : below 0 r = true) : PostR 0 r hp Q :=
  ⟨r, [], weakR_drop (hp2 := []) (Nat.zero_le _) (by cases hp <;> trivial) (.inr ⟨rfl, hb⟩), h⟩
/-- A result told by other names. -/
theorem PostR.names {n0 : Nat} {r : AV} {hp : List Blk} {Q : AV → List Blk → Prop} (π : Nat → Nat) (r2 : AV) (hp2 : List Blk) (hr : LeV hp2.length π r r2) (hh : LeHp hp2.length π n0 hp hp2) (h : Q r2 hp2) : PostR n0 r hp Q :=
  ⟨r2, hp2, weakR_ren _ π hr hh, h⟩
/-- A new slice of plain values is returned. -/
theorem PostR.slice {b i n : Nat} {hp : List Blk} {Q : AV → List Blk → Prop} (q : Blk) (hq : hp[b]? = some q) (hl : q.live = true) (he : allBelow 0 q.els = true) (h : Q (.sl 0 i n) [q]) : PostR 0 (.sl b i n) hp Q := by
  have mono : ∀ a, below 0 a = true → below 1 a = true ∧ ren (fun _ => b) a = a := by
    have hL : ∀ a, belowL 0 a = true → belowL 1 a = true ∧ renL (fun _ => b) a = a := by intro a h; cases a <;> first | exact ⟨rfl, rfl⟩ | (simp [belowL] at h)
    have hM : ∀ a, belowM 0 a = true → belowM 1 a = true ∧ renM (fun _ => b) a = a := by
      intro a h
      cases a with
      | agg l =>
        simp only [belowM, List.all_eq_true] at h
        exact ⟨by simp only [belowM, List.all_eq_true]; exact fun x hx => (hL x (h x hx)).1, by show AV.agg (l.map _) = _; rw [map_id_of fun x hx => (hL x (h x hx)).2]⟩
      | fn f l =>
        simp only [belowM, List.all_eq_true] at h
        exact ⟨by simp only [belowM, List.all_eq_true]; exact fun x hx => (hL x (h x hx)).1, by show AV.fn f (l.map _) = _; rw [map_id_of fun x hx => (hL x (h x hx)).2]⟩
      | _ => first | exact ⟨rfl, rfl⟩ | (simp [belowM, belowL] at h)
    intro a h
    cases a with
    | tup l =>
      simp only [below, List.all_eq_true] at h
      exact ⟨by simp only [below, List.all_eq_true]; exact fun x hx => (hM x (h x hx)).1, by show AV.tup (l.map _) = _; rw [map_id_of fun x hx => (hM x (h x hx)).2]⟩
    | agg l => exact hM (.agg l) h
    | fn f l => exact hM (.fn f l) h
    | _ => first | exact ⟨rfl, rfl⟩ | (simp [below, belowM, belowL] at h)
  simp only [allBelow, List.all_eq_true] at he
  refine PostR.names (fun _ => b) (.sl 0 i n) [q] (.inr ⟨rfl, rfl⟩) ⟨rfl, Nat.zero_le _, fun b hb => absurd hb (Nat.not_lt_zero _), fun b b' h1 h2 _ => by simp at h1 h2; omega, fun b' r hr => ?_⟩ h
  cases b' with
  | zero =>
    simp at hr; subst hr
    exact ⟨q, hq, rfl, fun _ => ⟨hl, rfl, (map_id_of fun x hx => (mono x (he x hx)).2).symm, fun x hx => (mono x (he x hx)).1⟩⟩
  | succ b' => simp at hr
end Go.Abs
