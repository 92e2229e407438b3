/- The abstract layer, part G: the operations that make and write memory; one operation is what 'opA' says. -/
import Derived.Test.YtdhomifcjakbgaaDoorAbsF
set_option linter.unusedSimpArgs false
set_option linter.unusedVariables false
namespace Go.Abs
open Go
variable {P : Program}
section
variable {P : Program}

/-- What an operation comes to. -/
def Runs (P : Program) (o : Oper) (g : Operand → Value) (w : World) (post : Value → World → Prop) : Prop :=
  match (execOp g o).run P w with
  | .ok (.value v) w' => post v w'
  | .ok .skip w' => post undef w'
  | .ok (.enter f args) w' => Calls P f args w' fun e w'' => ∃ v, e = .returned v ∧ post v w''
  | _ => False

theorem Runs.wp {o : Oper} {a : Act} {w : World} {post : Value → World → Prop} {next : Act → World → Prop} {Q : Exit → Act → World → Prop} (h : Runs P o a.eval w post) (hn : ∀ v w', post v w' → next (a.put o.dst v) w') : o.wp P a w next Q := by
  unfold Runs at h
  unfold Oper.wp
  split at h
  · rename_i v w' hr; rw [hr]; exact hn _ _ h
  · rename_i w' hr; rw [hr]; exact hn _ _ h
  · rename_i f args w' hr
    rw [hr]
    exact h.mono fun e w'' ⟨v, he, hp⟩ => by subst he; exact hn _ _ hp
  · exact h.elim

/-- What one operation leaves: a world with its known blocks, and what was known before. -/
structure Left (E : Env P) (E0 : Env P) (hp0 : List Blk) (k : AV → List Blk → Option Nat → Prop) (v : Value) (w' : World) (E' : Env P) (av : AV) (hp' : List Blk) (kb : Option Nat) : Prop where
  w : E'.w = w'
  k : k av hp' kb
  rv : RV E' av v
  hr : HRel E' hp'
  fr : Fr E0 hp0 E' hp'
  keep : ∀ a u, RV E a u → RV E' (killO kb a) u

def OpPost (E : Env P) (E0 : Env P) (hp0 : List Blk) (k : AV → List Blk → Option Nat → Prop) (v : Value) (w' : World) : Prop :=
  ∃ E' av hp' kb, Left E E0 hp0 k v w' E' av hp' kb

theorem csz_push (w : World) (o : Obj) (c : Nat) : csz w c ≤ csz { w with heap := w.heap.push o } c := by
  unfold csz
  by_cases h : c < w.heap.size
  · rw [Array.getElem?_push_lt h, Array.getElem?_eq_getElem h]; exact Nat.le_refl _
  · rw [Array.getElem?_eq_none (by omega)]; exact Nat.zero_le _

/-- A new block. -/
theorem new_block {E E0 : Env P} {hp hp0 : List Blk} (H : HRel E hp) (F : Fr E0 hp0 E hp) (blk : Blk) (cs : Array Value) (hl : blk.live = true)
    (w' : World) (hw : Same { E.w with heap := E.w.heap.push (.cells cs blk.ty) } w')
    (hel : ∀ (i : Nat) e, blk.els[i]? = some e → e.cells.length = blk.w ∧ ∀ (j : Nat) x, e.cells[j]? = some x → ∃ v, cs[i * blk.w + j]? = some v ∧ RV E x v) :
    ∃ E', E'.w = w' ∧ HRel E' (hp ++ [blk]) ∧ Fr E0 hp0 E' (hp ++ [blk]) ∧ E.le E' ∧ E'.ρ hp.length = E.w.heap.size ∧ E'.wd hp.length = blk.w ∧ hp.length < E'.N ∧ csz w' E.w.heap.size = cs.size := by
  obtain ⟨hh, ho, ht, hu⟩ := hw
  have hget : ∀ c, c < E.w.heap.size → w'.heap[c]? = E.w.heap[c]? := fun c hc => by rw [hh]; show (E.w.heap.push _)[c]? = _; rw [Array.getElem?_push_lt hc, Array.getElem?_eq_getElem hc]
  have hnew : w'.heap[E.w.heap.size]? = some (.cells cs blk.ty (0, 0)) := by rw [hh]; show (E.w.heap.push _)[_]? = _; simp
  let E' : Env P := { w := w', F := E.F, N := hp.length + 1, ρ := fun b => if b = hp.length then E.w.heap.size else E.ρ b, wd := fun b => if b = hp.length then blk.w else E.wd b }
  have hcsz : ∀ c, csz E.w c ≤ csz w' c := fun c => by
    have := csz_push E.w (.cells cs blk.ty) c
    unfold csz at this ⊢
    rw [hh]; exact this
  have le : E.le E' := ⟨fun _ h => h, fun c hc => hget c (H.old c hc), by show E.N ≤ hp.length + 1; rw [H.N]; omega,
    fun b hb => by have : b ≠ hp.length := by rw [H.N] at hb; omega
                   simp [E', this], fun b hb => by have : b ≠ hp.length := by rw [H.N] at hb; omega
                                                   simp [E', this], hcsz⟩
  have hat : ∀ (b : Nat) bk, (hp ++ [blk])[b]? = some bk → (b < hp.length ∧ hp[b]? = some bk) ∨ (b = hp.length ∧ bk = blk) := by
    intro b bk h
    rw [List.getElem?_append] at h
    split at h
    · exact .inl ⟨by assumption, h⟩
    · rename_i hge
      cases hd : b - hp.length with
      | zero => rw [hd] at h; exact .inr ⟨by omega, by simpa using h.symm⟩
      | succ n => rw [hd] at h; simp at h
  have hbound : ∀ (b : Nat) bk, hp[b]? = some bk → bk.live = true → E.ρ b < E.w.heap.size := fun b bk hb hlv => by
    obtain ⟨cs', h1, _⟩ := (H.holds b bk hb hlv).cells
    exact (Array.getElem?_eq_some_iff.1 h1).1
  have HR : HRel E' (hp ++ [blk]) := by
    refine ⟨by simp [E'], ?_, ?_, ?_, ?_, ?_, H.laidLe le⟩
    · intro b bk hb
      rcases hat b bk hb with ⟨h1, h2⟩ | ⟨h1, h2⟩
      · have : b ≠ hp.length := by omega
        simp only [E', this, if_false]; exact H.wd b bk h2
      · subst h2; simp [E', h1]
    · intro b bk hb hlv
      rcases hat b bk hb with ⟨h1, h2⟩ | ⟨h1, h2⟩
      · have hne : b ≠ hp.length := by omega
        obtain ⟨cs', h3, h4⟩ := (H.holds b bk h2 hlv).cells
        refine ⟨cs', ?_, fun i e he => ⟨(h4 i e he).1, fun j x hx => ?_⟩⟩
        · simp only [E', hne, if_false]
          rw [hget _ (hbound b bk h2 hlv)]; exact h3
        · obtain ⟨v, h5, h6⟩ := (h4 i e he).2 j x hx
          exact ⟨v, h5, h6.mono le⟩
      · subst h2
        refine ⟨cs, ?_, fun i e he => ⟨(hel i e he).1, fun j x hx => ?_⟩⟩
        · simp only [E', h1, if_true]; exact hnew
        · obtain ⟨v, h5, h6⟩ := (hel i e he).2 j x hx
          exact ⟨v, h5, h6.mono le⟩
    · intro b b' bk bk' hb hlv hb' hlv' he
      rcases hat b bk hb with ⟨h1, h2⟩ | ⟨h1, h2⟩ <;> rcases hat b' bk' hb' with ⟨h3, h4⟩ | ⟨h3, h4⟩
      · have e1 : b ≠ hp.length := by omega
        have e2 : b' ≠ hp.length := by omega
        simp only [E', e1, e2, if_false] at he
        exact H.inj b b' bk bk' h2 hlv h4 hlv' he
      · have e1 : b ≠ hp.length := by omega
        simp only [E', e1, h3, if_false, if_true] at he
        have := hbound b bk h2 hlv
        omega
      · have e2 : b' ≠ hp.length := by omega
        simp only [E', e2, h1, if_false, if_true] at he
        have := hbound b' bk' h4 hlv'
        omega
      · omega
    · intro b bk hb hlv
      rcases hat b bk hb with ⟨h1, h2⟩ | ⟨h1, h2⟩
      · have : b ≠ hp.length := by omega
        simp only [E', this, if_false]; exact H.apart b bk h2 hlv
      · simp only [E', h1, if_true]
        exact fun hF => absurd (H.old _ hF) (Nat.lt_irrefl _)
    · intro c hc
      have := H.old c hc
      show c < w'.heap.size
      rw [hh]; simp; omega
  refine ⟨E', rfl, HR, ?_, le, by simp [E'], by simp [E'], by simp [E'], by simp [csz, hnew]⟩
  have hlen := F.len
  exact {
    size := by show _ ≤ w'.heap.size; rw [hh]; have := F.size; simp; omega
    os := ho.trans F.os
    tape := ht.trans F.tape
    output := hu.trans F.output
    block := fun c hc hn => (hget c (Nat.lt_of_lt_of_le hc F.size)).trans (F.block c hc hn)
    len := by simp; omega
    ρ := fun b hb => by
      have : b ≠ hp.length := by omega
      simp only [E', this, if_false]; exact F.ρ b hb
    wd := fun b hb => by
      have : b ≠ hp.length := by omega
      simp only [E', this, if_false]; exact F.wd b hb
    F := F.F
    F' := F.F'
    live := fun b hb => by
      obtain ⟨bk, hb, hlv⟩ := hb
      rcases hat b bk hb with ⟨h1, h2⟩ | ⟨h1, h2⟩
      · have : b ≠ hp.length := by omega
        simp only [E', this, if_false]
        exact F.live b ⟨bk, h2, hlv⟩
      · refine .inr ⟨by omega, ?_⟩
        simp only [E', h1, if_true]
        exact .inl F.size
    csz := fun c => Nat.le_trans (F.csz c) (hcsz c) }

/-- A row of cells, element by element. -/
def EA (E : Env P) (w : Nat) (els : List AV) (A : Array Value) : Prop :=
  ∀ (i : Nat) e, els[i]? = some e → e.cells.length = w ∧ ∀ (j : Nat) x, e.cells[j]? = some x → ∃ v, A[i * w + j]? = some v ∧ RV E x v

theorem OpPost.block {E E0 : Env P} {hp hp0 : List Blk} (H : HRel E hp) (F : Fr E0 hp0 E hp) (blk : Blk) (cs : Array Value) (hl : blk.live = true) (w' : World) (hw : Same { E.w with heap := E.w.heap.push (.cells cs blk.ty) } w')
    (hel : EA E blk.w blk.els cs) {k : AV → List Blk → Option Nat → Prop} {av : AV} {v : Value} (hk : k av (hp ++ [blk]) none)
    (hv : ∀ E' : Env P, E'.ρ hp.length = E.w.heap.size → E'.wd hp.length = blk.w → hp.length < E'.N → csz E'.w E.w.heap.size = cs.size → RV E' av v) : OpPost E E0 hp0 k v w' := by
  obtain ⟨E', h1, h2, h3, h4, h5, h6, h7, h8⟩ := new_block H F blk cs hl w' hw hel
  exact ⟨E', av, _, none, h1, hk, hv E' h5 h6 h7 (by rw [h1]; exact h8), h2, h3, fun a u hr => hr.mono h4⟩

theorem EA.one {E : Env P} {a : AV} {u : Value} (hs : a.solid = true) (hr : RV E a u) : EA E a.cells.length [a] u.cells := by
  obtain ⟨hl, hc⟩ := hr.not_agg hs
  intro i e he
  cases i with
  | zero =>
    simp only [List.getElem?_cons_zero, Option.some.injEq] at he
    subst he
    refine ⟨rfl, fun j x hx => ?_⟩
    have hj : j < u.cells.size := by rw [← hl]; exact (List.getElem?_eq_some_iff.1 hx).1
    refine ⟨u.cells[j], by simp [hj], ?_⟩
    exact (hc j x _ hx (by simp [hj])).1
  | succ i => simp at he

theorem box_sound {E E0 : Env P} {hp hp0 : List Blk} (H : HRel E hp) (F : Fr E0 hp0 E hp) {t : TypeId} {a : AV} {u : Value} (hs : a.solid = true) (hr : RV E a u)
    {k : AV → List Blk → Option Nat → Prop} (hk : k (.ptr hp.length 0 0) (hp ++ [{ ty := t, w := a.cells.length, els := [a] }]) none) :
    ∃ v w', (Instr.box t u).run P E.w = .ok v w' ∧ OpPost E E0 hp0 k v w' := by
  refine ⟨.pointer (some ⟨E.w.heap.size, 0, none⟩), { E.w with heap := E.w.heap.push (.cells u.cells t) }, rfl, ?_⟩
  refine OpPost.block H F { ty := t, w := a.cells.length, els := [a] } u.cells rfl _ (Same.refl _) (EA.one hs hr) hk fun E' h1 h2 h3 h4 => ?_
  have := RV.ptr (E := E') hp.length 0 0 h3
  rw [h1] at this
  simpa using this

theorem EA.set {E : Env P} {w : Nat} {els : List AV} {A : Array Value} (h : EA E w els A) (hsz : A.size = els.length * w) {i : Nat} (hi : i < els.length) {a : AV} {u : Value} (hs : a.solid = true) (hw : a.cells.length = w) (hr : RV E a u) :
    EA E w (els.set i a) (u.cells.zipIdx.foldl (fun cs (x : Value × Nat) => cs.setIfInBounds (i * w + x.2) x.1) A) ∧ (u.cells.zipIdx.foldl (fun cs (x : Value × Nat) => cs.setIfInBounds (i * w + x.2) x.1) A).size = A.size := by
  obtain ⟨hl, hc⟩ := hr.not_agg hs
  have e : u.cells.zipIdx.foldl (fun cs (x : Value × Nat) => cs.setIfInBounds (i * w + x.2) x.1) A = (u.cells.toList.zipIdx 0).foldl (fun cs p => cs.setIfInBounds (i * w + p.2) p.1) A := by
    rw [← Array.foldl_toList, Array.toList_zipIdx]
  obtain ⟨f1, f2⟩ := fold_set (i * w) u.cells.toList 0 A
  rw [e]
  have hiw : (i + 1) * w ≤ els.length * w := Nat.mul_le_mul_right w hi
  rw [Nat.add_mul, Nat.one_mul] at hiw
  have hul : u.cells.toList.length = w := by rw [Array.length_toList, ← hl, hw]
  have hA : i * w + 0 + u.cells.toList.length ≤ A.size := by rw [hul, hsz]; omega
  refine ⟨fun i' e' he' => ?_, f1⟩
  by_cases hii : i = i'
  · subst hii
    rw [List.getElem?_set_self hi] at he'
    cases he'
    refine ⟨hw, fun j x hx => ?_⟩
    have hj : j < a.cells.length := (List.getElem?_eq_some_iff.1 hx).1
    have hj' : j < u.cells.size := by omega
    refine ⟨u.cells[j], ?_, (hc j x _ hx (by simp [hj'])).1⟩
    rw [f2 _ hA, if_pos (by omega)]
    rw [show i * w + j - (i * w + 0) = j by omega]
    simp [hj']
  · rw [List.getElem?_set_ne hii] at he'
    obtain ⟨h1, h2⟩ := h i' e' he'
    refine ⟨h1, fun j x hx => ?_⟩
    obtain ⟨v, h3, h4⟩ := h2 j x hx
    refine ⟨v, ?_, h4⟩
    have hj : j < w := by rw [← h1]; exact (List.getElem?_eq_some_iff.1 hx).1
    rw [f2 _ hA, if_neg ?_]
    · exact h3
    · rw [hul]
      rcases Nat.lt_or_gt_of_ne hii with hlt | hgt
      · have := Nat.mul_le_mul_right w hlt
        rw [Nat.succ_mul] at this
        omega
      · have := Nat.mul_le_mul_right w hgt
        rw [Nat.succ_mul] at this
        omega

theorem EA.zeros {E : Env P} {a : AV} {u : Value} (hs : a.solid = true) (hr : RV E a u) (hpos : 0 < a.cells.length) (n : Nat) :
    EA E a.cells.length (List.replicate n a) ((Array.range (n * a.cells.length)).map (u.cells[· % u.cells.size]!)) ∧ ((Array.range (n * a.cells.length)).map (u.cells[· % u.cells.size]!)).size = n * a.cells.length := by
  obtain ⟨hl, hc⟩ := hr.not_agg hs
  refine ⟨fun i e he => ?_, by simp⟩
  have hi : i < n := by have := (List.getElem?_eq_some_iff.1 he).1; simpa using this
  have he' : e = a := by simp [List.getElem?_replicate, hi] at he; exact he.symm
  subst he'
  refine ⟨rfl, fun j x hx => ?_⟩
  have hj : j < e.cells.length := (List.getElem?_eq_some_iff.1 hx).1
  have hj' : j < u.cells.size := by omega
  have hlt : i * e.cells.length + j < n * e.cells.length := by
    have := Nat.mul_le_mul_right e.cells.length hi
    rw [Nat.succ_mul] at this
    omega
  refine ⟨u.cells[j], ?_, (hc j x _ hx (by simp [hj'])).1⟩
  have hmod : (i * e.cells.length + j) % u.cells.size = j := by
    rw [← hl, Nat.mul_comm, Nat.mul_add_mod, Nat.mod_eq_of_lt hj]
  simp [hlt, hmod, hj']

theorem fill_sound {E : Env P} {n w : Nat} : ∀ (parts : List (Nat × AV)) (els : List AV) (k : List AV → Prop), setAll n w parts els k → els.length = n →
    ∃ els', k els' ∧ els'.length = n ∧ ∀ (A : Array Value) (vs : List (Nat × Value)), EA E w els A → A.size = n * w → vs.length = parts.length → (∀ (i : Nat) p q, parts[i]? = some p → vs[i]? = some q → q.1 = p.1 ∧ RV E p.2 q.2) →
      ∃ B, Instr.fill (fun i => some (i * w, w)) A vs = some B ∧ EA E w els' B ∧ B.size = n * w
  | [], els, k, h, hl => ⟨els, h, hl, fun A vs ha hs hvl _ => by
      have : vs = [] := List.eq_nil_of_length_eq_zero hvl
      subst this
      exact ⟨A, rfl, ha, hs⟩⟩
  | (i, a) :: rest, els, k, h, hl => by
    obtain ⟨hi, hs, hw, h⟩ := h
    obtain ⟨els', hk, hl', hr⟩ := fill_sound rest _ k h (by simpa using hl)
    refine ⟨els', hk, hl', fun A vs ha hA hvl hv => ?_⟩
    cases vs with
    | nil => simp at hvl
    | cons q vs =>
      obtain ⟨i', v⟩ := q
      obtain ⟨rfl, hv0⟩ := hv 0 (i, a) (i', v) rfl rfl
      obtain ⟨h1, h2⟩ := ha.set (by rw [hl]; exact hA) (by rw [hl]; exact hi) hs hw hv0
      obtain ⟨B, hB, hrB, hBs⟩ := hr _ vs h1 (h2.trans hA) (by simpa using hvl) (fun j p q hp hq => hv (j + 1) p q hp hq)
      refine ⟨B, ?_, hrB, hBs⟩
      have hl0 : a.cells.length = v.cells.size := (hv0.not_agg hs).1
      have c1 : ¬ v.cells.size ≠ w := by rw [← hl0, hw]; simp
      have hiw : (i' + 1) * w ≤ n * w := Nat.mul_le_mul_right w hi
      rw [Nat.add_mul, Nat.one_mul] at hiw
      have c2 : ¬ i' * w + v.cells.size > A.size := by rw [← hl0, hw, hA]; omega
      simp only [Instr.fill, c1, c2, decide_false, Bool.or_self, Bool.false_eq_true, if_false]
      exact hB

theorem buildSlice_sound {E E0 : Env P} {hp hp0 : List Blk} (H : HRel E hp) (F : Fr E0 hp0 E hp) {t e : TypeId} (hd : P.underlying t = some (.slice e)) {len : Nat} (hpos : 0 < P.cellsOf e) (hlen : len * P.cellsOf e ≤ 16777216)
    (hz : (zeroOf P e).solid = true) (hzw : (zeroOf P e).cells.length = P.cellsOf e) {parts : List (Nat × AV)} {vs : Array (Nat × Value)} (hvl : vs.toList.length = parts.length) (hv : ∀ (i : Nat) p q, parts[i]? = some p → vs.toList[i]? = some q → q.1 = p.1 ∧ RV E p.2 q.2)
    {k : AV → List Blk → Option Nat → Prop} (h : setAll len (P.cellsOf e) parts (List.replicate len (zeroOf P e)) fun els => k (.sl hp.length 0 len) (hp ++ [{ ty := e, w := P.cellsOf e, els := els }]) none) :
    ∃ v w', (Instr.buildSlice t len vs).run P E.w = .ok v w' ∧ OpPost E E0 hp0 k v w' := by
  obtain ⟨z, hz1, hz2⟩ := zero_run hz
  have hzr : RV E (zeroOf P e) z := by rw [hz2]; exact RV_ofV E z
  obtain ⟨els, hk, hl, hr⟩ := fill_sound (E := E) _ _ _ h (by simp)
  have hza := EA.zeros hz hzr (by omega) len
  rw [hzw] at hza
  obtain ⟨B, hB, hrB, hBs⟩ := hr _ vs.toList hza.1 hza.2 hvl hv
  have run : (Instr.buildSlice t len vs).run P E.w = .ok (.slice (some ⟨E.w.heap.size, 0, none⟩) len len) { E.w with heap := E.w.heap.push (.cells B e) } := by
    have hc : ¬ len * P.cellsOf e > 2 ^ 24 := by omega
    have fin : ∀ zc : Array Value, ((Array.range (len * P.cellsOf e)).map fun x => zc[x % zc.size]!) = ((Array.range (len * P.cellsOf e)).map fun x => z.cells[x % z.cells.size]!) →
        (match Instr.fill (fun i => some (i * P.cellsOf e, P.cellsOf e)) ((Array.range (len * P.cellsOf e)).map (zc[· % zc.size]!)) vs.toList with
          | some cells => (do pure (.slice (some (← newRow e cells)) len len) : Sem Value)
          | _ => stuck "buildSlice: a part of the wrong size").run P E.w = .ok (.slice (some ⟨E.w.heap.size, 0, none⟩) len len) { E.w with heap := E.w.heap.push (.cells B e) } := by
      intro zc hzc
      rw [hzc, hB]
      rfl
    by_cases h0 : len * P.cellsOf e = 0
    · simp only [Instr.buildSlice, Sem.run_bind, run_underlying' hd, Result.andThen_ok, run_sizeOf_pos hpos, hc, if_false, h0, if_true, Sem.run_pure]
      have := fin #[] (by rw [h0]; simp)
      rw [h0] at this
      exact this
    · simp only [Instr.buildSlice, Sem.run_bind, run_underlying' hd, Result.andThen_ok, run_sizeOf_pos hpos, hc, if_false, h0, hz1, Sem.run_pure]
      exact fin z.cells rfl
  refine ⟨_, _, run, ?_⟩
  refine OpPost.block H F { ty := e, w := P.cellsOf e, els := els } B rfl _ (Same.refl _) hrB hk fun E' h1 h2 h3 h4 => ?_
  rw [← h1]
  refine .sl hp.length 0 len 0 len h3 (fun _ => by simp) (Nat.le_refl _) ?_ (fun _ => ?_)
  · have : len * 1 ≤ len * P.cellsOf e := Nat.mul_le_mul_left _ hpos
    unfold maxLen; omega
  · rw [h1, h2, h4, hBs]; simp

theorem makeSlice_sound {E E0 : Env P} {hp hp0 : List Blk} (H : HRel E hp) (F : Fr E0 hp0 E hp) {t e : TypeId} (hd : P.underlying t = some (.slice e)) {n : Int} {kd kd' : IntKind} (h0 : 0 ≤ n) (hmax : n ≤ 281474976710656) (hb : (P.bytesOf e : Int) * n ≤ 281474976710656) (hpos : 0 < P.cellsOf e)
    (hz : (zeroOf P e).solid = true) (hzw : (zeroOf P e).cells.length = P.cellsOf e)
    {k : AV → List Blk → Option Nat → Prop} (hk : k (.sl hp.length 0 n.toNat) (hp ++ [{ ty := e, w := P.cellsOf e, els := List.replicate n.toNat (zeroOf P e) }]) none) :
    ∃ v w', (Instr.makeSlice t (.int kd n) (.int kd' n)).run P E.w = .ok v w' ∧ OpPost E E0 hp0 k v w' := by
  obtain ⟨z, hz1, hz2⟩ := zero_run hz
  have hzr : RV E (zeroOf P e) z := by rw [hz2]; exact RV_ofV E z
  have hza := EA.zeros hz hzr (by omega) n.toNat
  rw [hzw] at hza
  obtain ⟨i, hi, his, hib⟩ := info_pos hpos
  have hti : ∀ w : World, (typeInfo e).run P w = .ok i w := fun w => by simp [typeInfo, hi, Result.andThen]
  have hwr : IntKind.i64.wrap n = n := IntWalk.i64_in n (by omega)
  have run : (Instr.makeSlice t (.int kd n) (.int kd' n)).run P E.w = .ok (.slice (some ⟨E.w.heap.size, 0, none⟩) n.toNat n.toNat) { E.w with heap := E.w.heap.push (.cells ((Array.range (n.toNat * P.cellsOf e)).map (z.cells[· % z.cells.size]!)) e) } := by
    have c1 : ((decide (n < 0) || decide ((i.bytes : Int) * n > 2 ^ 48)) || decide (n < 0) || decide (n > n)) = false := by
      rw [← hib]
      have a1 : decide (n < 0) = false := by simp; omega
      have a2 : decide ((P.bytesOf e : Int) * n > 2 ^ 48) = false := by simp; omega
      have a3 : decide (n > n) = false := by simp
      rw [a1, a2, a3]; rfl
    simp only [Instr.makeSlice, Sem.run_bind, run_underlying' hd, Result.andThen_ok, asInt, asIntOf, Sem.run_pure, hti, hwr, c1, Bool.false_eq_true, if_false, run_askRoom, run_sizeOf_pos hpos]
    by_cases hn : n.toNat * P.cellsOf e = 0
    · simp only [hn, if_true, Sem.run_pure, Result.andThen_ok, newRow, Sem.run_bind, run_newObj]
      simp [show Array.range 0 = #[] from rfl]
    · simp only [hn, if_false, Sem.run_bind, hz1, Sem.run_pure, Result.andThen_ok, newRow, run_newObj]
  refine ⟨_, _, run, ?_⟩
  refine OpPost.block H F { ty := e, w := P.cellsOf e, els := List.replicate n.toNat (zeroOf P e) } _ rfl _ (Same.refl _) hza.1 hk fun E' h1 h2 h3 h4 => ?_
  rw [← h1]
  refine .sl hp.length 0 n.toNat 0 n.toNat h3 (fun _ => by simp) (Nat.le_refl _) ?_ (fun _ => ?_)
  · unfold maxLen; omega
  · rw [h1, h2, h4, hza.2]; simp

theorem setRow_get (w : World) (g c : Nat) (cur new : Array Value) (t : TypeId) (fr : Nat × Nat) (hg : w.heap[g]? = some (.cells cur t fr)) : (w.setRow g new).heap[c]? = if c = g then some (.cells new t fr) else w.heap[c]? := by
  by_cases h : c = g
  · subst h; simp only [if_true]; exact setRow_heap w c cur new t fr hg
  · simp only [h, if_false]
    unfold World.setRow
    simp only [Array.getElem?_modify]
    rw [if_neg (fun e => h e.symm)]

/-- A known block is written. -/
theorem write_block {E E0 : Env P} {hp hp0 : List Blk} (H : HRel E hp) (F : Fr E0 hp0 E hp) {b : Nat} {blk : Blk} (hb : hp[b]? = some blk) (hl : blk.live = true) (els' : List AV) (cur new : Array Value) (hcur : E.w.heap[E.ρ b]? = some (.cells cur blk.ty (0, 0))) (hsz : new.size = cur.size)
    (hel : EA E blk.w els' new) :
    HRel (E.with (E.w.setRow (E.ρ b) new)) (hp.set b { blk with els := els' }) ∧ Fr E0 hp0 (E.with (E.w.setRow (E.ρ b) new)) (hp.set b { blk with els := els' }) ∧ E.le (E.with (E.w.setRow (E.ρ b) new)) := by
  have hbl : b < hp.length := (List.getElem?_eq_some_iff.1 hb).1
  have hget : ∀ c, (E.w.setRow (E.ρ b) new).heap[c]? = if c = E.ρ b then some (.cells new blk.ty (0, 0)) else E.w.heap[c]? := fun c => setRow_get _ _ _ _ _ _ _ hcur
  have hsize : (E.w.setRow (E.ρ b) new).heap.size = E.w.heap.size := by simp [World.setRow]
  have hcsz : ∀ c, csz E.w c ≤ csz (E.w.setRow (E.ρ b) new) c := fun c => by
    unfold csz
    rw [hget]
    by_cases h : c = E.ρ b
    · subst h; simp [hcur, hsz]
    · simp [h]
  have hnF : ¬ E.F (E.ρ b) := H.apart b blk hb hl
  have le : E.le (E.with (E.w.setRow (E.ρ b) new)) := ⟨fun _ h => h, fun c hc => by
      show (E.w.setRow (E.ρ b) new).heap[c]? = _
      rw [hget]; exact if_neg (fun e : c = E.ρ b => hnF (e ▸ hc)), Nat.le_refl _, fun _ _ => rfl, fun _ _ => rfl, hcsz⟩
  have hat : ∀ (b' : Nat) bk, (hp.set b { blk with els := els' })[b']? = some bk → (b' ≠ b ∧ hp[b']? = some bk) ∨ (b' = b ∧ bk = { blk with els := els' }) := by
    intro b' bk h
    by_cases hbb : b' = b
    · subst hbb
      rw [List.getElem?_set_self hbl] at h
      exact .inr ⟨rfl, by simpa using h.symm⟩
    · rw [List.getElem?_set_ne (fun e => hbb e.symm)] at h
      exact .inl ⟨hbb, h⟩
  have lv : ∀ (b' : Nat) bk, (hp.set b { blk with els := els' })[b']? = some bk → bk.live = true → ∃ bk0, hp[b']? = some bk0 ∧ bk0.live = true := by
    intro b' bk h1 h2
    rcases hat b' bk h1 with ⟨_, h3⟩ | ⟨h3, _⟩
    · exact ⟨bk, h3, h2⟩
    · subst h3; exact ⟨blk, hb, hl⟩
  refine ⟨⟨by simpa [Env.with] using H.N, ?_, ?_, ?_, ?_, ?_, H.laidLe le⟩, ?_, le⟩
  · intro b' bk h
    rcases hat b' bk h with ⟨_, h3⟩ | ⟨h3, h4⟩
    · exact H.wd b' bk h3
    · subst h3; subst h4; exact H.wd b' blk hb
  · intro b' bk h hlv
    rcases hat b' bk h with ⟨h2, h3⟩ | ⟨h3, h4⟩
    · obtain ⟨cs, h5, h6⟩ := (H.holds b' bk h3 hlv).cells
      refine ⟨cs, ?_, fun i e he => ⟨(h6 i e he).1, fun j x hx => ?_⟩⟩
      · show (E.w.setRow (E.ρ b) new).heap[E.ρ b']? = _
        rw [hget, if_neg (fun e => h2 (H.inj b' b bk blk h3 hlv hb hl e))]; exact h5
      · obtain ⟨v, h7, h8⟩ := (h6 i e he).2 j x hx
        exact ⟨v, h7, h8.mono le⟩
    · subst h3; subst h4
      refine ⟨new, ?_, fun i e he => ⟨(hel i e he).1, fun j x hx => ?_⟩⟩
      · show (E.w.setRow (E.ρ b') new).heap[E.ρ b']? = _
        rw [hget, if_pos rfl]
      · obtain ⟨v, h7, h8⟩ := (hel i e he).2 j x hx
        exact ⟨v, h7, h8.mono le⟩
  · intro b1 b2 bk1 bk2 h1 hl1 h2 hl2 he
    obtain ⟨q1, hq1, hq1l⟩ := lv b1 bk1 h1 hl1
    obtain ⟨q2, hq2, hq2l⟩ := lv b2 bk2 h2 hl2
    exact H.inj b1 b2 q1 q2 hq1 hq1l hq2 hq2l he
  · intro b1 bk1 h1 hl1
    obtain ⟨q1, hq1, hq1l⟩ := lv b1 bk1 h1 hl1
    exact H.apart b1 q1 hq1 hq1l
  · intro c hc
    show c < (E.w.setRow (E.ρ b) new).heap.size
    rw [hsize]; exact H.old c hc
  · exact {
      size := by show _ ≤ (E.w.setRow (E.ρ b) new).heap.size; rw [hsize]; exact F.size
      os := F.os
      tape := F.tape
      output := F.output
      block := fun c hc hn => by
        show (E.w.setRow (E.ρ b) new).heap[c]? = _
        rw [hget, if_neg ?_]
        · exact F.block c hc hn
        · intro e
          rcases F.live b ⟨blk, hb, hl⟩ with ⟨h1, h2⟩ | ⟨_, h2⟩
          · exact hn b h2 (by rw [← F.ρ b h1, e])
          · rcases h2 with h2 | ⟨b0, h0, e0⟩
            · omega
            · exact hn b0 h0 (e0.trans e.symm)
      len := by simpa using F.len
      ρ := F.ρ
      wd := F.wd
      F := F.F
      F' := F.F'
      live := fun b' ⟨bk, h1, h2⟩ => by
        obtain ⟨q, hq, hql⟩ := lv b' bk h1 h2
        exact F.live b' ⟨q, hq, hql⟩
      csz := fun c => Nat.le_trans (F.csz c) (hcsz c) }

/-- Cells laid into a row. -/
theorem splice_get (cur : Array Value) (off : Nat) (vs : List Value) (h : off + vs.length ≤ cur.size) (m : Nat) :
    ((cur.toList.take off ++ vs ++ cur.toList.drop (off + vs.length)).toArray)[m]? = if off ≤ m ∧ m < off + vs.length then vs[m - off]? else cur[m]? := by
  rw [List.getElem?_toArray]
  by_cases h1 : m < off
  · rw [if_neg (by omega), List.append_assoc, List.getElem?_append_left (by simp; omega), List.getElem?_take_of_lt h1]; simp
  · by_cases h2 : m < off + vs.length
    · rw [if_pos (by omega), List.getElem?_append_left (by simp; omega), List.getElem?_append_right (by simp; omega)]
      congr 1; simp; omega
    · rw [if_neg (by omega), List.getElem?_append_right (by simp; omega), List.getElem?_drop]
      simp; congr 1; omega
theorem splice_size (cur : Array Value) (off : Nat) (vs : List Value) (h : off + vs.length ≤ cur.size) : ((cur.toList.take off ++ vs ++ cur.toList.drop (off + vs.length)).toArray).size = cur.size := by
  simp; omega

theorem store_sound {E E0 : Env P} {hp hp0 : List Blk} (H : HRel E hp) (F : Fr E0 hp0 E hp) {t : TypeId} {a x : AV} {u v : Value} (hu : RV E a u) (hv : RV E x v) {k : AV → List Blk → Option Nat → Prop}
    (h : storeA P t hp a x fun hp' => k .any hp' none) :
    ∃ w', (Instr.storeAt t u v).run P E.w = .ok () w' ∧ OpPost E E0 hp0 k undef w' := by
  unfold storeA at h
  split at h
  · rename_i b i j
    split at h
    · rename_i blk hb
      obtain ⟨hl, hs, htp, hw, hj, hi, hk⟩ := h
      cases hu with
      | ptr b i j hbN =>
        obtain ⟨cur, h1, h2⟩ := (H.holds b blk hb hl).cells
        obtain ⟨hcl, hcv⟩ := hv.not_agg hs
        obtain ⟨hel, hec⟩ := h2 i blk.els[i] (List.getElem?_eq_getElem hi)
        have hwd := H.wd b blk hb
        have hfit : i * blk.w + blk.w ≤ cur.size := by
          by_cases h0 : blk.w = 0
          · rw [h0]; simp
          · have hlast : blk.w - 1 < blk.els[i].cells.length := by omega
            obtain ⟨v0, hv0, _⟩ := hec (blk.w - 1) _ (List.getElem?_eq_getElem hlast)
            have := (Array.getElem?_eq_some_iff.1 hv0).1
            omega
        have hone : ∀ c ∈ v.cells.toList, c.oneCell' = true := by
          intro c hc
          obtain ⟨m, hm⟩ := List.getElem?_of_mem hc
          have hm' : v.cells[m]? = some c := by simpa using hm
          have hmlt : m < x.cells.length := by rw [hcl]; exact (Array.getElem?_eq_some_iff.1 hm').1
          exact (hcv m _ c (List.getElem?_eq_getElem hmlt) hm').2.2
        have hoff : i * blk.w + j + v.cells.toList.length ≤ cur.size := by rw [Array.length_toList, ← hcl]; omega
        have hst := run_storeCells_at P (E.ρ b) (i * blk.w + j) blk.ty v.cells.toList 0 cur E.w h1 (by simpa using hoff) hone
        simp only [Nat.add_zero] at hst
        have hsz : (sizeOf t).run P E.w = .ok (P.cellsOf t) E.w := run_sizeOf_pos htp E.w
        have hc : ¬ v.cells.size ≠ P.cellsOf t := by rw [← hcl, hw]; simp
        refine ⟨_, by rw [hwd]; simp only [Instr.storeAt, Instr.sureAddr, Sem.run_bind, Sem.run_pure, Result.andThen_ok, storeVar, hsz, hc, if_false]; exact hst, ?_⟩
        have key := write_block H F hb hl (blk.els.set i (newEl blk.w blk.els[i] j x)) cur _ h1 (splice_size cur _ v.cells.toList hoff) (by
          intro i' e he
          by_cases hii : i = i'
          · subst hii
            rw [List.getElem?_set_self hi] at he
            cases he
            have hnl : (newEl blk.w blk.els[i] j x).cells.length = blk.w := by
              unfold newEl
              split
              · assumption
              · show (placeA _ _ _).length = _
                rw [placeA_len (by omega)]; exact hel
            refine ⟨hnl, fun m c hc => ?_⟩
            have hm : m < blk.w := by rw [← hnl]; exact (List.getElem?_eq_some_iff.1 hc).1
            have hc' : (if j ≤ m ∧ m < j + x.cells.length then x.cells[m - j]? else blk.els[i].cells[m]?) = some c := by
              unfold newEl at hc
              split at hc
              · have hj0 : j = 0 := by omega
                subst hj0
                rw [if_pos (by omega)]; simpa using hc
              · rw [← placeA_get (by omega)]; exact hc
            rw [splice_get _ _ _ hoff]
            simp only [Array.length_toList]
            rw [hcl] at hc'
            by_cases hr : j ≤ m ∧ m < j + v.cells.size
            · rw [if_pos hr] at hc'
              rw [if_pos (by omega)]
              have hmv : m - j < v.cells.size := by omega
              refine ⟨v.cells[m - j], ?_, (hcv _ c _ hc' (by simp [hmv])).1⟩
              rw [show i * blk.w + m - (i * blk.w + j) = m - j by omega]
              simp [hmv]
            · rw [if_neg hr] at hc'
              rw [if_neg (by omega)]
              exact hec m c hc'
          · rw [List.getElem?_set_ne hii] at he
            obtain ⟨h3, h4⟩ := h2 i' e he
            refine ⟨h3, fun m c hc => ?_⟩
            obtain ⟨v0, h5, h6⟩ := h4 m c hc
            refine ⟨v0, ?_, h6⟩
            have hm : m < blk.w := by rw [← h3]; exact (List.getElem?_eq_some_iff.1 hc).1
            rw [splice_get _ _ _ hoff, if_neg ?_]
            · exact h5
            · rw [Array.length_toList, ← hcl]
              rcases Nat.lt_or_gt_of_ne hii with hlt | hgt
              · have := Nat.mul_le_mul_right blk.w hlt
                rw [Nat.succ_mul] at this
                omega
              · have := Nat.mul_le_mul_right blk.w hgt
                rw [Nat.succ_mul] at this
                omega)
        obtain ⟨k1, k2, k3⟩ := key
        exact ⟨_, .any, _, none, rfl, hk, .any _, k1, k2, fun a u hr => hr.mono k3⟩
    · exact h.elim
  · exact h.elim

/-- The cells of a slice's elements, read. -/
theorem src_sound {hp : List Blk} {x : AV} {K : List AV → Prop} (h : readSl hp x K) {w : Nat} (hw : 0 < w) :
    ∃ ys, K ys ∧ (AllW w ys → ∀ (E : Env P) u, HRel E hp → RV E x u → Builtin.lenOf u = pure ys.length ∧
      ∃ A : Array Value, (∀ w', Same E.w w' → (Builtin.firstCells w ys.length u).run P w' = .ok A w') ∧ EA E w ys A ∧ A.size = ys.length * w ∧ ∀ c ∈ A.toList, c.oneCell' = true) := by
  have gen : ∀ (E : Env P) (ys : List AV) (b off : Nat) (cap : Nat), AllW w ys → (∀ (i : Nat) e, ys[i]? = some e → ∀ (j : Nat) c, e.cells[j]? = some c → ∃ v, E.w.cell? ⟨b, off + (i * w + j), none⟩ = some v ∧ RV E c v) →
      ∃ A : Array Value, (∀ w', Same E.w w' → (Builtin.firstCells w ys.length (.slice (some ⟨b, off, none⟩) ys.length cap)).run P w' = .ok A w') ∧ EA E w ys A ∧ A.size = ys.length * w ∧ ∀ c ∈ A.toList, c.oneCell' = true := by
    intro E ys b off cap hall hc
    have hcell : ∀ w', Same E.w w' → ∀ o, w'.cell? ⟨b, o, none⟩ = E.w.cell? ⟨b, o, none⟩ := fun w' hs o => by simp only [World.cell?, hs.1]
    have at_ : ∀ m, m < ys.length * w → ∃ e c v, ys[m / w]? = some e ∧ e.cells[m % w]? = some c ∧ E.w.cell? ⟨b, off + m, none⟩ = some v ∧ RV E c v ∧ c.one = true := by
      intro m hm
      have h1 : m / w < ys.length := by rw [Nat.div_lt_iff_lt_mul hw]; exact hm
      have h2 : m % w < w := Nat.mod_lt _ hw
      obtain ⟨hsol, hlen⟩ := hall _ (List.getElem_mem h1)
      have h3 : m % w < ys[m / w].cells.length := by rw [hlen]; exact h2
      obtain ⟨v, hv1, hv2⟩ := hc (m / w) _ (List.getElem?_eq_getElem h1) (m % w) _ (List.getElem?_eq_getElem h3)
      have hdm : m / w * w + m % w = m := Nat.div_add_mod' m w
      rw [hdm] at hv1
      refine ⟨_, _, v, List.getElem?_eq_getElem h1, List.getElem?_eq_getElem h3, hv1, hv2, ?_⟩
      have : ∀ a : AV, a.solid = true → ∀ c ∈ a.cells, c.one = true := by
        intro a ha c hcm
        cases a <;> first
          | (simp only [AV.solid, List.all_eq_true] at ha; exact ha c hcm)
          | (simp only [AV.cells, List.mem_singleton] at hcm; subst hcm; exact ha)
      exact this _ hsol _ (List.getElem_mem h3)
    let f : Nat → Value := fun m => (E.w.cell? ⟨b, off + m, none⟩).getD undef
    have hf : ∀ m, m < ys.length * w → E.w.cell? ⟨b, off + m, none⟩ = some (f m) := fun m hm => by
      obtain ⟨_, _, v, _, _, h3, _⟩ := at_ m hm
      simp [f, h3]
    refine ⟨((List.range (ys.length * w)).map f).toArray, ?_, ?_, by simp, ?_⟩
    · intro w' hs
      simp only [Builtin.firstCells]
      exact run_loadCells w' _ _ f (fun m hm => by rw [add_none, hcell w' hs]; exact hf m hm)
    · intro i e he
      have hi : i < ys.length := (List.getElem?_eq_some_iff.1 he).1
      refine ⟨(hall _ (List.mem_of_getElem? he)).2, fun j c hj => ?_⟩
      have hjw : j < w := by rw [← (hall _ (List.mem_of_getElem? he)).2]; exact (List.getElem?_eq_some_iff.1 hj).1
      have hlt : i * w + j < ys.length * w := by
        have := Nat.mul_le_mul_right w hi
        rw [Nat.succ_mul] at this
        omega
      obtain ⟨v, h1, h2⟩ := hc i e he j c hj
      refine ⟨f (i * w + j), by simp [hlt], ?_⟩
      simp only [f, h1, Option.getD_some]
      exact h2
    · intro c hc'
      simp only [List.mem_map, List.mem_range] at hc'
      obtain ⟨m, hm, rfl⟩ := hc'
      obtain ⟨_, c0, v, _, _, h3, h4, h5⟩ := at_ m hm
      simp only [f, h3, Option.getD_some]
      exact (h4.one_cells h5).1
  have empty : ∀ (E : Env P) (a : Option Addr) cap, ∃ A : Array Value, (∀ w', Same E.w w' → (Builtin.firstCells w 0 (.slice a 0 cap)).run P w' = .ok A w') ∧ EA E w [] A ∧ A.size = 0 * w ∧ ∀ c ∈ A.toList, c.oneCell' = true := by
    intro E a cap
    refine ⟨#[], ?_, fun i e he => by simp at he, by simp, by simp⟩
    intro w' _
    cases a with
    | none => rfl
    | some a => simp [Builtin.firstCells, loadCells, loadCellsFrom]
  unfold readSl at h
  split at h
  · exact ⟨[], h, fun _ E u H hu => by cases hu with | nils a => exact ⟨rfl, empty E a 0⟩⟩
  · rename_i l
    refine ⟨l, h, fun hall E u H hu => ?_⟩
    cases hu with
    | roNil a cap => exact ⟨rfl, empty E a cap⟩
    | ro l b off cap wd val hF hcap hmax hws hc hvs =>
      refine ⟨rfl, ?_⟩
      refine gen E l b off cap hall (fun i e he j c hj => ?_)
      have hwd : wd = w := by rw [← hws i e he]; exact (hall _ (List.mem_of_getElem? he)).2
      subst hwd
      refine ⟨val i j, ?_, (hvs i e he j c hj).mono (Env.le.of_bare E)⟩
      rw [← Nat.add_assoc]
      exact hc i e he j c hj
  · rename_i b i n
    split at h
    · rename_i blk hb
      obtain ⟨hl, hin, hk⟩ := h
      refine ⟨_, hk, fun hall E u H hu => ?_⟩
      have hlen : ((blk.els.drop i).take n).length = n := by simp; omega
      rw [hlen]
      cases hu with
      | sl b i n off cap hbN ho hcap hmax hroom =>
        refine ⟨rfl, ?_⟩
        by_cases hn : n = 0
        · subst hn
          simp only [List.take_zero]
          exact empty E _ cap
        · have := gen E _ (E.ρ b) off cap hall (fun m e he j c hj => by
            have he' : blk.els[i + m]? = some e := by
              rw [List.getElem?_take] at he
              split at he
              · rwa [List.getElem?_drop] at he
              · cases he
            obtain ⟨v, h1, h2⟩ := H.cell hb hl he' hj
            refine ⟨v, ?_, h2⟩
            have hwd : E.wd b = w := by
              rw [H.wd b blk hb]
              obtain ⟨cs, h3, h4⟩ := (H.holds b blk hb hl).cells
              rw [← (h4 _ _ he').1]
              exact (hall _ (List.mem_of_getElem? he)).2
            rw [hwd] at h1
            rw [ho (by omega), hwd, ← Nat.add_assoc, ← Nat.add_mul]
            exact h1)
          rw [hlen] at this
          exact this
    · exact h.elim
  · rename_i s
    refine ⟨_, h, fun hall E u H hu => ?_⟩
    cases hu
    have hlen : (byts s).length = s.length := by simp [byts]
    have hdata : ((⟨s.toArray⟩ : ByteArray).extract 0 s.length).data = s.toArray := by
      rw [ByteArray.data_extract]
      simp
    refine ⟨by rw [hlen]; simp [Builtin.lenOf, ByteArray.size], (s.map fun b => Value.int .u8 (b.toNat : Int)).toArray, fun w' _ => ?_, fun i e he => ?_, ?_, fun c hc => ?_⟩
    · rw [hlen]
      simp only [Builtin.firstCells, hdata, Sem.run_pure]
      simp
    · have hi : i < s.length := by rw [← hlen]; exact (List.getElem?_eq_some_iff.1 he).1
      have he' : e = .int .u8 (s[i].toNat : Int) := by
        have : (byts s)[i]? = some (.int .u8 (s[i].toNat : Int)) := by simp [byts, hi]
        rw [this] at he
        exact (Option.some.inj he).symm
      subst he'
      have hw1 : w = 1 := by have := (hall _ (List.mem_of_getElem? he)).2; simpa [AV.cells] using this.symm
      refine ⟨by rw [hw1]; rfl, fun j x hx => ?_⟩
      have hj : j = 0 := by
        have := (List.getElem?_eq_some_iff.1 hx).1
        simp [AV.cells] at this
        exact this
      subst hj
      have hx' : x = .int .u8 (s[i].toNat : Int) := by simpa [AV.cells] using hx.symm
      subst hx'
      exact ⟨.int .u8 (s[i].toNat : Int), by rw [hw1]; simp [hi], .int .u8 _⟩
    · rw [hlen]
      cases s with
      | nil => simp
      | cons b s =>
        have hw1 : w = 1 := by have := (hall (.int .u8 (b.toNat : Int)) (by simp [byts])).2; simpa [AV.cells] using this.symm
        rw [hw1]; simp
    · simp only [List.mem_map] at hc
      obtain ⟨b, _, rfl⟩ := hc
      rfl
  · exact h.elim
end
end Go.Abs
