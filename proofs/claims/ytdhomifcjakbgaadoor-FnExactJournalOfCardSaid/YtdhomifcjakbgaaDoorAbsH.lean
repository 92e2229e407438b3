/- The abstract layer, part H: append; one operation is what 'opA' says. -/
import Derived.Test.YtdhomifcjakbgaaDoorAbsG
set_option linter.unusedSimpArgs false
set_option linter.unusedVariables false
namespace Go.Abs
open Go
variable {P : Program}

/-- One thing holds more than the other, but for where block b lies. -/
structure Env.leBut (b : Nat) (E E' : Env P) : Prop where
  F : ∀ c, E.F c → E'.F c
  cell : ∀ c, E.F c → E'.w.heap[c]? = E.w.heap[c]?
  N : E.N ≤ E'.N
  ρ : ∀ b', b' < E.N → b' ≠ b → E'.ρ b' = E.ρ b'
  wd : ∀ b', b' < E.N → E'.wd b' = E.wd b'
  csz : ∀ c, csz E.w c ≤ csz E'.w c
theorem Env.leBut.bare {b : Nat} {E E' : Env P} (h : E.leBut b E') : E.bare.le E'.bare :=
  ⟨h.F, h.cell, Nat.le_refl _, fun _ hb => absurd hb (Nat.not_lt_zero _), fun _ hb => absurd hb (Nat.not_lt_zero _), h.csz⟩
theorem Env.le.but {E E' : Env P} (h : E.le E') (b : Nat) : E.leBut b E' := ⟨h.F, h.cell, h.N, fun b' hb _ => h.ρ b' hb, h.wd, h.csz⟩

theorem RV.killL {b : Nat} {E E' : Env P} (le : E.leBut b E') {a : AV} {u : Value} (h : RV E a u) : RV E' (killL b a) u := by
  cases h with
  | any => exact .any _
  | bool => exact .bool _
  | int => exact .int _ _
  | flt _ _ _ h => exact .flt _ _ _ h
  | cpx _ _ _ _ _ h h' => exact .cpx _ _ _ _ _ h h'
  | str => exact .str _
  | agg => exact .any _
  | tup => exact .any _
  | nils => exact .nils _
  | roNil => exact .roNil _ _
  | ro l b' off cap wd val hF hcap hmax hw hc hv =>
    refine .ro l b' off cap wd val (le.F _ hF) hcap hmax hw (fun i e hi j c hj => ?_) (fun i e hi j c hj => (hv i e hi j c hj).mono le.bare)
    rw [cell_of_heap (le.cell _ hF)]; exact hc i e hi j c hj
  | sl b' i n off cap hb ho hcap hmax hroom =>
    unfold Abs.killL
    by_cases hbb : b' = b
    · simp only [hbb, if_true]; exact .any _
    · simp only [hbb, if_false]
      rw [← le.ρ b' hb hbb]
      exact .sl b' i n off cap (Nat.lt_of_lt_of_le hb le.N) (by rw [le.wd b' hb]; exact ho) hcap hmax (fun h => by rw [le.wd b' hb, le.ρ b' hb hbb]; exact Nat.le_trans (hroom h) (le.csz _))
  | ptr b' i j hb =>
    unfold Abs.killL
    by_cases hbb : b' = b
    · simp only [hbb, if_true]; exact .any _
    · simp only [hbb, if_false]
      rw [← le.ρ b' hb hbb, ← le.wd b' hb]
      exact .ptr b' i j (Nat.lt_of_lt_of_le hb le.N)
  | rop l b' off val hF hc hv =>
    refine .rop l b' off val (le.F _ hF) (fun j c hj => ?_) (fun j c hj => (hv j c hj).mono le.bare)
    rw [cell_of_heap (le.cell _ hF)]; exact hc j c hj
  | nilp => exact .nilp
  | fn => exact .any _
  | nilf => exact .nilf

theorem get_map_kill {f : AV → AV} {l : List AV} {i : Nat} {a : AV} (h : (l.map f)[i]? = some a) : ∃ a0, l[i]? = some a0 ∧ f a0 = a := by
  obtain ⟨a0, h1, h2, _⟩ := mem_map_get h
  exact ⟨a0, h1, h2⟩

theorem RV.killM {b : Nat} {E E' : Env P} (le : E.leBut b E') {a : AV} {u : Value} (h : RV E a u) : RV E' (killM b a) u := by
  cases a with
  | agg l =>
    cases h with
    | agg l vs hl h =>
      refine .agg _ _ (by simpa using hl) fun i c v h1 h2 => ?_
      obtain ⟨a0, h3, rfl⟩ := get_map_kill h1
      exact (h i a0 v h3 h2).killL le
  | fn f l =>
    cases h with
    | fn f l vs hl h =>
      refine .fn _ _ _ (by simpa using hl) fun i c v h1 h2 => ?_
      obtain ⟨a0, h3, rfl⟩ := get_map_kill h1
      exact (h i a0 v h3 h2).killL le
  | _ => exact h.killL le

theorem RV.kill {b : Nat} {E E' : Env P} (le : E.leBut b E') {a : AV} {u : Value} (h : RV E a u) : RV E' (kill b a) u := by
  cases a with
  | tup l =>
    cases h with
    | tup l vs hl h =>
      refine .tup _ _ (by simpa using hl) fun i c v h1 h2 => ?_
      obtain ⟨a0, h3, rfl⟩ := get_map_kill h1
      exact (h i a0 v h3 h2).killM le
  | _ => exact h.killM le

theorem killL_cells {b : Nat} {e : AV} (h : e.one = true) : (killL b e).cells = [killL b e] := by
  have h2 : ∀ (c : Prop) [Decidable c] (x : AV), x.cells = [x] → (if c then AV.any else x).cells = [if c then AV.any else x] := by
    intro c _ x hx; by_cases hc : c
    · simp only [hc, if_true]; rfl
    · simp only [hc, if_false]; exact hx
  cases e <;> first | rfl | (cases h; done) | exact h2 _ _ rfl

theorem kill_cells (b : Nat) (e : AV) : (kill b e).cells.length = e.cells.length ∧ ∀ (j : Nat) x, (kill b e).cells[j]? = some x → ∃ x0, e.cells[j]? = some x0 ∧ ∀ {E E' : Env P} {u : Value}, E.leBut b E' → RV E x0 u → RV E' x u := by
  cases e with
  | agg l =>
    refine ⟨by simp [kill, killM, AV.cells], fun j x hx => ?_⟩
    have hx' : (l.map (killL b))[j]? = some x := hx
    obtain ⟨a0, h1, rfl⟩ := get_map_kill hx'
    exact ⟨a0, h1, fun le h => h.killL le⟩
  | tup l =>
    refine ⟨rfl, fun j x hx => ?_⟩
    cases j with
    | zero =>
      have hx' : kill b (.tup l) = x := by simpa [kill, AV.cells] using hx
      exact ⟨.tup l, rfl, fun le h => by rw [← hx']; exact h.kill le⟩
    | succ j => simp [kill, AV.cells] at hx
  | fn f l =>
    refine ⟨rfl, fun j x hx => ?_⟩
    cases j with
    | zero =>
      have hx' : kill b (.fn f l) = x := by simpa [kill, killM, AV.cells] using hx
      exact ⟨.fn f l, rfl, fun le h => by rw [← hx']; exact h.kill le⟩
    | succ j => simp [kill, killM, AV.cells] at hx
  | sl b' i n =>
    have hc : (kill b (.sl b' i n)).cells = [kill b (.sl b' i n)] := killL_cells (e := .sl b' i n) rfl
    refine ⟨by rw [hc]; rfl, fun j x hx => ?_⟩
    rw [hc] at hx
    cases j with
    | zero => exact ⟨_, rfl, fun le h => by simp at hx; rw [← hx]; exact h.kill le⟩
    | succ j => simp at hx
  | ptr b' i n =>
    have hc : (kill b (.ptr b' i n)).cells = [kill b (.ptr b' i n)] := killL_cells (e := .ptr b' i n) rfl
    refine ⟨by rw [hc]; rfl, fun j x hx => ?_⟩
    rw [hc] at hx
    cases j with
    | zero => exact ⟨_, rfl, fun le h => by simp at hx; rw [← hx]; exact h.kill le⟩
    | succ j => simp at hx
  | any | bool | int | flt | cpx | str | nils | ro | rop | nilp | nilf =>
    refine ⟨rfl, fun j x hx => ?_⟩
    cases j with
    | zero => exact ⟨_, rfl, fun le h => by simp [kill, killM, Abs.killL, AV.cells] at hx; rw [← hx]; exact h.kill le⟩
    | succ j => simp [kill, killM, Abs.killL, AV.cells] at hx

def killB (b : Nat) (q : Blk) : Blk := { q with els := q.els.map (kill b) }

/-- A known block lies elsewhere (or where it lay), with other elements; who named it is struck. -/
theorem move_block {E E0 : Env P} {hp hp0 : List Blk} (H : HRel E hp) (F : Fr E0 hp0 E hp) {b : Nat} {blk : Blk} (hb : hp[b]? = some blk) (hl : blk.live = true) (hn0 : hp0.length ≤ b) (els' : List AV)
    (E' : Env P) (hN : E'.N = E.N) (hF : E'.F = E.F) (hwd : E'.wd = E.wd) (hρ : ∀ b', b' ≠ b → E'.ρ b' = E.ρ b')
    (hsize : E.w.heap.size ≤ E'.w.heap.size) (hos : E'.w.os = E.w.os) (htape : E'.w.tape = E.w.tape) (hout : E'.w.output = E.w.output)
    (hget : ∀ c, c < E.w.heap.size → c ≠ E.ρ b → E'.w.heap[c]? = E.w.heap[c]?) (hcsz : ∀ c, csz E.w c ≤ csz E'.w c)
    (hplace : E'.ρ b = E.ρ b ∨ E'.ρ b = E.w.heap.size) (new : Array Value) (hnew : E'.w.heap[E'.ρ b]? = some (.cells new blk.ty (0, 0))) (hel : EA E blk.w els' new) :
    HRel E' ((hp.set b { blk with els := els' }).map (killB b)) ∧ Fr E0 hp0 E' ((hp.set b { blk with els := els' }).map (killB b)) ∧ E.leBut b E' := by
  have hbl : b < hp.length := (List.getElem?_eq_some_iff.1 hb).1
  have hbound : ∀ (b : Nat) bk, hp[b]? = some bk → bk.live = true → E.ρ b < E.w.heap.size := fun b bk hb hlv => by
    obtain ⟨cs', h1, _⟩ := (H.holds b bk hb hlv).cells
    exact (Array.getElem?_eq_some_iff.1 h1).1
  have hnF : ¬ E.F (E.ρ b) := H.apart b blk hb hl
  have le : E.leBut b E' := ⟨fun c h => by rw [hF]; exact h, fun c hc => hget c (H.old c hc) (fun e => hnF (e ▸ hc)), by rw [hN]; exact Nat.le_refl _, fun b' _ h => hρ b' h, fun _ _ => by rw [hwd], hcsz⟩
  have hat : ∀ (b' : Nat) bk, ((hp.set b { blk with els := els' }).map (killB b))[b']? = some bk → (b' ≠ b ∧ ∃ q, hp[b']? = some q ∧ bk = killB b q) ∨ (b' = b ∧ bk = killB b { blk with els := els' }) := by
    intro b' bk h
    obtain ⟨q, h1, h2, _⟩ := mem_map_get h
    by_cases hbb : b' = b
    · subst hbb
      rw [List.getElem?_set_self hbl] at h1
      exact .inr ⟨rfl, by rw [← h2]; congr 1; simpa using h1.symm⟩
    · rw [List.getElem?_set_ne (fun e => hbb e.symm)] at h1
      exact .inl ⟨hbb, q, h1, h2.symm⟩
  have lv : ∀ (b' : Nat) bk, ((hp.set b { blk with els := els' }).map (killB b))[b']? = some bk → bk.live = true → ∃ bk0, hp[b']? = some bk0 ∧ bk0.live = true := by
    intro b' bk h1 h2
    rcases hat b' bk h1 with ⟨_, q, h3, h4⟩ | ⟨h3, _⟩
    · subst h4; exact ⟨q, h3, h2⟩
    · subst h3; exact ⟨blk, hb, hl⟩
  have kEA : ∀ {w : Nat} {els : List AV} {cs : Array Value}, EA E w els cs → EA E' w (els.map (kill b)) cs := by
    intro w els cs h i e he
    obtain ⟨e0, h1, rfl⟩ := get_map_kill he
    obtain ⟨k1, k2⟩ := kill_cells b e0
    refine ⟨k1.trans (h i e0 h1).1, fun j x hx => ?_⟩
    obtain ⟨x0, h3, h4⟩ := k2 j x hx
    obtain ⟨v, h5, h6⟩ := (h i e0 h1).2 j x0 h3
    exact ⟨v, h5, h4 le h6⟩
  refine ⟨⟨by rw [hN, H.N]; simp, ?_, ?_, ?_, ?_, ?_, H.laid.keep le.F le.cell⟩, ?_, le⟩
  · intro b' bk h
    rw [hwd]
    rcases hat b' bk h with ⟨_, q, h3, h4⟩ | ⟨h3, h4⟩
    · subst h4; exact H.wd b' q h3
    · subst h3; subst h4; exact H.wd b' blk hb
  · intro b' bk h hlv
    rcases hat b' bk h with ⟨h2, q, h3, h4⟩ | ⟨h3, h4⟩
    · subst h4
      obtain ⟨cs, h5, h6⟩ := (H.holds b' q h3 hlv).cells
      refine ⟨cs, ?_, kEA h6⟩
      rw [hρ b' h2, hget _ (hbound b' q h3 hlv) (fun e => h2 (H.inj b' b q blk h3 hlv hb hl e))]; exact h5
    · subst h3; subst h4
      exact ⟨new, hnew, kEA hel⟩
  · intro b1 b2 bk1 bk2 h1 hl1 h2 hl2 he
    obtain ⟨q1, hq1, hq1l⟩ := lv b1 bk1 h1 hl1
    obtain ⟨q2, hq2, hq2l⟩ := lv b2 bk2 h2 hl2
    by_cases e1 : b1 = b <;> by_cases e2 : b2 = b
    · rw [e1, e2]
    · rw [e1, hρ b2 e2] at he
      rcases hplace with hp1 | hp1
      · rw [hp1] at he; rw [e1]; exact H.inj b b2 blk q2 hb hl hq2 hq2l he
      · rw [hp1] at he
        have := hbound b2 q2 hq2 hq2l
        omega
    · rw [e2, hρ b1 e1] at he
      rcases hplace with hp1 | hp1
      · rw [hp1] at he; rw [e2]; exact H.inj b1 b q1 blk hq1 hq1l hb hl he
      · rw [hp1] at he
        have := hbound b1 q1 hq1 hq1l
        omega
    · rw [hρ b1 e1, hρ b2 e2] at he
      exact H.inj b1 b2 q1 q2 hq1 hq1l hq2 hq2l he
  · intro b1 bk1 h1 hl1
    obtain ⟨q1, hq1, hq1l⟩ := lv b1 bk1 h1 hl1
    rw [hF]
    by_cases e1 : b1 = b
    · rw [e1]
      rcases hplace with hp1 | hp1
      · rw [hp1]; exact hnF
      · rw [hp1]; exact fun h => absurd (H.old _ h) (Nat.lt_irrefl _)
    · rw [hρ b1 e1]; exact H.apart b1 q1 hq1 hq1l
  · intro c hc
    rw [hF] at hc
    exact Nat.lt_of_lt_of_le (H.old c hc) hsize
  · have hbfresh : Place E0 hp0 (E.ρ b) := by
      rcases F.live b ⟨blk, hb, hl⟩ with ⟨h1, _⟩ | ⟨_, h2⟩
      · omega
      · exact h2
    exact {
      size := Nat.le_trans F.size hsize
      os := hos.trans F.os
      tape := htape.trans F.tape
      output := hout.trans F.output
      block := fun c hc hn => (hget c (Nat.lt_of_lt_of_le hc F.size) (fun e => by
        rcases hbfresh with h | ⟨b0, h0, e0⟩
        · omega
        · exact hn b0 h0 (e0.trans e.symm))).trans (F.block c hc hn)
      len := by simpa using F.len
      ρ := fun b' hb' => by rw [hρ b' (by omega)]; exact F.ρ b' hb'
      wd := fun b' hb' => by rw [hwd]; exact F.wd b' hb'
      F := fun c h => by rw [hF]; exact F.F c h
      F' := fun c h => by rw [hF] at h; exact F.F' c h
      live := fun b' ⟨bk, h1, h2⟩ => by
        obtain ⟨q, hq, hql⟩ := lv b' bk h1 h2
        by_cases e1 : b' = b
        · subst e1
          refine .inr ⟨hn0, ?_⟩
          rcases hplace with hp1 | hp1
          · rw [hp1]; exact hbfresh
          · rw [hp1]; exact .inl F.size
        · rw [hρ b' e1]; exact F.live b' ⟨q, hq, hql⟩
      csz := fun c => Nat.le_trans (F.csz c) (hcsz c) }

section
variable {P : Program}

theorem growBy_le (n : Nat) : ∀ (r c : Nat), c ≤ 2 * n + 192 → Builtin.growBy n r c ≤ 2 * n + 192
  | 0, c, h => h
  | r + 1, c, h => by
    unfold Builtin.growBy
    split
    · exact h
    · exact growBy_le n r _ (by omega)
theorem nextcap_le {n c : Nat} (h : c < n) : Builtin.nextslicecap n c ≤ 2 * n + 192 := by
  unfold Builtin.nextslicecap
  split
  · omega
  · split
    · omega
    · exact growBy_le n 4 c (by omega)

/-- An append that grows. -/
theorem run_grow {t t' e ty : TypeId} {d : TypeDesc} (hd : P.underlying t = some (.slice e)) (hd' : P.underlying t' = some d) (hni : ∀ k, d ≠ .int k) (hpos : 0 < P.cellsOf e) (z : Value) (hz : ∀ w, (zeroValue e).run P w = .ok z w)
    (w : World) (base : Option Addr) (sLen sCap n : Nat) (v : Value) (A B : Array Value) (hn : Builtin.lenOf v = pure n) (hlt : sCap < sLen + n) (hf : fits (sLen + n) (P.bytesOf e))
    (hA : ∀ w', Same w w' → (Builtin.firstCells (P.cellsOf e) sLen (.slice base sLen sCap)).run P w' = .ok A w') (hB : ∀ w', Same w w' → (Builtin.firstCells (P.cellsOf e) n v).run P w' = .ok B w') :
    ∃ cap w', sLen + n ≤ cap ∧ cap ≤ maxLen ∧ (Builtin.append_ #[t, t'] ty #[.slice base sLen sCap, v]).run P w = .ok (.slice (some ⟨w.heap.size, 0, none⟩) (sLen + n) cap) w' ∧
      Same { w with heap := w.heap.push (.cells (A ++ B ++ Builtin.zeroCells z.cells (cap - (sLen + n))) e) } w' := by
  obtain ⟨i, hi, his, hib⟩ := info_pos hpos
  have hti : ∀ w : World, (typeInfo e).run P w = .ok i w := fun w => by simp [typeInfo, hi, Result.andThen]
  have hmi : (match d with | .int _ => true | _ => false) = false := by cases d <;> first | rfl | exact absurd rfl (hni _)
  obtain ⟨hf1, hf2, hf3⟩ := hf
  have hneed : sLen + n ≤ 70368744177664 := by
    have := Nat.mul_le_mul_left (sLen + n) hf2
    omega
  have hnc : Builtin.nextslicecap (sLen + n) sCap * i.bytes ≤ 281474976710656 := by
    rw [← hib]
    have h1 := Nat.mul_le_mul_right (P.bytesOf e) (nextcap_le hlt)
    rw [Nat.add_mul, Nat.mul_assoc] at h1
    have h2 : 192 * P.bytesOf e ≤ 192 * 1048576 := Nat.mul_le_mul_left _ hf3
    omega
  let q : Question := .appendCap (sLen + n) sCap e
  refine ⟨q.cut (w.tape w.drawn q), { w with drawn := w.drawn + 1, heap := w.heap.push (.cells (A ++ B ++ Builtin.zeroCells z.cells (q.cut (w.tape w.drawn q) - (sLen + n))) e) }, ?_, ?_, ?_, ⟨rfl, rfl, rfl, rfl⟩⟩
  · show sLen + n ≤ (sLen + n) + _ % _
    omega
  · show (sLen + n) + (w.tape w.drawn q) % (2 ^ 63 - (sLen + n)) ≤ maxLen
    have : (w.tape w.drawn q) % (2 ^ 63 - (sLen + n)) < 2 ^ 63 - (sLen + n) := Nat.mod_lt _ (by omega)
    unfold maxLen
    omega
  · have hch : (choose (Question.appendCap (sLen + n) sCap e)).run P w = .ok (q.cut (w.tape w.drawn q)) { w with drawn := w.drawn + 1 } := by rw [run_choose]; rfl
    have hs1 : Same w { w with drawn := w.drawn + 1 } := Same.drew _ _
    have c1 : ¬ sLen + n ≤ sCap := by omega
    have c2 : ¬ (((sLen + n : Nat) : Int) > IntKind.i64.max ∧ (False ∨ i.bytes = 0)) := by
      have e : IntKind.i64.max = 9223372036854775807 := rfl
      rw [e]; omega
    have c3 : ¬ Builtin.nextslicecap (sLen + n) sCap * i.bytes > 2 ^ 48 := by omega
    simp only [Builtin.append_, List.getElem?_toArray, List.getElem?_cons_zero, List.getElem?_cons_succ, Sem.run_bind, run_underlying' hd, Result.andThen_ok, run_sizeOf_pos hpos, run_underlying' hd', hmi, Sem.run_pure, hn, Bool.false_eq_true, if_false, c1, hti, c2, c3, Bool.not_false, if_true, hch, run_askRoom, hA _ hs1, hB _ hs1, hz, newRow, run_newObj]

/-- An append that fits. -/
theorem run_room {t t' e ty : TypeId} {d : TypeDesc} (hd : P.underlying t = some (.slice e)) (hd' : P.underlying t' = some d) (hni : ∀ k, d ≠ .int k) (hpos : 0 < P.cellsOf e)
    (w : World) (base : Option Addr) (sLen sCap n : Nat) (v : Value) (B : Array Value) (hn : Builtin.lenOf v = pure n) (hle : sLen + n ≤ sCap)
    (hB : (Builtin.firstCells (P.cellsOf e) n v).run P w = .ok B w) (w' : World) (hst : ∀ a, base = some a → (storeCells (a.add (sLen * P.cellsOf e)) B.toList).run P w = .ok () w') (hno : base = none → w' = w) :
    (Builtin.append_ #[t, t'] ty #[.slice base sLen sCap, v]).run P w = .ok (.slice base (sLen + n) sCap) w' := by
  have hmi : (match d with | .int _ => true | _ => false) = false := by cases d <;> first | rfl | exact absurd rfl (hni _)
  cases base with
  | none =>
    rw [hno rfl]
    simp only [Builtin.append_, List.getElem?_toArray, List.getElem?_cons_zero, List.getElem?_cons_succ, Sem.run_bind, run_underlying' hd, Result.andThen_ok, run_sizeOf_pos hpos, run_underlying' hd', hmi, Sem.run_pure, hn, Bool.false_eq_true, if_false, hle, Bool.not_false, if_true, hB]
  | some a =>
    simp only [Builtin.append_, List.getElem?_toArray, List.getElem?_cons_zero, List.getElem?_cons_succ, Sem.run_bind, run_underlying' hd, Result.andThen_ok, run_sizeOf_pos hpos, run_underlying' hd', hmi, Sem.run_pure, hn, Bool.false_eq_true, if_false, hle, Bool.not_false, if_true, hB, hst a rfl]

theorem EA.mono {E E' : Env P} {w : Nat} {els : List AV} {A : Array Value} (h : EA E w els A) (le : E.le E') : EA E' w els A := fun i e he =>
  ⟨(h i e he).1, fun j x hx => by obtain ⟨v, h1, h2⟩ := (h i e he).2 j x hx; exact ⟨v, h1, h2.mono le⟩⟩

theorem EA.append {E : Env P} {w : Nat} {xs ys : List AV} {A B C : Array Value} (hA : EA E w xs A) (hAs : A.size = xs.length * w) (hB : EA E w ys B) (hBs : B.size = ys.length * w) : EA E w (xs ++ ys) (A ++ B ++ C) := by
  intro i e he
  rw [List.getElem?_append] at he
  split at he
  · rename_i hi
    refine ⟨(hA i e he).1, fun j x hx => ?_⟩
    obtain ⟨v, h1, h2⟩ := (hA i e he).2 j x hx
    have hlt := (Array.getElem?_eq_some_iff.1 h1).1
    refine ⟨v, ?_, h2⟩
    rw [Array.append_assoc, Array.getElem?_append_left hlt]
    exact h1
  · rename_i hi
    refine ⟨(hB _ e he).1, fun j x hx => ?_⟩
    obtain ⟨v, h1, h2⟩ := (hB _ e he).2 j x hx
    have hlt := (Array.getElem?_eq_some_iff.1 h1).1
    refine ⟨v, ?_, h2⟩
    have hge : xs.length ≤ i := by omega
    have hmul : i * w = xs.length * w + (i - xs.length) * w := by rw [← Nat.add_mul]; congr 1; omega
    rw [Array.getElem?_append_left (by simp; omega), Array.getElem?_append_right (by omega), hAs]
    rw [show i * w + j - xs.length * w = (i - xs.length) * w + j by omega]
    exact h1

theorem EA.extend {E : Env P} {w : Nat} {xs ys : List AV} {cur : Array Value} {B : Array Value} (hA : EA E w xs cur) (hB : EA E w ys B) (hBs : B.size = ys.length * w) (hfit : xs.length * w + B.toList.length ≤ cur.size) :
    EA E w (xs ++ ys) (cur.toList.take (xs.length * w) ++ B.toList ++ cur.toList.drop (xs.length * w + B.toList.length)).toArray := by
  intro i e he
  rw [List.getElem?_append] at he
  split at he
  · rename_i hi
    refine ⟨(hA i e he).1, fun j x hx => ?_⟩
    obtain ⟨v, h1, h2⟩ := (hA i e he).2 j x hx
    refine ⟨v, ?_, h2⟩
    have hj : j < w := by rw [← (hA i e he).1]; exact (List.getElem?_eq_some_iff.1 hx).1
    have := Nat.mul_le_mul_right w hi
    rw [Nat.succ_mul] at this
    rw [splice_get _ _ _ hfit, if_neg (by omega)]
    exact h1
  · rename_i hi
    refine ⟨(hB _ e he).1, fun j x hx => ?_⟩
    obtain ⟨v, h1, h2⟩ := (hB _ e he).2 j x hx
    have hlt := (Array.getElem?_eq_some_iff.1 h1).1
    refine ⟨v, ?_, h2⟩
    have hmul : i * w = xs.length * w + (i - xs.length) * w := by rw [← Nat.add_mul]; congr 1; omega
    have hBl : B.toList.length = B.size := Array.length_toList
    rw [splice_get _ _ _ hfit, if_pos (by omega)]
    rw [show i * w + j - xs.length * w = (i - xs.length) * w + j by omega]
    simpa using h1

theorem lenOf_slice (a : Option Addr) (n cap : Nat) : Builtin.lenOf (.slice a n cap) = pure n := rfl

theorem appendA_sound {E E0 : Env P} {hp hp0 : List Blk} (H : HRel E hp) (F : Fr E0 hp0 E hp) {t t' ty : TypeId} (hni : notInt P (some t')) {s x : AV} {u v : Value} (hs : RV E s u) (hx : RV E x v) {k : AV → List Blk → Option Nat → Prop}
    (h : appendA P hp0.length t hp s x k) : ∃ z w', (Builtin.append_ #[t, t'] ty #[u, v]).run P E.w = .ok z w' ∧ OpPost E E0 hp0 k z w' := by
  obtain ⟨d, hd', hnid⟩ : ∃ d, P.underlying t' = some d ∧ ∀ k, d ≠ .int k := by
    unfold notInt at hni
    simp only [Option.bind_some] at hni
    cases hu : P.underlying t' with
    | none => simp [hu] at hni
    | some d => exact ⟨d, rfl, fun k e => by subst e; simp [hu] at hni⟩
  unfold appendA at h
  split at h
  · rename_i e hd
    obtain ⟨hz, hzw, h⟩ := h
    obtain ⟨z, hz1, hz2⟩ := zero_run hz
    have hzr : RV E (zeroOf P e) z := by rw [hz2]; exact RV_ofV E z
    have hzs : z.cells.size = P.cellsOf e := by rw [← (hzr.not_agg hz).1]; exact hzw
    split at h
    · -- nothing yet
      by_cases hpos : 0 < P.cellsOf e
      case neg =>
        exfalso
        unfold readSl at h
        split at h
        · exact hpos h.2.1
        · exact hpos h.2.1
        · split at h
          · exact hpos h.2.2.2.1
          · exact h
        · exact hpos h.2.1
        · exact h
      case pos =>
      obtain ⟨ys, ⟨hall, _, hfit, hk⟩, hsrc⟩ := src_sound h hpos
      obtain ⟨hln, B, hB, hB2, hB3, hB4⟩ := hsrc hall E v H hx
      cases hs with
      | nils a0 =>
        obtain ⟨hk1, hk2⟩ := hk
        by_cases hy : ys = []
        · subst hy
          have hBn : B.toList = [] := by
            have : B.size = 0 := by simpa using hB3
            simpa using Array.eq_empty_of_size_eq_zero this
          refine ⟨.slice a0 0 0, E.w, run_room hd hd' hnid hpos E.w a0 0 0 0 _ B hln (Nat.le_refl _) (hB E.w (Same.refl _)) E.w (fun a _ => by rw [hBn]; rfl) (fun _ => rfl), ?_⟩
          exact ⟨E, .nils, hp, none, rfl, hk1 rfl, .nils _, H, F, fun a u h => h⟩
        · have hlen : 0 < ys.length := List.length_pos_iff.2 hy
          have hA : ∀ w', Same E.w w' → (Builtin.firstCells (P.cellsOf e) 0 (.slice a0 0 0)).run P w' = .ok #[] w' := fun w' _ => by
            cases a0 with
            | none => rfl
            | some a => simp [Builtin.firstCells, loadCells, loadCellsFrom]
          obtain ⟨ncap, w', c1, c2, c3, c4⟩ := run_grow (ty := ty) hd hd' hnid hpos z hz1 E.w a0 0 0 ys.length _ #[] B hln (by omega) (by simpa using hfit) hA hB
          refine ⟨_, w', c3, ?_⟩
          simp only [Nat.zero_add] at c1 c4 ⊢
          have hk2' := hk2 (by cases ys <;> simp at hy ⊢)
          refine OpPost.block H F { ty := e, w := P.cellsOf e, els := ys } _ rfl w' c4 ?_ hk2' fun E' h1 h2 h3 h4 => ?_
          · have := EA.append (C := Builtin.zeroCells z.cells (ncap - ys.length)) (xs := []) (A := #[]) (fun i e he => by simp at he) (by simp) hB2 hB3
            simpa using this
          · rw [← h1]
            refine .sl hp.length 0 ys.length 0 ncap h3 (fun _ => by simp) c1 c2 (fun _ => ?_)
            rw [h1, h2, h4]
            simp only [Builtin.zeroCells, Array.size_append, Array.size_map, Array.size_range, hB3, hzs, List.size_toArray, List.length_nil, Nat.zero_add]
            rw [← Nat.add_mul]
            exact Nat.mul_le_mul_right _ (by omega)
    · rename_i b i n
      split at h
      · rename_i blk hb
        obtain ⟨hn0, hl, hty, rfl, hn, hw, hpos, h⟩ := h
        obtain ⟨ys, ⟨hall, hfit, hk⟩, hsrc⟩ := src_sound h hpos
        obtain ⟨hln, B, hB, hB2, hB3, hB4⟩ := hsrc hall E v H hx
        obtain ⟨cur, hcur1, hcur2⟩ := (H.holds b blk hb hl).cells
        have hcurE : EA E blk.w blk.els cur := hcur2
        have hbN : b < E.N := by rw [H.N]; exact (List.getElem?_eq_some_iff.1 hb).1
        have hwd := H.wd b blk hb
        have hs' := hs
        cases hs with
        | sl b i n off cap _ ho hcap hmax hroom =>
          by_cases hle : n + ys.length ≤ cap
          · -- it fits
            by_cases hm : ys.length = 0
            · have hy : ys = [] := List.eq_nil_of_length_eq_zero hm
              subst hy
              have hBn : B.toList = [] := by
                have : B.size = 0 := by simpa using hB3
                simpa using Array.eq_empty_of_size_eq_zero this
              have hmv := move_block H F hb hl hn0 (blk.els ++ []) E rfl rfl rfl (fun _ _ => rfl) (Nat.le_refl _) rfl rfl rfl (fun _ _ _ => rfl) (fun _ => Nat.le_refl _) (.inl rfl) cur hcur1 (by simpa using hcurE)
              refine ⟨_, E.w, run_room hd hd' hnid hpos E.w _ n cap 0 _ B hln hle (hB E.w (Same.refl _)) E.w (fun a _ => by rw [hBn]; rfl) (fun _ => rfl), ?_⟩
              refine ⟨E, _, _, some b, rfl, hk, ?_, hmv.1, hmv.2.1, fun a u hr => hr.kill hmv.2.2⟩
              exact hs'
            · have hc0 : 0 < cap := by omega
              have hoff := ho hc0
              simp only [Nat.zero_mul] at hoff
              subst hoff
              have hr := hroom hc0
              simp only [Nat.zero_add] at hr
              have hcs : csz E.w (E.ρ b) = cur.size := by simp [csz, hcur1]
              rw [hcs, hwd, hw] at hr
              have hBl : B.toList.length = B.size := Array.length_toList
              have hfits : n * P.cellsOf e + B.toList.length ≤ cur.size := by
                rw [hBl, hB3, ← Nat.add_mul]
                exact Nat.le_trans (Nat.mul_le_mul_right _ hle) hr
              have hst := run_storeCells_at P (E.ρ b) (n * P.cellsOf e) blk.ty B.toList 0 cur E.w hcur1 (by simpa using hfits) hB4
              simp only [Nat.add_zero] at hst
              have hnl : n = blk.els.length := hn
              have hel : EA E blk.w (blk.els ++ ys) (cur.toList.take (n * P.cellsOf e) ++ B.toList ++ cur.toList.drop (n * P.cellsOf e + B.toList.length)).toArray := by
                rw [hw] at hcurE ⊢
                rw [hnl] at hfits ⊢
                exact EA.extend hcurE hB2 hB3 hfits
              have hszn := splice_size cur (n * P.cellsOf e) B.toList hfits
              have hget : ∀ c, (E.w.setRow (E.ρ b) (cur.toList.take (n * P.cellsOf e) ++ B.toList ++ cur.toList.drop (n * P.cellsOf e + B.toList.length)).toArray).heap[c]? = _ := fun c => setRow_get _ _ c _ _ _ _ hcur1
              have hcsz : ∀ c, csz E.w c ≤ csz (E.w.setRow (E.ρ b) (cur.toList.take (n * P.cellsOf e) ++ B.toList ++ cur.toList.drop (n * P.cellsOf e + B.toList.length)).toArray) c := fun c => by
                unfold csz
                rw [hget]
                by_cases hc : c = E.ρ b
                · subst hc; simp only [hcur1, if_true, hszn]; exact Nat.le_refl _
                · simp [hc]
              have hmv := move_block H F hb hl hn0 (blk.els ++ ys) (E.with (E.w.setRow (E.ρ b) (cur.toList.take (n * P.cellsOf e) ++ B.toList ++ cur.toList.drop (n * P.cellsOf e + B.toList.length)).toArray)) rfl rfl rfl (fun _ _ => rfl) (by simp [Env.with, World.setRow]) rfl rfl rfl
                (fun c hc hne => by show (World.setRow _ _ _).heap[c]? = _; rw [hget, if_neg hne]) hcsz (.inl rfl) _ (by show (World.setRow _ _ _).heap[E.ρ b]? = _; rw [hget, if_pos rfl]) hel
              refine ⟨_, _, run_room hd hd' hnid hpos E.w _ n cap ys.length _ B hln hle (hB E.w (Same.refl _)) _ (fun a ha => by cases ha; rw [add_none, Nat.zero_add]; exact hst) (fun h => by cases h), ?_⟩
              refine ⟨_, _, _, some b, rfl, hk, ?_, hmv.1, hmv.2.1, fun a u hr => hr.kill hmv.2.2⟩
              refine .sl b 0 (n + ys.length) 0 cap hbN (fun _ => by simp) hle hmax (fun _ => ?_)
              exact Nat.le_trans (hroom hc0) (hcsz _)
          · -- it grows
            have hlt : cap < n + ys.length := by omega
            obtain ⟨A, hA, hA2, hA3⟩ : ∃ A : Array Value, (∀ w', Same E.w w' → (Builtin.firstCells (P.cellsOf e) n (.slice (some ⟨E.ρ b, off, none⟩) n cap)).run P w' = .ok A w') ∧ EA E (P.cellsOf e) blk.els A ∧ A.size = n * P.cellsOf e := by
              by_cases hnz : n = 0
              · refine ⟨#[], fun w' _ => by subst hnz; simp [Builtin.firstCells, loadCells, loadCellsFrom], ?_, by simp [hnz]⟩
                intro i e he
                have : blk.els.length = 0 := by omega
                simp [List.eq_nil_of_length_eq_zero this] at he
              · have hoff : off = 0 := by have := ho (by omega); simpa using this
                subst hoff
                rw [hw] at hcurE
                have hfull : n * P.cellsOf e ≤ cur.size := by
                  have hlast : n - 1 < blk.els.length := by omega
                  obtain ⟨h1, h2⟩ := hcurE (n - 1) _ (List.getElem?_eq_getElem hlast)
                  have hj : P.cellsOf e - 1 < blk.els[n - 1].cells.length := by omega
                  obtain ⟨v0, hv0, _⟩ := h2 _ _ (List.getElem?_eq_getElem hj)
                  have := (Array.getElem?_eq_some_iff.1 hv0).1
                  have hmul : n * P.cellsOf e = (n - 1) * P.cellsOf e + P.cellsOf e := by rw [← Nat.succ_mul]; congr 1; omega
                  omega
                refine ⟨((List.range (n * P.cellsOf e)).map fun m => cur.getD m undef).toArray, fun w' hs => ?_, ?_, by simp⟩
                · simp only [Builtin.firstCells]
                  exact run_loadCells w' _ _ _ (fun m hm => by
                    rw [add_none, Nat.zero_add]
                    have : m < cur.size := by omega
                    simp [World.cell?, hs.1, hcur1, this])
                · intro i e' he
                  refine ⟨(hcurE i e' he).1, fun j x hx => ?_⟩
                  obtain ⟨v0, h1, h2⟩ := (hcurE i e' he).2 j x hx
                  have hi : i < blk.els.length := (List.getElem?_eq_some_iff.1 he).1
                  have hj : j < P.cellsOf e := by rw [← (hcurE i e' he).1]; exact (List.getElem?_eq_some_iff.1 hx).1
                  have hlt' : i * P.cellsOf e + j < n * P.cellsOf e := by
                    have := Nat.mul_le_mul_right (P.cellsOf e) (show i + 1 ≤ n by omega)
                    rw [Nat.succ_mul] at this
                    omega
                  have hlt2 : i * P.cellsOf e + j < cur.size := by omega
                  refine ⟨v0, ?_, h2⟩
                  simp [hlt', hlt2] at h1 ⊢
                  exact h1
            obtain ⟨ncap, w', c1, c2, c3, c4⟩ := run_grow (ty := ty) hd hd' hnid hpos z hz1 E.w _ n cap ys.length _ A B hln hlt hfit hA hB
            obtain ⟨g1, g2, g3, g4⟩ := c4
            have hget : ∀ c, c < E.w.heap.size → w'.heap[c]? = E.w.heap[c]? := fun c hc => by rw [g1]; show (E.w.heap.push _)[c]? = _; rw [Array.getElem?_push_lt hc, Array.getElem?_eq_getElem hc]
            have hnew : w'.heap[E.w.heap.size]? = some (.cells (A ++ B ++ Builtin.zeroCells z.cells (ncap - (n + ys.length))) e (0, 0)) := by rw [g1]; show (E.w.heap.push _)[_]? = _; simp
            have hcsz : ∀ c, csz E.w c ≤ csz w' c := fun c => by
              have := csz_push E.w (.cells (A ++ B ++ Builtin.zeroCells z.cells (ncap - (n + ys.length))) e) c
              unfold csz at this ⊢
              rw [g1]; exact this
            let E' : Env P := { w := w', F := E.F, N := E.N, ρ := fun b' => if b' = b then E.w.heap.size else E.ρ b', wd := E.wd }
            have hEA : EA E blk.w (blk.els ++ ys) (A ++ B ++ Builtin.zeroCells z.cells (ncap - (n + ys.length))) := by
              rw [hw]
              exact EA.append hA2 (by rw [hA3, hn]) hB2 hB3
            have hmv := move_block H F hb hl hn0 (blk.els ++ ys) E' rfl rfl rfl (fun b' h => by simp [E', h]) (by show _ ≤ w'.heap.size; rw [g1]; simp) g2 g3 g4 (fun c hc _ => hget c hc) hcsz (.inr (by simp [E'])) _ (by simp only [E', if_true]; rw [hty]; exact hnew) hEA
            refine ⟨_, w', c3, E', _, _, some b, rfl, hk, ?_, hmv.1, hmv.2.1, fun a u hr => hr.kill hmv.2.2⟩
            have hρb : E'.ρ b = E.w.heap.size := by simp [E']
            rw [← hρb]
            refine .sl b 0 (n + ys.length) 0 ncap hbN (fun _ => by simp) c1 c2 (fun _ => ?_)
            rw [hρb]
            show (0 + ncap) * E.wd b ≤ csz w' E.w.heap.size
            simp only [csz, hnew, hwd, hw, Nat.zero_add, Builtin.zeroCells, Array.size_append, Array.size_map, Array.size_range, hA3, hB3, hzs]
            rw [← Nat.add_mul, ← Nat.add_mul]
            exact Nat.mul_le_mul_right _ (by omega)
      · exact h.elim
    · exact h.elim
  · exact h.elim
end
end Go.Abs
