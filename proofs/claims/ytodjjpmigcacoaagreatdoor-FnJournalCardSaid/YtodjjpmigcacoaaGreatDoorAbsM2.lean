/- The abstract layer: parts H I J K L M N O P Q R. -/
import Derived.Test.YtodjjpmigcacoaaGreatDoorAbsM1
import Derived.Deep.LoopGhost
set_option linter.unusedSimpArgs false
set_option linter.unusedVariables false
namespace Go.Abs
open Go
variable {P : Program}
structure Env.leBut (b : Nat) (E E' : Env P) : Prop where
  F : ∀ c, E.F c → E'.F c
  cell : ∀ c, E.F c → E'.w.heap[c]? = E.w.heap[c]?
  N : E.N ≤ E'.N
  ρ : ∀ b', b' < E.N → b' ≠ b → E'.ρ b' = E.ρ b'
  wd : ∀ b', b' < E.N → E'.wd b' = E.wd b'
  csz : ∀ c, csz E.w c ≤ csz E'.w c
theorem Env.leBut.bare {b : Nat} {E E' : Env P} (h : E.leBut b E') : E.bare.le E'.bare :=
  ⟨h.F, h.cell, Nat.le_refl _, fun _ hb => absurd hb (Nat.not_lt_zero _), fun _ hb => absurd hb (Nat.not_lt_zero _), h.csz⟩
theorem RV.killL {b : Nat} {E E' : Env P} (le : E.leBut b E') {a : AV} {u : Value} (h : RV E a u) : RV E' (killL b a) u := by
  cases h with
  | any => exact .any _
  | bool => exact .bool _
  | int => exact .int _ _
  | flt _ _ _ h => exact .flt _ _ _ h
  | cpx _ _ _ _ _ h h' => exact .cpx _ _ _ _ _ h h'
  | str => exact .str _
  | agg => exact .any _
  | tup => exact .any _
  | nils => exact .nils _
  | roNil => exact .roNil _ _
  | ro l b' off cap wd val hF hcap hmax hw hc hv =>
    refine .ro l b' off cap wd val (le.F _ hF) hcap hmax hw (fun i e hi j c hj => ?_) (fun i e hi j c hj => (hv i e hi j c hj).mono le.bare)
    rw [cell_of_heap (le.cell _ hF)]; exact hc i e hi j c hj
  | sl b' i n off cap hb ho hcap hmax hroom hw =>
    unfold Abs.killL
    by_cases hbb : b' = b
    · simp only [hbb, if_true]; exact .any _
    · simp only [hbb, if_false]
      rw [← le.ρ b' hb hbb]
      exact .sl b' i n off cap (Nat.lt_of_lt_of_le hb le.N) (by rw [le.wd b' hb]; exact ho) hcap hmax (fun h => by rw [le.wd b' hb, le.ρ b' hb hbb]; exact Nat.le_trans (hroom h) (le.csz _)) (by rw [le.wd b' hb]; exact hw)
  | ptr b' i j hb hw =>
    unfold Abs.killL
    by_cases hbb : b' = b
    · simp only [hbb, if_true]; exact .any _
    · simp only [hbb, if_false]
      rw [← le.ρ b' hb hbb, ← le.wd b' hb]
      exact .ptr b' i j (Nat.lt_of_lt_of_le hb le.N) (by rw [le.wd b' hb]; exact hw)
  | mp b' hb =>
    unfold Abs.killL
    by_cases hbb : b' = b
    · simp only [hbb, if_true]; exact .any _
    · simp only [hbb, if_false]
      rw [← le.ρ b' hb hbb]
      exact .mp b' (Nat.lt_of_lt_of_le hb le.N)
  | romNil => exact .romNil
  | rom l r hF hm => exact .rom l r (le.F _ hF) (by rw [le.cell _ hF]; exact hm)
  | rop l b' off val hF hc hv =>
    refine .rop l b' off val (le.F _ hF) (fun j c hj => ?_) (fun j c hj => (hv j c hj).mono le.bare)
    rw [cell_of_heap (le.cell _ hF)]; exact hc j c hj
  | nilp => exact .nilp
  | fn => exact .any _
  | mv => exact .any _
  | nilf => exact .nilf
  | nili => exact .nili
theorem get_map_kill {f : AV → AV} {l : List AV} {i : Nat} {a : AV} (h : (l.map f)[i]? = some a) : ∃ a0, l[i]? = some a0 ∧ f a0 = a := by
  obtain ⟨a0, h1, h2, _⟩ := mem_map_get h
  exact ⟨a0, h1, h2⟩
theorem RV.killM {b : Nat} {E E' : Env P} (le : E.leBut b E') {a : AV} {u : Value} (h : RV E a u) : RV E' (killM b a) u := by
  cases a with
  | agg l =>
    cases h with
    | agg l vs hl h =>
      refine .agg _ _ (by simpa using hl) fun i c v h1 h2 => ?_
      obtain ⟨a0, h3, rfl⟩ := get_map_kill h1
      exact (h i a0 v h3 h2).killL le
  | fn f l =>
    cases h with
    | fn f l vs hl h =>
      refine .fn _ _ _ (by simpa using hl) fun i c v h1 h2 => ?_
      obtain ⟨a0, h3, rfl⟩ := get_map_kill h1
      exact (h i a0 v h3 h2).killL le
  | mv f l =>
    cases h with
    | mv f l vs hl h =>
      refine .mv _ _ _ (by simpa using hl) fun i c v h1 h2 => ?_
      obtain ⟨a0, h3, rfl⟩ := get_map_kill h1
      exact (h i a0 v h3 h2).killL le
  | _ => exact h.killL le
theorem RV.kill {b : Nat} {E E' : Env P} (le : E.leBut b E') {a : AV} {u : Value} (h : RV E a u) : RV E' (kill b a) u := by
  cases a with
  | tup l =>
    cases h with
    | tup l vs hl h =>
      refine .tup _ _ (by simpa using hl) fun i c v h1 h2 => ?_
      obtain ⟨a0, h3, rfl⟩ := get_map_kill h1
      exact (h i a0 v h3 h2).killM le
  | _ => exact h.killM le
theorem killL_cells {b : Nat} {e : AV} (h : e.one = true) : (killL b e).cells = [killL b e] := by
  have h2 : ∀ (c : Prop) [Decidable c] (x : AV), x.cells = [x] → (if c then AV.any else x).cells = [if c then AV.any else x] := by
    intro c _ x hx; by_cases hc : c
    · simp only [hc, if_true]; rfl
    · simp only [hc, if_false]; exact hx
  cases e <;> first | rfl | (cases h; done) | exact h2 _ _ rfl
theorem kill_cells (b : Nat) (e : AV) : (kill b e).cells.length = e.cells.length ∧ ∀ (j : Nat) x, (kill b e).cells[j]? = some x → ∃ x0, e.cells[j]? = some x0 ∧ ∀ {E E' : Env P} {u : Value}, E.leBut b E' → RV E x0 u → RV E' x u := by
  cases e with
  | agg l =>
    refine ⟨by simp [kill, killM, AV.cells], fun j x hx => ?_⟩
    have hx' : (l.map (killL b))[j]? = some x := hx
    obtain ⟨a0, h1, rfl⟩ := get_map_kill hx'
    exact ⟨a0, h1, fun le h => h.killL le⟩
  | tup l =>
    refine ⟨rfl, fun j x hx => ?_⟩
    cases j with
    | zero =>
      have hx' : kill b (.tup l) = x := by simpa [kill, AV.cells] using hx
      exact ⟨.tup l, rfl, fun le h => by rw [← hx']; exact h.kill le⟩
    | succ j => simp [kill, AV.cells] at hx
  | fn f l =>
    refine ⟨rfl, fun j x hx => ?_⟩
    cases j with
    | zero =>
      have hx' : kill b (.fn f l) = x := by simpa [kill, killM, AV.cells] using hx
      exact ⟨.fn f l, rfl, fun le h => by rw [← hx']; exact h.kill le⟩
    | succ j => simp [kill, killM, AV.cells] at hx
  | mv f l =>
    refine ⟨rfl, fun j x hx => ?_⟩
    cases j with
    | zero =>
      have hx' : kill b (.mv f l) = x := by simpa [kill, killM, AV.cells] using hx
      exact ⟨.mv f l, rfl, fun le h => by rw [← hx']; exact h.kill le⟩
    | succ j => simp [kill, killM, AV.cells] at hx
  | sl b' i n =>
    have hc : (kill b (.sl b' i n)).cells = [kill b (.sl b' i n)] := killL_cells (e := .sl b' i n) rfl
    refine ⟨by rw [hc]; rfl, fun j x hx => ?_⟩
    rw [hc] at hx
    cases j with
    | zero => exact ⟨_, rfl, fun le h => by simp at hx; rw [← hx]; exact h.kill le⟩
    | succ j => simp at hx
  | ptr b' i n =>
    have hc : (kill b (.ptr b' i n)).cells = [kill b (.ptr b' i n)] := killL_cells (e := .ptr b' i n) rfl
    refine ⟨by rw [hc]; rfl, fun j x hx => ?_⟩
    rw [hc] at hx
    cases j with
    | zero => exact ⟨_, rfl, fun le h => by simp at hx; rw [← hx]; exact h.kill le⟩
    | succ j => simp at hx
  | mp b' =>
    have hc : (kill b (.mp b')).cells = [kill b (.mp b')] := killL_cells (e := .mp b') rfl
    refine ⟨by rw [hc]; rfl, fun j x hx => ?_⟩
    rw [hc] at hx
    cases j with
    | zero => exact ⟨_, rfl, fun le h => by simp at hx; rw [← hx]; exact h.kill le⟩
    | succ j => simp at hx
  | any | bool | int | flt | cpx | str | nils | ro | rop | nilp | nilf | nili | rom =>
    refine ⟨rfl, fun j x hx => ?_⟩
    cases j with
    | zero => exact ⟨_, rfl, fun le h => by simp [kill, killM, Abs.killL, AV.cells] at hx; rw [← hx]; exact h.kill le⟩
    | succ j => simp [kill, killM, Abs.killL, AV.cells] at hx
def killB (b : Nat) (q : Blk) : Blk := { q with els := q.els.map (kill b) }
theorem move_block {E E0 : Env P} {hp hp0 : List Blk} (H : HRel E hp) (F : Fr E0 hp0 E hp) {b : Nat} {blk : Blk} (hb : hp[b]? = some blk) (hl : blk.live = true) (hn0 : hp0.length ≤ b) (els' : List AV)
    (E' : Env P) (hN : E'.N = E.N) (hF : E'.F = E.F) (hwd : E'.wd = E.wd) (hρ : ∀ b', b' ≠ b → E'.ρ b' = E.ρ b')
    (hsize : E.w.heap.size ≤ E'.w.heap.size) (hos : E'.w.os = E.w.os) (htape : E'.w.tape = E.w.tape) (hout : E'.w.output = E.w.output)
    (hget : ∀ c, c < E.w.heap.size → c ≠ E.ρ b → E'.w.heap[c]? = E.w.heap[c]?) (hcsz : ∀ c, csz E.w c ≤ csz E'.w c)
    (hplace : E'.ρ b = E.ρ b ∨ E'.ρ b = E.w.heap.size) (new : Array Value) (hnew : Row E'.w.heap[E'.ρ b]? new blk.ty) (hw0 : 0 < blk.w) (hel : EA E blk.w els' new) :
    HRel E' ((hp.set b { blk with els := els' }).map (killB b)) ∧ Fr E0 hp0 E' ((hp.set b { blk with els := els' }).map (killB b)) ∧ E.leBut b E' := by
  have hbl : b < hp.length := (List.getElem?_eq_some_iff.1 hb).1
  have hbound : ∀ (b : Nat) bk, hp[b]? = some bk → bk.live = true → E.ρ b < E.w.heap.size := fun b bk hb hlv => by
    exact (H.holds b bk hb hlv).lt
  have hnF : ¬ E.F (E.ρ b) := H.apart b blk hb hl
  have le : E.leBut b E' := ⟨fun c h => by rw [hF]; exact h, fun c hc => hget c (H.old c hc) (fun e => hnF (e ▸ hc)), by rw [hN]; exact Nat.le_refl _, fun b' _ h => hρ b' h, fun _ _ => by rw [hwd], hcsz⟩
  have hat : ∀ (b' : Nat) bk, ((hp.set b { blk with els := els' }).map (killB b))[b']? = some bk → (b' ≠ b ∧ ∃ q, hp[b']? = some q ∧ bk = killB b q) ∨ (b' = b ∧ bk = killB b { blk with els := els' }) := by
    intro b' bk h
    obtain ⟨q, h1, h2, _⟩ := mem_map_get h
    by_cases hbb : b' = b
    · subst hbb
      rw [List.getElem?_set_self hbl] at h1
      exact .inr ⟨rfl, by rw [← h2]; congr 1; simpa using h1.symm⟩
    · rw [List.getElem?_set_ne (fun e => hbb e.symm)] at h1
      exact .inl ⟨hbb, q, h1, h2.symm⟩
  have lv : ∀ (b' : Nat) bk, ((hp.set b { blk with els := els' }).map (killB b))[b']? = some bk → bk.live = true → ∃ bk0, hp[b']? = some bk0 ∧ bk0.live = true := by
    intro b' bk h1 h2
    rcases hat b' bk h1 with ⟨_, q, h3, h4⟩ | ⟨h3, _⟩
    · subst h4; exact ⟨q, h3, h2⟩
    · subst h3; exact ⟨blk, hb, hl⟩
  have kEA : ∀ {w : Nat} {els : List AV} {cs : Array Value}, EA E w els cs → EA E' w (els.map (kill b)) cs := by
    intro w els cs h i e he
    obtain ⟨e0, h1, rfl⟩ := get_map_kill he
    obtain ⟨k1, k2⟩ := kill_cells b e0
    refine ⟨k1.trans (h i e0 h1).1, fun j x hx => ?_⟩
    obtain ⟨x0, h3, h4⟩ := k2 j x hx
    obtain ⟨v, h5, h6⟩ := (h i e0 h1).2 j x0 h3
    exact ⟨v, h5, h4 le h6⟩
  refine ⟨⟨by rw [hN, H.N]; simp, ?_, ?_, ?_, ?_, ?_, H.laid.keep le.F le.cell⟩, ?_, le⟩
  · intro b' bk h
    rw [hwd]
    rcases hat b' bk h with ⟨_, q, h3, h4⟩ | ⟨h3, h4⟩
    · subst h4; exact H.wd b' q h3
    · subst h3; subst h4; exact H.wd b' blk hb
  · intro b' bk h hlv
    rcases hat b' bk h with ⟨h2, q, h3, h4⟩ | ⟨h3, h4⟩
    · subst h4
      refine (H.holds b' q h3 hlv).turn ?_ (φ := kill b) (fun _ _ => rfl) fun e _ => ?_
      · rw [hρ b' h2, hget _ (hbound b' q h3 hlv) (fun e => h2 (H.inj b' b q blk h3 hlv hb hl e))]
      · obtain ⟨k1, k2⟩ := kill_cells b e
        exact ⟨k1, fun j x hx => by obtain ⟨x0, h3, h4⟩ := k2 j x hx; exact ⟨x0, h3, fun u hu => h4 le hu⟩⟩
    · subst h3; subst h4
      exact .of hw0 ⟨new, hnew, kEA hel⟩
  · intro b1 b2 bk1 bk2 h1 hl1 h2 hl2 he
    obtain ⟨q1, hq1, hq1l⟩ := lv b1 bk1 h1 hl1
    obtain ⟨q2, hq2, hq2l⟩ := lv b2 bk2 h2 hl2
    by_cases e1 : b1 = b <;> by_cases e2 : b2 = b
    · rw [e1, e2]
    · rw [e1, hρ b2 e2] at he
      rcases hplace with hp1 | hp1
      · rw [hp1] at he; rw [e1]; exact H.inj b b2 blk q2 hb hl hq2 hq2l he
      · rw [hp1] at he
        have := hbound b2 q2 hq2 hq2l
        omega
    · rw [e2, hρ b1 e1] at he
      rcases hplace with hp1 | hp1
      · rw [hp1] at he; rw [e2]; exact H.inj b1 b q1 blk hq1 hq1l hb hl he
      · rw [hp1] at he
        have := hbound b1 q1 hq1 hq1l
        omega
    · rw [hρ b1 e1, hρ b2 e2] at he
      exact H.inj b1 b2 q1 q2 hq1 hq1l hq2 hq2l he
  · intro b1 bk1 h1 hl1
    obtain ⟨q1, hq1, hq1l⟩ := lv b1 bk1 h1 hl1
    rw [hF]
    by_cases e1 : b1 = b
    · rw [e1]
      rcases hplace with hp1 | hp1
      · rw [hp1]; exact hnF
      · rw [hp1]; exact fun h => absurd (H.old _ h) (Nat.lt_irrefl _)
    · rw [hρ b1 e1]; exact H.apart b1 q1 hq1 hq1l
  · intro c hc
    rw [hF] at hc
    exact Nat.lt_of_lt_of_le (H.old c hc) hsize
  · have hbfresh : Place E0 hp0 (E.ρ b) := by
      rcases F.live b ⟨blk, hb, hl⟩ with ⟨h1, _⟩ | ⟨_, h2⟩
      · omega
      · exact h2
    exact {
      size := Nat.le_trans F.size hsize
      os := hos.trans F.os
      tape := htape.trans F.tape
      output := hout.trans F.output
      block := fun c hc hn => (hget c (Nat.lt_of_lt_of_le hc F.size) (fun e => by
        rcases hbfresh with h | ⟨b0, h0, e0⟩
        · omega
        · exact hn b0 h0 (e0.trans e.symm))).trans (F.block c hc hn)
      len := by simpa using F.len
      ρ := fun b' hb' => by rw [hρ b' (by omega)]; exact F.ρ b' hb'
      wd := fun b' hb' => by rw [hwd]; exact F.wd b' hb'
      F := fun c h => by rw [hF]; exact F.F c h
      F' := fun c h => by rw [hF] at h; exact F.F' c h
      live := fun b' ⟨bk, h1, h2⟩ => by
        obtain ⟨q, hq, hql⟩ := lv b' bk h1 h2
        by_cases e1 : b' = b
        · subst e1
          refine .inr ⟨hn0, ?_⟩
          rcases hplace with hp1 | hp1
          · rw [hp1]; exact hbfresh
          · rw [hp1]; exact .inl F.size
        · rw [hρ b' e1]; exact F.live b' ⟨q, hq, hql⟩
      csz := fun c => Nat.le_trans (F.csz c) (hcsz c) }
section
variable {P : Program}
theorem growBy_le (n : Nat) : ∀ (r c : Nat), c ≤ 2 * n + 192 → Builtin.growBy n r c ≤ 2 * n + 192
  | 0, c, h => h
  | r + 1, c, h => by
    unfold Builtin.growBy
    split
    · exact h
    · exact growBy_le n r _ (by omega)
theorem nextcap_le {n c : Nat} (h : c < n) : Builtin.nextslicecap n c ≤ 2 * n + 192 := by
  unfold Builtin.nextslicecap
  split
  · omega
  · split
    · omega
    · exact growBy_le n 4 c (by omega)
theorem run_grow {t t' e ty : TypeId} {d : TypeDesc} (hd : P.underlying t = some (.slice e)) (hd' : P.underlying t' = some d) (hni : ∀ k, d ≠ .int k) (hpos : 0 < P.cellsOf e) (z : Value) (hz : ∀ w, (zeroValue e).run P w = .ok z w)
    (w : World) (base : Option Addr) (sLen sCap n : Nat) (v : Value) (A B : Array Value) (hn : Builtin.lenOf v = pure n) (hlt : sCap < sLen + n) (hf : fits (sLen + n) (P.bytesOf e))
    (hA : ∀ w', Same w w' → (Builtin.firstCells (P.cellsOf e) sLen (.slice base sLen sCap)).run P w' = .ok A w') (hB : ∀ w', Same w w' → (Builtin.firstCells (P.cellsOf e) n v).run P w' = .ok B w') :
    ∃ cap w', sLen + n ≤ cap ∧ cap ≤ maxLen ∧ (Builtin.append_ #[t, t'] ty #[.slice base sLen sCap, v]).run P w = .ok (.slice (some ⟨w.heap.size, 0, none⟩) (sLen + n) cap) w' ∧
      Same { w with heap := w.heap.push (.cells (A ++ B ++ Builtin.zeroCells z.cells (cap - (sLen + n))) e) } w' := by
  obtain ⟨i, hi, his, hib⟩ := info_pos hpos
  have hti : ∀ w : World, (typeInfo e).run P w = .ok i w := fun w => by simp [typeInfo, hi, Result.andThen]
  have hmi : (match d with | .int _ => true | _ => false) = false := by cases d <;> first | rfl | exact absurd rfl (hni _)
  obtain ⟨hf1, hf2, hf3⟩ := hf
  have hneed : sLen + n ≤ 70368744177664 := by
    have := Nat.mul_le_mul_left (sLen + n) hf2
    omega
  have hnc : Builtin.nextslicecap (sLen + n) sCap * i.bytes ≤ 281474976710656 := by
    rw [← hib]
    have h1 := Nat.mul_le_mul_right (P.bytesOf e) (nextcap_le hlt)
    rw [Nat.add_mul, Nat.mul_assoc] at h1
    have h2 : 192 * P.bytesOf e ≤ 192 * 1048576 := Nat.mul_le_mul_left _ hf3
    omega
  let q : Question := .appendCap (sLen + n) sCap e
  refine ⟨q.cut (w.tape w.drawn q), { w with drawn := w.drawn + 1, heap := w.heap.push (.cells (A ++ B ++ Builtin.zeroCells z.cells (q.cut (w.tape w.drawn q) - (sLen + n))) e) }, ?_, ?_, ?_, ⟨rfl, rfl, rfl, rfl⟩⟩
  · show sLen + n ≤ (sLen + n) + _ % _
    omega
  · show (sLen + n) + (w.tape w.drawn q) % (2 ^ 63 - (sLen + n)) ≤ maxLen
    have : (w.tape w.drawn q) % (2 ^ 63 - (sLen + n)) < 2 ^ 63 - (sLen + n) := Nat.mod_lt _ (by omega)
    unfold maxLen
    omega
  · have hch : (choose (Question.appendCap (sLen + n) sCap e)).run P w = .ok (q.cut (w.tape w.drawn q)) { w with drawn := w.drawn + 1 } := by rw [run_choose]; rfl
    have hs1 : Same w { w with drawn := w.drawn + 1 } := Same.drew _ _
    have c1 : ¬ sLen + n ≤ sCap := by omega
    have c2 : ¬ (((sLen + n : Nat) : Int) > IntKind.i64.max ∧ (False ∨ i.bytes = 0)) := by
      have e : IntKind.i64.max = 9223372036854775807 := rfl
      rw [e]; omega
    have c3 : ¬ Builtin.nextslicecap (sLen + n) sCap * i.bytes > 2 ^ 48 := by omega
    simp only [Builtin.append_, List.getElem?_toArray, List.getElem?_cons_zero, List.getElem?_cons_succ, Sem.run_bind, run_underlying' hd, Result.andThen_ok, run_sizeOf_pos hpos, run_underlying' hd', hmi, Sem.run_pure, hn, Bool.false_eq_true, if_false, c1, hti, c2, c3, Bool.not_false, if_true, hch, run_askRoom, hA _ hs1, hB _ hs1, hz, newRow, run_newObj]
theorem run_growInt {t t' e ty : TypeId} {kd kx : IntKind} (hd : P.underlying t = some (.slice e)) (hd' : P.underlying t' = some (.int kd)) (hpos : 0 < P.cellsOf e) (z : Value) (hz : ∀ w, (zeroValue e).run P w = .ok z w)
    (w : World) (base : Option Addr) (n : Nat) (hn0 : 0 < n) (hf : fits n (P.bytesOf e)) :
    ∃ cap w', n ≤ cap ∧ cap ≤ maxLen ∧ (Builtin.append_ #[t, t'] ty #[.slice base 0 0, .int kx n]).run P w = .ok (.slice (some ⟨w.heap.size, 0, none⟩) n cap) w' ∧
      Same { w with heap := w.heap.push (.cells (Builtin.zeroCells z.cells n ++ Builtin.zeroCells z.cells (cap - n)) e) } w' := by
  obtain ⟨i, hi, his, hib⟩ := info_pos hpos
  have hti : ∀ w : World, (typeInfo e).run P w = .ok i w := fun w => by simp [typeInfo, hi, Result.andThen]
  obtain ⟨hf1, hf2, hf3⟩ := hf
  have hneed : n ≤ 70368744177664 := by
    have := Nat.mul_le_mul_left n hf2
    omega
  have hnc : Builtin.nextslicecap n 0 * i.bytes ≤ 281474976710656 := by
    rw [← hib]
    have h1 := Nat.mul_le_mul_right (P.bytesOf e) (nextcap_le (n := n) (c := 0) (by omega))
    rw [Nat.add_mul, Nat.mul_assoc] at h1
    have h2 : 192 * P.bytesOf e ≤ 192 * 1048576 := Nat.mul_le_mul_left _ hf3
    omega
  let q : Question := .appendCap n 0 e
  refine ⟨q.cut (w.tape w.drawn q), { w with drawn := w.drawn + 1, heap := w.heap.push (.cells (Builtin.zeroCells z.cells n ++ Builtin.zeroCells z.cells (q.cut (w.tape w.drawn q) - n)) e) }, ?_, ?_, ?_, ⟨rfl, rfl, rfl, rfl⟩⟩
  · show n ≤ n + _ % _
    omega
  · show n + (w.tape w.drawn q) % (2 ^ 63 - n) ≤ maxLen
    have : (w.tape w.drawn q) % (2 ^ 63 - n) < 2 ^ 63 - n := Nat.mod_lt _ (by omega)
    unfold maxLen
    omega
  · have hch : (choose (Question.appendCap n 0 e)).run P w = .ok (q.cut (w.tape w.drawn q)) { w with drawn := w.drawn + 1 } := by rw [run_choose]; rfl
    have c0 : IntKind.i64.wrap (n : Int) = n := IntWalk.i64_in _ (by omega)
    have c00 : ¬ ((n : Int) < 0) := by omega
    have c01 : ¬ ((n : Int) * (i.bytes : Int) > 2 ^ 48) := by
      have h1 : ((n * i.bytes : Nat) : Int) = (n : Int) * (i.bytes : Int) := Int.natCast_mul _ _
      rw [← h1, ← hib]
      omega
    have c1 : ¬ n ≤ 0 := by omega
    have c2 : ¬ ((n : Int) > IntKind.i64.max ∧ (True ∨ i.bytes = 0)) := by
      have e : IntKind.i64.max = 9223372036854775807 := rfl
      rw [e]; omega
    have c3 : ¬ Builtin.nextslicecap n 0 * i.bytes > 2 ^ 48 := by omega
    have c4 : ¬ n * P.cellsOf e = 0 := by
      intro h
      rcases Nat.mul_eq_zero.1 h with h | h <;> omega
    have hA : ∀ w', (Builtin.firstCells (P.cellsOf e) 0 (.slice base 0 0)).run P w' = .ok #[] w' := fun w' => by
      cases base with
      | none => rfl
      | some a => simp [Builtin.firstCells, loadCells, loadCellsFrom]
    simp only [Builtin.append_, List.getElem?_toArray, List.getElem?_cons_zero, List.getElem?_cons_succ, Sem.run_bind, run_underlying' hd, Result.andThen_ok, run_sizeOf_pos hpos, run_underlying' hd', Sem.run_pure, asInt, asIntOf, if_true, c0, c00, hti, c01, if_false, Int.toNat_natCast, Nat.zero_add, c1, c2, c3, c4, Bool.not_true, Bool.false_eq_true, hch, run_askRoom, hA, hz, newRow, run_newObj, Array.empty_append]
theorem run_room {t t' e ty : TypeId} {d : TypeDesc} (hd : P.underlying t = some (.slice e)) (hd' : P.underlying t' = some d) (hni : ∀ k, d ≠ .int k) (hpos : 0 < P.cellsOf e)
    (w : World) (base : Option Addr) (sLen sCap n : Nat) (v : Value) (B : Array Value) (hn : Builtin.lenOf v = pure n) (hle : sLen + n ≤ sCap)
    (hB : (Builtin.firstCells (P.cellsOf e) n v).run P w = .ok B w) (w' : World) (hst : ∀ a, base = some a → (storeCells (a.add (sLen * P.cellsOf e)) B.toList).run P w = .ok () w') (hno : base = none → w' = w) :
    (Builtin.append_ #[t, t'] ty #[.slice base sLen sCap, v]).run P w = .ok (.slice base (sLen + n) sCap) w' := by
  have hmi : (match d with | .int _ => true | _ => false) = false := by cases d <;> first | rfl | exact absurd rfl (hni _)
  cases base with
  | none =>
    rw [hno rfl]
    simp only [Builtin.append_, List.getElem?_toArray, List.getElem?_cons_zero, List.getElem?_cons_succ, Sem.run_bind, run_underlying' hd, Result.andThen_ok, run_sizeOf_pos hpos, run_underlying' hd', hmi, Sem.run_pure, hn, Bool.false_eq_true, if_false, hle, Bool.not_false, if_true, hB]
  | some a =>
    simp only [Builtin.append_, List.getElem?_toArray, List.getElem?_cons_zero, List.getElem?_cons_succ, Sem.run_bind, run_underlying' hd, Result.andThen_ok, run_sizeOf_pos hpos, run_underlying' hd', hmi, Sem.run_pure, hn, Bool.false_eq_true, if_false, hle, Bool.not_false, if_true, hB, hst a rfl]
theorem EA.append {E : Env P} {w : Nat} {xs ys : List AV} {A B C : Array Value} (hA : EA E w xs A) (hAs : A.size = xs.length * w) (hB : EA E w ys B) (hBs : B.size = ys.length * w) : EA E w (xs ++ ys) (A ++ B ++ C) := by
  intro i e he
  rw [List.getElem?_append] at he
  split at he
  · rename_i hi
    refine ⟨(hA i e he).1, fun j x hx => ?_⟩
    obtain ⟨v, h1, h2⟩ := (hA i e he).2 j x hx
    have hlt := (Array.getElem?_eq_some_iff.1 h1).1
    refine ⟨v, ?_, h2⟩
    rw [Array.append_assoc, Array.getElem?_append_left hlt]
    exact h1
  · rename_i hi
    refine ⟨(hB _ e he).1, fun j x hx => ?_⟩
    obtain ⟨v, h1, h2⟩ := (hB _ e he).2 j x hx
    have hlt := (Array.getElem?_eq_some_iff.1 h1).1
    refine ⟨v, ?_, h2⟩
    have hge : xs.length ≤ i := by omega
    have hmul : i * w = xs.length * w + (i - xs.length) * w := by rw [← Nat.add_mul]; congr 1; omega
    rw [Array.getElem?_append_left (by simp; omega), Array.getElem?_append_right (by omega), hAs]
    rw [show i * w + j - xs.length * w = (i - xs.length) * w + j by omega]
    exact h1
theorem EA.extend {E : Env P} {w : Nat} {xs ys : List AV} {cur : Array Value} {B : Array Value} (hA : EA E w xs cur) (hB : EA E w ys B) (hBs : B.size = ys.length * w) (hfit : xs.length * w + B.toList.length ≤ cur.size) :
    EA E w (xs ++ ys) (cur.toList.take (xs.length * w) ++ B.toList ++ cur.toList.drop (xs.length * w + B.toList.length)).toArray := by
  intro i e he
  rw [List.getElem?_append] at he
  split at he
  · rename_i hi
    refine ⟨(hA i e he).1, fun j x hx => ?_⟩
    obtain ⟨v, h1, h2⟩ := (hA i e he).2 j x hx
    refine ⟨v, ?_, h2⟩
    have hj : j < w := by rw [← (hA i e he).1]; exact (List.getElem?_eq_some_iff.1 hx).1
    have := Nat.mul_le_mul_right w hi
    rw [Nat.succ_mul] at this
    rw [splice_get _ _ _ hfit, if_neg (by omega)]
    exact h1
  · rename_i hi
    refine ⟨(hB _ e he).1, fun j x hx => ?_⟩
    obtain ⟨v, h1, h2⟩ := (hB _ e he).2 j x hx
    have hlt := (Array.getElem?_eq_some_iff.1 h1).1
    refine ⟨v, ?_, h2⟩
    have hmul : i * w = xs.length * w + (i - xs.length) * w := by rw [← Nat.add_mul]; congr 1; omega
    have hBl : B.toList.length = B.size := Array.length_toList
    rw [splice_get _ _ _ hfit, if_pos (by omega)]
    rw [show i * w + j - xs.length * w = (i - xs.length) * w + j by omega]
    simpa using h1
theorem appendA_sound {E E0 : Env P} {hp hp0 : List Blk} (H : HRel E hp) (F : Fr E0 hp0 E hp) {t t' ty : TypeId} (hni : notInt P (some t')) {s x : AV} {u v : Value} (hs : RV E s u) (hx : RV E x v) {k : AV → List Blk → Option Nat → Prop}
    (h : appendA P hp0.length t hp s x k) : ∃ z w', (Builtin.append_ #[t, t'] ty #[u, v]).run P E.w = .ok z w' ∧ OpPost E E0 hp0 k z w' := by
  obtain ⟨d, hd', hnid⟩ : ∃ d, P.underlying t' = some d ∧ ∀ k, d ≠ .int k := by
    unfold notInt at hni
    simp only [Option.bind_some] at hni
    cases hu : P.underlying t' with
    | none => simp [hu] at hni
    | some d => exact ⟨d, rfl, fun k e => by subst e; simp [hu] at hni⟩
  unfold appendA at h
  split at h
  · rename_i e hd
    obtain ⟨hz, hzw, h⟩ := h
    obtain ⟨z, hz1, hz2⟩ := zero_run hz
    have hzr : RV E (zeroOf P e) z := by rw [hz2]; exact RV_ofV E z
    have hzs : z.cells.size = P.cellsOf e := by rw [← (hzr.not_agg hz).1]; exact hzw
    split at h
    · -- nothing yet
      by_cases hpos : 0 < P.cellsOf e
      case neg =>
        exfalso
        unfold readSl at h
        split at h
        · exact hpos h.2.1
        · exact hpos h.2.1
        · split at h
          · exact hpos h.2.2.2.1
          · exact h
        · exact hpos h.2.1
        · exact h
      case pos =>
      obtain ⟨ys, ⟨hall, _, hfit, hk⟩, hsrc⟩ := src_sound h hpos
      obtain ⟨hln, B, hB, hB2, hB3, hB4⟩ := hsrc hall E v H hx
      cases hs with
      | nils a0 =>
        obtain ⟨hk1, hk2⟩ := hk
        by_cases hy : ys = []
        · subst hy
          have hBn : B.toList = [] := by
            have : B.size = 0 := by simpa using hB3
            simpa using Array.eq_empty_of_size_eq_zero this
          refine ⟨.slice a0 0 0, E.w, run_room hd hd' hnid hpos E.w a0 0 0 0 _ B hln (Nat.le_refl _) (hB E.w (Same.refl _)) E.w (fun a _ => by rw [hBn]; rfl) (fun _ => rfl), ?_⟩
          exact ⟨E, .nils, hp, none, rfl, hk1 rfl, .nils _, H, F, fun a u h => h⟩
        · have hlen : 0 < ys.length := List.length_pos_iff.2 hy
          have hA : ∀ w', Same E.w w' → (Builtin.firstCells (P.cellsOf e) 0 (.slice a0 0 0)).run P w' = .ok #[] w' := fun w' _ => by
            cases a0 with
            | none => rfl
            | some a => simp [Builtin.firstCells, loadCells, loadCellsFrom]
          obtain ⟨ncap, w', c1, c2, c3, c4⟩ := run_grow (ty := ty) hd hd' hnid hpos z hz1 E.w a0 0 0 ys.length _ #[] B hln (by omega) (by simpa using hfit) hA hB
          refine ⟨_, w', c3, ?_⟩
          simp only [Nat.zero_add] at c1 c4 ⊢
          have hk2' := hk2 (by cases ys <;> simp at hy ⊢)
          refine OpPost.block H F { ty := e, w := P.cellsOf e, els := ys } _ rfl w' c4 hpos ?_ hk2' fun E' h1 h2 h3 h4 => ?_
          · have := EA.append (C := Builtin.zeroCells z.cells (ncap - ys.length)) (xs := []) (A := #[]) (fun i e he => by simp at he) (by simp) hB2 hB3
            simpa using this
          · rw [← h1]
            refine .sl hp.length 0 ys.length 0 ncap h3 (fun _ => by simp) c1 c2 (fun _ => ?_) (by rw [h2]; exact hpos)
            rw [h1, h2, h4]
            simp only [Builtin.zeroCells, Array.size_append, Array.size_map, Array.size_range, hB3, hzs, List.size_toArray, List.length_nil, Nat.zero_add]
            rw [← Nat.add_mul]
            exact Nat.mul_le_mul_right _ (by omega)
    · rename_i b i n
      split at h
      · rename_i blk hb
        obtain ⟨hn0, hl, hty, rfl, hn, hw, hpos, h⟩ := h
        obtain ⟨ys, ⟨hall, hfit, hk⟩, hsrc⟩ := src_sound h hpos
        obtain ⟨hln, B, hB, hB2, hB3, hB4⟩ := hsrc hall E v H hx
        have hw0 : 0 < blk.w := by rw [hw]; exact hpos
        obtain ⟨cur, hcur1, hcur2⟩ := (H.holds b blk hb hl).cells hw0
        have hcurE : EA E blk.w blk.els cur := hcur2
        have hbN : b < E.N := by rw [H.N]; exact (List.getElem?_eq_some_iff.1 hb).1
        have hwd := H.wd b blk hb
        have hs' := hs
        cases hs with
        | sl b i n off cap _ ho hcap hmax hroom hwE =>
          by_cases hle : n + ys.length ≤ cap
          · -- it fits
            by_cases hm : ys.length = 0
            · have hy : ys = [] := List.eq_nil_of_length_eq_zero hm
              subst hy
              have hBn : B.toList = [] := by
                have : B.size = 0 := by simpa using hB3
                simpa using Array.eq_empty_of_size_eq_zero this
              have hmv := move_block H F hb hl hn0 (blk.els ++ []) E rfl rfl rfl (fun _ _ => rfl) (Nat.le_refl _) rfl rfl rfl (fun _ _ _ => rfl) (fun _ => Nat.le_refl _) (.inl rfl) cur hcur1 hw0 (by simpa using hcurE)
              refine ⟨_, E.w, run_room hd hd' hnid hpos E.w _ n cap 0 _ B hln hle (hB E.w (Same.refl _)) E.w (fun a _ => by rw [hBn]; rfl) (fun _ => rfl), ?_⟩
              refine ⟨E, _, _, some b, rfl, hk, ?_, hmv.1, hmv.2.1, fun a u hr => hr.kill hmv.2.2⟩
              exact hs'
            · have hc0 : 0 < cap := by omega
              have hoff := ho hc0
              simp only [Nat.zero_mul] at hoff
              subst hoff
              have hr := hroom hc0
              simp only [Nat.zero_add] at hr
              have hcurR := hcur1
              obtain ⟨fr, hcur1, hfr⟩ := hcur1
              have hcs : csz E.w (E.ρ b) = cur.size := by simp [csz, hcur1]
              rw [hcs, hwd, hw] at hr
              have hBl : B.toList.length = B.size := Array.length_toList
              have hfits : n * P.cellsOf e + B.toList.length ≤ cur.size := by
                rw [hBl, hB3, ← Nat.add_mul]
                exact Nat.le_trans (Nat.mul_le_mul_right _ hle) hr
              have hst := run_storeCells_row P (E.ρ b) (n * P.cellsOf e) blk.ty B.toList 0 cur E.w hcurR (by simpa using hfits) hB4
              simp only [Nat.add_zero] at hst
              have hnl : n = blk.els.length := hn
              have hel : EA E blk.w (blk.els ++ ys) (cur.toList.take (n * P.cellsOf e) ++ B.toList ++ cur.toList.drop (n * P.cellsOf e + B.toList.length)).toArray := by
                rw [hw] at hcurE ⊢
                rw [hnl] at hfits ⊢
                exact EA.extend hcurE hB2 hB3 hfits
              have hszn := splice_size cur (n * P.cellsOf e) B.toList hfits
              have hget : ∀ c, (E.w.setRow (E.ρ b) (cur.toList.take (n * P.cellsOf e) ++ B.toList ++ cur.toList.drop (n * P.cellsOf e + B.toList.length)).toArray).heap[c]? = _ := fun c => setRow_get _ _ c _ _ _ _ hcur1
              have hcsz : ∀ c, csz E.w c ≤ csz (E.w.setRow (E.ρ b) (cur.toList.take (n * P.cellsOf e) ++ B.toList ++ cur.toList.drop (n * P.cellsOf e + B.toList.length)).toArray) c := fun c => by
                unfold csz
                rw [hget]
                by_cases hc : c = E.ρ b
                · subst hc; simp only [hcur1, if_true, hszn]; exact Nat.le_refl _
                · simp [hc]
              have hmv := move_block H F hb hl hn0 (blk.els ++ ys) (E.with (E.w.setRow (E.ρ b) (cur.toList.take (n * P.cellsOf e) ++ B.toList ++ cur.toList.drop (n * P.cellsOf e + B.toList.length)).toArray)) rfl rfl rfl (fun _ _ => rfl) (by simp [Env.with, World.setRow]) rfl rfl rfl
                (fun c hc hne => by show (World.setRow _ _ _).heap[c]? = _; rw [hget, if_neg hne]) hcsz (.inl rfl) _ ⟨fr, by show (World.setRow _ _ _).heap[E.ρ b]? = _; rw [hget, if_pos rfl], hszn ▸ hfr⟩ hw0 hel
              refine ⟨_, _, run_room hd hd' hnid hpos E.w _ n cap ys.length _ B hln hle (hB E.w (Same.refl _)) _ (fun a ha => by cases ha; rw [add_none, Nat.zero_add]; exact hst) (fun h => by cases h), ?_⟩
              refine ⟨_, _, _, some b, rfl, hk, ?_, hmv.1, hmv.2.1, fun a u hr => hr.kill hmv.2.2⟩
              refine .sl b 0 (n + ys.length) 0 cap hbN (fun _ => by simp) hle hmax (fun _ => ?_) hwE
              exact Nat.le_trans (hroom hc0) (hcsz _)
          · -- it grows
            have hlt : cap < n + ys.length := by omega
            obtain ⟨A, hA, hA2, hA3⟩ : ∃ A : Array Value, (∀ w', Same E.w w' → (Builtin.firstCells (P.cellsOf e) n (.slice (some ⟨E.ρ b, off, none⟩) n cap)).run P w' = .ok A w') ∧ EA E (P.cellsOf e) blk.els A ∧ A.size = n * P.cellsOf e := by
              by_cases hnz : n = 0
              · refine ⟨#[], fun w' _ => by subst hnz; simp [Builtin.firstCells, loadCells, loadCellsFrom], ?_, by simp [hnz]⟩
                intro i e he
                have : blk.els.length = 0 := by omega
                simp [List.eq_nil_of_length_eq_zero this] at he
              · have hoff : off = 0 := by have := ho (by omega); simpa using this
                subst hoff
                rw [hw] at hcurE
                have hfull : n * P.cellsOf e ≤ cur.size := by
                  have hlast : n - 1 < blk.els.length := by omega
                  obtain ⟨h1, h2⟩ := hcurE (n - 1) _ (List.getElem?_eq_getElem hlast)
                  have hj : P.cellsOf e - 1 < blk.els[n - 1].cells.length := by omega
                  obtain ⟨v0, hv0, _⟩ := h2 _ _ (List.getElem?_eq_getElem hj)
                  have := (Array.getElem?_eq_some_iff.1 hv0).1
                  have hmul : n * P.cellsOf e = (n - 1) * P.cellsOf e + P.cellsOf e := by rw [← Nat.succ_mul]; congr 1; omega
                  omega
                refine ⟨((List.range (n * P.cellsOf e)).map fun m => cur.getD m undef).toArray, fun w' hs => ?_, ?_, by simp⟩
                · simp only [Builtin.firstCells]
                  exact run_loadCells w' _ _ _ (fun m hm => by
                    rw [add_none, Nat.zero_add]
                    have : m < cur.size := by omega
                    rw [cell_of_heap (show w'.heap[E.ρ b]? = E.w.heap[E.ρ b]? by rw [hs.1]), hcur1.cell]
                    simp [this])
                · intro i e' he
                  refine ⟨(hcurE i e' he).1, fun j x hx => ?_⟩
                  obtain ⟨v0, h1, h2⟩ := (hcurE i e' he).2 j x hx
                  have hi : i < blk.els.length := (List.getElem?_eq_some_iff.1 he).1
                  have hj : j < P.cellsOf e := by rw [← (hcurE i e' he).1]; exact (List.getElem?_eq_some_iff.1 hx).1
                  have hlt' : i * P.cellsOf e + j < n * P.cellsOf e := by
                    have := Nat.mul_le_mul_right (P.cellsOf e) (show i + 1 ≤ n by omega)
                    rw [Nat.succ_mul] at this
                    omega
                  have hlt2 : i * P.cellsOf e + j < cur.size := by omega
                  refine ⟨v0, ?_, h2⟩
                  simp [hlt', hlt2] at h1 ⊢
                  exact h1
            obtain ⟨ncap, w', c1, c2, c3, c4⟩ := run_grow (ty := ty) hd hd' hnid hpos z hz1 E.w _ n cap ys.length _ A B hln hlt hfit hA hB
            obtain ⟨g1, g2, g3, g4⟩ := c4
            have hget : ∀ c, c < E.w.heap.size → w'.heap[c]? = E.w.heap[c]? := fun c hc => by rw [g1]; show (E.w.heap.push _)[c]? = _; rw [Array.getElem?_push_lt hc, Array.getElem?_eq_getElem hc]
            have hnew : w'.heap[E.w.heap.size]? = some (.cells (A ++ B ++ Builtin.zeroCells z.cells (ncap - (n + ys.length))) e (0, 0)) := by rw [g1]; show (E.w.heap.push _)[_]? = _; simp
            have hcsz : ∀ c, csz E.w c ≤ csz w' c := fun c => by
              have := csz_push E.w (.cells (A ++ B ++ Builtin.zeroCells z.cells (ncap - (n + ys.length))) e) c
              unfold csz at this ⊢
              rw [g1]; exact this
            let E' : Env P := { w := w', F := E.F, N := E.N, ρ := fun b' => if b' = b then E.w.heap.size else E.ρ b', wd := E.wd }
            have hEA : EA E blk.w (blk.els ++ ys) (A ++ B ++ Builtin.zeroCells z.cells (ncap - (n + ys.length))) := by
              rw [hw]
              exact EA.append hA2 (by rw [hA3, hn]) hB2 hB3
            have hmv := move_block H F hb hl hn0 (blk.els ++ ys) E' rfl rfl rfl (fun b' h => by simp [E', h]) (by show _ ≤ w'.heap.size; rw [g1]; simp) g2 g3 g4 (fun c hc _ => hget c hc) hcsz (.inr (by simp [E'])) _ (by simp only [E', if_true]; rw [hty]; exact Row.mk hnew) hw0 hEA
            refine ⟨_, w', c3, E', _, _, some b, rfl, hk, ?_, hmv.1, hmv.2.1, fun a u hr => hr.kill hmv.2.2⟩
            have hρb : E'.ρ b = E.w.heap.size := by simp [E']
            rw [← hρb]
            refine .sl b 0 (n + ys.length) 0 ncap hbN (fun _ => by simp) c1 c2 (fun _ => ?_) hwE
            rw [hρb]
            show (0 + ncap) * E.wd b ≤ csz w' E.w.heap.size
            simp only [csz, hnew, hwd, hw, Nat.zero_add, Builtin.zeroCells, Array.size_append, Array.size_map, Array.size_range, hA3, hB3, hzs]
            rw [← Nat.add_mul, ← Nat.add_mul]
            exact Nat.mul_le_mul_right _ (by omega)
      · exact h.elim
    · exact h.elim
  · exact h.elim
end
theorem growA_sound {E E0 : Env P} {hp hp0 : List Blk} (H : HRel E hp) (F : Fr E0 hp0 E hp) {t0 t1 : Option TypeId} {ts : Array TypeId} (h0 : ts[0]? = t0) (h1 : ts[1]? = t1) {ty : TypeId} {s : AV} {kx : IntKind} {n : Int} {u : Value} (hs : RV E s u) {k : AV → List Blk → Option Nat → Prop}
    (h : growA P t0 t1 hp s n k) : ∃ z w', (Builtin.append_ ts ty #[u, .int kx n]).run P E.w = .ok z w' ∧ OpPost E E0 hp0 k z w' := by
  unfold growA at h
  split at h
  · rename_i e kd hd hd'
    obtain ⟨t, rfl, hd⟩ := Option.bind_eq_some_iff.1 hd
    obtain ⟨t', rfl, hd'⟩ := Option.bind_eq_some_iff.1 hd'
    obtain ⟨hn, hf, hpos, hz, hzw, hk⟩ := h
    obtain ⟨m, rfl⟩ := Int.eq_ofNat_of_zero_le (show 0 ≤ n by omega)
    have hm : ((m : Int)).toNat = m := Int.toNat_natCast m
    simp only [Int.ofNat_eq_natCast, hm] at hn hf hk ⊢
    obtain ⟨z, hz1, hz2⟩ := zero_run hz
    have hzr : RV E (zeroOf P e) z := by rw [hz2]; exact RV_ofV E z
    have hzs : z.cells.size = P.cellsOf e := by rw [← (hzr.not_agg hz).1]; exact hzw
    cases hs with
    | nils a0 =>
      obtain ⟨ncap, w', c1, c2, c3, c4⟩ := run_growInt (ty := ty) (kx := kx) hd hd' hpos z hz1 E.w a0 m (by omega) hf
      have ea : (Builtin.append_ ts ty #[.slice a0 0 0, .int kx m]).run P E.w = (Builtin.append_ #[t, t'] ty #[.slice a0 0 0, .int kx m]).run P E.w := by
        simp only [Builtin.append_, h0, h1, List.getElem?_toArray, List.getElem?_cons_zero, List.getElem?_cons_succ]
      refine ⟨_, w', ea.trans c3, ?_⟩
      have hza := EA.zeros hz hzr (by omega) m
      rw [hzw] at hza
      have hzc : Builtin.zeroCells z.cells m = (Array.range (m * P.cellsOf e)).map (z.cells[· % z.cells.size]!) := by
        unfold Builtin.zeroCells
        rw [hzs]
      rw [← hzc] at hza
      refine OpPost.block H F { ty := e, w := P.cellsOf e, els := List.replicate m (zeroOf P e) } _ rfl w' c4 hpos ?_ hk fun E' h1 h2 h3 h4 => ?_
      · have := EA.append (C := Builtin.zeroCells z.cells (ncap - m)) (xs := []) (A := #[]) (fun i e he => by simp at he) (by simp) hza.1 (by rw [hza.2]; simp)
        simpa using this
      · rw [← h1]
        refine .sl hp.length 0 m 0 ncap h3 (fun _ => by simp) c1 c2 (fun _ => ?_) (by rw [h2]; exact hpos)
        rw [h1, h2, h4]
        simp only [Builtin.zeroCells, Array.size_append, Array.size_map, Array.size_range, hzs, Nat.zero_add]
        rw [← Nat.add_mul]
        exact Nat.mul_le_mul_right _ (by omega)
  · exact h.elim
end Go.Abs
namespace Go.Abs
open Go
variable {P : Program}
section
variable {P : Program}
theorem runs_of {o : Oper} {g : Operand → Value} {w : World} {s : Sem Value} (he : execOp g o = (do pure (Next.value (← s)) : Sem Next)) {post : Value → World → Prop} {v : Value} {w' : World} (hr : s.run P w = .ok v w') (hp : post v w') : Runs P o g w post := by
  unfold Runs
  rw [he]
  simp [hr, Result.andThen]
  exact hp
theorem Gets.mono {f : FuncId} {args : Array Value} {w : World} {R R' : Value → World → Prop} (h : Gets P f args w R) (hr : ∀ v w', R v w' → R' v w') : Gets P f args w R' := by
  rcases h with ⟨h1, h2⟩ | ⟨v, w', h1, h2⟩
  · exact .inl ⟨h1, h2.mono fun e w' ⟨v, he, h⟩ => ⟨v, he, hr _ _ h⟩⟩
  · exact .inr ⟨v, w', h1, hr _ _ h2⟩
theorem callFunc_go {f : FuncId} (h : isGo P f) (args : Array Value) (w : World) : (callFunc f args).run P w = .ok (.enter f args) w := by
  unfold isGo at h
  split at h
  · rename_i fn hf
    simp only [callFunc, Sem.run_bind, run_program, Result.andThen_ok, hf, h.2, h.1, Bool.false_eq_true, if_false, Sem.run_pure]
  · exact h.elim
theorem call_sound {E E0 : Env P} {hp hp0 : List Blk} (H : HRel E hp) (F : Fr E0 hp0 E hp) {o : Oper} {f : Operand → AV} {g : Operand → Value} (hr : ∀ x ∈ o.op.operands, RV E (f x) (g x)) {k : AV → List Blk → Option Nat → Prop} {c : Call} (ho : o.op = .call c) {gf : Operand} (hcl : c.callee = .value gf) {fid : FuncId} {caps : List AV} (hfn : f gf = .fn fid caps)
    (h : CallA P fid (c.args.toList.map f ++ caps) hp fun r hp' => k r hp' none) : Runs P o g E.w (OpPost E E0 hp0 k) := by
  have hcall := h
  have h1 := hr gf (by simp [ho, Op.operands, Call.operands, hcl]); rw [hfn] at h1
  generalize hgg : g gf = gg at h1
  cases h1 with
  | fn _ _ vs hl hc =>
    have hargs := hcall E (c.args.toList.map g ++ vs.toList) H (by simp [hl]) (fun i a v h1 h2 => by
      rw [List.getElem?_append] at h1 h2
      simp only [List.length_map] at h1 h2
      split at h1
      · rename_i hi
        rw [if_pos hi] at h2
        obtain ⟨x, e0, rfl, hm⟩ := mem_map_get h1
        obtain ⟨y, e1, rfl, _⟩ := mem_map_get h2
        rw [e0] at e1; cases e1
        exact hr x (by rw [ho]; simp only [Op.operands, Call.operands, Array.mem_append]; exact .inr (by simpa using hm))
      · rename_i hi
        rw [if_neg hi] at h2
        exact hc _ a v h1 (by simpa using h2))
    have e : (c.args.map g ++ vs : Array Value) = (c.args.toList.map g ++ vs.toList).toArray := by
      apply Array.ext'; simp
    have run : (execOp g o).run P E.w = (callFunc fid (c.args.toList.map g ++ vs.toList).toArray).run P E.w := by
      simp only [execOp, ho, resolve, hcl, hgg, Deferred.ofValue, Sem.run_bind, Sem.run_pure, Result.andThen_ok, invoke, Array.empty_append]
      rw [e]
    rcases hargs with ⟨hgo, hargs⟩ | ⟨v, w'', hrun, r, hp', E', hw, hQ, hrv, H', F'⟩
    · unfold Runs
      rw [run, callFunc_go hgo]
      refine hargs.mono fun e w'' ⟨v, he, r, hp', E', hw, hQ, hrv, H', F'⟩ => ?_
      exact ⟨v, he, E', r, hp', none, hw, hQ, hrv, H', F.trans F', fun a u hu => hu.mono (F'.le H H')⟩
    · unfold Runs
      rw [run, hrun]
      exact ⟨E', r, hp', none, hw, hQ, hrv, H', F.trans F', fun a u hu => hu.mono (F'.le H H')⟩
theorem call_soundM {E E0 : Env P} {hp hp0 : List Blk} (H : HRel E hp) (F : Fr E0 hp0 E hp) {o : Oper} {f : Operand → AV} {g : Operand → Value} (hr : ∀ x ∈ o.op.operands, RV E (f x) (g x)) {k : AV → List Blk → Option Nat → Prop} {c : Call} (ho : o.op = .call c) {gf : Operand} (hcl : c.callee = .value gf) {fid : FuncId} {caps : List AV} (hfn : f gf = .mv fid caps)
    (h : CallA P fid (caps ++ c.args.toList.map f) hp fun r hp' => k r hp' none) : Runs P o g E.w (OpPost E E0 hp0 k) := by
  have hcall := h
  have h1 := hr gf (by simp [ho, Op.operands, Call.operands, hcl]); rw [hfn] at h1
  generalize hgg : g gf = gg at h1
  cases h1 with
  | mv _ _ vs hl hc =>
    have hargs := hcall E (vs.toList ++ c.args.toList.map g) H (by simp [hl]) (fun i a v h1 h2 => by
      rw [List.getElem?_append] at h1 h2
      simp only [Array.length_toList] at h1 h2
      rw [hl] at h1
      split at h1
      · rename_i hi
        rw [if_pos hi] at h2
        exact hc _ a v h1 (by simpa using h2)
      · rename_i hi
        rw [if_neg hi] at h2
        obtain ⟨x, e0, rfl, hm⟩ := mem_map_get h1
        obtain ⟨y, e1, rfl, _⟩ := mem_map_get h2
        rw [e0] at e1; cases e1
        exact hr x (by rw [ho]; simp only [Op.operands, Call.operands, Array.mem_append]; exact .inr (by simpa using hm)))
    have e : (vs ++ c.args.map g : Array Value) = (vs.toList ++ c.args.toList.map g).toArray := by
      apply Array.ext'; simp
    have run : (execOp g o).run P E.w = (callFunc fid (vs.toList ++ c.args.toList.map g).toArray).run P E.w := by
      simp only [execOp, ho, resolve, hcl, hgg, Deferred.ofValue, Sem.run_bind, Sem.run_pure, Result.andThen_ok, invoke, Array.append_empty]
      rw [e]
    rcases hargs with ⟨hgo, hargs⟩ | ⟨v, w'', hrun, r, hp', E', hw, hQ, hrv, H', F'⟩
    · unfold Runs
      rw [run, callFunc_go hgo]
      refine hargs.mono fun e w'' ⟨v, he, r, hp', E', hw, hQ, hrv, H', F'⟩ => ?_
      exact ⟨v, he, E', r, hp', none, hw, hQ, hrv, H', F.trans F', fun a u hu => hu.mono (F'.le H H')⟩
    · unfold Runs
      rw [run, hrun]
      exact ⟨E', r, hp', none, hw, hQ, hrv, H', F.trans F', fun a u hu => hu.mono (F'.le H H')⟩
theorem append_sound {E E0 : Env P} {hp hp0 : List Blk} (H : HRel E hp) (F : Fr E0 hp0 E hp) {o : Oper} {f : Operand → AV} {g : Operand → Value} (hr : ∀ x ∈ o.op.operands, RV E (f x) (g x)) {k : AV → List Blk → Option Nat → Prop} {c : Call} (ho : o.op = .call c) (hcl : c.callee = .builtin .append) {s x : Operand} (hargs : c.args.toList = [s, x]) {t : TypeId} (ht : c.argTypes[0]? = some t)
    (hni : notInt P (c.argTypes[1]?)) (h : appendA P hp0.length t hp (f s) (f x) k) : Runs P o g E.w (OpPost E E0 hp0 k) := by
  cases ht' : c.argTypes[1]? with
  | none => rw [ht'] at hni; simp [notInt] at hni
  | some t' =>
    rw [ht'] at hni
    have hmem : ∀ y ∈ c.args.toList, RV E (f y) (g y) := fun y hy => hr y (by rw [ho]; simp only [Op.operands, Call.operands, Array.mem_append]; exact .inr (by simpa using hy))
    obtain ⟨z, w', h1, h2⟩ := appendA_sound (ty := o.type) H F hni (hmem s (by rw [hargs]; simp)) (hmem x (by rw [hargs]; simp)) h
    refine runs_of (s := Builtin.append_ c.argTypes o.type #[g s, g x]) ?_ ?_ h2
    · have e : c.args.map g = #[g s, g x] := by apply Array.ext'; simp [hargs]
      simp only [execOp, ho, resolve, hcl, e, pure_bind, invoke, Go.builtin]
    · rw [← h1]
      have ea : ∀ (a : Array TypeId), a[0]? = some t → a[1]? = some t' → (Builtin.append_ a o.type #[g s, g x]).run P E.w = (Builtin.append_ #[t, t'] o.type #[g s, g x]).run P E.w := by
        intro a a0 a1
        simp only [Builtin.append_, a0, a1, List.getElem?_toArray, List.getElem?_cons_zero, List.getElem?_cons_succ]
      exact ea _ ht ht'
theorem build_sound {E E0 : Env P} {hp hp0 : List Blk} (H : HRel E hp) (F : Fr E0 hp0 E hp) {o : Oper} {f : Operand → AV} {g : Operand → Value} (hr : ∀ x ∈ o.op.operands, RV E (f x) (g x)) {k : AV → List Blk → Option Nat → Prop} {t e : TypeId} {len : Nat} {parts : Array (Nat × Operand)} (ho : o.op = .buildSlice t len parts)
    (hd : P.underlying t = some (.slice e)) (hpos : 0 < P.cellsOf e) (hlen : len * P.cellsOf e ≤ 16777216) (hz : (zeroOf P e).solid = true) (hzw : (zeroOf P e).cells.length = P.cellsOf e)
    (h : setAll len (P.cellsOf e) (parts.toList.map fun p => (p.1, f p.2)) (List.replicate len (zeroOf P e)) fun els => k (.sl hp.length 0 len) (hp ++ [{ ty := e, w := P.cellsOf e, els := els }]) none) : Runs P o g E.w (OpPost E E0 hp0 k) := by
  have hvs : ∀ (i : Nat) (p : Nat × AV) (q : Nat × Value), (parts.toList.map fun p => (p.1, f p.2))[i]? = some p → (parts.map fun x => (x.1, g x.2)).toList[i]? = some q → q.1 = p.1 ∧ RV E p.2 q.2 := by
    intro i p q hp hq
    obtain ⟨p0, e0, rfl, hm⟩ := mem_map_get hp
    have hq' : (parts.toList.map fun x => (x.1, g x.2))[i]? = some q := by simpa using hq
    obtain ⟨q0, e1, rfl, _⟩ := mem_map_get hq'
    rw [e0] at e1; cases e1
    refine ⟨rfl, hr p0.2 ?_⟩
    rw [ho]
    show p0.2 ∈ ((parts.toList.map (·.2)).toArray)
    simp only [List.mem_toArray]
    exact List.mem_map_of_mem hm
  obtain ⟨v, w', h1, h2⟩ := buildSlice_sound (k := k) (parts := parts.toList.map fun p => (p.1, f p.2)) (vs := parts.map fun x => (x.1, g x.2)) H F hd hpos hlen hz hzw (by simp) hvs h
  have e : execOp g o = (do pure (Next.value (← Instr.buildSlice t len (parts.map fun x => (x.1, g x.2)))) : Sem Next) := by
    unfold execOp
    rw [ho]
  exact runs_of e h1 h2
theorem bytes_sound {E E0 : Env P} {hp hp0 : List Blk} (H : HRel E hp) (F : Fr E0 hp0 E hp) {src dst e : TypeId} {s : List UInt8} (hd : P.underlying dst = some (.slice e)) (hs : P.underlying src = some .string) (he : P.underlying e = some (.int .u8)) (hlen : s.length ≤ 70368744177664)
    {k : AV → List Blk → Option Nat → Prop} (hk : k (.sl hp.length 0 s.length) (hp ++ [{ ty := e, w := 1, els := byts s }]) none) :
    ∃ v w', (Go.convert src dst (.string ⟨s.toArray⟩)).run P E.w = .ok v w' ∧ OpPost E E0 hp0 k v w' := by
  have hsz : (⟨s.toArray⟩ : ByteArray).size = s.length := by simp [ByteArray.size]
  have hge := grownCap_ge E.w (⟨s.toArray⟩ : ByteArray).size 0 e
  have hle := grownCap_le_maxLen E.w (⟨s.toArray⟩ : ByteArray).size 0 e (by rw [hsz]; unfold maxLen; omega)
  refine ⟨_, _, run_bytes_of_string E.w src dst e ⟨s.toArray⟩ hs hd he, ?_⟩
  generalize grownCap E.w (⟨s.toArray⟩ : ByteArray).size 0 e = cap at hge hle
  rw [hsz] at hge
  have hrow : (bytesRow ⟨s.toArray⟩ cap).size = cap := by simp [bytesRow, hsz]; omega
  rw [hsz]
  refine OpPost.blockR H F { ty := e, w := 1, els := byts s } (bytesRow ⟨s.toArray⟩ cap) rfl ((bytesRow ⟨s.toArray⟩ cap).size, (bytesRow ⟨s.toArray⟩ cap).size + 1) (.inr (Nat.le_refl _)) (E.w.drew.alloc (.cells (bytesRow ⟨s.toArray⟩ cap) e ((bytesRow ⟨s.toArray⟩ cap).size, (bytesRow ⟨s.toArray⟩ cap).size + 1))) ⟨rfl, rfl, rfl, rfl⟩ Nat.one_pos (fun i a ha => ?_) hk fun E' h1 h2 h3 h4 => ?_
  · have hi : i < s.length := by have := (List.getElem?_eq_some_iff.1 ha).1; simpa [byts] using this
    have ea : a = .int .u8 (s[i].toNat : Int) := by rw [byts_get hi] at ha; exact (Option.some.inj ha).symm
    subst ea
    refine ⟨rfl, fun j x hx => ?_⟩
    have hj : j = 0 := by have := (List.getElem?_eq_some_iff.1 hx).1; simp [AV.cells] at this; exact this
    subst hj
    have hx' : x = .int .u8 (s[i].toNat : Int) := by simpa [AV.cells] using hx.symm
    subst hx'
    refine ⟨_, ?_, .int .u8 _⟩
    rw [Nat.mul_one, Nat.add_zero, bytesRow_at ⟨s.toArray⟩ cap i (by simpa using hi)]
    simp
  · rw [← h1]
    refine .sl hp.length 0 s.length 0 cap h3 (fun _ => by simp) hge hle (fun _ => ?_) (by rw [h2]; exact Nat.one_pos)
    rw [h1, h2, h4, hrow]; simp
theorem mark_sound {E E0 : Env P} {hp hp0 : List Blk} (H : HRel E hp) (F : Fr E0 hp0 E hp) {dst e : TypeId} {b i n : Nat} {u : Value} (hd : P.underlying dst = some (.slice e)) (he : P.underlying e = some (.int .u8)) (hb : (hp[b]?).map (·.live) = some true) (hu : RV E (.sl b i n) u)
    {k : AV → List Blk → Option Nat → Prop} (hk : k (.sl b i n) hp none) :
    ∃ v w', (Go.convert dst dst u).run P E.w = .ok v w' ∧ OpPost E E0 hp0 k v w' := by
  obtain ⟨blk, hb, hl⟩ := Option.map_eq_some_iff.1 hb
  have hu0 := hu
  cases hu with
  | sl _ _ _ off cap hbN ho hcap hmax hroom hwE =>
    have hwb : 0 < blk.w := H.wd b blk hb ▸ hwE
    obtain ⟨cs, hr, hels⟩ := (H.holds b blk hb hl).cells hwb
    have hrR := hr
    obtain ⟨fr, hc, hf⟩ := hr
    have hsh := hrR.shape
    have hlt := hrR.lt
    let fr' : Nat × Nat := if fr.1 == fr.2 then (cs.size, cs.size + 1) else (min fr.1 cs.size, max fr.2 (cs.size + 1))
    have hfr' : OkFr fr' cs.size := by
      show OkFr (if _ then _ else _) _
      split
      · exact .inr (Nat.le_refl _)
      · rename_i h
        rcases hf with h1 | h1
        · rw [h1] at h; simp at h
        · right; show cs.size ≤ min fr.1 cs.size; omega
    let w' : World := E.w.freeze ⟨E.ρ b, cs.size, none⟩ 1
    have hget : ∀ c, w'.heap[c]? = if c = E.ρ b then some (.cells cs blk.ty fr') else E.w.heap[c]? := by
      intro c
      show (World.freeze _ _ _).heap[c]? = _
      unfold World.freeze
      rw [if_neg (by decide)]
      simp only [Array.getElem?_modify]
      by_cases h : E.ρ b = c
      · subst h
        rw [if_pos rfl, if_pos rfl, hc]
        rfl
      · rw [if_neg h, if_neg (fun e => h e.symm)]
    have hsize : w'.heap.size = E.w.heap.size := by
      show (World.freeze _ _ _).heap.size = _
      unfold World.freeze
      rw [if_neg (by decide)]
      simp
    have run : (Go.convert dst dst (.slice (some ⟨E.ρ b, off, none⟩) n cap)).run P E.w = .ok (.slice (some ⟨E.ρ b, off, none⟩) n cap) w' := by
      simp [convert, run_underlying' hd, run_underlying' he, markStringish, hsh, Result.andThen, w']
    have hw0 : w'.os = E.w.os ∧ w'.tape = E.w.tape ∧ w'.output = E.w.output := by
      show (World.freeze _ _ _).os = _ ∧ (World.freeze _ _ _).tape = _ ∧ (World.freeze _ _ _).output = _
      unfold World.freeze
      rw [if_neg (by decide)]
      exact ⟨rfl, rfl, rfl⟩
    have key := write_blockW H F hb hl blk.els cs cs hrR rfl w' fr' hget hfr' hsize hw0.1 hw0.2.1 hw0.2.2 hwb hels
    rw [show hp.set b { blk with els := blk.els } = hp from by
      apply List.ext_getElem?
      intro j
      by_cases hj : b = j
      · subst hj
        rw [List.getElem?_set_self (List.getElem?_eq_some_iff.1 hb).1, hb]
      · rw [List.getElem?_set_ne hj]] at key
    exact ⟨_, w', run, E.with w', _, hp, none, rfl, hk, hu0.mono key.2.2, key.1, key.2.1, fun a u hu => hu.mono key.2.2⟩
theorem clear_sound {E E0 : Env P} {hp hp0 : List Blk} (H : HRel E hp) (F : Fr E0 hp0 E hp) {t ty : TypeId} {x : AV} {u : Value} (hu : RV E x u) {ts : Array TypeId} (ht : ts[0]? = some t) {k : AV → List Blk → Option Nat → Prop}
    (h : clearA P t hp x fun hp' => k (.tup []) hp' none) :
    ∃ v w', (Builtin.clear_ ts ty #[u]).run P E.w = .ok v w' ∧ OpPost E E0 hp0 k v w' := by
  unfold clearA at h
  split at h
  · rename_i e b i n hd
    split at h
    · rename_i blk hb
      obtain ⟨hl, hn, hpos, hz, hzw, hw, hin, hk⟩ := h
      have hu0 := hu
      cases hu with
      | sl _ _ _ off cap hbN ho hcap hmax hroom hwE =>
        have hwb : 0 < blk.w := H.wd b blk hb ▸ hwE
        obtain ⟨cur, h1, h2⟩ := (H.holds b blk hb hl).cells hwb
        have hwd := H.wd b blk hb
        have hoff : off = i * blk.w := by rw [← hwd]; exact ho (by omega)
        obtain ⟨z, hz1, hz2⟩ := zero_run hz
        have hzr : RV E (zeroOf P e) z := by rw [hz2]; exact RV_ofV E z
        have hza := EA.zeros hz hzr (by omega) n
        rw [hzw, ← hw] at hza
        obtain ⟨hzE, hzs⟩ := hza
        have hzsz : z.cells.size = blk.w := by rw [← (hzr.not_agg hz).1, hzw, hw]
        have hfit : (i + n) * blk.w ≤ cur.size := by
          have hlt : i + n - 1 < blk.els.length := by omega
          obtain ⟨hel, hec⟩ := h2 (i + n - 1) blk.els[i + n - 1] (List.getElem?_eq_getElem hlt)
          have hlast : blk.w - 1 < blk.els[i + n - 1].cells.length := by omega
          obtain ⟨v0, hv0, _⟩ := hec (blk.w - 1) _ (List.getElem?_eq_getElem hlast)
          have h3 := (Array.getElem?_eq_some_iff.1 hv0).1
          have h4 : (i + n) * blk.w = (i + n - 1) * blk.w + blk.w := by
            rw [← Nat.succ_mul]; congr 1; omega
          omega
        have hzc : Builtin.zeroCells z.cells n = (Array.range (n * blk.w)).map (z.cells[· % z.cells.size]!) := by
          unfold Builtin.zeroCells
          rw [hzsz]
        generalize hZ : Builtin.zeroCells z.cells n = Z at hzc
        rw [← hzc] at hzE hzs
        have hone : ∀ c ∈ Z.toList, c.oneCell' = true := by
          intro c hc
          obtain ⟨m, hm⟩ := List.getElem?_of_mem hc
          have hm' : Z[m]? = some c := by simpa using hm
          have hmlt : m < n * blk.w := by rw [← hzs]; exact (Array.getElem?_eq_some_iff.1 hm').1
          rw [hzc] at hm'
          have hzlt : m % z.cells.size < z.cells.size := Nat.mod_lt _ (by omega)
          have hm2 : z.cells[m % z.cells.size]? = some c := by
            simp only [Array.getElem?_map] at hm'
            rw [Array.getElem?_range, if_pos hmlt] at hm'
            simp only [Option.map_some, Option.some.injEq] at hm'
            rw [← hm']
            simp [hzlt]
          have hx2 : (zeroOf P e).cells[m % z.cells.size]? = some ((zeroOf P e).cells[m % z.cells.size]'(by rw [hzw, ← hw, ← hzsz]; exact hzlt)) := List.getElem?_eq_getElem _
          exact ((hzr.not_agg hz).2 _ _ c hx2 hm2).2.2
        have hsum : i * blk.w + n * blk.w ≤ cur.size := by rw [← Nat.add_mul]; exact hfit
        have hsplit : i * blk.w + Z.toList.length ≤ cur.size := by rw [Array.length_toList, hzs]; exact hsum
        have hst := run_storeCells_row P (E.ρ b) (i * blk.w) blk.ty Z.toList 0 cur E.w h1 (by simpa using hsplit) hone
        simp only [Nat.add_zero] at hst
        have run : (Builtin.clear_ ts ty #[.slice (some ⟨E.ρ b, off, none⟩) n cap]).run P E.w = .ok (.tuple #[]) (E.w.setRow (E.ρ b) (cur.toList.take (i * blk.w) ++ Z.toList ++ cur.toList.drop (i * blk.w + Z.toList.length)).toArray) := by
          obtain ⟨n', rfl⟩ : ∃ n', n = n' + 1 := ⟨n - 1, by omega⟩
          subst hoff
          simp only [Builtin.clear_, ht, List.getElem?_toArray, List.getElem?_cons_zero, Sem.run_bind, run_underlying' hd, Result.andThen_ok, hz1, hZ, hst, Sem.run_pure]
        refine ⟨_, _, run, ?_⟩
        obtain ⟨k1, k2, k3⟩ := write_block H F hb hl (blk.els.take i ++ List.replicate n (zeroOf P e) ++ blk.els.drop (i + n)) cur _ h1 (splice_size cur _ Z.toList hsplit) hwb (by
          intro i' a ha
          have old : ∀ i', blk.els[i']? = some a → (i' < i ∨ i + n ≤ i') → a.cells.length = blk.w ∧ ∀ (j : Nat) c, a.cells[j]? = some c → ∃ v, (cur.toList.take (i * blk.w) ++ Z.toList ++ cur.toList.drop (i * blk.w + Z.toList.length)).toArray[i' * blk.w + j]? = some v ∧ RV E c v := by
            intro i' he hii
            obtain ⟨h3, h4⟩ := h2 i' a he
            refine ⟨h3, fun m c hc => ?_⟩
            obtain ⟨v0, h5, h6⟩ := h4 m c hc
            refine ⟨v0, ?_, h6⟩
            have hm : m < blk.w := by rw [← h3]; exact (List.getElem?_eq_some_iff.1 hc).1
            rw [splice_get _ _ _ hsplit, if_neg ?_]
            · exact h5
            · rw [Array.length_toList, hzs]
              rcases hii with hlt | hgt
              · have := Nat.mul_le_mul_right blk.w hlt
                rw [Nat.succ_mul] at this
                omega
              · have := Nat.mul_le_mul_right blk.w hgt
                rw [Nat.add_mul] at this
                omega
          by_cases c1 : i' < i
          · rw [List.append_assoc, List.getElem?_append_left (by simp; omega), List.getElem?_take_of_lt c1] at ha
            exact old i' ha (.inl c1)
          · by_cases c2 : i' < i + n
            · rw [List.getElem?_append_left (by simp; omega), List.getElem?_append_right (by simp; omega)] at ha
              have hle : (blk.els.take i).length = i := by simp; omega
              rw [hle] at ha
              obtain ⟨h3, h4⟩ := hzE (i' - i) a ha
              refine ⟨h3, fun m c hc => ?_⟩
              obtain ⟨v0, h5, h6⟩ := h4 m c hc
              refine ⟨v0, ?_, h6⟩
              have hm : m < blk.w := by rw [← h3]; exact (List.getElem?_eq_some_iff.1 hc).1
              have e1 : i' * blk.w = i * blk.w + (i' - i) * blk.w := by rw [← Nat.add_mul]; congr 1; omega
              have e2 : (i' - i) * blk.w + m < n * blk.w := by
                have := Nat.mul_le_mul_right blk.w (show i' - i + 1 ≤ n by omega)
                rw [Nat.succ_mul] at this
                omega
              rw [splice_get _ _ _ hsplit, if_pos (by rw [Array.length_toList, hzs]; omega), show i' * blk.w + m - i * blk.w = (i' - i) * blk.w + m by omega]
              simpa using h5
            · rw [List.getElem?_append_right (by simp; omega)] at ha
              have hle : (blk.els.take i ++ List.replicate n (zeroOf P e)).length = i + n := by simp; omega
              rw [hle, List.getElem?_drop] at ha
              exact old i' (by rw [← ha]; congr 1; omega) (.inr (by omega)))
        exact ⟨_, .tup [], _, none, rfl, hk, .tup _ _ rfl (fun i a v h _ => by simp at h), k1, k2, fun a u hr => hr.mono k3⟩
    · exact h.elim
  · exact h.elim
def updP (n : Int) (x : Bool) (ps : List (Int × Bool)) : List (Int × Bool) :=
  if findE n (ps.map entA) < ps.length then ps.set (findE n (ps.map entA)) (n, x) else ps ++ [(n, x)]
theorem updE_ents (n : Int) (x : Bool) : ∀ ps : List (Int × Bool), updE n x (ps.map entA) = (updP n x ps).map entA
  | [] => rfl
  | p :: ps => by
    have ih := updE_ents n x ps
    unfold updP at ih ⊢
    rw [findE_cons]
    show (if n == p.1 then AV.agg [.int .i64 p.1, .bool x] :: ps.map entA else AV.agg [.int .i64 p.1, .bool p.2] :: updE n x (ps.map entA)) = _
    cases hp : (n == p.1) with
    | true => have := eq_of_beq hp; simp [entA, this]
    | false =>
      simp only [Bool.false_eq_true, if_false, ih, List.length_cons, Nat.add_lt_add_iff_right]
      by_cases hc : findE n (ps.map entA) < ps.length <;> simp [hc, entA]
theorem find_at (n : Int) : ∀ ps : List (Int × Bool), findE n (ps.map entA) < ps.length → ps[findE n (ps.map entA)]? = some (n, lookE n (ps.map entA))
  | [], h => by simp [findE] at h
  | p :: ps, h => by
    rw [findE_cons] at h ⊢
    rw [lookE_cons]
    cases hp : (n == p.1) with
    | true => have := eq_of_beq hp; simp [this]
    | false =>
      simp only [hp, Bool.false_eq_true, if_false, List.length_cons, Nat.add_lt_add_iff_right] at h ⊢
      simpa using find_at n ps h
theorem entsM_set (ps : List (Int × Bool)) (i : Nat) (q : Int × Bool) (f : MapEntry → MapEntry) (hf : ∀ p, ps[i]? = some p → f (entM (p, i)) = entM (q, i)) :
    (entsM ps 0).toArray.modify i f = (entsM (ps.set i q) 0).toArray := by
  apply Array.ext_getElem?
  intro j
  rw [Array.getElem?_modify]
  simp only [List.getElem?_toArray, entsM_get, Nat.zero_add]
  by_cases hj : i = j
  · subst hj
    rw [if_pos rfl, List.getElem?_set]
    cases hp : ps[i]? with
    | none =>
      have := List.getElem?_eq_none_iff.1 hp
      simp; omega
    | some p =>
      have := (List.getElem?_eq_some_iff.1 hp).1
      simp [this, hf p hp]
  · rw [if_neg hj, List.getElem?_set_ne hj]
theorem entsM_push (ps : List (Int × Bool)) (n : Int) (x : Bool) : (entsM ps 0).toArray.push { key := .int .i64 n, val := .bool x, born := ps.length } = (entsM (ps ++ [(n, x)]) 0).toArray := by
  simp [entsM, entM, List.zipIdx_append]
theorem run_setObj_at {w : World} {r : Nat} {o : Obj} {es : Array MapEntry} {c : Nat} (h : w.heap[r]? = some (.map es c)) : (setObj r o).run P w = .ok () { w with heap := w.heap.setIfInBounds r o } := by
  simp [setObj, Sem.run, h]
theorem keepKey (n : Int) (w : World) : (Instr.keyThatStays (.int .i64 n) (.int .i64 n)).run P w = .ok (.int .i64 n) w := by
  simp [Instr.keyThatStays, Instr.sameBits]
theorem mapUpdate_ents {t : TypeId} (ht : mapTy P t) {w : World} {r : Nat} {ps : List (Int × Bool)} (h : w.heap[r]? = some (.map (entsM ps 0).toArray ps.length)) (n : Int) (x : Bool) :
    (Instr.mapUpdate t (.map (some r)) (.int .i64 n) (.bool x)).run P w = .ok () { w with heap := w.heap.setIfInBounds r (.map (entsM (updP n x ps) 0).toArray (updP n x ps).length) } := by
  obtain ⟨kt, et, T⟩ := mapTy_of ht
  have hg : (getObj r).run P w = .ok (.map (entsM ps 0).toArray ps.length) w := by simp [getObj, Sem.run, h]
  unfold Instr.mapUpdate
  simp only [Sem.run_bind, run_underlying' T.ht, Result.andThen_ok, hg, Sem.run_pure, run_checkKey_int T.hk, run_findKey_ents T.hk]
  by_cases hc : findE n (ps.map entA) < ps.length
  · have hk : (((entsM ps 0).toArray[findE n (ps.map entA)]?).map (·.key)).getD (.int .i64 n) = .int .i64 n := by
      simp only [List.getElem?_toArray, entsM_get, find_at n ps hc]; rfl
    simp only [hc, if_true, hk, Sem.run_bind, keepKey, Result.andThen_ok, run_setObj_at h, updP, List.length_set]
    rw [entsM_set ps _ (n, x) _ fun p hp => by simp [entM]]
  · simp only [hc, if_false, run_setObj_at h, updP, entsM_push, List.length_append, List.length_cons, List.length_nil, Nat.zero_add]
theorem mapEntry_ents {t : TypeId} (ht : mapTy P t) {w : World} {r : Nat} {ps : List (Int × Bool)} (h : w.heap[r]? = some (.map (entsM ps 0).toArray ps.length)) (n : Int) :
    (Instr.mapEntry t (.map (some r)) (.int .i64 n)).run P w = .ok (.tuple #[.bool (lookE n (ps.map entA)), .int .i64 (findE n (ps.map entA) : Nat)])
      { w with heap := w.heap.setIfInBounds r (.map (entsM (updP n (lookE n (ps.map entA)) ps) 0).toArray (updP n (lookE n (ps.map entA)) ps).length) } := by
  obtain ⟨kt, et, T⟩ := mapTy_of ht
  have hg : (getObj r).run P w = .ok (.map (entsM ps 0).toArray ps.length) w := by simp [getObj, Sem.run, h]
  unfold Instr.mapEntry
  simp only [Sem.run_bind, run_underlying' T.ht, Result.andThen_ok, hg, Sem.run_pure, run_checkKey_int T.hk, run_findKey_ents T.hk]
  by_cases hc : findE n (ps.map entA) < ps.length
  · have hk : (((entsM ps 0).toArray[findE n (ps.map entA)]?).map (·.key)).getD (.int .i64 n) = .int .i64 n := by
      simp only [List.getElem?_toArray, entsM_get, find_at n ps hc]; rfl
    have hb : (((entsM ps 0).toArray[findE n (ps.map entA)]?).map (fun x => (x.born : Int))).getD 0 = (findE n (ps.map entA) : Nat) := by
      simp only [List.getElem?_toArray, entsM_get, find_at n ps hc, Nat.zero_add]; rfl
    simp only [hc, if_true, hk, Sem.run_bind, keepKey, Result.andThen_ok, run_setObj_at h, updP, List.length_set, Sem.run_pure, hb]
    rw [entsM_set ps _ (n, lookE n (ps.map entA)) _ fun p hp => by
      rw [find_at n ps hc] at hp
      cases hp
      simp [entM]]
    rfl
  · have hl := look_absent n ps hc
    have hf : findE n (ps.map entA) = ps.length := by have := findE_le n ps; omega
    simp only [hc, if_false, Sem.run_bind, T.zero_run, Result.andThen_ok, run_setObj_at h, updP, entsM_push, List.length_append, List.length_cons, List.length_nil, Nat.zero_add, hl, Sem.run_pure]
    rw [hf]; rfl
theorem setE_ents (i : Nat) (x : Bool) (ps : List (Int × Bool)) : setE i x (ps.map entA) = (ps[i]?).map fun p => (ps.set i (p.1, x)).map entA := by
  unfold setE
  rw [List.getElem?_map]
  cases h : ps[i]? with
  | none => rfl
  | some p =>
    simp only [Option.map_some, entA]
    rw [List.map_set]
    rfl
theorem entryStore_ents (t : TypeId) {w : World} {r : Nat} {ps : List (Int × Bool)} (h : w.heap[r]? = some (.map (entsM ps 0).toArray ps.length)) (i : Nat) (x : Bool) {p : Int × Bool} (hp : ps[i]? = some p) :
    (Instr.entryStore t (.map (some r)) (.int .i64 (i : Int)) (.bool x)).run P w = .ok () { w with heap := w.heap.setIfInBounds r (.map (entsM (ps.set i (p.1, x)) 0).toArray (ps.set i (p.1, x)).length) } := by
  have hg : (getObj r).run P w = .ok (.map (entsM ps 0).toArray ps.length) w := by simp [getObj, Sem.run, h]
  have hi : i < ps.length := (List.getElem?_eq_some_iff.1 hp).1
  have hfind : (entsM ps 0).toArray.findIdx? (fun e => (e.born : Int) == (i : Int)) = some i := by
    have hl : i < (entsM ps 0).length := by rw [entsM_len]; exact hi
    rw [List.findIdx?_toArray, List.findIdx?_eq_some_iff_getElem]
    refine ⟨hl, ?_, fun j hji => ?_⟩
    · have e := List.getElem?_eq_getElem hl
      rw [entsM_get, hp] at e
      have e' := Option.some.inj e
      rw [← e']; simp [entM]
    · have hlj : j < (entsM ps 0).length := by omega
      have e := List.getElem?_eq_getElem hlj
      rw [entsM_get] at e
      have hj : j < ps.length := by omega
      rw [List.getElem?_eq_getElem hj] at e
      have e' := Option.some.inj e
      rw [← e']
      simp [entM]; omega
  unfold Instr.entryStore
  simp only [Sem.run_bind, hg, Result.andThen_ok, asInt, asIntOf, Sem.run_pure, hfind, run_setObj_at h, List.length_set]
  rw [entsM_set ps i (p.1, x) _ fun q hq => by
    rw [hp] at hq
    cases hq
    simp [entM]]
theorem makeMap_sound {E E0 : Env P} {hp hp0 : List Blk} (H : HRel E hp) (F : Fr E0 hp0 E hp) (t : TypeId) {k : AV → List Blk → Option Nat → Prop} (hk : k (.mp hp.length) (hp ++ [{ ty := t, w := 0, els := [] }]) none) :
    ∃ v w', (Instr.makeMap t none).run P E.w = .ok v w' ∧ OpPost E E0 hp0 k v w' := by
  refine ⟨.map (some E.w.heap.size), { E.w with heap := E.w.heap.push (.map #[] 0) }, rfl, ?_⟩
  obtain ⟨E', h1, h2, h3, h4, h5, h6, h7, h8⟩ := new_obj H F { ty := t, w := 0, els := [] } (.map #[] 0) _ (Same.refl _) fun E' le hnew =>
    ⟨fun h => absurd h (Nat.lt_irrefl 0), fun _ => ⟨#[], hnew, rfl, fun i e m he _ => by simp at he⟩⟩
  refine ⟨E', _, _, none, h1, hk, ?_, h2, h3, fun a u hr => hr.mono h4⟩
  rw [← h5]
  exact .mp _ h7
theorem map_written {E E0 : Env P} {hp hp0 : List Blk} (H : HRel E hp) (F : Fr E0 hp0 E hp) {b : Nat} {blk : Blk} (hb : hp[b]? = some blk) (hl : blk.live = true) (hw : blk.w = 0) (ps : List (Int × Bool)) :
    HRel (E.with { E.w with heap := E.w.heap.setIfInBounds (E.ρ b) (.map (entsM ps 0).toArray ps.length) }) (hp.set b { blk with els := ps.map entA }) ∧
    Fr E0 hp0 (E.with { E.w with heap := E.w.heap.setIfInBounds (E.ρ b) (.map (entsM ps 0).toArray ps.length) }) (hp.set b { blk with els := ps.map entA }) ∧
    E.le (E.with { E.w with heap := E.w.heap.setIfInBounds (E.ρ b) (.map (entsM ps 0).toArray ps.length) }) := by
  have hlt := (H.holds b blk hb hl).lt
  obtain ⟨es, hes, _⟩ := (H.holds b blk hb hl).map hw
  refine write_obj H F hb hl _ (.map (entsM ps 0).toArray ps.length) _ (fun c => ?_) ?_ (by simp) rfl rfl rfl fun E' le hnew =>
    ⟨fun h => by simp [hw] at h, fun _ => MapAt.of_pairs hnew⟩
  · show (E.w.heap.setIfInBounds _ _)[c]? = _
    rw [Array.getElem?_setIfInBounds]
    by_cases h : c = E.ρ b
    · subst h; simp [hlt]
    · rw [if_neg (fun e => h e.symm), if_neg h]
  · unfold csz
    rw [hes]
    exact Nat.zero_le _
theorem opA_sound {E E0 : Env P} {hp hp0 : List Blk} (H : HRel E hp) (F : Fr E0 hp0 E hp) {o : Oper} {f : Operand → AV} {g : Operand → Value} (hr : ∀ x ∈ o.op.operands, RV E (f x) (g x)) (hcst : ∀ v, g (.const v) = v) {k : AV → List Blk → Option Nat → Prop}
    (h : opA P hp0.length o.op f hp k) : Runs P o g E.w (OpPost E E0 hp0 k) := by
  have quiet : quietA P o.op f hp (fun v => k v hp none) → Runs P o g E.w (OpPost E E0 hp0 k) := by
    intro h
    obtain ⟨av, hk, hq⟩ := quietA_sound h
    obtain ⟨v, w', h1, h2, h3⟩ := hq E g o rfl H hr hcst
    unfold Runs
    rw [h1]
    exact ⟨E.with w', av, hp, none, rfl, hk, h3.mono (Env.le_with h2), H.with h2, F.with h2, fun a u hu => hu.mono (Env.le_with h2)⟩
  unfold opA at h
  split at h
  · rename_i t ho
    obtain ⟨hz, hzl, hk⟩ := h
    obtain ⟨z, hz1, hz2⟩ := zero_run hz
    have hzr : RV E (zeroOf P t) z := by rw [hz2]; exact RV_ofV E z
    obtain ⟨v, w', h1, h2⟩ := box_sound (P := P) H F hz hzl hzr hk
    refine runs_of (s := Instr.alloc t true (.tuple #[])) (by simp [execOp, ho]) ?_ h2
    simp only [Instr.alloc, Sem.run_bind, hz1, Result.andThen_ok]
    simpa [Instr.box] using h1
  · rename_i t x ho
    obtain ⟨v, w', h1, h2⟩ := box_sound (P := P) H F h.1 h.2.1 (hr x (by simp [ho, Op.operands])) h.2.2
    exact runs_of (s := Instr.box t (g x)) (by simp [execOp, ho]) h1 h2
  · rename_i t len parts ho
    split at h
    · rename_i e hd
      obtain ⟨hpos, hlen, hz, hzw, h⟩ := h
      exact build_sound H F hr ho hd hpos hlen hz hzw h
    · exact h.elim
  · rename_i t a x ho
    obtain ⟨w', h1, h2⟩ := store_sound (P := P) H F (hr a (by simp [ho, Op.operands])) (hr x (by simp [ho, Op.operands])) h
    unfold Runs
    simp only [execOp, ho, Sem.run_bind, h1, Result.andThen_ok, Sem.run_pure]
    exact h2
  · rename_i t ho
    obtain ⟨v, w', h1, h2⟩ := makeMap_sound (P := P) H F t h
    exact runs_of (s := Instr.makeMap t none) (by simp [execOp, ho]) h1 h2
  · rename_i t m n x ho
    unfold putA at h
    split at h
    · rename_i b key v hm hn hx
      split at h
      · rename_i blk hb
        obtain ⟨hl, hw, ht, hk⟩ := h
        have h1 := hr m (by simp [ho, Op.operands]); rw [hm] at h1
        have h2 := hr n (by simp [ho, Op.operands]); rw [hn] at h2
        have h3 := hr x (by simp [ho, Op.operands]); rw [hx] at h3
        generalize hg1 : g m = g1 at h1
        generalize hg2 : g n = g2 at h2
        generalize hg3 : g x = g3 at h3
        cases h1; cases h2; cases h3
        obtain ⟨ps, e1, e2⟩ := ((H.holds b blk hb hl).map hw).pairs
        have run := mapUpdate_ents (P := P) ht e2 key v
        rw [e1, updE_ents] at hk
        obtain ⟨k1, k2, k3⟩ := map_written H F hb hl hw (updP key v ps)
        unfold Runs
        simp only [execOp, ho, Sem.run_bind, hg1, hg2, hg3, run, Result.andThen_ok, Sem.run_pure]
        exact ⟨_, .any, _, none, rfl, hk, .any _, k1, k2, fun a u hr => hr.mono k3⟩
      · exact h.elim
    · exact h.elim
  · rename_i t m n ho
    unfold entryA at h
    split at h
    · rename_i b key hm hn
      split at h
      · rename_i blk hb
        obtain ⟨hl, hw, ht, hk⟩ := h
        have h1 := hr m (by simp [ho, Op.operands]); rw [hm] at h1
        have h2 := hr n (by simp [ho, Op.operands]); rw [hn] at h2
        generalize hg1 : g m = g1 at h1
        generalize hg2 : g n = g2 at h2
        cases h1; cases h2
        obtain ⟨ps, e1, e2⟩ := ((H.holds b blk hb hl).map hw).pairs
        have run := mapEntry_ents (P := P) ht e2 key
        rw [e1, updE_ents] at hk
        obtain ⟨k1, k2, k3⟩ := map_written H F hb hl hw (updP key (lookE key (ps.map entA)) ps)
        refine runs_of (s := Instr.mapEntry t (.map (some (E.ρ b))) (.int .i64 key)) (by simp [execOp, ho, hg1, hg2]) run ?_
        refine ⟨_, _, _, none, rfl, hk, .tup _ _ rfl (fun i a v h1 h2 => ?_), k1, k2, fun a u hr => hr.mono k3⟩
        match i with
        | 0 => cases h1; cases h2; exact .bool _
        | 1 => cases h1; cases h2; exact .int _ _
        | i + 2 => simp at h1
      · exact h.elim
    · exact h.elim
  · rename_i t m s x ho
    unfold entrySetA at h
    split at h
    · rename_i b i v hm hs hx
      split at h
      · rename_i blk hb
        obtain ⟨hl, hw, hi, h⟩ := h
        have h1 := hr m (by simp [ho, Op.operands]); rw [hm] at h1
        have h2 := hr s (by simp [ho, Op.operands]); rw [hs] at h2
        have h3 := hr x (by simp [ho, Op.operands]); rw [hx] at h3
        generalize hg1 : g m = g1 at h1
        generalize hg2 : g s = g2 at h2
        generalize hg3 : g x = g3 at h3
        cases h1; cases h2; cases h3
        obtain ⟨ps, e1, e2⟩ := ((H.holds b blk hb hl).map hw).pairs
        rw [e1, setE_ents] at h
        cases hp : ps[i.toNat]? with
        | none => rw [hp] at h; exact h.elim
        | some p =>
          rw [hp] at h
          obtain ⟨m, rfl⟩ := Int.eq_ofNat_of_zero_le hi
          have run := entryStore_ents (P := P) t e2 m v hp
          obtain ⟨k1, k2, k3⟩ := map_written H F hb hl hw (ps.set m (p.1, v))
          unfold Runs
          simp only [execOp, ho, Sem.run_bind, hg1, hg2, hg3, Int.ofNat_eq_natCast, run, Result.andThen_ok, Sem.run_pure]
          exact ⟨_, .any, _, none, rfl, h, .any _, k1, k2, fun a u hr => hr.mono k3⟩
      · exact h.elim
    · exact h.elim
  · rename_i src dst x ho
    unfold convO at h
    split at h
    · rename_i e s hd hx
      obtain ⟨he, hs, hc, hlen, hk⟩ := h
      have h1 := hr x (by simp [ho, Op.operands]); rw [hx] at h1
      generalize hgx : g x = gx at h1
      cases h1
      obtain ⟨v, w', h2, h3⟩ := bytes_sound (P := P) H F hd hs he hlen hk
      exact runs_of (s := Go.convert src dst (.string ⟨s.toArray⟩)) (by simp [execOp, ho, hgx]) h2 h3
    · rename_i e b i n hd hx
      obtain ⟨he, hs, rfl, hb, hk⟩ := h
      have h1 := hr x (by simp [ho, Op.operands]); rw [hx] at h1
      obtain ⟨v, w', h2, h3⟩ := mark_sound (P := P) H F hd he hb h1 hk
      exact runs_of (s := Go.convert src src (g x)) (by simp [execOp, ho]) h2 h3
    · exact quiet (by rw [ho]; exact h)
  · rename_i t l c ho
    split at h
    · rename_i e kd n kd' m hd hl hc
      obtain ⟨rfl, h0, hmax, hb, hpos, hz, hzw, hk⟩ := h
      have h1 := hr l (by simp [ho, Op.operands]); rw [hl] at h1
      have h2 := hr c (by simp [ho, Op.operands]); rw [hc] at h2
      generalize hgl : g l = gl at h1
      generalize hgc : g c = gc at h2
      cases h1
      cases h2
      obtain ⟨v, w', h3, h4⟩ := makeSlice_sound (kd := kd) (kd' := kd') H F hd h0 hmax hb hpos hz hzw hk
      exact runs_of (s := Instr.makeSlice t (.int kd n) (.int kd' n)) (by simp [execOp, ho, hgl, hgc]) h3 h4
    · exact h.elim
  · rename_i c ho
    split at h
    · rename_i gf hcl
      split at h
      · rename_i fid caps hfn
        exact call_sound H F hr ho hcl hfn h
      · rename_i fid caps hfn
        exact call_soundM H F hr ho hcl hfn h
      · exact h.elim
    · rename_i hcl
      split at h
      · rename_i s x hargs
        have hmem : ∀ y ∈ c.args.toList, RV E (f y) (g y) := fun y hy => hr y (by rw [ho]; simp only [Op.operands, Call.operands, Array.mem_append]; exact .inr (by simpa using hy))
        split at h
        · rename_i kx n hx
          have hxr := hmem x (by rw [hargs]; simp)
          rw [hx] at hxr
          obtain ⟨z, w', h1, h2⟩ := growA_sound (ty := o.type) (kx := kx) H F (ts := c.argTypes) rfl rfl (hmem s (by rw [hargs]; simp)) h
          refine runs_of (s := Builtin.append_ c.argTypes o.type #[g s, .int kx n]) ?_ h1 h2
          have e : c.args.map g = #[g s, .int kx n] := by
            generalize hgx : g x = gx at hxr
            cases hxr
            apply Array.ext'; simp [hargs, hgx]
          simp only [execOp, ho, resolve, hcl, e, pure_bind, invoke, Go.builtin]
        · obtain ⟨hni, h⟩ := h
          split at h
          · rename_i t ht
            exact append_sound H F hr ho hcl hargs ht hni h
          · exact h.elim
      · exact h.elim
    · rename_i hcl
      split at h
      · rename_i x hargs
        split at h
        · rename_i t ht
          obtain ⟨v, w', h1, h2⟩ := clear_sound (P := P) (ty := o.type) H F (hr x (by rw [ho]; simp only [Op.operands, Call.operands, Array.mem_append]; exact .inr (by rw [← Array.mem_toList_iff, hargs]; simp))) ht h
          refine runs_of (s := Builtin.clear_ c.argTypes o.type #[g x]) ?_ h1 h2
          have e : c.args.map g = #[g x] := by apply Array.ext'; simp [hargs]
          simp only [execOp, ho, resolve, hcl, e, pure_bind, invoke, Go.builtin]
        · exact h.elim
      · exact h.elim
    · rename_i b hb hb2 hcl
      exact quiet (by rw [ho]; simp only [quietA, hcl]; exact h)
    · exact h.elim
  · exact quiet h
end
end Go.Abs
namespace Go.Abs
open Go
variable {P : Program}
structure SR (E0 : Env P) (hp0 : List Blk) (E : Env P) (st : St) (a : Act) : Prop where
  hr : HRel E st.hp
  fr : Fr E0 hp0 E st.hp
  len : st.tm.length = a.tmps.size
  tm : ∀ (i : Nat) v u, st.tm[i]? = some v → a.tmps[i]? = some u → RV E v u
  df : a.defers = []
theorem SR.slot {E0 : Env P} {hp0 : List Blk} {E : Env P} {st : St} {a : Act} (h : SR E0 hp0 E st a) (t : Nat) : RV E (st.tm.getD t .any) (a.tmps.getD t undef) := by
  by_cases ht : t < st.tm.length
  · have ht' : t < a.tmps.size := by rw [← h.len]; exact ht
    have := h.tm t st.tm[t] a.tmps[t] (List.getElem?_eq_getElem ht) (by simp [ht'])
    simpa [List.getD, ht, ht'] using this
  · have : st.tm.getD t .any = .any := by simp [List.getD, List.getElem?_eq_none (Nat.le_of_not_lt ht)]
    rw [this]; exact .any _
theorem SR.ev {E0 : Env P} {hp0 : List Blk} {E : Env P} {st : St} {a : Act} (h : SR E0 hp0 E st a) (x : Operand) : RV E (st.ev x) (a.eval x) := by
  cases x with
  | tmp t => exact h.slot t
  | const v => exact RV_ofV E v
  | global g => exact .any _
  | func f => exact .fn f [] #[] rfl (fun i a v h => by simp at h)
theorem SR.put {E0 : Env P} {hp0 : List Blk} {E : Env P} {st : St} {a : Act} (h : SR E0 hp0 E st a) (d : Option Tmp) {v : AV} {u : Value} (hv : RV E v u) : SR E0 hp0 E (st.put d v) (a.put d u) := by
  cases d with
  | none => exact h
  | some d =>
    refine ⟨h.hr, h.fr, by simpa [St.put, Act.put] using h.len, fun i v' u' h1 h2 => ?_, h.df⟩
    have h1' : (st.tm.set d v)[i]? = some v' := h1
    have h2' : (a.tmps.setIfInBounds d u)[i]? = some u' := h2
    by_cases hi : d = i
    · subst hi
      have hlt : d < st.tm.length := by have := (List.getElem?_eq_some_iff.1 h1').1; simpa using this
      have hlt' : d < a.tmps.size := by rw [← h.len]; exact hlt
      rw [List.getElem?_set_self hlt] at h1'
      simp [hlt'] at h2'
      cases h1'
      rw [← h2']; exact hv
    · rw [List.getElem?_set_ne hi] at h1'
      rw [Array.getElem?_setIfInBounds_ne hi] at h2'
      exact h.tm i v' u' h1' h2'
theorem SR.after {P : Program} {E0 : Env P} {hp0 : List Blk} {E : Env P} {st : St} {a : Act} (h : SR E0 hp0 E st a) {k : AV → List Blk → Option Nat → Prop} {v : Value} {w' : World} (hp : OpPost E E0 hp0 k v w') :
    ∃ E' av hp' kb, E'.w = w' ∧ k av hp' kb ∧ RV E' av v ∧ SR E0 hp0 E' (st.after hp' kb) a := by
  obtain ⟨E', av, hp', kb, hl⟩ := hp
  refine ⟨E', av, hp', kb, hl.w, hl.k, hl.rv, ?_⟩
  have hkeep := hl.keep
  cases kb with
  | none => exact ⟨hl.hr, hl.fr, h.len, fun i v u h1 h2 => hkeep v u (h.tm i v u h1 h2), h.df⟩
  | some b =>
    refine ⟨hl.hr, hl.fr, by simpa [St.after] using h.len, fun i v u h1 h2 => ?_, h.df⟩
    obtain ⟨v0, h3, rfl⟩ := get_map_kill (f := kill b) h1
    exact hkeep v0 u (h.tm i v0 u h3 h2)
theorem SR.bool {E0 : Env P} {hp0 : List Blk} {E : Env P} {st : St} {a : Act} (h : SR E0 hp0 E st a) {d : Nat} {c : Bool} (hd : st.tm.getD d .any = .bool c) : a.tmps[d]? = some (.bool c) ∧ st.put (some d) (.bool c) = st := by
  have hlt : d < st.tm.length := by
    apply Decidable.byContradiction
    intro hn
    simp [List.getD, List.getElem?_eq_none (Nat.le_of_not_lt hn)] at hd
  have hlt' : d < a.tmps.size := by rw [← h.len]; exact hlt
  have h1 : st.tm[d]? = some (.bool c) := by
    rw [List.getElem?_eq_getElem hlt]
    simp [List.getD, hlt] at hd
    rw [hd]
  have h2 := h.tm d _ a.tmps[d] h1 (by simp [hlt'])
  have h3 : a.tmps[d] = .bool c := by
    generalize hu : a.tmps[d] = u at h2
    cases h2; rfl
  refine ⟨by simp [hlt', h3], ?_⟩
  cases st with
  | mk tm hp =>
    simp only [St.put]
    congr 1
    apply List.ext_getElem?
    intro i
    by_cases hi : d = i
    · subst hi; rw [List.getElem?_set_self hlt, h1]
    · rw [List.getElem?_set_ne hi]
theorem SR.skipped {E0 : Env P} {hp0 : List Blk} {E : Env P} {st : St} {a : Act} (h : SR E0 hp0 E st a) {d : Nat} (hd : st.tm.getD d .any = .tup []) : a.tmps[d]? = some (.tuple #[]) := by
  have hlt : d < st.tm.length := by
    apply Decidable.byContradiction
    intro hn
    simp [List.getD, List.getElem?_eq_none (Nat.le_of_not_lt hn)] at hd
  have hlt' : d < a.tmps.size := by rw [← h.len]; exact hlt
  have h1 : st.tm[d]? = some (.tup []) := by
    rw [List.getElem?_eq_getElem hlt]
    simp [List.getD, hlt] at hd
    rw [hd]
  have h2 := h.tm d _ a.tmps[d] h1 (by simp [hlt'])
  have h3 : a.tmps[d] = .tuple #[] := by
    generalize hu : a.tmps[d] = u at h2
    cases h2 with
    | tup l vs hl _ => cases vs with | mk xs => cases xs with | nil => rfl | cons x xs => simp at hl
  simp [hlt', h3]
theorem RV.skip (E : Env P) : RV E (.tup []) undef := .tup [] #[] rfl (by simp)
section
variable {P : Program}
theorem runOps_sound {E0 : Env P} {hp0 : List Blk} (ops : List Oper) {Q : Exit → Act → World → Prop} : ∀ (l : List Oper) (st : St) (K : St → Prop), runOps P hp0.length ops l st K → ∀ (E : Env P) (a : Act), SR E0 hp0 E st a →
    (∀ E' st' a', SR E0 hp0 E' st' a' → K st' → Q .normal a' E'.w) → wpList P ops.toArray Q l a E.w
  | [], st, K, h, E, a, hs, hq => hq E st a hs h
  | o :: rest, st, K, h, E, a, hs, hq => by
    have step : ∀ (st : St), SR E0 hp0 E st a → opA P hp0.length o.op st.ev st.hp (fun v hp' kb => runOps P hp0.length ops rest ((st.after hp' kb).put o.dst v) K) →
        o.wp P a E.w (wpList P ops.toArray Q rest) Q := by
      intro st hs h
      have hr := opA_sound (P := P) hs.hr hs.fr (o := o) (g := a.eval) (fun x _ => hs.ev x) (fun _ => rfl) h
      refine hr.wp fun v w' hp => ?_
      obtain ⟨E', av, hp', kb, hw, hk, hrv, hs'⟩ := hs.after (P := P) hp
      subst hw
      exact runOps_sound ops rest _ K hk E' _ (hs'.put o.dst hrv) hq
    unfold runOps at h
    unfold wpList
    split at h
    · rename_i hg
      have hw : Region.wanted o (yielded ops.toArray a.tmps) = true := by simp [Region.wanted, hg]
      rw [if_pos hw]
      exact .inl (step st hs h)
    · rename_i j b hg
      split at h
      · rename_i d hd
        split at h
        · rename_i c hc
          obtain ⟨h1, h2⟩ := hs.bool hc
          have hy : yielded ops.toArray a.tmps j = some c := by
            have hd' : (ops[j]?).bind (·.dst) = some d := hd
            simp [yielded, hd', h1]
          by_cases hcb : c = b
          · subst hcb
            have hw : Region.wanted o (yielded ops.toArray a.tmps) = true := by simp [Region.wanted, hg, hy]
            rw [if_pos hw]
            have h' := h.1 (by simp)
            refine .inl (step (st.put (some d) (.bool c)) (by rw [h2]; exact hs) ?_)
            exact h'
          · have hw : ¬ Region.wanted o (yielded ops.toArray a.tmps) = true := by simp [Region.wanted, hg, hy, hcb]
            rw [if_neg hw]
            have hcb' : c = !b := by cases c <;> cases b <;> simp_all
            have h' := h.2 (by simp [hcb])
            rw [← hcb', h2] at h'
            exact runOps_sound ops rest _ K h' E _ (hs.put o.dst (RV.skip E)) hq
        · rename_i hc
          have hy : yielded ops.toArray a.tmps j = none := by
            have hd' : (ops[j]?).bind (·.dst) = some d := hd
            simp [yielded, hd', hs.skipped hc]
          have hw : ¬ Region.wanted o (yielded ops.toArray a.tmps) = true := by simp [Region.wanted, hg, hy]
          rw [if_neg hw]
          exact runOps_sound ops rest _ K h E _ (hs.put o.dst (RV.skip E)) hq
        · exact h.elim
      · exact h.elim
end
end Go.Abs
namespace Go.Abs
open Go
variable {P : Program}
section
variable {P : Program}
def wantedA (ops : List Oper) (o : Oper) (st : St) : Option Bool :=
  match o.guard with
  | none => some true
  | some (j, b) => match guardSlot ops j with
    | some d => match st.tm.getD d .any with
      | .bool c => some (c == b)
      | .tup [] => some false
      | _ => none
    | none => none
theorem SR.wanted {E0 : Env P} {hp0 : List Blk} {E : Env P} {st : St} {a : Act} (h : SR E0 hp0 E st a) {ops : List Oper} {o : Oper} {b : Bool} (hw : wantedA ops o st = some b) : Region.wanted o (yielded ops.toArray a.tmps) = b := by
  unfold wantedA at hw
  split at hw
  · rename_i hg; cases hw; simp [Region.wanted, hg]
  · rename_i j w hg
    split at hw
    · rename_i d hd
      split at hw
      · rename_i c hc
        obtain ⟨h1, h2⟩ := h.bool hc
        have hd' : (ops[j]?).bind (·.dst) = some d := hd
        have hy : yielded ops.toArray a.tmps j = some c := by simp [yielded, hd', h1]
        cases hw
        simp [Region.wanted, hg, hy]
      · rename_i hc
        have hd' : (ops[j]?).bind (·.dst) = some d := hd
        have hy : yielded ops.toArray a.tmps j = none := by simp [yielded, hd', h.skipped hc]
        cases hw
        simp [Region.wanted, hg, hy]
      · cases hw
    · cases hw
def Yields (P : Program) (o : Oper) (f : Operand → AV) (hp : List Blk) (v : AV) : Prop :=
  ∀ (E : Env P) (g : Operand → Value), HRel E hp → (∀ x ∈ o.op.operands, RV E (f x) (g x)) → (∀ v, g (.const v) = v) → Runs P o g E.w fun u w' => ∃ E', E'.w = w' ∧ RV E' v u ∧ HRel E' hp ∧ Fr E hp E' hp ∧ E.le E'
theorem Yields.congr {o : Oper} {f f' : Operand → AV} {hp : List Blk} {v : AV} (h : Yields P o f hp v) (he : ∀ x ∈ o.op.operands, f x = f' x) : Yields P o f' hp v :=
  fun E g H hr hcst => h E g H (fun x hx => by rw [he x hx]; exact hr x hx) hcst
theorem Yields.quiet {o : Oper} {f : Operand → AV} {hp : List Blk} {k : AV → Prop} (h : quietA P o.op f hp k) : ∃ v, k v ∧ Yields P o f hp v := by
  obtain ⟨av, hk, hq⟩ := quietA_sound h
  refine ⟨av, hk, fun E g H hr hcst => ?_⟩
  obtain ⟨v, w', h1, h2, h3⟩ := hq E g o rfl H hr hcst
  unfold Runs
  rw [h1]
  exact ⟨E.with w', rfl, h3.mono (Env.le_with h2), H.with h2, (Fr.refl E hp).with h2, Env.le_with h2⟩
theorem Yields.call {o : Oper} {f : Operand → AV} {hp : List Blk} {c : Call} (ho : o.op = .call c) {gf : Operand} (hcl : c.callee = .value gf) {fid : FuncId} {caps : List AV} (hfn : f gf = .fn fid caps) {r : AV}
    (h : CallA P fid (c.args.toList.map f ++ caps) hp fun r' hp' => r' = r ∧ hp' = hp) : Yields P o f hp r := by
  intro E g H hr hcst
  have := call_sound (P := P) H (Fr.refl E hp) hr (k := fun r' hp' kb => (r' = r ∧ hp' = hp) ∧ kb = none) ho hcl hfn (by
    exact fun E vs a b c => (h E vs a b c).mono fun v w' ⟨r', hp', E', h2, h3, h4⟩ => ⟨r', hp', E', h2, ⟨h3, rfl⟩, h4⟩)
  unfold Runs at this ⊢
  have conv : ∀ u w', OpPost E E hp (fun r' hp' kb => (r' = r ∧ hp' = hp) ∧ kb = none) u w' → ∃ E', E'.w = w' ∧ RV E' r u ∧ HRel E' hp ∧ Fr E hp E' hp ∧ E.le E' := by
    rintro u w' ⟨E', av, hp', kb, hl⟩
    obtain ⟨⟨rfl, rfl⟩, rfl⟩ := hl.k
    exact ⟨E', hl.w, hl.rv, hl.hr, hl.fr, hl.fr.le H hl.hr⟩
  split at this
  · exact conv _ _ this
  · exact conv _ _ this
  · exact this.mono fun e w'' ⟨v, he, hp⟩ => ⟨v, he, conv _ _ hp⟩
  · exact this.elim
theorem Yields.callM {o : Oper} {f : Operand → AV} {hp : List Blk} {c : Call} (ho : o.op = .call c) {gf : Operand} (hcl : c.callee = .value gf) {fid : FuncId} {caps : List AV} (hfn : f gf = .mv fid caps) {r : AV}
    (h : CallA P fid (caps ++ c.args.toList.map f) hp fun r' hp' => r' = r ∧ hp' = hp) : Yields P o f hp r := by
  intro E g H hr hcst
  have := call_soundM (P := P) H (Fr.refl E hp) hr (k := fun r' hp' kb => (r' = r ∧ hp' = hp) ∧ kb = none) ho hcl hfn (by
    exact fun E vs a b c => (h E vs a b c).mono fun v w' ⟨r', hp', E', h2, h3, h4⟩ => ⟨r', hp', E', h2, ⟨h3, rfl⟩, h4⟩)
  unfold Runs at this ⊢
  have conv : ∀ u w', OpPost E E hp (fun r' hp' kb => (r' = r ∧ hp' = hp) ∧ kb = none) u w' → ∃ E', E'.w = w' ∧ RV E' r u ∧ HRel E' hp ∧ Fr E hp E' hp ∧ E.le E' := by
    rintro u w' ⟨E', av, hp', kb, hl⟩
    obtain ⟨⟨rfl, rfl⟩, rfl⟩ := hl.k
    exact ⟨E', hl.w, hl.rv, hl.hr, hl.fr, hl.fr.le H hl.hr⟩
  split at this
  · exact conv _ _ this
  · exact conv _ _ this
  · exact this.mono fun e w'' ⟨v, he, hp⟩ => ⟨v, he, conv _ _ hp⟩
  · exact this.elim
def yA (P : Program) (ops : List Oper) (o : Oper) (st : St) (v : AV) : Prop :=
  (wantedA ops o st = some true ∧ Yields P o st.ev st.hp v) ∨ (wantedA ops o st = some false ∧ v = .tup [])
def stepA (P : Program) (n0 : Nat) (ops : List Oper) (ms : List Bool) (i : Nat) (K : St → Prop) (st : St) : Prop :=
  match ops[i]? with
  | none => K st
  | some o =>
    if ms.getD i true then (wantedA ops o st = some true ∧ ∃ k : AV → List Blk → Option Nat → Prop, opA P n0 o.op st.ev st.hp k ∧ ∀ v hp' kb, k v hp' kb → K ((st.after hp' kb).put o.dst v)) ∨ (wantedA ops o st = some false ∧ K (st.put o.dst (.tup [])))
    else ∃ v, yA P ops o st v ∧ K (st.put o.dst v)
def anyA (P : Program) (n0 : Nat) (ops : List Oper) (ms : List Bool) (K : St → Prop) : Nat → Array Bool → St → Prop
  | 0, listed, st => Region.ready .any ops.toArray listed = [] ∧ K st
  | fuel + 1, listed, st =>
    (Region.ready .any ops.toArray listed = [] → K st) ∧ ∀ i ∈ Region.ready .any ops.toArray listed, stepA P n0 ops ms i (anyA P n0 ops ms K fuel (listed.setIfInBounds i true)) st
theorem stepA_sound {E0 : Env P} {hp0 : List Blk} {ops : List Oper} {ms : List Bool} {Q : Exit → Act → World → Prop} {i : Nat} {K : St → Prop} {K' : Act → World → Prop} (hk : ∀ E st a, SR E0 hp0 E st a → K st → K' a E.w) {E : Env P} {st : St} {a : Act} (hs : SR E0 hp0 E st a)
    (h : stepA P hp0.length ops ms i K st) : wpOp P ops.toArray Q i K' a E.w := by
  unfold stepA at h
  unfold wpOp
  have hget : ops.toArray[i]? = ops[i]? := by simp
  rw [hget]
  split at h
  · rename_i hn; simp only [hn]; exact hk E st a hs h
  · rename_i o ho
    simp only [ho]
    have skip : wantedA ops o st = some false → K (st.put o.dst (.tup [])) → (if Region.wanted o (yielded ops.toArray a.tmps) = true then o.wp P a E.w K' Q ∨ o.asks P a E.w ∧ LetsOut Q else K' (a.put o.dst undef) E.w) := by
      intro hw h
      rw [if_neg (by rw [hs.wanted hw]; simp)]
      exact hk E _ _ (hs.put o.dst (RV.skip E)) h
    split at h
    · rcases h with ⟨hw, k, h, hkK⟩ | ⟨hw, h⟩
      · rw [if_pos (hs.wanted hw)]
        refine .inl ((opA_sound (P := P) hs.hr hs.fr (o := o) (g := a.eval) (fun x _ => hs.ev x) (fun _ => rfl) h).wp fun v w' hp => ?_)
        obtain ⟨E', av, hp', kb, hw, hkk, hrv, hs'⟩ := hs.after (P := P) hp
        subst hw
        exact hk E' _ _ (hs'.put o.dst hrv) (hkK _ _ _ hkk)
      · exact skip hw h
    · obtain ⟨v, hy, hK⟩ := h
      rcases hy with ⟨hw, hy⟩ | ⟨hw, rfl⟩
      · rw [if_pos (hs.wanted hw)]
        refine .inl ((hy E a.eval hs.hr (fun x _ => hs.ev x) (fun _ => rfl)).wp fun u w' ⟨E', hw', hrv, H', F', le⟩ => ?_)
        subst hw'
        exact hk E' _ _ (SR.put ⟨H', hs.fr.trans F', hs.len, fun i v u h1 h2 => (hs.tm i v u h1 h2).mono le, hs.df⟩ o.dst hrv) hK
      · exact skip hw hK
theorem anyA_sound {E0 : Env P} {hp0 : List Blk} {ops : List Oper} {ms : List Bool} {Q : Exit → Act → World → Prop} {K : St → Prop} (hk : ∀ E st a, SR E0 hp0 E st a → K st → Q .normal a E.w) : ∀ (fuel : Nat) (listed : Array Bool) (E : Env P) (st : St) (a : Act), SR E0 hp0 E st a →
    anyA P hp0.length ops ms K fuel listed st → wpAny P .any ops.toArray Q fuel listed a E.w
  | 0, _, E, st, a, hs, h => ⟨h.1, hk E st a hs h.2⟩
  | fuel + 1, listed, E, st, a, hs, h => ⟨fun h0 => hk E st a hs (h.1 h0), fun i hi => stepA_sound (K' := wpAny P .any ops.toArray Q fuel (listed.setIfInBounds i true)) (fun E st a hs h => anyA_sound hk fuel _ E st a hs h) hs (h.2 i hi)⟩
theorem St.ev_put {st : St} {d : Option Tmp} {v : AV} {x : Operand} (h : ∀ t, d = some t → x ≠ .tmp t) : (st.put d v).ev x = st.ev x := by
  cases d with
  | none => rfl
  | some t =>
    cases x with
    | tmp u =>
      have hne : t ≠ u := fun e => h t rfl (e ▸ rfl)
      simp [St.ev, St.put, List.getElem?_set_ne hne]
    | _ => rfl
theorem St.put_comm (st : St) {x y : Option Tmp} (v u : AV) (h : ∀ d, x = some d → y ≠ some d) : (st.put x v).put y u = (st.put y u).put x v := by
  cases x with
  | none => rfl
  | some d =>
    cases y with
    | none => rfl
    | some e =>
      have hne : d ≠ e := fun he => h d rfl (he ▸ rfl)
      simp [St.put, List.set_comm _ _ hne]
theorem wantedA_put {ops : List Oper} {o : Oper} {st : St} {d : Option Tmp} {v : AV} (h : ∀ t, d = some t → t ∉ o.looksAt ops.toArray) : wantedA ops o (st.put d v) = wantedA ops o st := by
  unfold wantedA
  split
  · rfl
  · rename_i j b hg
    split
    · rename_i s hs
      have : (st.put d v).tm.getD s .any = st.tm.getD s .any := by
        cases d with
        | none => rfl
        | some t =>
          have hne : t ≠ s := fun e => h t rfl (by
            subst e
            have hs' : (ops[j]?).bind (·.dst) = some t := hs
            simp [Oper.looksAt, hg, hs'])
          simp [St.put, List.getElem?_set_ne hne]
      rw [this]
    · rfl
theorem yA_put {ops : List Oper} {o : Oper} {st : St} {d : Option Tmp} {v u : AV} (h : ∀ t, d = some t → t ∉ o.looksAt ops.toArray) (hy : yA P ops o st v) : yA P ops o (st.put d u) v := by
  have hev : ∀ x ∈ o.op.operands, st.ev x = (st.put d u).ev x := fun x hx => (St.ev_put fun t ht e => h t ht (by
    subst e
    simp only [Oper.looksAt, List.mem_append, List.mem_filterMap]
    exact .inl ⟨.tmp t, by simpa using hx, rfl⟩)).symm
  have hhp : (st.put d u).hp = st.hp := by cases d <;> rfl
  rcases hy with ⟨hw, hy⟩ | ⟨hw, hv⟩
  · exact .inl ⟨by rw [wantedA_put h]; exact hw, by rw [hhp]; exact hy.congr hev⟩
  · exact .inr ⟨by rw [wantedA_put h]; exact hw, hv⟩
theorem yA_unput {ops : List Oper} {o : Oper} {st : St} {d : Option Tmp} {v u : AV} (h : ∀ t, d = some t → t ∉ o.looksAt ops.toArray) (hy : yA P ops o (st.put d u) v) : yA P ops o st v := by
  have hev : ∀ x ∈ o.op.operands, (st.put d u).ev x = st.ev x := fun x hx => St.ev_put fun t ht e => h t ht (by
    subst e
    simp only [Oper.looksAt, List.mem_append, List.mem_filterMap]
    exact .inl ⟨.tmp t, by simpa using hx, rfl⟩)
  have hhp : (st.put d u).hp = st.hp := by cases d <;> rfl
  rcases hy with ⟨hw, hy⟩ | ⟨hw, hv⟩
  · exact .inl ⟨by rw [← wantedA_put h]; exact hw, by rw [← hhp]; exact hy.congr hev⟩
  · exact .inr ⟨by rw [← wantedA_put h]; exact hw, hv⟩
def Waits (ops : List Oper) (listed : Array Bool) (i : Nat) (D : List Nat) : Prop :=
  ∀ j ∈ D, listed.getD j true = false ∧ ∃ oj, ops[j]? = some oj ∧ ∃ e ∈ oj.after, Region.binds .any e = true ∧ (e.on = i ∨ e.on ∈ D)
def Free (ops : List Oper) (ms : List Bool) (listed : Array Bool) (i : Nat) (oi : Oper) : Prop :=
  ∃ D : List Nat, Waits ops listed i D ∧ ∀ j oj, ops[j]? = some oj → j ≠ i → listed.getD j true = false → j ∉ D → (∀ e ∈ oj.after, Region.binds .any e = true → e.on ≠ i) → oi.apart ops.toArray oj = true ∧ ms.getD j true = false
theorem anyA_first {n0 : Nat} {ops : List Oper} {ms : List Bool} {K : St → Prop} {i : Nat} {oi : Oper} {v : AV} (hi : ops[i]? = some oi) (hm : ms.getD i true = false) :
    ∀ (fuel : Nat) (listed : Array Bool) (st : St), Free ops ms listed i oi → i ∈ Region.ready .any ops.toArray listed → yA P ops oi st v →
      anyA P n0 ops ms K fuel (listed.setIfInBounds i true) (st.put oi.dst v) → anyA P n0 ops ms K (fuel + 1) listed st := by
  have self : ∀ (fuel : Nat) (listed : Array Bool) (st : St), yA P ops oi st v → anyA P n0 ops ms K fuel (listed.setIfInBounds i true) (st.put oi.dst v) → stepA P n0 ops ms i (anyA P n0 ops ms K fuel (listed.setIfInBounds i true)) st := by
    intro fuel listed st hy H
    unfold stepA
    simp only [hi, hm, Bool.false_eq_true, if_false]
    exact ⟨v, hy, H⟩
  intro fuel
  induction fuel with
  | zero =>
    intro listed st _ hr hy H
    refine ⟨fun h => (by rw [h] at hr; cases hr), fun j hj => ?_⟩
    by_cases hji : j = i
    · subst hji; exact self 0 listed st hy H
    · have := ready_mono hj hji
      rw [H.1] at this
      cases this
  | succ fuel ih =>
    intro listed st hfree hr hy H
    refine ⟨fun h => (by rw [h] at hr; cases hr), fun j hj => ?_⟩
    by_cases hji : j = i
    · subst hji; exact self _ listed st hy H
    · have h1 := H.2 j (ready_mono hj hji)
      obtain ⟨hjun, oj, hoj, hall⟩ := mem_ready.1 hj
      have hoj' : ops[j]? = some oj := by simpa using hoj
      have hnot : ∀ e ∈ oj.after, Region.binds .any e = true → e.on ≠ i := fun e he hb heq => by
        have h1 := hall e he hb
        have h0 := (mem_ready.1 hr).1
        rw [heq] at h1
        rcases Nat.lt_or_ge i listed.size with h' | h'
        · simp [h'] at h0 h1; rw [h0] at h1; cases h1
        · simp [Array.getElem?_eq_none h'] at h1
      obtain ⟨D, hwait, hfree⟩ := hfree
      have hjD : j ∉ D := fun hD => by
        obtain ⟨_, oj', hoj'', e, he, hb, hc⟩ := hwait j hD
        have : oj' = oj := by rw [hoj'] at hoj''; cases hoj''; rfl
        subst this
        rcases hc with hc | hc
        · exact hnot e he hb hc
        · have h1 := hall e he hb
          have h0 := (hwait e.on hc).1
          rcases Nat.lt_or_ge e.on listed.size with h' | h'
          · simp [h'] at h0 h1; rw [h0] at h1; cases h1
          · simp [Array.getElem?_eq_none h'] at h1
      obtain ⟨hap, hmj⟩ := hfree j oj hoj' hji hjun hjD hnot
      obtain ⟨a1, a2, a3⟩ := Oper.apart_spec hap
      unfold stepA at h1 ⊢
      simp only [hoj', hmj, Bool.false_eq_true, if_false] at h1 ⊢
      obtain ⟨u, hu, hK⟩ := h1
      have hu' := yA_unput a1 hu
      refine ⟨u, hu', ?_⟩
      have hfree' : Free ops ms (listed.setIfInBounds j true) i oi := ⟨D, fun d hd => by
        have hne : j ≠ d := fun h => hjD (h ▸ hd)
        obtain ⟨w1, w2⟩ := hwait d hd
        exact ⟨by rw [getD_set_ne true hne]; exact w1, w2⟩, fun k ok hk hki hun hkD hno => by
        refine hfree k ok hk hki ?_ hkD hno
        by_cases hjk : j = k
        · subst hjk; exact hjun
        · rw [getD_set_ne true hjk] at hun; exact hun⟩
      refine ih (listed.setIfInBounds j true) (st.put oj.dst u) hfree' (ready_mono hr (Ne.symm hji)) (yA_put a3 hy) ?_
      rw [Array.setIfInBounds_comm _ _ hji, St.put_comm st u v (fun d hd he => a2 d he hd)]
      exact hK
theorem lateOk_spec {ops : List Oper} {listed : Array Bool} {k : Nat} {D : List Nat} (h : lateOk ops.toArray listed k D = true) : Waits ops listed k D := by
  intro j hj
  unfold lateOk at h
  have h1 := List.all_eq_true.1 h j hj
  simp only [Bool.and_eq_true, Bool.not_eq_true'] at h1
  obtain ⟨h1, h2⟩ := h1
  refine ⟨h1, ?_⟩
  split at h2
  · cases h2
  · rename_i oj hoj
    refine ⟨oj, by simpa using hoj, ?_⟩
    rw [Array.any_eq_true] at h2
    obtain ⟨m, hm, he⟩ := h2
    simp only [Bool.and_eq_true, Bool.or_eq_true, beq_iff_eq, List.contains_iff_mem] at he
    exact ⟨_, Array.getElem_mem hm, he.1, he.2⟩
theorem freeQ_spec {ops : List Oper} {ms : List Bool} {listed : Array Bool} {k : Nat} {o : Oper} (hk : ops[k]? = some o) (h : freeQ ops.toArray ms listed k = true) : Free ops ms listed k o := by
  unfold freeQ at h
  have hk' : ops.toArray[k]? = some o := by simpa using hk
  rw [hk'] at h
  simp only [Bool.and_eq_true] at h
  refine ⟨_, lateOk_spec h.1, ?_⟩
  have h := h.2
  intro j oj hoj hjk hun hD hno
  simp only [List.all_eq_true, List.mem_range] at h
  have hj : j < ops.toArray.size := by
    have := (List.getElem?_eq_some_iff.1 hoj).1
    simpa using this
  have h1 := h j hj
  have hoj' : ops.toArray[j]? = some oj := by simpa using hoj
  rw [hoj', hun] at h1
  have hjk' : (j == k) = false := by simpa using hjk
  have hD' : (lateOf ops.toArray listed k).contains j = false := by simpa using hD
  rw [hjk', hD'] at h1
  simp only [Bool.false_or, Bool.or_eq_true, Bool.and_eq_true] at h1
  rcases h1 with h1 | ⟨⟨h1, _⟩, h2⟩
  · exfalso
    rw [Array.any_eq_true] at h1
    obtain ⟨m, hm, he⟩ := h1
    simp only [Bool.and_eq_true, beq_iff_eq] at he
    exact hno _ (Array.getElem_mem hm) he.1 he.2
  · exact ⟨h1, by simpa using h2⟩
theorem runQ_fin {n0 : Nat} {ops : List Oper} {ms : List Bool} {rest : List Oper} {o : Oper} {st : St} {K : St → Prop} (hw : wantedA ops o st = some true)
    (h : match o.op with
      | .call { callee := .value g, args := args, argTypes := _ } => match st.ev g with
        | .fn fid caps => ∃ r, CallA P fid (args.toList.map st.ev ++ caps) st.hp (fun r' hp' => r' = r ∧ hp' = st.hp) ∧ runQ P n0 ops ms rest (st.put o.dst r) K
        | .mv fid first => ∃ r, CallA P fid (first ++ args.toList.map st.ev) st.hp (fun r' hp' => r' = r ∧ hp' = st.hp) ∧ runQ P n0 ops ms rest (st.put o.dst r) K
        | _ => False
      | op => isQuiet op = true ∧ quietA P op st.ev st.hp fun v => runQ P n0 ops ms rest (st.put o.dst v) K) : ∃ v, yA P ops o st v ∧ runQ P n0 ops ms rest (st.put o.dst v) K := by
  cases hop : o.op with
  | call c =>
    obtain ⟨callee, args, ts⟩ := c
    cases callee with
    | value g =>
      rw [hop] at h
      simp only [] at h
      split at h
      · rename_i fid caps hf
        obtain ⟨r, hc, hr⟩ := h
        exact ⟨r, .inl ⟨hw, Yields.call hop rfl hf hc⟩, hr⟩
      · rename_i fid caps hf
        obtain ⟨r, hc, hr⟩ := h
        exact ⟨r, .inl ⟨hw, Yields.callM hop rfl hf hc⟩, hr⟩
      · exact h.elim
    | invoke r m =>
      rw [hop] at h
      exact absurd h.1 (by simp [isQuiet])
    | builtin b =>
      rw [hop] at h
      obtain ⟨v, hk, hy⟩ := Yields.quiet (o := o) (by rw [hop]; exact h.2)
      exact ⟨v, .inl ⟨hw, hy⟩, hk⟩
  | _ =>
    rw [hop] at h
    obtain ⟨v, hk, hy⟩ := Yields.quiet (o := o) (by rw [hop]; exact h.2)
    exact ⟨v, .inl ⟨hw, hy⟩, hk⟩
theorem runQ_step {n0 : Nat} {ops : List Oper} {ms : List Bool} {rest : List Oper} {o : Oper} {st : St} {K : St → Prop} (h : runQ P n0 ops (false :: ms) (o :: rest) st K) (hs : ∀ d c, st.tm.getD d .any = .bool c → st.put (some d) (.bool c) = st) :
    ∃ v, yA P ops o st v ∧ runQ P n0 ops ms rest (st.put o.dst v) K := by
  unfold runQ at h
  simp only [] at h
  split at h
  · rename_i hg
    exact runQ_fin (by simp [wantedA, hg]) h
  · rename_i j b hg
    split at h
    · rename_i d hd
      split at h
      · rename_i c hc
        have hw : wantedA ops o st = some (c == b) := by simp only [wantedA, hg, hd, hc]
        by_cases hcb : c = b
        · subst hcb
          have h' := h.1 (by simp)
          rw [hs d c hc] at h'
          exact runQ_fin (by rw [hw]; simp) h'
        · have hcb' : c = !b := by cases c <;> cases b <;> simp_all
          have h' := h.2 (by simp [hcb])
          rw [← hcb', hs d c hc] at h'
          exact ⟨.tup [], .inr ⟨by rw [hw]; simp [hcb], rfl⟩, h'⟩
      · rename_i hc
        have hw : wantedA ops o st = some false := by simp only [wantedA, hg, hd, hc]
        exact ⟨.tup [], .inr ⟨hw, rfl⟩, h⟩
      · exact h.elim
    · exact h.elim
theorem runQ_stepT {n0 : Nat} {ops : List Oper} {ms : List Bool} {rest : List Oper} {o : Oper} {st : St} {K : St → Prop} (h : runQ P n0 ops (true :: ms) (o :: rest) st K) (hs : ∀ d c, st.tm.getD d .any = .bool c → st.put (some d) (.bool c) = st) :
    (wantedA ops o st = some true ∧ opA P n0 o.op st.ev st.hp fun v hp' kb => runQ P n0 ops ms rest ((st.after hp' kb).put o.dst v) K) ∨ (wantedA ops o st = some false ∧ runQ P n0 ops ms rest (st.put o.dst (.tup [])) K) := by
  unfold runQ at h
  split at h
  · rename_i hg
    exact .inl ⟨by simp [wantedA, hg], h⟩
  · rename_i j b hg
    split at h
    · rename_i d hd
      split at h
      · rename_i c hc
        have hw : wantedA ops o st = some (c == b) := by simp only [wantedA, hg, hd, hc]
        by_cases hcb : c = b
        · subst hcb
          have h' := h.1 (by simp)
          rw [hs d c hc] at h'
          exact .inl ⟨by rw [hw]; simp, h'⟩
        · have hcb' : c = !b := by cases c <;> cases b <;> simp_all
          have h' := h.2 (by simp [hcb])
          rw [← hcb', hs d c hc] at h'
          exact .inr ⟨by rw [hw]; simp [hcb], h'⟩
      · rename_i hc
        have hw : wantedA ops o st = some false := by simp only [wantedA, hg, hd, hc]
        exact .inr ⟨hw, h⟩
      · exact h.elim
    · exact h.elim
theorem put_same (st : St) (d : Nat) (c : Bool) (hd : st.tm.getD d .any = .bool c) : st.put (some d) (.bool c) = st := by
  have hlt : d < st.tm.length := by
    apply Decidable.byContradiction
    intro hn
    simp [List.getD, List.getElem?_eq_none (Nat.le_of_not_lt hn)] at hd
  have h1 : st.tm[d]? = some (.bool c) := by
    rw [List.getElem?_eq_getElem hlt]
    simp [List.getD, hlt] at hd
    rw [hd]
  cases st with
  | mk tm hp =>
    simp only [St.put]
    congr 1
    apply List.ext_getElem?
    intro i
    by_cases hi : d = i
    · subst hi; rw [List.getElem?_set_self hlt, h1]
    · rw [List.getElem?_set_ne hi]
theorem anyA_lex {n0 : Nat} {ops : List Oper} {msA : List Bool} {K : St → Prop} : ∀ (l : List Oper) (ms : List Bool) (k : Nat) (listed : Array Bool) (st : St), (∀ j, l[j]? = ops[k + j]?) → (∀ j, ms[j]? = msA[k + j]?) →
    drawOk ops.toArray msA l.length k listed = true → runQ P n0 ops ms l st K → anyA P n0 ops msA K l.length listed st
  | [], ms, k, listed, st, _, _, hB, h => ⟨by simpa [drawOk] using hB, by
      cases ms with
      | nil => exact h
      | cons m ms => cases m <;> exact h⟩
  | o :: l, [], k, listed, st, _, _, _, h => by cases h
  | o :: l, m :: ms, k, listed, st, hl, hms, hB, h => by
    have h0 : ops[k]? = some o := by simpa using (hl 0).symm
    have hm0 : msA[k]? = some m := by simpa using (hms 0).symm
    have hmD : msA.getD k true = m := by simp [List.getD, hm0]
    have hl' : ∀ j, l[j]? = ops[k + 1 + j]? := fun j => by have := hl (j + 1); simpa [Nat.add_assoc, Nat.add_comm 1 j] using this
    have hms' : ∀ j, ms[j]? = msA[k + 1 + j]? := fun j => by have := hms (j + 1); simpa [Nat.add_assoc, Nat.add_comm 1 j] using this
    simp only [List.length_cons, drawOk, Bool.and_eq_true, hmD] at hB
    obtain ⟨hB1, hB2⟩ := hB
    cases m with
    | true =>
      simp only [if_true, beq_iff_eq] at hB1
      refine ⟨fun h => (by rw [hB1] at h; cases h), fun i hi => ?_⟩
      rw [hB1] at hi
      have : i = k := by simpa using hi
      subst this
      unfold stepA
      simp only [h0, hmD, if_true]
      rcases runQ_stepT h (put_same st) with ⟨hw, h'⟩ | ⟨hw, h'⟩
      · exact .inl ⟨hw, _, h', fun v hp' kb h => anyA_lex l ms (i + 1) _ _ hl' hms' hB2 h⟩
      · exact .inr ⟨hw, anyA_lex l ms (i + 1) _ _ hl' hms' hB2 h'⟩
    | false =>
      simp only [Bool.false_eq_true, if_false, Bool.and_eq_true] at hB1
      obtain ⟨⟨hr, hf⟩, _⟩ := hB1
      obtain ⟨v, hy, hK⟩ := runQ_step h (put_same st)
      exact anyA_first h0 hmD l.length listed st (freeQ_spec h0 hf) (by simpa using hr) hy (anyA_lex l ms (k + 1) _ _ hl' hms' hB2 hK)
end
end Go.Abs
namespace Go.Abs
open Go
variable {P : Program}
def liftQ (E0 : Env P) (hp0 : List Blk) (Q : Ex → St → Prop) : Exit → Act → World → Prop := fun e a w => ∃ (ex : Ex) (st : St) (E : Env P), e = Ex.up ex ∧ E.w = w ∧ SR E0 hp0 E st a ∧ Q ex st
section
variable (P : Program)
def CodeA (n0 : Nat) (c : Code) (st : St) (Q : Ex → St → Prop) : Prop :=
  ∀ (E0 : Env P) (hp0 : List Blk) (E : Env P) (a : Act), hp0.length = n0 → SR E0 hp0 E st a → c.wp P (liftQ E0 hp0 Q) a E.w
def vc (md : Nat → List Bool) (n0 : Nat) : Code → St → (Ex → St → Prop) → Prop
  | .skip, st, Q => Q .normal st
  | .region id ops draw, st, Q => match draw with
    | false => runOps P n0 ops.toList ops.toList st (Q .normal)
    | true => match md id with
      | [] => CodeA P n0 (.region id ops true) st Q
      | m :: ms => runQ P n0 ops.toList (m :: ms) ops.toList st (Q .normal)
  | .seq a b, st, Q => vc md n0 a st fun e st' => match e with
    | .normal => vc md n0 b st' Q
    | .exit i => Q (.exit i) st'
    | .ret => Q .ret st'
  | .cond c x y, st, Q => match st.ev c with
    | .bool b => brk b (vc md n0 x st Q) (vc md n0 y st Q)
    | _ => False
  | .block id c, st, Q => vc md n0 c st fun e st' => match e with
    | .normal => Q .normal st'
    | .exit i => if i = id then Q .normal st' else Q (.exit i) st'
    | .ret => Q .ret st'
  | .loop c, st, Q => CodeA P n0 (.loop c) st Q
  | .exit id, st, Q => Q (.exit id) st
  | .ret, st, Q => Q .ret st
  | _, _, _ => False
end
section
variable {P : Program}
theorem vc_sound {md : Nat → List Bool} (hm : P.follows .mixedOrders = true) {n0 : Nat} : ∀ (c : Code) (st : St) (Q : Ex → St → Prop), modesOk md c = true → vc P md n0 c st Q → CodeA P n0 c st Q
  | .skip, st, Q, _, h => fun E0 hp0 E a hn hs => wp_skip ⟨.normal, st, E, rfl, rfl, hs, h⟩
  | .region id ops draw, st, Q, hok, h => fun E0 hp0 E a hn hs => by
    subst hn
    cases draw with
    | false =>
      have := runOps_sound (P := P) ops.toList (Q := liftQ E0 hp0 Q) ops.toList st _ h E a hs fun E' st' a' hs' hk => ⟨.normal, st', E', rfl, rfl, hs', hk⟩
      exact wp_region_list (by simpa using this)
    | true =>
      cases hmd : md id with
      | nil =>
        have h' : CodeA P hp0.length (.region id ops true) st Q := by
          simp only [vc, hmd] at h
          exact h
        exact h' E0 hp0 E a rfl hs
      | cons m0 ms0 =>
      have hne : (md id).isEmpty = false := by rw [hmd]; rfl
      have h : runQ P hp0.length ops.toList (md id) ops.toList st (Q .normal) := by
        simp only [vc, hmd] at h
        rw [hmd]; exact h
      simp only [modesOk, hne, Bool.false_or, Bool.and_eq_true, beq_iff_eq] at hok
      have h1 := anyA_lex (P := P) (n0 := hp0.length) (ops := ops.toList) (msA := md id) (K := Q .normal) ops.toList (md id) 0 (Array.replicate ops.size false) st (fun j => by simp) (fun j => by simp) (by simpa using hok.2) h
      refine wp_region_any hm ?_
      have hs' : SR E0 hp0 (E.with { E.w with drawn := E.w.drawn + 1 }) st a := ⟨hs.hr.with (Same.drew _ _), hs.fr.with (Same.drew _ _), hs.len, fun i v u a1 a2 => (hs.tm i v u a1 a2).mono (Env.le_with (Same.drew _ _)), hs.df⟩
      have h2 := anyA_sound (P := P) (Q := liftQ E0 hp0 Q) (fun E st a hs hk => ⟨.normal, st, E, rfl, rfl, hs, hk⟩) _ _ _ st a hs' h1
      rw [show ops.toList.toArray = ops from by simp, show ops.toList.length = ops.size from by simp] at h2
      exact h2
  | .seq x y, st, Q, hok, h => fun E0 hp0 E a hn hs => by
    simp only [modesOk, Bool.and_eq_true] at hok
    have h1 := vc_sound hm x st _ hok.1 h E0 hp0 E a hn hs
    refine wp_seq (wp_mono h1 fun e a' w' ⟨ex, st', E', he, hw, hs', hq⟩ => ?_)
    subst he; subst hw
    cases ex with
    | normal => exact vc_sound hm y st' Q hok.2 hq E0 hp0 E' a' hn hs'
    | exit i => exact ⟨.exit i, st', E', rfl, rfl, hs', hq⟩
    | ret => exact ⟨.ret, st', E', rfl, rfl, hs', hq⟩
  | .cond c x y, st, Q, hok, h => fun E0 hp0 E a hn hs => by
    simp only [modesOk, Bool.and_eq_true] at hok
    unfold vc at h
    split at h
    · rename_i b hb
      have hev := hs.ev c
      rw [hb] at hev
      generalize hg : a.eval c = u at hev
      cases hev
      refine wp_cond_split hg (fun hb' => ?_) (fun hb' => ?_)
      · exact vc_sound hm x st Q hok.1 (h.1 hb') E0 hp0 E a hn hs
      · exact vc_sound hm y st Q hok.2 (h.2 hb') E0 hp0 E a hn hs
    · exact h.elim
  | .block id c, st, Q, hok, h => fun E0 hp0 E a hn hs => by
    have h1 := vc_sound hm c st _ hok h E0 hp0 E a hn hs
    refine wp_block (wp_mono h1 fun e a' w' ⟨ex, st', E', he, hw, hs', hq⟩ => ?_)
    subst he; subst hw
    cases ex with
    | normal => exact ⟨.normal, st', E', rfl, rfl, hs', hq⟩
    | exit i =>
      simp only [Ex.up, Exit.inBlock]
      simp only [] at hq
      by_cases hi : i = id
      · rw [if_pos hi] at hq ⊢
        exact ⟨.normal, st', E', rfl, rfl, hs', hq⟩
      · rw [if_neg hi] at hq ⊢
        exact ⟨.exit i, st', E', rfl, rfl, hs', hq⟩
    | ret => exact ⟨.ret, st', E', rfl, rfl, hs', hq⟩
  | .loop c, st, Q, _, h => h
  | .exit id, st, Q, _, h => fun E0 hp0 E a hn hs => wp_exit ⟨.exit id, st, E, rfl, rfl, hs, h⟩
  | .ret, st, Q, _, h => fun E0 hp0 E a hn hs => wp_ret ⟨.ret, st, E, rfl, rfl, hs, h⟩
  | .rangeFunc .., _, _, _, h => h.elim
  | .scope _, _, _, _, h => h.elim
  | .label _, _, _, _, h => h.elim
  | .goto _, _, _, _, h => h.elim
  | .refuse _, _, _, _, h => h.elim
def Weak (n0 : Nat) (st st2 : St) : Prop := ∀ (P : Program) (E0 : Env P) (hp0 : List Blk) (E : Env P) (a : Act), hp0.length = n0 → SR E0 hp0 E st a → ∃ E2, E2.w = E.w ∧ SR E0 hp0 E2 st2 a
theorem loop_rule {σ : Type} {md : Nat → List Bool} (hm : P.follows .mixedOrders = true) {n0 : Nat} {c : Code} (hok : modesOk md c = true) {st : St} {Q : Ex → St → Prop} (I : σ → St) (μ : σ → Nat) (s0 : σ) (h0 : Weak n0 st (I s0))
    (round : ∀ s, vc P md n0 c (I s) fun e st' => match e with
      | .normal => ∃ s', μ s' < μ s ∧ Weak n0 st' (I s')
      | .exit i => Q (.exit i) st'
      | .ret => Q .ret st') : CodeA P n0 (.loop c) st Q := by
  intro E0 hp0 E a hn hs
  obtain ⟨E2, hw, hs2⟩ := h0 _ E0 hp0 E a hn hs
  rw [← hw]
  refine wp_loop_ghost (fun n a w => ∃ s E, μ s = n ∧ E.w = w ∧ SR E0 hp0 E (I s) a) (μ s0) ⟨s0, E2, rfl, rfl, hs2⟩ ?_
  rintro n a w ⟨s, E, rfl, rfl, hs⟩
  have h1 := vc_sound hm c (I s) _ hok (round s) E0 hp0 E a hn hs
  refine wp_mono h1 fun e a' w' ⟨ex, st', E', he, hw', hs', hq⟩ => ?_
  subst he; subst hw'
  cases ex with
  | normal =>
    obtain ⟨s', hlt, hwk⟩ := hq
    obtain ⟨E3, hw3, hs3⟩ := hwk _ E0 hp0 E' a' hn hs'
    exact ⟨μ s', hlt, s', E3, rfl, hw3, hs3⟩
  | exit i => exact ⟨.exit i, st', E', rfl, rfl, hs', hq⟩
  | ret => exact ⟨.ret, st', E', rfl, rfl, hs', hq⟩
theorem CallA.mono {f : FuncId} {args : List AV} {hp : List Blk} {Q Q' : AV → List Blk → Prop} (h : CallA P f args hp Q) (hq : ∀ r hp', Q r hp' → Q' r hp') : CallA P f args hp Q' :=
  fun E vs H hl hr => (h E vs H hl hr).mono fun v w' ⟨r, hp', E', h2, h3, h4⟩ => ⟨r, hp', E', h2, hq _ _ h3, h4⟩
def WeakR (n0 : Nat) (r : AV) (hp : List Blk) (r2 : AV) (hp2 : List Blk) : Prop := ∀ (P : Program) (E0 : Env P) (hp0 : List Blk) (E : Env P) (v : Value), hp0.length = n0 → HRel E hp → Fr E0 hp0 E hp → RV E r v → ∃ E2, E2.w = E.w ∧ HRel E2 hp2 ∧ Fr E0 hp0 E2 hp2 ∧ RV E2 r2 v
def PostR (n0 : Nat) (r : AV) (hp : List Blk) (Q : AV → List Blk → Prop) : Prop := ∃ r2 hp2, WeakR n0 r hp r2 hp2 ∧ Q r2 hp2
def retQ (P : Program) (fn : Func) (n0 : Nat) (Q : AV → List Blk → Prop) : Ex → St → Prop
  | .normal, st | .ret, st => resL P fn.results.toList st fun l => PostR n0 (oneA l) st.hp Q
  | .exit _, _ => False
theorem resL_sound {E0 : Env P} {hp0 : List Blk} {E : Env P} {st : St} {a : Act} (hs : SR E0 hp0 E st a) : ∀ (rs : List ResultVar) (k : List AV → Prop), resL P rs st k →
    ∃ l vs, k l ∧ (rs.mapM fun (r : ResultVar) => match r with
      | .tmp t => (pure (a.tmps.getD t undef) : Sem Value)
      | .cell x t => do loadVar t (← asAddr (a.tmps.getD x undef))).run P E.w = .ok vs E.w ∧ vs.length = l.length ∧ ∀ (i : Nat) c v, l[i]? = some c → vs[i]? = some v → RV E c v
  | [], k, h => ⟨[], [], h, by simp, rfl, fun i c v h => by simp at h⟩
  | .tmp t :: rs, k, h => by
    obtain ⟨l, vs, hk, hr, hl, hv⟩ := resL_sound hs rs _ h
    refine ⟨_, a.tmps.getD t undef :: vs, hk, ?_, by simp [hl], fun i c v h1 h2 => ?_⟩
    · simp only [List.mapM_cons, Sem.run_bind, Sem.run_pure, Result.andThen_ok, hr]
    · cases i with
      | zero => simp only [List.getElem?_cons_zero, Option.some.injEq] at h1 h2; subst h1; subst h2; exact hs.slot t
      | succ i => exact hv i c v (by simpa using h1) (by simpa using h2)
  | .cell x t :: rs, k, h => by
    obtain ⟨av, hk0, hld⟩ := loadA_sound h
    obtain ⟨l, vs, hk, hr, hl, hv⟩ := resL_sound hs rs _ hk0
    obtain ⟨u, hu, hru⟩ := hld E _ hs.hr (hs.ev (.tmp x))
    refine ⟨_, u :: vs, hk, ?_, by simp [hl], fun i c v h1 h2 => ?_⟩
    · have hu' : (do loadVar t (← asAddr (a.tmps.getD x undef)) : Sem Value).run P E.w = .ok u E.w := by
        have e : a.eval (.tmp x) = a.tmps.getD x undef := rfl
        rw [e] at hu
        generalize a.tmps.getD x undef = z at hu ⊢
        cases z with
        | pointer p =>
          cases p with
          | none => simp [Instr.loadAt, Instr.sureAddr, Result.andThen] at hu
          | some p => simpa [Instr.loadAt, Instr.sureAddr, asAddr, Result.andThen] using hu
        | _ => simp [Instr.loadAt, Instr.sureAddr, Result.andThen] at hu
      simp only [List.mapM_cons]
      rw [Sem.run_bind, hu']
      simp only [Result.andThen_ok, Sem.run_bind, hr, Sem.run_pure]
    · cases i with
      | zero => simp only [List.getElem?_cons_zero, Option.some.injEq] at h1 h2; subst h1; subst h2; exact hru
      | succ i => exact hv i c v (by simpa using h1) (by simpa using h2)
theorem run_results {fn : Func} {E0 : Env P} {hp0 : List Blk} {E : Env P} {st : St} {a : Act} (hs : SR E0 hp0 E st a) {k : List AV → Prop} (h : resL P fn.results.toList st k) : ∃ l v, k l ∧ (results fn a.tmps).run P E.w = .ok v E.w ∧ RV E (oneA l) v := by
  obtain ⟨l, vs, hk, hr, hl, hv⟩ := resL_sound hs _ _ h
  have hm : (fn.results.mapM fun (r : ResultVar) => match r with
      | .tmp t => (pure (a.tmps.getD t undef) : Sem Value)
      | .cell x t => do loadVar t (← asAddr (a.tmps.getD x undef))).run P E.w = .ok vs.toArray E.w := by
    rw [Array.mapM_eq_mapM_toList]
    simp only [Sem.run_map, hr, Result.andThen_ok]
  have hrun : (results fn a.tmps).run P E.w = .ok (if h : vs.toArray.size = 1 then vs.toArray[0] else .tuple vs.toArray) E.w := by
    unfold results
    rw [Sem.run_bind]
    exact Eq.trans (congrArg (fun r => Result.andThen r _) hm) rfl
  refine ⟨l, _, hk, hrun, ?_⟩
  unfold oneA
  split
  · rename_i x
    match vs, hl, hv with
    | [v], _, hv => exact hv 0 x v rfl rfl
  · rename_i hn
    have : ¬ vs.toArray.size = 1 := by
      intro h1
      have h1' : l.length = 1 := by rw [← hl]; simpa using h1
      obtain ⟨x, hx⟩ := List.length_eq_one_iff.1 h1'
      exact hn x hx
    rw [dif_neg this]
    exact .tup _ _ (by simp [hl]) fun i c v h1 h2 => hv i c v h1 (by simpa using h2)
theorem call_intro {f : FuncId} {fn : Func} {c : Code} {md : Nat → List Bool} {args : List AV} {hp : List Blk} {Q : AV → List Blk → Prop} (hm : P.follows .mixedOrders = true) (hf : P.funcs[f]? = some fn) (hb : fn.body = some c) (hgo : isGo P f) (hok : modesOk md c = true)
    (h : vc P md hp.length c ⟨args ++ List.replicate (fn.ntmps - args.length) .any, hp⟩ (retQ P fn hp.length Q)) : CallA P f args hp Q := by
  refine fun E vs H hl hrv => .inl ⟨hgo, ?_⟩
  refine calls_of_wp hf hb ?_
  have hs : SR E hp E ⟨args ++ List.replicate (fn.ntmps - args.length) .any, hp⟩ { tmps := vs.toArray ++ Array.replicate (fn.ntmps - vs.toArray.size) undef, defers := [] } := by
    refine ⟨H, Fr.refl E hp, by simp [hl], fun i v u h1 h2 => ?_, rfl⟩
    simp only [List.getElem?_append] at h1
    by_cases hi : i < args.length
    · rw [if_pos hi] at h1
      have h2' : vs[i]? = some u := by
        have hlt : i < vs.toArray.size := by simp [hl]; exact hi
        rw [Array.getElem?_append_left hlt] at h2
        simpa using h2
      exact hrv i v u h1 h2'
    · rw [if_neg hi] at h1
      rw [List.getElem?_replicate] at h1
      split at h1
      · cases h1; exact .any _
      · cases h1
  refine wp_mono (vc_sound hm c _ _ hok h E hp E _ rfl hs) fun e a' w' ⟨ex, st', E', he, hw, hs', hq⟩ => ?_
  subst he; subst hw
  have fin : (resL P fn.results.toList st' fun l => ∃ r2 hp2, WeakR hp.length (oneA l) st'.hp r2 hp2 ∧ Q r2 hp2) → a'.defers = [] ∧ ∃ v, (results fn a'.tmps).run P E'.w = .ok v E'.w ∧ ∃ v', Ending.returned v = .returned v' ∧ ∃ r hp' E'', E''.w = E'.w ∧ Q r hp' ∧ RV E'' r v' ∧ HRel E'' hp' ∧ Fr E hp E'' hp' := by
    intro hres
    obtain ⟨l, v, ⟨r2, hp2, hwk, hQ⟩, hrun, hv⟩ := run_results (P := P) hs' hres
    obtain ⟨E2, hw2, H2, F2, hv2⟩ := hwk _ E hp E' v rfl hs'.hr hs'.fr hv
    exact ⟨hs'.df, v, hrun, v, rfl, r2, hp2, E2, hw2, hQ, hv2, H2, F2⟩
  cases ex with
  | normal => exact fin hq
  | ret => exact fin hq
  | exit i => exact hq.elim
end
end Go.Abs
namespace Go.Abs
open Go
variable {P : Program}
def Env.ren (E : Env P) (N : Nat) (π : Nat → Nat) : Env P := { E with N := N, ρ := fun b => E.ρ (π b), wd := fun b => E.wd (π b) }
theorem RV.unrenL {π : Nat → Nat} {N : Nat} {E : Env P} {a : AV} {v : Value} (hb : belowL N a = true) (h : RV E (renL π a) v) : RV (E.ren N π) a v := by
  have lb : E.bare.le (E.ren N π).bare := ⟨fun _ h => h, fun _ _ => rfl, Nat.le_refl _, fun _ hb => absurd hb (Nat.not_lt_zero _), fun _ hb => absurd hb (Nat.not_lt_zero _), fun _ => Nat.le_refl _⟩
  cases a with
  | sl b i n =>
    have hb' : b < N := by simpa [belowL] using hb
    cases h with
    | sl _ _ _ off cap _ ho hcap hmax hroom hw => exact .sl (E := E.ren N π) b i n off cap hb' ho hcap hmax hroom hw
  | ptr b i j =>
    have hb' : b < N := by simpa [belowL] using hb
    cases h with
    | ptr _ _ _ _ hw => exact .ptr (E := E.ren N π) b i j hb' hw
  | mp b =>
    have hb' : b < N := by simpa [belowL] using hb
    cases h with
    | mp _ _ => exact .mp (E := E.ren N π) b hb'
  | rom l =>
    cases h with
    | romNil => exact .romNil
    | rom _ r hF hm => exact .rom (E := E.ren N π) l r hF hm
  | agg => cases hb
  | tup => cases hb
  | fn => cases hb
  | mv => cases hb
  | any => exact .any _
  | bool => cases h; exact .bool _
  | int => cases h; exact .int _ _
  | flt => cases h with | flt _ _ _ h => exact .flt _ _ _ h
  | cpx => cases h with | cpx _ _ _ _ _ h h' => exact .cpx _ _ _ _ _ h h'
  | str => cases h; exact .str _
  | nils => cases h; exact .nils _
  | nilp => cases h; exact .nilp
  | nilf => cases h; exact .nilf
  | nili => cases h; exact .nili
  | ro l =>
    cases h with
    | roNil => exact .roNil _ _
    | ro _ b off cap wd val hF hcap hmax hw hc hv => exact .ro (E := E.ren N π) l b off cap wd val hF hcap hmax hw hc (fun i e hi j c hj => (hv i e hi j c hj).mono lb)
  | rop l =>
    cases h with
    | rop _ b off val hF hc hv => exact .rop (E := E.ren N π) l b off val hF hc (fun j c hj => (hv j c hj).mono lb)
theorem RV.unrenM {π : Nat → Nat} {N : Nat} {E : Env P} {a : AV} {v : Value} (hb : belowM N a = true) (h : RV E (renM π a) v) : RV (E.ren N π) a v := by
  cases a with
  | agg l =>
    simp only [belowM, List.all_eq_true] at hb
    cases h with
    | agg _ vs hl h =>
      refine .agg _ _ (by simpa using hl) fun i c v h1 h2 => RV.unrenL (hb c (List.mem_of_getElem? h1)) (h i (renL π c) v (by simp [h1]) h2)
  | fn f l =>
    simp only [belowM, List.all_eq_true] at hb
    cases h with
    | fn _ _ vs hl h =>
      refine .fn _ _ _ (by simpa using hl) fun i c v h1 h2 => RV.unrenL (hb c (List.mem_of_getElem? h1)) (h i (renL π c) v (by simp [h1]) h2)
  | mv f l =>
    simp only [belowM, List.all_eq_true] at hb
    cases h with
    | mv _ _ vs hl h =>
      refine .mv _ _ _ (by simpa using hl) fun i c v h1 h2 => RV.unrenL (hb c (List.mem_of_getElem? h1)) (h i (renL π c) v (by simp [h1]) h2)
  | _ => exact RV.unrenL hb h
theorem RV.unren {π : Nat → Nat} {N : Nat} {E : Env P} {a : AV} {v : Value} (hb : Abs.below N a = true) (h : RV E (Abs.ren π a) v) : RV (E.ren N π) a v := by
  cases a with
  | tup l =>
    simp only [Abs.below, List.all_eq_true] at hb
    cases h with
    | tup _ vs hl h =>
      refine .tup _ _ (by simpa using hl) fun i c v h1 h2 => RV.unrenM (hb c (List.mem_of_getElem? h1)) (h i (renM π c) v (by simp [h1]) h2)
  | _ => exact RV.unrenM hb h
theorem ren_cells {π : Nat → Nat} {N : Nat} {e : AV} (hb : below N e = true) : (Abs.ren π e).cells.length = e.cells.length ∧ ∀ (j : Nat) c, e.cells[j]? = some c → ∃ c', (Abs.ren π e).cells[j]? = some c' ∧ ∀ {E : Env P} {v : Value}, RV E c' v → RV (E.ren N π) c v := by
  cases e with
  | agg l =>
    have hb' : ∀ c ∈ l, belowL N c = true := by simpa [below, belowM, List.all_eq_true] using hb
    refine ⟨by simp [Abs.ren, renM, AV.cells], fun j c hc => ?_⟩
    have hc' : l[j]? = some c := hc
    exact ⟨renL π c, by simp [Abs.ren, renM, AV.cells, hc'], fun h => RV.unrenL (hb' c (List.mem_of_getElem? hc')) h⟩
  | any | bool | int | flt | cpx | str | tup | nils | ro | sl | ptr | rop | nilp | fn | nilf | nili | mp | rom | mv =>
    refine ⟨rfl, fun j c hc => ?_⟩
    cases j with
    | zero =>
      simp only [AV.cells, List.getElem?_cons_zero, Option.some.injEq] at hc
      subst hc
      exact ⟨_, rfl, fun h => RV.unren hb h⟩
    | succ j => simp [AV.cells] at hc
theorem MapAt.unmap {o : Option Obj} {els : List AV} {φ : AV → AV} (hφ : ∀ e n b, φ e = .agg [.int .i64 n, .bool b] → e = .agg [.int .i64 n, .bool b]) (h : MapAt o (els.map φ)) : MapAt o els := by
  obtain ⟨es, h1, h2, h3⟩ := h
  refine ⟨es, h1, by simpa using h2, fun i e m he hm => ?_⟩
  obtain ⟨n, b, h4, h5⟩ := h3 i (φ e) m (by simp [he]) hm
  exact ⟨n, b, hφ _ _ _ h4, h5⟩
theorem renL_int {π : Nat → Nat} {a : AV} {k : IntKind} {n : Int} (h : renL π a = .int k n) : a = .int k n := by
  cases a <;> first | exact h | cases h
theorem renL_bool {π : Nat → Nat} {a : AV} {n : Bool} (h : renL π a = .bool n) : a = .bool n := by
  cases a <;> first | exact h | cases h
theorem ren_still (π : Nat → Nat) (e : AV) (n : Int) (b : Bool) (h : Abs.ren π e = .agg [.int .i64 n, .bool b]) : e = .agg [.int .i64 n, .bool b] := by
  cases e with
  | agg l =>
    have h' : l.map (renL π) = [.int .i64 n, .bool b] := by simpa [Abs.ren, renM] using h
    match l, h' with
    | [x, y], h' =>
      simp only [List.map_cons, List.map_nil, List.cons.injEq, and_true] at h'
      rw [renL_int h'.1, renL_bool h'.2]
    | [], h' => cases h'
    | [_], h' => simp at h'
    | _ :: _ :: _ :: _, h' => simp at h'
  | _ => cases h
structure LeHp (N : Nat) (π : Nat → Nat) (n0 : Nat) (hp hp2 : List Blk) : Prop where
  len : hp2.length = N
  hn0 : n0 ≤ N
  low : ∀ b, b < n0 → π b = b
  inj : ∀ b b', b < N → b' < N → π b = π b' → b = b'
  blk : ∀ (b : Nat) r, hp2[b]? = some r → ∃ q, hp[π b]? = some q ∧ q.w = r.w ∧ (r.live = true → q.live = true ∧ q.ty = r.ty ∧ q.els = r.els.map (ren π) ∧ ∀ e ∈ r.els, below N e = true)
theorem LeHp.sound {N : Nat} {π : Nat → Nat} {n0 : Nat} {hp hp2 : List Blk} (h : LeHp N π n0 hp hp2) {E0 : Env P} {hp0 : List Blk} {E : Env P} (hn : hp0.length = n0) (H : HRel E hp) (F : Fr E0 hp0 E hp) : HRel (E.ren N π) hp2 ∧ Fr E0 hp0 (E.ren N π) hp2 := by
  have lt : ∀ (b : Nat) r, hp2[b]? = some r → b < N := fun b r hb => by rw [← h.len]; exact (List.getElem?_eq_some_iff.1 hb).1
  refine ⟨⟨h.len.symm, ?_, ?_, ?_, ?_, H.old, H.laid⟩, ?_⟩
  · intro b r hb
    obtain ⟨q, hq, hw, _⟩ := h.blk b r hb
    show E.wd (π b) = r.w
    rw [H.wd (π b) q hq, hw]
  · intro b r hb hl
    obtain ⟨q, hq, hw, hx⟩ := h.blk b r hb
    obtain ⟨hql, hty, hels, hbel⟩ := hx hl
    refine ⟨fun hw0 => ?_, fun hw0 => ?_⟩
    rotate_left
    · have := (H.holds (π b) q hq hql).map (hw.trans hw0)
      rw [hels] at this
      exact this.unmap (ren_still π)
    obtain ⟨cs, h1, h2⟩ := (H.holds (π b) q hq hql).cells (hw ▸ hw0)
    refine ⟨cs, by rw [← hty]; exact h1, fun i e he => ?_⟩
    have hbe := hbel e (List.mem_of_getElem? he)
    obtain ⟨k1, k2⟩ := ren_cells (π := π) hbe
    have hqe : q.els[i]? = some (Abs.ren π e) := by rw [hels]; simp [he]
    obtain ⟨h3, h4⟩ := h2 i _ hqe
    refine ⟨by rw [← hw, ← h3, k1], fun j c hc => ?_⟩
    obtain ⟨c', hc', k3⟩ := k2 j c hc
    obtain ⟨v, h5, h6⟩ := h4 j c' hc'
    exact ⟨v, by rw [← hw]; exact h5, k3 h6⟩
  · intro b b' r r' hb hl hb' hl' he
    obtain ⟨q, hq, _, hx⟩ := h.blk b r hb
    obtain ⟨q', hq', _, hx'⟩ := h.blk b' r' hb'
    exact h.inj b b' (lt b r hb) (lt b' r' hb') (H.inj (π b) (π b') q q' hq (hx hl).1 hq' (hx' hl').1 he)
  · intro b r hb hl
    obtain ⟨q, hq, _, hx⟩ := h.blk b r hb
    exact H.apart (π b) q hq (hx hl).1
  · exact {
      size := F.size
      os := F.os
      tape := F.tape
      output := F.output
      block := F.block
      len := by rw [hn, h.len]; exact h.hn0
      ρ := fun b hb => by show E.ρ (π b) = _; rw [h.low b (by omega)]; exact F.ρ b hb
      wd := fun b hb => by show E.wd (π b) = _; rw [h.low b (by omega)]; exact F.wd b hb
      F := F.F
      F' := F.F'
      live := fun b ⟨r, hb, hl⟩ => by
        obtain ⟨q, hq, _, hx⟩ := h.blk b r hb
        have hlive := F.live (π b) ⟨q, hq, (hx hl).1⟩
        by_cases hbn : b < n0
        · rw [h.low b hbn] at hlive
          rcases hlive with h1 | ⟨h1, _⟩
          · exact .inl h1
          · omega
        · have hpi : n0 ≤ π b := by
            apply Decidable.byContradiction
            intro hlt
            have hlt' : π b < n0 := by omega
            have e1 := h.low (π b) hlt'
            have := h.inj (π b) b (Nat.lt_of_lt_of_le hlt' h.hn0) (lt b r hb) e1
            omega
          rcases hlive with ⟨h1, _⟩ | ⟨_, h2⟩
          · omega
          · exact .inr ⟨by omega, h2⟩
      csz := F.csz }
def LeV (N : Nat) (π : Nat → Nat) (a b : AV) : Prop := b = .any ∨ (a = ren π b ∧ below N b = true)
def LeTm (N : Nat) (π : Nat → Nat) : List AV → List AV → Prop
  | [], [] => True
  | a :: l, b :: m => LeV N π a b ∧ LeTm N π l m
  | _, _ => False
theorem LeTm.len {N : Nat} {π : Nat → Nat} : ∀ {l m : List AV}, LeTm N π l m → l.length = m.length
  | [], [], _ => rfl
  | a :: l, b :: m, h => by simp [LeTm.len h.2]
  | [], _ :: _, h => h.elim
  | _ :: _, [], h => h.elim
theorem LeTm.get {N : Nat} {π : Nat → Nat} : ∀ {l m : List AV}, LeTm N π l m → ∀ (i : Nat) b, m[i]? = some b → ∃ a, l[i]? = some a ∧ LeV N π a b
  | [], [], _, i, b, h => by simp at h
  | a :: l, b :: m, h, 0, x, hx => by simp at hx; subst hx; exact ⟨a, rfl, h.1⟩
  | a :: l, b :: m, h, i + 1, x, hx => by simpa using LeTm.get h.2 i x (by simpa using hx)
  | [], _ :: _, h, _, _, _ => h.elim
  | _ :: _, [], h, _, _, _ => h.elim
theorem weak_ren {n0 : Nat} {st st2 : St} (N : Nat) (π : Nat → Nat) (ht : LeTm N π st.tm st2.tm) (hh : LeHp N π n0 st.hp st2.hp) : Weak n0 st st2 := by
  intro _ E0 hp0 E a hn hs
  obtain ⟨H, F⟩ := hh.sound hn hs.hr hs.fr
  refine ⟨E.ren N π, rfl, H, F, ht.len.symm.trans hs.len, fun i v u h1 h2 => ?_, hs.df⟩
  obtain ⟨v0, h3, h4⟩ := ht.get i v h1
  rcases h4 with rfl | ⟨rfl, hb⟩
  · exact .any _
  · exact RV.unren hb (hs.tm i _ u h3 h2)
theorem weakR_ren {n0 : Nat} {r r2 : AV} {hp hp2 : List Blk} (N : Nat) (π : Nat → Nat) (hr : LeV N π r r2) (hh : LeHp N π n0 hp hp2) : WeakR n0 r hp r2 hp2 := by
  intro _ E0 hp0 E v hn H F hv
  obtain ⟨H', F'⟩ := hh.sound hn H F
  refine ⟨E.ren N π, rfl, H', F', ?_⟩
  rcases hr with rfl | ⟨rfl, hb⟩
  · exact .any _
  · exact RV.unren hb hv
theorem renL_id (N : Nat) {a : AV} (h : belowL N a = true) : renL (fun b => b) a = a := by cases a <;> first | rfl | cases h
theorem map_id_of {f : AV → AV} {l : List AV} (h : ∀ a ∈ l, f a = a) : l.map f = l := by
  induction l with
  | nil => rfl
  | cons a l ih => simp [h a (by simp), ih (fun x hx => h x (by simp [hx]))]
theorem renM_id (N : Nat) {a : AV} (h : belowM N a = true) : renM (fun b => b) a = a := by
  cases a with
  | agg l =>
    simp only [belowM, List.all_eq_true] at h
    show AV.agg (l.map (renL fun b => b)) = _
    rw [map_id_of fun a ha => renL_id N (h a ha)]
  | fn f l =>
    simp only [belowM, List.all_eq_true] at h
    show AV.fn f (l.map (renL fun b => b)) = _
    rw [map_id_of fun a ha => renL_id N (h a ha)]
  | mv f l =>
    simp only [belowM, List.all_eq_true] at h
    show AV.mv f (l.map (renL fun b => b)) = _
    rw [map_id_of fun a ha => renL_id N (h a ha)]
  | _ => first | rfl | cases h
theorem ren_id (N : Nat) {a : AV} (h : below N a = true) : ren (fun b => b) a = a := by
  cases a with
  | tup l =>
    simp only [below, List.all_eq_true] at h
    show AV.tup (l.map (renM fun b => b)) = _
    rw [map_id_of fun a ha => renM_id N (h a ha)]
  | agg l => exact renM_id N (a := .agg l) h
  | fn f l => exact renM_id N (a := .fn f l) h
  | mv f l => exact renM_id N (a := .mv f l) h
  | _ => first | rfl | cases h
def allBelow (N : Nat) (l : List AV) : Bool := l.all (below N)
def DropHp (N : Nat) : List Blk → List Blk → Prop
  | _, [] => True
  | q :: l, r :: m => (q.w = r.w ∧ (r.live = true → q.live = true ∧ q.ty = r.ty ∧ q.els = r.els ∧ allBelow N r.els = true)) ∧ DropHp N l m
  | [], _ :: _ => False
def DropV (N : Nat) (a b : AV) : Prop := b = .any ∨ (a = b ∧ below N b = true)
def DropTm (N : Nat) : List AV → List AV → Prop
  | [], [] => True
  | a :: l, b :: m => DropV N a b ∧ DropTm N l m
  | _, _ => False
theorem DropHp.get {N : Nat} : ∀ {hp hp2 : List Blk}, DropHp N hp hp2 → ∀ (b : Nat) r, hp2[b]? = some r → ∃ q, hp[b]? = some q ∧ q.w = r.w ∧ (r.live = true → q.live = true ∧ q.ty = r.ty ∧ q.els = r.els ∧ allBelow N r.els = true)
  | _, [], _, b, r, h => by simp at h
  | q :: l, r :: m, h, 0, x, hx => by simp at hx; subst hx; exact ⟨q, rfl, h.1⟩
  | q :: l, r :: m, h, b + 1, x, hx => by simpa using DropHp.get h.2 b x (by simpa using hx)
  | [], _ :: _, h, _, _, _ => h.elim
theorem DropHp.le {n0 : Nat} {hp hp2 : List Blk} (h : DropHp hp2.length hp hp2) (hn : n0 ≤ hp2.length) : LeHp hp2.length (fun b => b) n0 hp hp2 where
  len := rfl
  hn0 := hn
  low := fun _ _ => rfl
  inj := fun _ _ _ _ h => h
  blk := fun b r hb => by
    obtain ⟨q, h1, h2, h3⟩ := h.get b r hb
    refine ⟨q, h1, h2, fun hl => ?_⟩
    obtain ⟨a1, a2, a3, a4⟩ := h3 hl
    simp only [allBelow, List.all_eq_true] at a4
    exact ⟨a1, a2, by rw [a3, map_id_of fun e he => ren_id _ (a4 e he)], a4⟩
theorem DropTm.le {N : Nat} : ∀ {l m : List AV}, DropTm N l m → LeTm N (fun b => b) l m
  | [], [], _ => trivial
  | a :: l, b :: m, h => ⟨by
      rcases h.1 with h1 | ⟨h1, h2⟩
      · exact .inl h1
      · exact .inr ⟨by rw [h1, ren_id N h2], h2⟩, DropTm.le h.2⟩
  | [], _ :: _, h => h.elim
  | _ :: _, [], h => h.elim
theorem weak_drop {n0 : Nat} {st st2 : St} (hn : n0 ≤ st2.hp.length) (hh : DropHp st2.hp.length st.hp st2.hp) (ht : DropTm st2.hp.length st.tm st2.tm) : Weak n0 st st2 :=
  weak_ren _ _ ht.le (hh.le hn)
theorem weakR_drop {n0 : Nat} {r r2 : AV} {hp hp2 : List Blk} (hn : n0 ≤ hp2.length) (hh : DropHp hp2.length hp hp2) (hr : DropV hp2.length r r2) : WeakR n0 r hp r2 hp2 := by
  refine weakR_ren _ (fun b => b) ?_ (hh.le hn)
  rcases hr with h1 | ⟨h1, h2⟩
  · exact .inl h1
  · exact .inr ⟨by rw [h1, ren_id _ h2], h2⟩
theorem PostR.pure {r : AV} {hp : List Blk} {Q : AV → List Blk → Prop} (h : Q r []) (hb : below 0 r = true) : PostR 0 r hp Q :=
  ⟨r, [], weakR_drop (hp2 := []) (Nat.zero_le _) (by cases hp <;> trivial) (.inr ⟨rfl, hb⟩), h⟩
theorem PostR.names {n0 : Nat} {r : AV} {hp : List Blk} {Q : AV → List Blk → Prop} (π : Nat → Nat) (r2 : AV) (hp2 : List Blk) (hr : LeV hp2.length π r r2) (hh : LeHp hp2.length π n0 hp hp2) (h : Q r2 hp2) : PostR n0 r hp Q :=
  ⟨r2, hp2, weakR_ren _ π hr hh, h⟩
end Go.Abs
namespace Go.Abs
open Go
variable {P : Program}
structure Into (π : Nat → Nat) (E E2 : Env P) : Prop where
  le : E.bare.le E2.bare
  N : ∀ b, b < E.N → π b < E2.N
  ρ : ∀ b, b < E.N → E2.ρ (π b) = E.ρ b
  wd : ∀ b, b < E.N → E2.wd (π b) = E.wd b
theorem RV.renL {π : Nat → Nat} {E E2 : Env P} (h : Into π E E2) {a : AV} {v : Value} (hv : RV E a v) : RV E2 (renL π a) v := by
  cases hv with
  | any => exact .any _
  | bool => exact .bool _
  | int => exact .int _ _
  | flt _ _ _ h => exact .flt _ _ _ h
  | cpx _ _ _ _ _ h h' => exact .cpx _ _ _ _ _ h h'
  | str => exact .str _
  | agg => exact .any _
  | tup => exact .any _
  | nils => exact .nils _
  | roNil => exact .roNil _ _
  | ro l b off cap wd val hF hcap hmax hw hc hv =>
    refine .ro l b off cap wd val (h.le.F _ hF) hcap hmax hw (fun i e hi j c hj => ?_) (fun i e hi j c hj => (hv i e hi j c hj).mono h.le)
    have := h.le.cell _ hF
    rw [show E2.w.cell? ⟨b, off + i * wd + j, none⟩ = E.w.cell? ⟨b, off + i * wd + j, none⟩ from cell_of_heap this _]
    exact hc i e hi j c hj
  | sl b i n off cap hb ho hcap hmax hroom hw =>
    show RV E2 (.sl (π b) i n) _
    rw [← h.ρ b hb]
    exact .sl (π b) i n off cap (h.N b hb) (by rw [h.wd b hb]; exact ho) hcap hmax (fun hc => by rw [h.wd b hb, h.ρ b hb]; exact Nat.le_trans (hroom hc) (h.le.csz _)) (by rw [h.wd b hb]; exact hw)
  | ptr b i j hb hw =>
    show RV E2 (.ptr (π b) i j) _
    rw [← h.ρ b hb, ← h.wd b hb]
    exact .ptr (π b) i j (h.N b hb) (by rw [h.wd b hb]; exact hw)
  | mp b hb =>
    show RV E2 (.mp (π b)) _
    rw [← h.ρ b hb]
    exact .mp (π b) (h.N b hb)
  | romNil => exact .romNil
  | rom l r hF hm =>
    have := h.le.cell _ hF
    exact .rom l r (h.le.F _ hF) (by rw [show E2.w.heap[r]? = E.w.heap[r]? from this]; exact hm)
  | rop l b off val hF hc hv =>
    refine .rop l b off val (h.le.F _ hF) (fun j c hj => ?_) (fun j c hj => (hv j c hj).mono h.le)
    have := h.le.cell _ hF
    rw [show E2.w.cell? ⟨b, off + j, none⟩ = E.w.cell? ⟨b, off + j, none⟩ from cell_of_heap this _]
    exact hc j c hj
  | nilp => exact .nilp
  | fn => exact .any _
  | mv => exact .any _
  | nilf => exact .nilf
  | nili => exact .nili
theorem RV.renM {π : Nat → Nat} {E E2 : Env P} (h : Into π E E2) {a : AV} {v : Value} (hv : RV E a v) : RV E2 (renM π a) v := by
  cases a with
  | agg l =>
    cases hv with
    | agg l vs hl hc =>
      refine .agg _ _ (by simpa using hl) fun i c v h1 h2 => ?_
      obtain ⟨a0, h3, rfl⟩ := get_map_kill h1
      exact (hc i a0 v h3 h2).renL h
  | fn f l =>
    cases hv with
    | fn f l vs hl hc =>
      refine .fn _ _ _ (by simpa using hl) fun i c v h1 h2 => ?_
      obtain ⟨a0, h3, rfl⟩ := get_map_kill h1
      exact (hc i a0 v h3 h2).renL h
  | mv f l =>
    cases hv with
    | mv f l vs hl hc =>
      refine .mv _ _ _ (by simpa using hl) fun i c v h1 h2 => ?_
      obtain ⟨a0, h3, rfl⟩ := get_map_kill h1
      exact (hc i a0 v h3 h2).renL h
  | _ => exact hv.renL h
theorem RV.ren {π : Nat → Nat} {E E2 : Env P} (h : Into π E E2) {a : AV} {v : Value} (hv : RV E a v) : RV E2 (Abs.ren π a) v := by
  cases a with
  | tup l =>
    cases hv with
    | tup l vs hl hc =>
      refine .tup _ _ (by simpa using hl) fun i c v h1 h2 => ?_
      obtain ⟨a0, h3, rfl⟩ := get_map_kill h1
      exact (hc i a0 v h3 h2).renM h
  | _ => exact hv.renM h
theorem ren_cells' (π : Nat → Nat) (e : AV) : (Abs.ren π e).cells.length = e.cells.length ∧ ∀ (j : Nat) c, (Abs.ren π e).cells[j]? = some c → ∃ c0, e.cells[j]? = some c0 ∧ ∀ {E E2 : Env P} {v : Value}, Into π E E2 → RV E c0 v → RV E2 c v := by
  cases e with
  | agg l =>
    refine ⟨by simp [Abs.ren, Abs.renM, AV.cells], fun j c hc => ?_⟩
    have hc' : (l.map (Abs.renL π))[j]? = some c := hc
    obtain ⟨a0, h1, rfl⟩ := get_map_kill hc'
    exact ⟨a0, h1, fun h hv => hv.renL h⟩
  | any | bool | int | flt | cpx | str | tup | nils | ro | sl | ptr | rop | nilp | fn | nilf | nili | mp | rom | mv =>
    refine ⟨rfl, fun j c hc => ?_⟩
    cases j with
    | zero =>
      refine ⟨_, rfl, fun h hv => ?_⟩
      have := hv.ren h
      simp only [Abs.ren, Abs.renM, Abs.renL, AV.cells, List.getElem?_cons_zero, Option.some.injEq] at hc this
      rw [← hc]; exact this
    | succ j => simp [Abs.ren, Abs.renM, Abs.renL, AV.cells] at hc
theorem RV.bare {E : Env P} {a : AV} {v : Value} (hb : Abs.below 0 a = true) (h : RV E a v) : RV (E.ren 0 fun b => b) a v := by
  have : Abs.ren (fun b => b) a = a := ren_id 0 hb
  rw [← this] at h
  exact RV.unren hb h
theorem join_sound {E : Env P} {hp : List Blk} (H : HRel E hp) {F0 : Nat → Prop} (hF0 : ∀ c, E.F c → F0 c) (hF0' : ∀ c, F0 c → c < E.w.heap.size) {E' : Env P} {new : List Blk} (H' : HRel E' new) (F' : Fr { E.ren 0 (fun b => b) with F := F0 } [] E' new)
    (G : Nat → Prop) (hG : ∀ c, E.F c → G c) (hG1 : ∀ c, G c → E'.F c) (hG2 : ∀ b, Live hp b → ¬ G (E.ρ b)) (hGsmall : ∀ c, G c → E.F c ∨ E.w.heap.size ≤ c)
    (hels : ∀ (b : Nat) q, new[b]? = some q → q.live = true → ∀ (i : Nat) e, q.els[i]? = some e → ∀ (j : Nat) c, e.cells[j]? = some c → ∀ v, RV E' c v → RV ({ E' with F := G } : Env P) c v) :
    ∃ E2 : Env P, E2.w = E'.w ∧ HRel E2 (joinHp hp new) ∧ Fr E hp E2 (joinHp hp new) ∧ Into (fun b => b + hp.length) { E' with F := G } E2 := by
  have hsize : E.w.heap.size ≤ E'.w.heap.size := F'.size
  have hblock : ∀ c, c < E.w.heap.size → E'.w.heap[c]? = E.w.heap[c]? := fun c hc => F'.block c hc (fun b ⟨q, hq, _⟩ => by simp at hq)
  have hfresh : ∀ b, Live new b → E.w.heap.size ≤ E'.ρ b := fun b hb => by
    rcases F'.live b hb with ⟨h, _⟩ | ⟨_, h | ⟨b0, ⟨q, hq, _⟩, _⟩⟩
    · simp at h
    · exact h
    · simp at hq
  let E2 : Env P := { w := E'.w, F := G, N := hp.length + new.length, ρ := fun b => if b < hp.length then E.ρ b else E'.ρ (b - hp.length), wd := fun b => if b < hp.length then E.wd b else E'.wd (b - hp.length) }
  have hbound : ∀ (b : Nat) bk, hp[b]? = some bk → bk.live = true → E.ρ b < E.w.heap.size := fun b bk hb hlv => by
    exact (H.holds b bk hb hlv).lt
  have le : E.le E2 := ⟨fun c h => hG c h, fun c hc => hblock c (H.old c hc), by show E.N ≤ hp.length + new.length; rw [H.N]; omega,
    fun b hb => by have : b < hp.length := by rw [← H.N]; exact hb
                   simp [E2, this], fun b hb => by have : b < hp.length := by rw [← H.N]; exact hb
                                                   simp [E2, this], fun c => F'.csz c⟩
  have into : Into (fun b => b + hp.length) { E' with F := G } E2 := ⟨⟨fun _ h => h, fun _ _ => rfl, Nat.le_refl _, fun _ hb => absurd hb (Nat.not_lt_zero _), fun _ hb => absurd hb (Nat.not_lt_zero _), fun _ => Nat.le_refl _⟩,
    fun b hb => by have : b < new.length := by rw [← H'.N]; exact hb
                   show b + hp.length < hp.length + new.length; omega,
    fun b _ => by have h1 : ¬ b + hp.length < hp.length := by omega
                  have h2 : b + hp.length - hp.length = b := by omega
                  simp only [E2, h1, if_false, h2],
    fun b _ => by have h1 : ¬ b + hp.length < hp.length := by omega
                  have h2 : b + hp.length - hp.length = b := by omega
                  simp only [E2, h1, if_false, h2]⟩
  have hat : ∀ (b : Nat) bk, (joinHp hp new)[b]? = some bk → (b < hp.length ∧ hp[b]? = some bk) ∨ (hp.length ≤ b ∧ ∃ q, new[b - hp.length]? = some q ∧ bk = renB (fun b => b + hp.length) q) := by
    intro b bk h
    unfold joinHp at h
    rw [List.getElem?_append] at h
    split at h
    · exact .inl ⟨by assumption, h⟩
    · rename_i hge
      obtain ⟨q, h1, h2, _⟩ := mem_map_get h
      exact .inr ⟨by omega, q, h1, h2.symm⟩
  refine ⟨E2, rfl, ⟨?_, ?_, ?_, ?_, ?_, ?_, H.laidLe le⟩, ?_, into⟩
  · simp [E2, joinHp]
  · intro b bk hb
    rcases hat b bk hb with ⟨h1, h2⟩ | ⟨h1, q, h2, rfl⟩
    · simp only [E2, h1, if_true]; exact H.wd b bk h2
    · have : ¬ b < hp.length := by omega
      simp only [E2, this, if_false]
      exact H'.wd _ q h2
  · intro b bk hb hl
    rcases hat b bk hb with ⟨h1, h2⟩ | ⟨h1, q, h2, rfl⟩
    · refine (H.holds b bk h2 hl).keep ?_ fun x u hu => hu.mono le
      simp only [E2, h1, if_true]; exact hblock _ (hbound b bk h2 hl)
    · have hlt : ¬ b < hp.length := by omega
      refine (H'.holds _ q h2 hl).turn ?_ (φ := Abs.ren fun b => b + hp.length) (fun _ _ => rfl) fun e he => ?_
      · simp only [E2, hlt, if_false]
      · obtain ⟨k1, k2⟩ := ren_cells' (fun b => b + hp.length) e
        obtain ⟨i, hi⟩ := List.getElem?_of_mem he
        refine ⟨k1, fun j x hx => ?_⟩
        obtain ⟨c0, h6, h7⟩ := k2 j x hx
        exact ⟨c0, h6, fun u hu => h7 into (hels _ q h2 hl i e hi j c0 h6 u hu)⟩
  · intro b1 b2 k1 k2 hb1 hl1 hb2 hl2 he
    rcases hat b1 k1 hb1 with ⟨h1, h2⟩ | ⟨h1, q1, h2, rfl⟩ <;> rcases hat b2 k2 hb2 with ⟨h3, h4⟩ | ⟨h3, q2, h4, rfl⟩
    · simp only [E2, h1, h3, if_true] at he
      exact H.inj b1 b2 k1 k2 h2 hl1 h4 hl2 he
    · have n2 : ¬ b2 < hp.length := by omega
      simp only [E2, h1, n2, if_true, if_false] at he
      have := hbound b1 k1 h2 hl1
      have := hfresh _ ⟨q2, h4, hl2⟩
      omega
    · have n1 : ¬ b1 < hp.length := by omega
      simp only [E2, h3, n1, if_true, if_false] at he
      have := hbound b2 k2 h4 hl2
      have := hfresh _ ⟨q1, h2, hl1⟩
      omega
    · have n1 : ¬ b1 < hp.length := by omega
      have n2 : ¬ b2 < hp.length := by omega
      simp only [E2, n1, n2, if_false] at he
      have := H'.inj _ _ q1 q2 h2 hl1 h4 hl2 he
      omega
  · intro b bk hb hl
    rcases hat b bk hb with ⟨h1, h2⟩ | ⟨h1, q, h2, rfl⟩
    · simp only [E2, h1, if_true]; exact hG2 b ⟨bk, h2, hl⟩
    · have : ¬ b < hp.length := by omega
      simp only [E2, this, if_false]
      exact fun h => H'.apart _ q h2 hl (hG1 _ h)
  · intro c hc
    exact H'.old c (hG1 c hc)
  · exact {
      size := hsize
      os := F'.os
      tape := F'.tape
      output := F'.output
      block := fun c hc _ => hblock c hc
      len := by simp [joinHp]
      ρ := fun b hb => by simp [E2, hb]
      wd := fun b hb => by simp [E2, hb]
      F := fun c h => hG c h
      F' := fun c h => by
        rcases F'.F' c (hG1 c h) with h1 | h1 | ⟨b, ⟨q, hq, _⟩, _⟩
        · by_cases hEF : E.F c
          · exact .inl hEF
          · by_cases hlv : ∃ b, Live hp b ∧ E.ρ b = c
            · exact .inr (.inr hlv)
            · exact (hGsmall c h).elim (fun x => .inl x) (fun x => .inr (.inl x))
        · exact .inr (.inl h1)
        · simp at hq
      live := fun b ⟨bk, hb, hl⟩ => by
        rcases hat b bk hb with ⟨h1, h2⟩ | ⟨h1, q, h2, rfl⟩
        · exact .inl ⟨h1, bk, h2, hl⟩
        · have : ¬ b < hp.length := by omega
          refine .inr ⟨h1, ?_⟩
          simp only [E2, this, if_false]
          exact .inl (hfresh _ ⟨q, h2, hl⟩)
      csz := F'.csz }
end Go.Abs
namespace Go.Abs
open Go
variable {P : Program}
def Env.lent (E : Env P) (hp : List Blk) : Env P := { E.ren 0 (fun b => b) with F := fun c => E.F c ∨ ∃ b, Live hp b ∧ E.ρ b = c }
theorem lent_le {E : Env P} {hp : List Blk} : E.bare.le (E.lent hp).bare :=
  ⟨fun c h => .inl h, fun _ _ => rfl, Nat.le_refl _, fun _ hb => absurd hb (Nat.not_lt_zero _), fun _ hb => absurd hb (Nat.not_lt_zero _), fun _ => Nat.le_refl _⟩
theorem view_cells (d : Nat) (hp : List Blk) (e : AV) : (view d hp e).cells.length = e.cells.length := by
  cases d with
  | zero => cases e <;> simp [view, AV.cells]
  | succ d =>
    cases e with
    | agg l => simp [view, AV.cells]
    | sl b i n =>
      simp only [view]
      split
      · split <;> rfl
      · rfl
    | ptr b i j =>
      simp only [view]
      split
      · split
        · split <;> rfl
        · rfl
      · rfl
    | mp b =>
      simp only [view]
      split
      · split <;> rfl
      · rfl
    | _ => rfl
theorem view_sound {E : Env P} {hp : List Blk} (H : HRel E hp) : ∀ (d : Nat) (a : AV), (∀ v, RV E a v → RV (E.lent hp) (view d hp a) v) ∧
    (∀ (j : Nat) c, (view d hp a).cells[j]? = some c → ∃ c0, a.cells[j]? = some c0 ∧ ∀ v, RV E c0 v → RV (E.lent hp) c v) := by
  intro d
  induction d with
  | zero =>
    intro a
    have plain : ∀ a v, RV E a v → (match a with | .sl _ _ _ | .ptr _ _ _ | .tup _ | .fn _ _ | .mv _ _ | .agg _ | .mp _ => False | _ => True) → RV (E.lent hp) a v := by
      intro a v h hm
      cases h with
      | any => exact .any _
      | bool => exact .bool _
      | int => exact .int _ _
      | flt _ _ _ h => exact .flt _ _ _ h
      | cpx _ _ _ _ _ h h' => exact .cpx _ _ _ _ _ h h'
      | str => exact .str _
      | agg => exact hm.elim
      | tup => exact hm.elim
      | nils => exact .nils _
      | roNil => exact .roNil _ _
      | ro l b off cap wd val hF hcap hmax hw hc hv => exact .ro (E := E.lent hp) l b off cap wd val (.inl hF) hcap hmax hw hc (fun i e hi j c hj => (hv i e hi j c hj).mono lent_le)
      | sl => exact hm.elim
      | ptr => exact hm.elim
      | mp => exact hm.elim
      | romNil => exact .romNil
      | rom l r hF h => exact .rom (E := E.lent hp) l r (.inl hF) h
      | rop l b off val hF hc hv => exact .rop (E := E.lent hp) l b off val (.inl hF) hc (fun j c hj => (hv j c hj).mono lent_le)
      | nilp => exact .nilp
      | fn => exact hm.elim
      | mv => exact hm.elim
      | nilf => exact .nilf
      | nili => exact .nili
    cases a with
    | agg l =>
      refine ⟨fun v h => ?_, fun j c hc => ?_⟩
      · cases h with
        | agg _ vs hl h =>
          refine .agg _ _ (by simpa using hl) fun i c v h1 h2 => ?_
          obtain ⟨a0, _, rfl⟩ := get_map_kill (f := fun _ => AV.any) h1
          exact .any _
      · have hc' : (l.map fun _ => AV.any)[j]? = some c := hc
        obtain ⟨a0, h1, rfl⟩ := get_map_kill hc'
        exact ⟨a0, h1, fun v _ => .any _⟩
    | sl | ptr | tup | fn | mv | mp =>
      refine ⟨fun v h => .any _, fun j c hc => ?_⟩
      cases j with
      | zero => simp [view, AV.cells] at hc; subst hc; exact ⟨_, rfl, fun v _ => .any _⟩
      | succ j => simp [view, AV.cells] at hc
    | any | bool | int | flt | cpx | str | nils | ro | rop | nilp | nilf | nili | rom =>
      refine ⟨fun v h => plain _ v h trivial, fun j c hc => ?_⟩
      cases j with
      | zero => simp only [view, AV.cells, List.getElem?_cons_zero, Option.some.injEq] at hc; subst hc; exact ⟨_, rfl, fun v h => plain _ v h trivial⟩
      | succ j => simp [view, AV.cells] at hc
  | succ d ih =>
    intro a
    have main : ∀ v, RV E a v → RV (E.lent hp) (view (d + 1) hp a) v := by
      intro v h
      cases h with
      | any => exact .any _
      | bool => exact .bool _
      | int => exact .int _ _
      | flt _ _ _ h => exact .flt _ _ _ h
      | cpx _ _ _ _ _ h h' => exact .cpx _ _ _ _ _ h h'
      | str => exact .str _
      | agg l vs hl h =>
        refine .agg _ _ (by simpa using hl) fun i c v h1 h2 => ?_
        obtain ⟨a0, h3, rfl⟩ := get_map_kill (f := view d hp) h1
        exact (ih a0).1 v (h i a0 v h3 h2)
      | tup l vs hl h =>
        refine .tup _ _ (by simpa using hl) fun i c v h1 h2 => ?_
        obtain ⟨a0, h3, rfl⟩ := get_map_kill (f := view d hp) h1
        exact (ih a0).1 v (h i a0 v h3 h2)
      | nils => exact .nils _
      | roNil => exact .roNil _ _
      | ro l b off cap wd val hF hcap hmax hw hc hv => exact .ro (E := E.lent hp) l b off cap wd val (.inl hF) hcap hmax hw hc (fun i e hi j c hj => (hv i e hi j c hj).mono lent_le)
      | sl b i n off cap hb ho hcap hmax hroom hw0 =>
        simp only [view]
        split
        · rename_i blk hblk
          split
          · rename_i hcond
            simp only [Bool.and_eq_true, decide_eq_true_eq] at hcond
            obtain ⟨hl, hin⟩ := hcond
            have hlen : (((blk.els.drop i).take n).map (view d hp)).length = n := by simp; omega
            by_cases hn : n = 0
            · subst hn
              simp only [List.take_zero, List.map_nil]
              exact .roNil _ _
            · have hcp : 0 < cap := by omega
              have hoff := ho hcp
              have hwd := H.wd b blk hblk
              obtain ⟨cs, hcs1, hcs2⟩ := (H.holds b blk hblk hl).cells (hwd ▸ hw0)
              have tr : ∀ (m : Nat) e, (((blk.els.drop i).take n).map (view d hp))[m]? = some e → ∃ e0, blk.els[i + m]? = some e0 ∧ e = view d hp e0 := by
                intro m e he
                obtain ⟨e0, h1, h2⟩ := get_map_kill he
                rw [List.getElem?_take] at h1
                split at h1
                · rw [List.getElem?_drop] at h1; exact ⟨e0, h1, h2.symm⟩
                · cases h1
              have cellAt : ∀ (m : Nat) e, (((blk.els.drop i).take n).map (view d hp))[m]? = some e → ∀ (j : Nat) c, e.cells[j]? = some c → ∃ v, E.w.cell? ⟨E.ρ b, off + m * blk.w + j, none⟩ = some v ∧ RV (E.lent hp) c v := by
                intro m e he j c hc
                obtain ⟨e0, h1, rfl⟩ := tr m e he
                obtain ⟨c0, h2, h3⟩ := (ih e0).2 j c hc
                obtain ⟨v, h4, h5⟩ := H.cell hblk hl hw0 h1 h2
                refine ⟨v, ?_, h3 v h5⟩
                rw [hoff, hwd]
                rw [hwd, Nat.add_mul] at h4
                exact h4
              have := RV.ro (E := E.lent hp) (((blk.els.drop i).take n).map (view d hp)) (E.ρ b) off cap blk.w (fun m j => (E.w.cell? ⟨E.ρ b, off + m * blk.w + j, none⟩).getD undef)
                (.inr ⟨b, ⟨blk, hblk, hl⟩, rfl⟩) (by rw [hlen]; exact hcap) hmax
                (fun m e he => by
                  obtain ⟨e0, h1, rfl⟩ := tr m e he
                  rw [view_cells]; exact (hcs2 _ e0 h1).1)
                (fun m e he j c hc => by
                  obtain ⟨v, h1, _⟩ := cellAt m e he j c hc
                  show E.w.cell? _ = _
                  rw [h1]; rfl)
                (fun m e he j c hc => by
                  obtain ⟨v, h1, h2⟩ := cellAt m e he j c hc
                  simp only [h1, Option.getD_some]
                  exact h2)
              rw [hlen] at this
              exact this
          · exact .any _
        · exact .any _
      | ptr b i j hb hw0 =>
        simp only [view]
        split
        · rename_i blk hblk
          split
          · rename_i hl
            split
            · rename_i e he
              have hl' : blk.live = true := hl
              have cellAt : ∀ (m : Nat) c, ((e.cells.drop j).map (view d hp))[m]? = some c → ∃ v, E.w.cell? ⟨E.ρ b, i * E.wd b + j + m, none⟩ = some v ∧ RV (E.lent hp) c v := by
                intro m c hc
                obtain ⟨c0, h1, rfl⟩ := get_map_kill hc
                rw [List.getElem?_drop] at h1
                obtain ⟨v, h4, h5⟩ := H.cell hblk hl' hw0 he h1
                refine ⟨v, ?_, (ih c0).1 v h5⟩
                rw [Nat.add_assoc]; exact h4
              exact .rop (E := E.lent hp) _ (E.ρ b) _ (fun m => (E.w.cell? ⟨E.ρ b, i * E.wd b + j + m, none⟩).getD undef) (.inr ⟨b, ⟨blk, hblk, hl'⟩, rfl⟩)
                (fun m c hc => by
                  obtain ⟨v, h1, _⟩ := cellAt m c hc
                  show E.w.cell? _ = _
                  rw [h1]; rfl)
                (fun m c hc => by
                  obtain ⟨v, h1, h2⟩ := cellAt m c hc
                  simp only [h1, Option.getD_some]
                  exact h2)
            · exact .any _
          · exact .any _
        · exact .any _
      | rop l b off val hF hc hv => exact .rop (E := E.lent hp) l b off val (.inl hF) hc (fun j c hj => (hv j c hj).mono lent_le)
      | mp b hb =>
        simp only [view]
        split
        · rename_i blk hblk
          split
          · rename_i hcond
            simp only [Bool.and_eq_true, beq_iff_eq] at hcond
            obtain ⟨hl, hw⟩ := hcond
            exact .rom (E := E.lent hp) blk.els (E.ρ b) (.inr ⟨b, ⟨blk, hblk, hl⟩, rfl⟩) ((H.holds b blk hblk hl).map hw)
          · exact .any _
        · exact .any _
      | romNil => exact .romNil
      | rom l r hF h => exact .rom (E := E.lent hp) l r (.inl hF) h
      | nilp => exact .nilp
      | fn f l vs hl h =>
        refine .fn _ _ _ (by simpa using hl) fun i c v h1 h2 => ?_
        obtain ⟨a0, h3, rfl⟩ := get_map_kill (f := view d hp) h1
        exact (ih a0).1 v (h i a0 v h3 h2)
      | mv f l vs hl h =>
        refine .mv _ _ _ (by simpa using hl) fun i c v h1 h2 => ?_
        obtain ⟨a0, h3, rfl⟩ := get_map_kill (f := view d hp) h1
        exact (ih a0).1 v (h i a0 v h3 h2)
      | nilf => exact .nilf
      | nili => exact .nili
    refine ⟨main, fun j c hc => ?_⟩
    cases a with
    | agg l =>
      have hc' : (l.map (view d hp))[j]? = some c := hc
      obtain ⟨a0, h1, rfl⟩ := get_map_kill hc'
      exact ⟨a0, h1, (ih a0).1⟩
    | sl b i n =>
      have hcells : (view (d + 1) hp (.sl b i n)).cells = [view (d + 1) hp (.sl b i n)] := by
        simp only [view]; split
        · split <;> rfl
        · rfl
      rw [hcells] at hc
      cases j with
      | zero => simp at hc; subst hc; exact ⟨_, rfl, main⟩
      | succ j => simp at hc
    | ptr b i n =>
      have hcells : (view (d + 1) hp (.ptr b i n)).cells = [view (d + 1) hp (.ptr b i n)] := by
        simp only [view]; split
        · split
          · split <;> rfl
          · rfl
        · rfl
      rw [hcells] at hc
      cases j with
      | zero => simp at hc; subst hc; exact ⟨_, rfl, main⟩
      | succ j => simp at hc
    | mp b =>
      have hcells : (view (d + 1) hp (.mp b)).cells = [view (d + 1) hp (.mp b)] := by
        simp only [view]; split
        · split <;> rfl
        · rfl
      rw [hcells] at hc
      cases j with
      | zero => simp at hc; subst hc; exact ⟨_, rfl, main⟩
      | succ j => simp at hc
    | any | bool | int | flt | cpx | str | tup | nils | ro | rop | nilp | fn | mv | nilf | nili | rom =>
      cases j with
      | zero => simp only [view, AV.cells, List.getElem?_cons_zero, Option.some.injEq] at hc; subst hc; exact ⟨_, rfl, main⟩
      | succ j => simp [view, AV.cells] at hc
theorem RV.cleanL {E : Env P} {G : Nat → Prop} {a : AV} {v : Value} (hc : cleanL a = true) (h : RV E a v) : RV ({ E with F := G } : Env P) a v := by
  cases h with
  | any => exact .any _
  | bool => exact .bool _
  | int => exact .int _ _
  | flt _ _ _ h => exact .flt _ _ _ h
  | cpx _ _ _ _ _ h h' => exact .cpx _ _ _ _ _ h h'
  | str => exact .str _
  | nils => exact .nils _
  | sl b i n off cap hb ho hcap hmax hroom hw => exact .sl (E := { E with F := G }) b i n off cap hb ho hcap hmax hroom hw
  | ptr b i j hb hw => exact .ptr (E := { E with F := G }) b i j hb hw
  | mp b hb => exact .mp (E := { E with F := G }) b hb
  | rom => cases hc
  | romNil => exact .romNil
  | nilp => exact .nilp
  | nilf => exact .nilf
  | nili => exact .nili
  | agg => cases hc
  | tup => cases hc
  | fn => cases hc
  | mv => cases hc
  | roNil => exact .roNil _ _
  | ro => cases hc
  | rop => cases hc
theorem RV.cleanM {E : Env P} {G : Nat → Prop} {a : AV} {v : Value} (hc : Abs.cleanM a = true) (h : RV E a v) : RV ({ E with F := G } : Env P) a v := by
  cases a with
  | agg l =>
    simp only [Abs.cleanM, List.all_eq_true] at hc
    cases h with
    | agg _ vs hl h => exact .agg _ _ hl fun i c v h1 h2 => (h i c v h1 h2).cleanL (hc c (List.mem_of_getElem? h1))
  | fn f l =>
    simp only [Abs.cleanM, List.all_eq_true] at hc
    cases h with
    | fn _ _ vs hl h => exact .fn _ _ _ hl fun i c v h1 h2 => (h i c v h1 h2).cleanL (hc c (List.mem_of_getElem? h1))
  | mv f l =>
    simp only [Abs.cleanM, List.all_eq_true] at hc
    cases h with
    | mv _ _ vs hl h => exact .mv _ _ _ hl fun i c v h1 h2 => (h i c v h1 h2).cleanL (hc c (List.mem_of_getElem? h1))
  | _ => exact h.cleanL hc
theorem RV.clean {E : Env P} {G : Nat → Prop} {a : AV} {v : Value} (hc : Abs.clean a = true) (h : RV E a v) : RV ({ E with F := G } : Env P) a v := by
  cases a with
  | tup l =>
    simp only [Abs.clean, List.all_eq_true] at hc
    cases h with
    | tup _ vs hl h => exact .tup _ _ hl fun i c v h1 h2 => (h i c v h1 h2).cleanM (hc c (List.mem_of_getElem? h1))
  | _ => exact h.cleanM hc
theorem clean_cells {e : AV} (hc : Abs.clean e = true) {j : Nat} {c : AV} (h : e.cells[j]? = some c) {E : Env P} {G : Nat → Prop} {v : Value} (hv : RV E c v) : RV ({ E with F := G } : Env P) c v := by
  cases e with
  | agg l =>
    have hc' : ∀ a ∈ l, Abs.cleanL a = true := by simpa [Abs.clean, Abs.cleanM, List.all_eq_true] using hc
    have h' : l[j]? = some c := h
    exact hv.cleanL (hc' c (List.mem_of_getElem? h'))
  | _ =>
    cases j with
    | zero =>
      simp only [AV.cells, List.getElem?_cons_zero, Option.some.injEq] at h
      subst h
      exact hv.clean hc
    | succ j => simp [AV.cells] at h
section
variable {P : Program}
theorem CallA.lift {f : FuncId} {args : List AV} {hp : List Blk} {Q : AV → List Blk → Prop} (ha : args.all (below 0) = true)
    (h : CallA P f args [] fun r new => Q (ren (fun b => b + hp.length) r) (joinHp hp new)) : CallA P f args hp Q := by
  intro E vs H hl hrv
  simp only [List.all_eq_true] at ha
  have H0 : HRel (E.ren 0 fun b => b) [] := ⟨rfl, by simp, by simp, by simp, by simp, H.old, H.laid⟩
  refine (h (E.ren 0 fun b => b) vs H0 hl (fun i a v h1 h2 => RV.bare (ha a (List.mem_of_getElem? h1)) (hrv i a v h1 h2))).mono ?_
  rintro v w' ⟨r, new, E', hw, hQ, hv, H', F'⟩
  obtain ⟨E2, h1, h2, h3, h4⟩ := join_sound H (F0 := E.F) (fun _ h => h) H.old H' F' E'.F (F'.F) (fun _ h => h) (fun b hb hF => by
      rcases F'.F' _ hF with g1 | g1 | ⟨b', ⟨q, hq, _⟩, _⟩
      · obtain ⟨q, hq, hl⟩ := hb; exact H.apart b q hq hl g1
      · obtain ⟨q, hq, hl⟩ := hb
        have := (H.holds b q hq hl).lt
        have g1' : E.w.heap.size ≤ E.ρ b := g1
        omega
      · simp at hq)
    (fun c hc => by
      rcases F'.F' _ hc with g1 | g1 | ⟨b', ⟨q, hq, _⟩, _⟩
      · exact .inl g1
      · exact .inr g1
      · simp at hq) (fun b q hq hl i e he j c hc v hv => hv)
  exact ⟨_, _, E2, h1.trans hw, hQ, RV.ren h4 hv, h2, h3⟩
theorem CallA.borrow (d : Nat) {f : FuncId} {args : List AV} {hp : List Blk} {Q : AV → List Blk → Prop}
    (h : CallA P f (args.map (view d hp)) [] fun r new => (clean r = true ∧ new.all cleanB = true) ∧ Q (ren (fun b => b + hp.length) r) (joinHp hp new)) : CallA P f args hp Q := by
  intro E vs H hl hrv
  have H0 : HRel (E.lent hp) [] := ⟨rfl, by simp, by simp, by simp, by simp, fun c hc => by
    rcases hc with h1 | ⟨b, ⟨q, hq, hlv⟩, rfl⟩
    · exact H.old c h1
    · exact (H.holds b q hq hlv).lt, H.laid.keep (fun c h => .inl h) (fun _ _ => rfl)⟩
  refine (h (E.lent hp) vs H0 (by simpa using hl) (fun i a v h1 h2 => ?_)).mono ?_
  · obtain ⟨a0, h3, rfl⟩ := get_map_kill h1
    exact (view_sound H d a0).1 v (hrv i a0 v h3 h2)
  rintro v w' ⟨r, new, E', hw, ⟨⟨hcr, hcn⟩, hQ⟩, hv, H', F'⟩
  simp only [List.all_eq_true] at hcn
  obtain ⟨E2, h1, h2, h3, h4⟩ := join_sound H (F0 := (E.lent hp).F) (fun _ h => .inl h) (fun c hc => H0.old c hc) H' F' E.F (fun _ h => h) (fun c hc => F'.F c (.inl hc)) (fun b ⟨q, hq, hl⟩ hF => H.apart b q hq hl hF)
    (fun c hc => .inl hc) (fun b q hq hl i e he j c hc v hv => by
      have hq' := hcn q (List.mem_of_getElem? hq)
      simp only [cleanB, List.all_eq_true] at hq'
      exact clean_cells (hq' e (List.mem_of_getElem? he)) hc hv)
  exact ⟨_, _, E2, h1.trans hw, hQ, RV.ren h4 (hv.clean hcr), h2, h3⟩
end
end Go.Abs
namespace Go.Abs
open Go
variable {P : Program}
def ints (l : List Int) : List AV := l.map (AV.int .i64)
def flts (l : List Nat) : List AV := l.map (AV.flt .f32)
section
variable (l m : List Int) (f g : List Nat)
theorem ints_len : (ints l).length = l.length := by simp [ints]
theorem ints_get (i : Nat) (h : i < (ints l).length) : (ints l)[i] = .int .i64 (l[i]'(by simpa [ints] using h)) := by simp [ints]
theorem ints_append : ints l ++ ints m = ints (l ++ m) := by simp [ints]
theorem ints_snoc (n : Int) : ints l ++ [AV.int .i64 n] = ints (l ++ [n]) := by simp [ints]
theorem ints_set (i : Nat) (n : Int) : (ints l).set i (.int .i64 n) = ints (l.set i n) := by simp [ints, List.map_set]
theorem ints_kill (b : Nat) : (ints l).map (kill b) = ints l := by
  simp only [ints, List.map_map]; apply List.map_congr_left; intro x _; rfl
theorem ints_ren (π : Nat → Nat) : (ints l).map (ren π) = ints l := by
  simp only [ints, List.map_map]; apply List.map_congr_left; intro x _; rfl
theorem ints_below (N : Nat) : allBelow N (ints l) = true := by simp [allBelow, ints, below, belowM, belowL]
theorem ints_clean : (ints l).all clean = true := by simp [ints, clean, cleanM, cleanL]
theorem ints_allW : AllW 1 (ints l) := by intro a ha; simp only [ints, List.mem_map] at ha; obtain ⟨x, _, rfl⟩ := ha; exact ⟨rfl, rfl⟩
theorem flts_len : (flts f).length = f.length := by simp [flts]
theorem flts_get (i : Nat) (h : i < (flts f).length) : (flts f)[i] = .flt .f32 (f[i]'(by simpa [flts] using h)) := by simp [flts]
theorem flts_append : flts f ++ flts g = flts (f ++ g) := by simp [flts]
theorem flts_snoc (n : Nat) : flts f ++ [AV.flt .f32 n] = flts (f ++ [n]) := by simp [flts]
theorem flts_kill (b : Nat) : (flts f).map (kill b) = flts f := by
  simp only [flts, List.map_map]; apply List.map_congr_left; intro x _; rfl
theorem flts_below (N : Nat) : allBelow N (flts f) = true := by simp [allBelow, flts, below, belowM, belowL]
theorem flts_allW : AllW 1 (flts f) := by intro a ha; simp only [flts, List.mem_map] at ha; obtain ⟨x, _, rfl⟩ := ha; exact ⟨rfl, rfl⟩
end
theorem brk_true (x y : Prop) : brk true x y = x := by simp [brk]
theorem brk_false (x y : Prop) : brk false x y = y := by simp [brk]
end Go.Abs
namespace Go.Abs
open Go
variable {P : Program}
def upName (σ : List Nat) (n : Nat) (i : Nat) : Nat := if i < σ.length then σ.getD i 0 else n + (i - σ.length)
def putBack (τ : Nat → Nat) : List Nat → List Blk → List Blk → List Blk
  | b :: σ, q :: l, hp => putBack τ σ l (hp.set b (renB τ q))
  | _, _, hp => hp
theorem putBack_len (τ : Nat → Nat) : ∀ (σ : List Nat) (l hp : List Blk), (putBack τ σ l hp).length = hp.length
  | [], _, _ => rfl
  | _ :: _, [], _ => rfl
  | b :: σ, q :: l, hp => by simp [putBack, putBack_len τ σ l]
theorem putBack_other (τ : Nat → Nat) : ∀ (σ : List Nat) (l hp : List Blk) (b : Nat), b ∉ σ → (putBack τ σ l hp)[b]? = hp[b]?
  | [], _, _, _, _ => rfl
  | _ :: _, [], _, _, _ => rfl
  | c :: σ, q :: l, hp, b, h => by
    simp only [List.mem_cons, not_or] at h
    simp only [putBack]
    rw [putBack_other τ σ l _ b h.2, List.getElem?_set_ne (fun e => h.1 e.symm)]
theorem putBack_at (τ : Nat → Nat) : ∀ (σ : List Nat) (l hp : List Blk) (i b : Nat) (q : Blk), σ.Nodup → σ[i]? = some b → l[i]? = some q → b < hp.length → (putBack τ σ l hp)[b]? = some (renB τ q)
  | [], _, _, i, _, _, _, h, _, _ => by simp at h
  | _ :: _, [], _, i, _, _, _, _, h, _ => by simp at h
  | c :: σ, q :: l, hp, 0, b, q', hn, h1, h2, hb => by
    simp only [List.getElem?_cons_zero, Option.some.injEq] at h1 h2
    subst h1; subst h2
    simp only [putBack]
    rw [putBack_other τ σ l _ c (List.nodup_cons.1 hn).1, List.getElem?_set_self hb]
  | c :: σ, q :: l, hp, i + 1, b, q', hn, h1, h2, hb => by
    simp only [putBack]
    exact putBack_at τ σ l _ i b q' (List.nodup_cons.1 hn).2 (by simpa using h1) (by simpa using h2) (by simpa using hb)
def subHp (σ : List Nat) (hp hp' : List Blk) : List Blk := putBack (upName σ hp.length) σ hp' hp ++ (hp'.drop σ.length).map (renB (upName σ hp.length))
structure Sub (σ : List Nat) (hp hps : List Blk) : Prop where
  nodup : σ.Nodup
  len : hps.length = σ.length
  blk : ∀ (i : Nat) r, hps[i]? = some r → ∃ q, hp[σ.getD i 0]? = some q ∧ q.w = r.w ∧ (r.live = true → q.live = true ∧ q.ty = r.ty ∧ q.els = r.els.map (ren fun i => σ.getD i 0) ∧ ∀ e ∈ r.els, below σ.length e = true)
theorem Sub.hrel {σ : List Nat} {hp hps : List Blk} (S : Sub σ hp hps) {E : Env P} (H : HRel E hp) : HRel (E.ren σ.length fun i => σ.getD i 0) hps := by
  have lt : ∀ (b : Nat) r, hps[b]? = some r → b < σ.length := fun b r hb => by rw [← S.len]; exact (List.getElem?_eq_some_iff.1 hb).1
  have inj : ∀ b b', b < σ.length → b' < σ.length → σ.getD b 0 = σ.getD b' 0 → b = b' := by
    intro b b' h1 h2 he
    simp only [List.getD, List.getElem?_eq_getElem h1, List.getElem?_eq_getElem h2, Option.getD_some] at he
    exact (List.getElem_inj S.nodup).1 he
  refine ⟨S.len.symm, ?_, ?_, ?_, ?_, H.old, H.laid⟩
  · intro b r hb
    obtain ⟨q, hq, hw, _⟩ := S.blk b r hb
    show E.wd (σ.getD b 0) = r.w
    rw [H.wd _ q hq, hw]
  · intro b r hb hl
    obtain ⟨q, hq, hw, hx⟩ := S.blk b r hb
    obtain ⟨hql, hty, hels, hbel⟩ := hx hl
    refine ⟨fun hw0 => ?_, fun hw0 => ?_⟩
    rotate_left
    · have := (H.holds _ q hq hql).map (hw.trans hw0)
      rw [hels] at this
      exact this.unmap (ren_still _)
    obtain ⟨cs, h1, h2⟩ := (H.holds _ q hq hql).cells (hw ▸ hw0)
    refine ⟨cs, by rw [← hty]; exact h1, fun i e he => ?_⟩
    have hbe := hbel e (List.mem_of_getElem? he)
    obtain ⟨k1, k2⟩ := ren_cells (π := fun i => σ.getD i 0) hbe
    have hqe : q.els[i]? = some (Abs.ren (fun i => σ.getD i 0) e) := by rw [hels]; simp [he]
    obtain ⟨h3, h4⟩ := h2 i _ hqe
    refine ⟨by rw [← hw, ← h3, k1], fun j c hc => ?_⟩
    obtain ⟨c', hc', k3⟩ := k2 j c hc
    obtain ⟨v, h5, h6⟩ := h4 j c' hc'
    exact ⟨v, by rw [← hw]; exact h5, k3 h6⟩
  · intro b b' r r' hb hl hb' hl' he
    obtain ⟨q, hq, _, hx⟩ := S.blk b r hb
    obtain ⟨q', hq', _, hx'⟩ := S.blk b' r' hb'
    exact inj b b' (lt b r hb) (lt b' r' hb') (H.inj _ _ q q' hq (hx hl).1 hq' (hx' hl').1 he)
  · intro b r hb hl
    obtain ⟨q, hq, _, hx⟩ := S.blk b r hb
    exact H.apart _ q hq (hx hl).1
theorem sub_sound {E : Env P} {hp hps : List Blk} (H : HRel E hp) {σ : List Nat} (S : Sub σ hp hps) {E' : Env P} {hp' : List Blk} (H' : HRel E' hp') (F' : Fr (E.ren σ.length fun i => σ.getD i 0) hps E' hp') :
    ∃ E2 : Env P, E2.w = E'.w ∧ HRel E2 (subHp σ hp hp') ∧ Fr E hp E2 (subHp σ hp hp') ∧ Into (upName σ hp.length) E' E2 := by
  have Hs := S.hrel H
  have hm : σ.length ≤ hp'.length := by rw [← S.len]; exact F'.len
  have hσlt : ∀ i, i < σ.length → σ.getD i 0 < hp.length := fun i hi => by
    have hi' : i < hps.length := by rw [S.len]; exact hi
    obtain ⟨q, hq, _⟩ := S.blk i hps[i] (List.getElem?_eq_getElem hi')
    exact (List.getElem?_eq_some_iff.1 hq).1
  have hσget : ∀ i, i < σ.length → σ[i]? = some (σ.getD i 0) := fun i hi => by simp [List.getD, List.getElem?_eq_getElem hi]
  have hsize : E.w.heap.size ≤ E'.w.heap.size := F'.size
  have hbound : ∀ (b : Nat) bk, hp[b]? = some bk → bk.live = true → E.ρ b < E.w.heap.size := fun b bk hb hlv => by
    exact (H.holds b bk hb hlv).lt
  have liveS : ∀ i, Live hps i → i < σ.length ∧ Live hp (σ.getD i 0) := fun i ⟨r, hr, hl⟩ => by
    obtain ⟨q, hq, _, hx⟩ := S.blk i r hr
    exact ⟨by rw [← S.len]; exact (List.getElem?_eq_some_iff.1 hr).1, q, hq, (hx hl).1⟩
  let n := hp.length
  let E2 : Env P := { w := E'.w, F := E'.F, N := hp.length + (hp'.length - σ.length), ρ := fun b => if b < hp.length then E.ρ b else E'.ρ (b - hp.length + σ.length), wd := fun b => if b < hp.length then E.wd b else E'.wd (b - hp.length + σ.length) }
  have kept : ∀ c, E.F c → E'.w.heap[c]? = E.w.heap[c]? := fun c hc => F'.kept Hs hc
  have le : E.le E2 := ⟨fun c h => F'.F c h, kept, by show E.N ≤ _; rw [H.N]; simp [E2],
    fun b hb => by have : b < hp.length := by rw [← H.N]; exact hb
                   simp [E2, this], fun b hb => by have : b < hp.length := by rw [← H.N]; exact hb
                                                   simp [E2, this], fun c => F'.csz c⟩
  have into : Into (upName σ hp.length) E' E2 := by
    refine ⟨⟨fun _ h => h, fun _ _ => rfl, Nat.le_refl _, fun _ hb => absurd hb (Nat.not_lt_zero _), fun _ hb => absurd hb (Nat.not_lt_zero _), fun _ => Nat.le_refl _⟩, fun i hi => ?_, fun i hi => ?_, fun i hi => ?_⟩
    · have hi' : i < hp'.length := by rw [← H'.N]; exact hi
      unfold upName
      by_cases h1 : i < σ.length
      · simp only [h1, if_true]; have := hσlt i h1; show σ.getD i 0 < hp.length + _; omega
      · simp only [h1, if_false]; show hp.length + (i - σ.length) < hp.length + _; omega
    · unfold upName
      by_cases h1 : i < σ.length
      · simp only [h1, if_true, E2, hσlt i h1]
        exact (F'.ρ i (by rw [S.len]; exact h1)).symm
      · have h2 : ¬ hp.length + (i - σ.length) < hp.length := by omega
        have h3 : hp.length + (i - σ.length) - hp.length + σ.length = i := by omega
        simp only [h1, if_false, E2, h2, h3]
    · unfold upName
      by_cases h1 : i < σ.length
      · simp only [h1, if_true, E2, hσlt i h1]
        exact (F'.wd i (by rw [S.len]; exact h1)).symm
      · have h2 : ¬ hp.length + (i - σ.length) < hp.length := by omega
        have h3 : hp.length + (i - σ.length) - hp.length + σ.length = i := by omega
        simp only [h1, if_false, E2, h2, h3]
  -- what stands where
  have hat : ∀ (b : Nat) bk, (subHp σ hp hp')[b]? = some bk → (b < hp.length ∧ b ∉ σ ∧ hp[b]? = some bk) ∨ (∃ i q, upName σ hp.length i = b ∧ hp'[i]? = some q ∧ bk = renB (upName σ hp.length) q ∧ ((i < σ.length ∧ b < hp.length) ∨ (σ.length ≤ i ∧ hp.length ≤ b))) := by
    intro b bk h
    unfold subHp at h
    rw [List.getElem?_append, putBack_len] at h
    split at h
    · rename_i hb
      by_cases hmem : b ∈ σ
      · obtain ⟨i, hi⟩ := List.getElem?_of_mem hmem
        have hilt : i < σ.length := (List.getElem?_eq_some_iff.1 hi).1
        have hi' : i < hp'.length := by omega
        rw [putBack_at _ σ hp' hp i b hp'[i] S.nodup hi (List.getElem?_eq_getElem hi') hb] at h
        refine .inr ⟨i, hp'[i], ?_, List.getElem?_eq_getElem hi', by simpa using h.symm, .inl ⟨hilt, hb⟩⟩
        unfold upName
        simp only [hilt, if_true, List.getD, hi, Option.getD_some]
      · rw [putBack_other _ σ hp' hp b hmem] at h
        exact .inl ⟨hb, hmem, h⟩
    · rename_i hb
      obtain ⟨q, h1, h2, _⟩ := mem_map_get h
      rw [List.getElem?_drop] at h1
      refine .inr ⟨_, q, ?_, h1, h2.symm, .inr ⟨by omega, by omega⟩⟩
      unfold upName
      have : ¬ σ.length + (b - hp.length) < σ.length := by omega
      simp only [this, if_false]
      omega
  have hi'N : ∀ i q, hp'[i]? = some q → i < E'.N := fun i q h => by rw [H'.N]; exact (List.getElem?_eq_some_iff.1 h).1
  have notσ : ∀ b q, b ∉ σ → hp[b]? = some q → q.live = true → ∀ i, Live hps i → E.ρ (σ.getD i 0) ≠ E.ρ b := by
    intro b q hb hq hl i hi he
    obtain ⟨hlt, q', hq', hl'⟩ := liveS i hi
    have := H.inj _ _ q' q hq' hl' hq hl he
    exact hb (this ▸ List.mem_of_getElem? (hσget i hlt))
  refine ⟨E2, rfl, ⟨?_, ?_, ?_, ?_, ?_, ?_, H.laidLe le⟩, ?_, into⟩
  · simp [E2, subHp, putBack_len]
  · intro b bk hb
    rcases hat b bk hb with ⟨h1, h2, h3⟩ | ⟨i, q, rfl, h2, rfl, _⟩
    · simp only [E2, h1, if_true]; exact H.wd b bk h3
    · rw [into.wd i (hi'N i q h2)]; exact H'.wd i q h2
  · intro b bk hb hl
    rcases hat b bk hb with ⟨h1, h2, h3⟩ | ⟨i, q, rfl, h2, rfl, _⟩
    · refine (H.holds b bk h3 hl).keep ?_ fun x u hu => hu.mono le
      simp only [E2, h1, if_true]
      exact F'.block _ (hbound b bk h3 hl) (fun i hi => notσ b bk h2 h3 hl i hi)
    · refine (H'.holds i q h2 hl).turn (by rw [into.ρ i (hi'N i q h2)]) (φ := Abs.ren (upName σ hp.length)) (fun _ _ => rfl) fun e _ => ?_
      obtain ⟨k1, k2⟩ := ren_cells' (upName σ hp.length) e
      refine ⟨k1, fun j x hx => ?_⟩
      obtain ⟨c0, h6, h7⟩ := k2 j x hx
      exact ⟨c0, h6, fun u hu => h7 into hu⟩
  · intro b1 b2 k1 k2 hb1 hl1 hb2 hl2 he
    rcases hat b1 k1 hb1 with ⟨h1, h2, h3⟩ | ⟨i1, q1, rfl, h2, rfl, _⟩ <;> rcases hat b2 k2 hb2 with ⟨g1, g2, g3⟩ | ⟨i2, q2, rfl, g2, rfl, _⟩
    · simp only [E2, h1, g1, if_true] at he
      exact H.inj b1 b2 k1 k2 h3 hl1 g3 hl2 he
    · exfalso
      rw [into.ρ i2 (hi'N i2 q2 g2)] at he
      simp only [E2, h1, if_true] at he
      rcases F'.live i2 ⟨q2, g2, hl2⟩ with ⟨l1, l2⟩ | ⟨_, l2 | ⟨i0, l0, e0⟩⟩
      · rw [F'.ρ i2 l1] at he
        exact notσ b1 k1 h2 h3 hl1 i2 l2 he.symm
      · have := hbound b1 k1 h3 hl1
        have l2' : E.w.heap.size ≤ E'.ρ i2 := l2
        omega
      · exact notσ b1 k1 h2 h3 hl1 i0 l0 (e0.trans he.symm)
    · exfalso
      rw [into.ρ i1 (hi'N i1 q1 h2)] at he
      simp only [E2, g1, if_true] at he
      rcases F'.live i1 ⟨q1, h2, hl1⟩ with ⟨l1, l2⟩ | ⟨_, l2 | ⟨i0, l0, e0⟩⟩
      · rw [F'.ρ i1 l1] at he
        exact notσ b2 k2 g2 g3 hl2 i1 l2 he
      · have := hbound b2 k2 g3 hl2
        have l2' : E.w.heap.size ≤ E'.ρ i1 := l2
        omega
      · exact notσ b2 k2 g2 g3 hl2 i0 l0 (e0.trans he)
    · rw [into.ρ i1 (hi'N i1 q1 h2), into.ρ i2 (hi'N i2 q2 g2)] at he
      rw [H'.inj i1 i2 q1 q2 h2 hl1 g2 hl2 he]
  · intro b bk hb hl
    rcases hat b bk hb with ⟨h1, h2, h3⟩ | ⟨i, q, rfl, h2, rfl, _⟩
    · simp only [E2, h1, if_true]
      intro hF
      rcases F'.F' _ hF with g | g | ⟨i, hi, he⟩
      · exact H.apart b bk h3 hl g
      · have := hbound b bk h3 hl
        have g' : E.w.heap.size ≤ E.ρ b := g
        omega
      · exact notσ b bk h2 h3 hl i hi he
    · rw [into.ρ i (hi'N i q h2)]; exact H'.apart i q h2 hl
  · exact fun c hc => H'.old c hc
  · exact {
      size := hsize
      os := F'.os
      tape := F'.tape
      output := F'.output
      block := fun c hc hn => F'.block c hc fun i hi he => by
        obtain ⟨_, hlv⟩ := liveS i hi
        exact hn _ hlv he
      len := by simp [subHp, putBack_len]
      ρ := fun b hb => by simp [E2, hb]
      wd := fun b hb => by simp [E2, hb]
      F := fun c h => F'.F c h
      F' := fun c h => by
        rcases F'.F' c h with g | g | ⟨i, hi, he⟩
        · exact .inl g
        · exact .inr (.inl g)
        · exact .inr (.inr ⟨_, (liveS i hi).2, he⟩)
      live := fun b ⟨bk, hb, hl⟩ => by
        rcases hat b bk hb with ⟨h1, h2, h3⟩ | ⟨i, q, rfl, h2, rfl, hcase⟩
        · exact .inl ⟨h1, bk, h3, hl⟩
        · rcases hcase with ⟨c1, c2⟩ | ⟨c1, c2⟩
          · refine .inl ⟨c2, ?_⟩
            rcases F'.live i ⟨q, h2, hl⟩ with ⟨_, l2⟩ | ⟨l1, _⟩
            · have := (liveS i l2).2
              unfold upName
              simp only [c1, if_true]
              exact this
            · rw [S.len] at l1; omega
          · refine .inr ⟨c2, ?_⟩
            rw [into.ρ i (hi'N i q h2)]
            rcases F'.live i ⟨q, h2, hl⟩ with ⟨l1, _⟩ | ⟨_, l2⟩
            · rw [S.len] at l1; omega
            · rcases l2 with l2 | ⟨i0, l0, e0⟩
              · exact .inl l2
              · exact .inr ⟨_, (liveS i0 l0).2, e0⟩
      csz := F'.csz }
section
variable {P : Program}
theorem CallA.sub (σ : List Nat) {f : FuncId} {args args' : List AV} {hp hps : List Blk} {Q : AV → List Blk → Prop} (S : Sub σ hp hps) (ha : args = args'.map (ren fun i => σ.getD i 0)) (hb : args'.all (below σ.length) = true)
    (h : CallA P f args' hps fun r hp' => Q (ren (upName σ hp.length) r) (subHp σ hp hp')) : CallA P f args hp Q := by
  intro E vs H hl hrv
  simp only [List.all_eq_true] at hb
  refine (h _ vs (S.hrel H) (by rw [hl, ha]; simp) (fun i a v h1 h2 => RV.unren (hb a (List.mem_of_getElem? h1)) (hrv i _ v (by rw [ha]; simp [h1]) h2))).mono ?_
  rintro v w' ⟨r, hp', E', hw, hQ, hv, H', F'⟩
  obtain ⟨E2, h1, h2, h3, h4⟩ := sub_sound H S H' F'
  exact ⟨_, _, E2, h1.trans hw, hQ, RV.ren h4 hv, h2, h3⟩
end
end Go.Abs
namespace Go.Abs
open Go
variable {P : Program}
theorem w64 {n : Int} (h1 : -9223372036854775808 ≤ n) (h2 : n ≤ 9223372036854775807) : IntKind.i64.wrap n = n := IntWalk.i64_in n ⟨h1, h2⟩
theorem w64_succ (k : Nat) (h : k < 9223372036854775807) : IntKind.i64.wrap ((k : Int) + 1) = ((k + 1 : Nat) : Int) := by rw [w64 (by omega) (by omega)]; rfl
theorem order_self {d : Ieee.Datum} (h : d.isNaN = false) : d.order d = some .eq := by
  cases d with
  | nan s t => cases h
  | infinity s => cases s <;> rfl
  | number s m p =>
    simp only [Ieee.Datum.order]
    congr 1
    generalize Ieee.signed s m (p - min p p).toNat = z
    simp [compare, compareOfLessAndEq]
theorem take_snoc {α : Type} (l : List α) (k : Nat) (h : k < l.length) : l.take (k + 1) = l.take k ++ [l[k]] := by simp
end Go.Abs
