/- The abstract layer, part ZA: a drawn region whose operations make blocks of their own, told by a plan: what each operation yields; its end told by names of one's choice, ahead of the last operation. -/
import Derived.Test.YtdhomifcjakbgaaDoorAbsZ3
import Derived.Test.YtdhomifcjakbgaaDoorAbsZ5
set_option linter.unusedSimpArgs false
set_option linter.unusedVariables false
namespace Go.Abs
open Go
variable {P : Program}

/-! The known blocks that a value names. -/
def namesL : AV → List Nat
  | .sl b _ _ | .ptr b _ _ => [b]
  | _ => []
def namesM : AV → List Nat
  | .agg l | .fn _ l => l.flatMap namesL
  | v => namesL v
def names : AV → List Nat
  | .tup l => l.flatMap namesM
  | v => namesM v
theorem renL_names {π π' : Nat → Nat} (a : AV) (h : ∀ b ∈ namesL a, π b = π' b) : renL π a = renL π' a := by
  cases a <;> first | rfl | (simp only [namesL, List.mem_singleton, forall_eq] at h; simp only [renL, h])
theorem renM_names {π π' : Nat → Nat} (a : AV) (h : ∀ b ∈ namesM a, π b = π' b) : renM π a = renM π' a := by
  cases a with
  | agg l =>
    simp only [namesM, List.mem_flatMap] at h
    simp only [renM, AV.agg.injEq]
    exact List.map_congr_left fun x hx => renL_names x fun b hb => h b ⟨x, hx, hb⟩
  | fn f l =>
    simp only [namesM, List.mem_flatMap] at h
    simp only [renM, AV.fn.injEq, true_and]
    exact List.map_congr_left fun x hx => renL_names x fun b hb => h b ⟨x, hx, hb⟩
  | _ => first | rfl | (simp only [namesM, namesL, List.mem_singleton, forall_eq] at h; simp only [renM, renL, h])
theorem ren_names {π π' : Nat → Nat} (a : AV) (h : ∀ b ∈ names a, π b = π' b) : ren π a = ren π' a := by
  cases a with
  | tup l =>
    simp only [names, List.mem_flatMap] at h
    simp only [ren, AV.tup.injEq]
    exact List.map_congr_left fun x hx => renM_names x fun b hb => h b ⟨x, hx, hb⟩
  | agg l => exact renM_names (.agg l) h
  | fn f l => exact renM_names (.fn f l) h
  | _ => first | rfl | (simp only [names, namesM, namesL, List.mem_singleton, forall_eq] at h; simp only [ren, renM, renL, h])
theorem ren_comp (π σ : Nat → Nat) (a : AV) : ren π (ren σ a) = ren (fun b => π (σ b)) a := by
  have hL : ∀ a, renL π (renL σ a) = renL (fun b => π (σ b)) a := fun a => by cases a <;> rfl
  have hM : ∀ a, renM π (renM σ a) = renM (fun b => π (σ b)) a := fun a => by
    cases a with
    | agg l => simp [renM, hL]
    | fn f l => simp [renM, hL]
    | _ => rfl
  cases a with
  | tup l => simp [ren, hM]
  | agg l => exact hM (.agg l)
  | fn f l => exact hM (.fn f l)
  | _ => rfl

/-! An operation looks at its operands alone. -/
section
variable {P : Program} {n0 : Nat}
theorem map_ops {f f' : Operand → AV} {l : List Operand} (h : ∀ x ∈ l, f x = f' x) : l.map f = l.map f' := List.map_congr_left h
theorem quietA_congr {op : Op} {f f' : Operand → AV} {hp : List Blk} {k : AV → Prop} (he : ∀ x ∈ op.operands, f x = f' x) (h : quietA P op f hp k) : quietA P op f' hp k := by
  cases op with
  | move x => simp only [quietA] at h ⊢; rw [← he x (by simp [Op.operands])]; exact h
  | assign x => simp only [quietA] at h ⊢; rw [← he x (by simp [Op.operands])]; exact h
  | pick c a b => simp only [quietA] at h ⊢; rw [← he c (by simp [Op.operands]), ← he a (by simp [Op.operands]), ← he b (by simp [Op.operands])]; exact h
  | build t parts =>
    simp only [quietA] at h ⊢
    have e : (parts.toList.map fun p => (p.1, f' p.2)) = parts.toList.map fun p => (p.1, f p.2) := List.map_congr_left fun p hp => by rw [he p.2 (by simp only [Op.operands]; simpa using ⟨p.1, by simpa using hp⟩)]
    rw [e]
    exact h
  | load t a => simp only [quietA] at h ⊢; rw [← he a (by simp [Op.operands])]; exact h
  | nilCheck x => simp only [quietA] at h ⊢; rw [← he x (by simp [Op.operands])]; exact h
  | binOp o t x y t' => simp only [quietA] at h ⊢; rw [← he x (by simp [Op.operands]), ← he y (by simp [Op.operands])]; exact h
  | unOp o t x => simp only [quietA] at h ⊢; rw [← he x (by simp [Op.operands])]; exact h
  | convert s d x => simp only [quietA] at h ⊢; rw [← he x (by simp [Op.operands])]; exact h
  | makeFunc c first cap =>
    cases c with
    | func g =>
      simp only [quietA] at h ⊢
      have e : cap.toList.map f' = cap.toList.map f := List.map_congr_left fun x hx => (he x (by simp [Op.operands]; simp at hx; simp [hx])).symm
      rw [e]
      exact h
    | _ => exact h.elim
  | slice t x lo hi mx =>
    cases mx with
    | some m => exact h.elim
    | none =>
      simp only [quietA] at h ⊢
      have e1 : lo.map f' = lo.map f := by
        cases lo with
        | none => rfl
        | some a => simp [he a (by simp [Op.operands])]
      have e2 : hi.map f' = hi.map f := by
        cases hi with
        | none => rfl
        | some a => simp [he a (by simp [Op.operands])]
      rw [← he x (by simp [Op.operands]), e1, e2]
      exact h
  | fieldAddr s x i => simp only [quietA] at h ⊢; rw [← he x (by simp [Op.operands])]; exact h
  | field t x i => simp only [quietA] at h ⊢; rw [← he x (by simp [Op.operands])]; exact h
  | indexAddr t x ix => simp only [quietA] at h ⊢; rw [← he x (by simp [Op.operands]), ← he ix (by simp [Op.operands])]; exact h
  | index t x ix => simp only [quietA] at h ⊢; rw [← he x (by simp [Op.operands]), ← he ix (by simp [Op.operands])]; exact h
  | extract x i => simp only [quietA] at h ⊢; rw [← he x (by simp [Op.operands])]; exact h
  | call c =>
    obtain ⟨callee, args, ts⟩ := c
    cases callee with
    | builtin b =>
      simp only [quietA] at h ⊢
      have e : args.toList.map f' = args.toList.map f := List.map_congr_left fun x hx => (he x (by simp [Op.operands, Call.operands]; simpa using hx)).symm
      rw [e]
      exact h
    | _ => exact h.elim
  | _ => exact h.elim
theorem opA_congr {op : Op} {f f' : Operand → AV} {hp : List Blk} {k : AV → List Blk → Option Nat → Prop} (he : ∀ x ∈ op.operands, f x = f' x) (h : opA P n0 op f hp k) : opA P n0 op f' hp k := by
  cases op with
  | alloc t => exact h
  | box t x => simp only [opA] at h ⊢; rw [← he x (by simp [Op.operands])]; exact h
  | buildSlice t len parts =>
    simp only [opA] at h ⊢
    have e : (parts.toList.map fun p => (p.1, f' p.2)) = parts.toList.map fun p => (p.1, f p.2) := List.map_congr_left fun p hp => by rw [he p.2 (by simp only [Op.operands]; simpa using ⟨p.1, by simpa using hp⟩)]
    rw [e]
    exact h
  | store t a x => simp only [opA] at h ⊢; rw [← he a (by simp [Op.operands]), ← he x (by simp [Op.operands])]; exact h
  | makeSlice t l c => simp only [opA] at h ⊢; rw [← he l (by simp [Op.operands]), ← he c (by simp [Op.operands])]; exact h
  | call c =>
    obtain ⟨callee, args, ts⟩ := c
    cases callee with
    | value g =>
      simp only [opA] at h ⊢
      have e : args.toList.map f' = args.toList.map f := List.map_congr_left fun x hx => (he x (by simp [Op.operands, Call.operands]; simp at hx; simp [hx])).symm
      rw [← he g (by simp [Op.operands, Call.operands]), e]
      exact h
    | builtin b =>
      have e : args.toList.map f' = args.toList.map f := List.map_congr_left fun x hx => (he x (by simp [Op.operands, Call.operands]; simpa using hx)).symm
      by_cases hb : b = .append
      · subst hb
        obtain ⟨l⟩ := args
        simp only [opA] at h ⊢
        match l, he, h with
        | [s, x], he, h => simp only [] at h ⊢; rw [← he s (by simp [Op.operands, Call.operands]), ← he x (by simp [Op.operands, Call.operands])]; exact h
        | [], _, h => exact h.elim
        | [_], _, h => exact h.elim
        | _ :: _ :: _ :: _, _, h => exact h.elim
      · cases b <;> first | exact absurd rfl hb | (simp only [opA] at h ⊢; rw [e]; exact h)
    | _ => exact h.elim
  | move x => exact quietA_congr (P := P) (hp := hp) (k := fun v => k v hp none) he h
  | assign x => exact quietA_congr (P := P) (hp := hp) (k := fun v => k v hp none) he h
  | pick c a b => exact quietA_congr (P := P) (hp := hp) (k := fun v => k v hp none) he h
  | build t parts => exact quietA_congr (P := P) (hp := hp) (k := fun v => k v hp none) he h
  | load t a => exact quietA_congr (P := P) (hp := hp) (k := fun v => k v hp none) he h
  | nilCheck x => exact quietA_congr (P := P) (hp := hp) (k := fun v => k v hp none) he h
  | binOp o t x y t' => exact quietA_congr (P := P) (hp := hp) (k := fun v => k v hp none) he h
  | unOp o t x => exact quietA_congr (P := P) (hp := hp) (k := fun v => k v hp none) he h
  | convert s d x => exact quietA_congr (P := P) (hp := hp) (k := fun v => k v hp none) he h
  | makeFunc c first cap => exact quietA_congr (P := P) (hp := hp) (k := fun v => k v hp none) he h
  | slice t x lo hi mx => exact quietA_congr (P := P) (hp := hp) (k := fun v => k v hp none) he h
  | fieldAddr s x i => exact quietA_congr (P := P) (hp := hp) (k := fun v => k v hp none) he h
  | field t x i => exact quietA_congr (P := P) (hp := hp) (k := fun v => k v hp none) he h
  | indexAddr t x ix => exact quietA_congr (P := P) (hp := hp) (k := fun v => k v hp none) he h
  | index t x ix => exact quietA_congr (P := P) (hp := hp) (k := fun v => k v hp none) he h
  | extract x i => exact quietA_congr (P := P) (hp := hp) (k := fun v => k v hp none) he h
  | _ => exact h.elim
end

/-! The remainder of a drawn region. -/
section
variable {P : Program} {n0 : Nat}
def AnyS (P : Program) (n0 : Nat) (ops : List Oper) (Q : Ex → St → Prop) (fuel : Nat) (listed : Array Bool) (st : St) : Prop :=
  ∀ (E0 : Env P) (hp0 : List Blk) (E : Env P) (a : Act), hp0.length = n0 → SR E0 hp0 E st a → wpAny P .any ops.toArray (liftQ E0 hp0 Q) fuel listed a E.w
theorem Weak.refl {st : St} : Weak n0 st st := fun _ _ _ E _ _ hs => ⟨E, rfl, hs⟩
/-- What holds at each step of any order holds at its end; ahead of a step the state may be told anew. -/
theorem anyS_by {ops : List Oper} {Q : Ex → St → Prop} {ms : List Bool} (I : Array Bool → St → Prop)
    (step : ∀ listed st i, listed.size = ops.length → I listed st → i ∈ Region.ready .any ops.toArray listed → ∃ st1, Weak n0 st st1 ∧ stepA P n0 ops ms i (fun st' => I (listed.setIfInBounds i true) st') st1)
    (fin : ∀ listed st, listed.size = ops.length → I listed st → Region.ready .any ops.toArray listed = [] → Q .normal st) : ∀ (fuel : Nat) (listed : Array Bool) (st : St), listed.size = ops.length → ops.length ≤ fuel + listed.toList.count true → I listed st → AnyS P n0 ops Q fuel listed st
  | 0, listed, st, hs, hf, hI => by
    have h0 : Region.ready .any ops.toArray listed = [] := by
      cases hr : Region.ready .any ops.toArray listed with
      | nil => rfl
      | cons i l =>
        exfalso
        have := count_lt _ i (ready_false hs (by rw [hr]; exact List.mem_cons_self))
        simp at this hf
        omega
    exact fun E0 hp0 E a hn hsr => ⟨h0, .normal, st, E, rfl, rfl, hsr, fin listed st hs hI h0⟩
  | fuel + 1, listed, st, hs, hf, hI => fun E0 hp0 E a hn hsr => ⟨fun h0 => ⟨.normal, st, E, rfl, rfl, hsr, fin listed st hs hI h0⟩, fun i hi => by
      obtain ⟨st1, hw, h1⟩ := step listed st i hs hI hi
      obtain ⟨E2, e, hsr2⟩ := hw _ E0 hp0 E a hn hsr
      rw [← e]
      rw [← hn] at h1
      refine stepA_sound (K' := wpAny P .any ops.toArray (liftQ E0 hp0 Q) fuel (listed.setIfInBounds i true)) (fun E3 st3 a3 hs3 hI3 => ?_) hsr2 h1
      exact anyS_by I step fin fuel _ st3 (by simpa using hs) (by
        have := count_set _ i (ready_false hs hi)
        rw [show (listed.setIfInBounds i true).toList = listed.toList.set i true from by simp, this]
        omega) hI3 E0 hp0 E3 a3 hn hs3⟩
theorem anyS_region (hm : P.follows .mixedOrders = true) {id : Nat} {ops : Array Oper} {Q : Ex → St → Prop} {st : St} {t} (h : AnyS P n0 ops.toList Q ops.size (Array.replicate ops.size false) st) : Lp P n0 (.region id ops true) Q t st := by
  delta Lp
  intro E0 hp0 E a hn hs
  refine wp_region_any hm ?_
  have hs' : SR E0 hp0 (E.with { E.w with drawn := E.w.drawn + 1 }) st a := ⟨hs.hr.with (Same.drew _ _), hs.fr.with (Same.drew _ _), hs.len, fun i v u a1 a2 => (hs.tm i v u a1 a2).mono (Env.le_with (Same.drew _ _)), hs.df⟩
  have h2 := h E0 hp0 _ a hn hs'
  rw [show ops.toList.toArray = ops from by simp] at h2
  exact h2

/-- A region whose operations may come in any order, the last one last; ahead of the last one the state is told anew. -/
theorem plan_run {ops : List Oper} {pl : Plan} {ms : List Bool} {st0 st1 : St} {Q : Ex → St → Prop} (L : Nat) (oL : Oper) (hL : ops[L]? = some oL) (hmL : ms.getD L true = true)
    (hg : ∀ o ∈ ops, o.guard = none)
    (hd : ∀ (i j : Nat) (oi oj : Oper) (d : Nat), ops[i]? = some oi → ops[j]? = some oj → oi.dst = some d → oj.dst = some d → i = j)
    (hlen : ∀ (i : Nat) (o : Oper) (d : Nat), ops[i]? = some o → o.dst = some d → d < st0.tm.length)
    (hdst : ∀ (i : Nat) (o : Oper), ops[i]? = some o → i ≠ L → ∃ d, o.dst = some d)
    (huses : ∀ (j : Nat) (o : Oper), ops[j]? = some o → ∀ i ∈ pl.uses j, ∃ e ∈ o.after, Region.binds .any e = true ∧ e.on = i)
    (hloc : ∀ j nm nm', (∀ i ∈ pl.uses j, nm i = nm' i) → (pl.fresh j ≠ none → nm j = nm' j) → pl.val j nm = pl.val j nm')
    (hlast : ∀ i, i < ops.length → i ≠ L → ∃ e ∈ oL.after, Region.binds .any e = true ∧ e.on = i)
    (hback : ∀ (j : Nat) (o : Oper), ops[j]? = some o → ∀ e ∈ o.after, Region.binds .any e = true → e.on < j)
    (hop : ∀ (i : Nat) (o : Oper) listed nm st, ops[i]? = some o → i ≠ L → Mid ops pl st0 listed nm st → (∀ e ∈ o.after, Region.binds .any e = true → On listed e.on) →
      (ms.getD i true = true ∧ opA P n0 o.op st.ev st.hp (fun v hp' kb => kb = none ∧ match pl.fresh i with
        | none => v = pl.val i nm ∧ hp' = st.hp
        | some b => v = pl.val i (upd nm i st.hp.length) ∧ hp' = st.hp ++ [b])) ∨ (ms.getD i true = false ∧ pl.fresh i = none ∧ Yields P o st.ev st.hp (pl.val i nm)))
    (hweak : ∀ listed nm st, Mid ops pl st0 listed nm st → (∀ i, i < ops.length → i ≠ L → On listed i) → Weak n0 st st1)
    (hend : opA P n0 oL.op st1.ev st1.hp (fun v hp' kb => Q .normal ((st1.after hp' kb).put oL.dst v))) :
    AnyS P n0 ops Q ops.length (Array.replicate ops.length false) st0 := by
  have hLlt : L < ops.length := (List.getElem?_eq_some_iff.1 hL).1
  refine anyS_by (ms := ms) (fun listed st => (¬ On listed L ∧ ∃ nm, Mid ops pl st0 listed nm st) ∨ (On listed L ∧ (∀ i, i < ops.length → On listed i) ∧ Q .normal st)) ?_ ?_ _ _ _ (by simp) (by simp) ?_
  · intro listed st i hs hI hr
    have hf := ready_false hs hr
    obtain ⟨hi, o, ho, hall⟩ := mem_ready.1 hr
    have ho' : ops[i]? = some o := by simpa using ho
    have hilt : i < ops.length := (List.getElem?_eq_some_iff.1 ho').1
    have onI : On (listed.setIfInBounds i true) i := by
      unfold On
      simp [hs, hilt]
    have hnot : ¬ On listed i := by
      unfold On
      simp [Array.getD, hs, hilt] at hi ⊢
      simp [hi]
    rcases hI with ⟨hnL, nm, M⟩ | ⟨_, hA, _⟩
    · by_cases hiL : i = L
      · subst hiL
        rw [hL] at ho'; cases ho'
        have hall' : ∀ j, j < ops.length → j ≠ i → On listed j := fun j hj hne => by
          obtain ⟨e, he, hb, rfl⟩ := hlast j hj hne
          exact hall e he hb
        refine ⟨st1, hweak listed nm st M hall', ?_⟩
        unfold stepA
        rw [hL]
        simp only [hmL, if_true]
        exact .inl ⟨by simp [wantedA, hg oL (List.mem_of_getElem? hL)], _, hend, fun v hp' kb hk => .inr ⟨onI, fun j hj => by
          by_cases hji : j = i
          · subst hji; exact onI
          · exact getD_set_true (hall' j hj hji), hk⟩⟩
      · refine ⟨st, Weak.refl, ?_⟩
        have hw : wantedA ops o st = some true := by simp [wantedA, hg o (List.mem_of_getElem? ho')]
        obtain ⟨d, hdd⟩ := hdst i o ho' hiL
        have next : ∀ v hp', (match pl.fresh i with
            | none => v = pl.val i nm ∧ hp' = st.hp
            | some b => v = pl.val i (upd nm i st.hp.length) ∧ hp' = st.hp ++ [b]) → (¬ On (listed.setIfInBounds i true) L ∧ ∃ nm, Mid ops pl st0 (listed.setIfInBounds i true) nm { tm := st.tm.set d v, hp := hp' }) := by
          intro v hp' hk
          obtain ⟨nm', M'⟩ := M.step hd hlen huses hloc ho' hi hdd hall hs hk
          refine ⟨?_, nm', M'⟩
          unfold On at hnL ⊢
          rw [getD_set_ne false hiL]; exact hnL
        unfold stepA
        rw [ho']
        simp only []
        rcases hop i o listed nm st ho' hiL M hall with ⟨hm, h⟩ | ⟨hm, hfr, h⟩
        · rw [if_pos hm]
          refine .inl ⟨hw, _, h, fun v hp' kb ⟨hkb, hk⟩ => ?_⟩
          subst hkb
          rw [hdd]
          exact .inl (next v hp' hk)
        · rw [hm]
          simp only [Bool.false_eq_true, if_false]
          refine ⟨_, .inl ⟨hw, h⟩, ?_⟩
          rw [hdd]
          exact .inl (next _ st.hp (by rw [hfr]; exact ⟨rfl, rfl⟩))
    · exact absurd (hA i hilt) hnot
  · intro listed st hs hI hr
    rcases hI with ⟨hnL, nm, M⟩ | ⟨_, _, hk⟩
    · exfalso
      have all : ∀ n i, i < n → i < ops.length → On listed i := by
        intro n
        induction n with
        | zero => intro i hi; omega
        | succ n ih =>
          intro i hi hl
          apply Classical.byContradiction
          intro hno
          have hmem : i ∈ Region.ready .any ops.toArray listed := by
            refine mem_ready.2 ⟨?_, ops[i], by simp [hl], fun e he hb => ih _ (by have := hback i ops[i] (List.getElem?_eq_getElem hl) e he hb; omega) (by have := hback i ops[i] (List.getElem?_eq_getElem hl) e he hb; omega)⟩
            unfold On at hno
            simp [Array.getD, hs, hl] at hno ⊢
            exact hno
          rw [hr] at hmem
          cases hmem
      exact hnL (all (L + 1) L (by omega) hLlt)
    · exact hk
  · exact .inl ⟨noOn _ _, fun i => i, rfl, fun i o d _ hon => absurd hon (noOn _ _), fun d _ => rfl, Nat.le_refl _, fun b _ => rfl, fun i b _ hon => absurd hon (noOn _ _), fun i j _ _ hon => absurd hon (noOn _ _), fun j o _ hon => absurd hon (noOn _ _)⟩
end

/-! A plan as a list: the slot, what the operation yields, the block that it makes; a block is named by N0 and the number of the operation that makes it. -/
def plName (N0 : Nat) (nm : Nat → Nat) (b : Nat) : Nat := if b < N0 then b else nm (b - N0)
abbrev PEs := List (Nat × AV × Option Blk)
def PEs.v (pv : PEs) (i : Nat) : AV := (pv.getD i (0, .any, none)).2.1
def PEs.b (pv : PEs) (i : Nat) : Option Blk := (pv.getD i (0, .any, none)).2.2
def PEs.uses (N0 : Nat) (pv : PEs) (i : Nat) : List Nat := (names (pv.v i)).filterMap fun b => if N0 ≤ b ∧ b ≠ N0 + i then some (b - N0) else none
def planOf (N0 : Nat) (pv : PEs) : Plan where
  val i nm := ren (plName N0 nm) (pv.v i)
  fresh := pv.b
  uses := pv.uses N0
def edgeOn (o : Oper) (i : Nat) : Bool := o.after.any fun e => Region.binds .any e && e.on == i
theorem edgeOn_spec {o : Oper} {i : Nat} (h : edgeOn o i = true) : ∃ e ∈ o.after, Region.binds .any e = true ∧ e.on = i := by
  unfold edgeOn at h
  rw [Array.any_eq_true] at h
  obtain ⟨m, hm, he⟩ := h
  simp only [Bool.and_eq_true, beq_iff_eq] at he
  exact ⟨_, Array.getElem_mem hm, he.1, he.2⟩
def freeSlot (ops : List Oper) (j d : Nat) : Bool := (List.range ops.length).all fun i => i == j || ((ops[i]?).bind (·.dst)) != some d
def edgeBack (o : Oper) (j : Nat) : Bool := o.after.all fun e => !(Region.binds .any e) || decide (e.on < j)
def looksOk (ops : List Oper) (o : Oper) : Bool := o.op.operands.all fun x => match x with
  | .tmp t => (List.range ops.length).all fun i => ((ops[i]?).bind (·.dst)) != some t || edgeOn o i
  | _ => true
/-- The plan fits operation j (not the last one). -/
def planAt (ops : List Oper) (N0 ntm : Nat) (pv : PEs) (j : Nat) : Bool :=
  match ops[j]?, pv[j]? with
  | some o, some (d, v, b) => o.guard.isNone && o.dst == some d && decide (d < ntm) && freeSlot ops j d && ((pv.uses N0 j).all fun i => edgeOn o i) && (!((names v).contains (N0 + j)) || b.isSome) && edgeBack o j && looksOk ops o
  | _, _ => false
def planLast (ops : List Oper) (ntm : Nat) (L : Nat) : Bool :=
  match ops[L]? with
  | some o => ops.length == L + 1 && o.guard.isNone && edgeBack o L && ((List.range L).all fun i => edgeOn o i) && (match o.dst with
    | some d => decide (d < ntm) && freeSlot ops L d
    | none => true)
  | none => false
def planOk (ops : List Oper) (N0 ntm : Nat) (pv : PEs) : Bool := planLast ops ntm pv.length && (List.range pv.length).all fun j => planAt ops N0 ntm pv j
def slotP (π : Nat → Nat) (tm : List AV) : PEs → Nat → AV
  | [], t => tm.getD t .any
  | (d, v, _) :: r, t => if d = t then ren π v else slotP π tm r t
def evP (π : Nat → Nat) (tm : List AV) (pv : PEs) : Operand → AV
  | .tmp t => slotP π tm pv t
  | .const v => ofV v
  | .func f => .fn f []
  | .global _ => .any
def oldOk (hp : List Blk) : Nat → List Blk → Prop
  | _, [] => True
  | k, b :: r => hp[k]? = some b ∧ oldOk hp (k + 1) r
/-- The blocks that an operation can name. -/
def newOk (hp : List Blk) (nm : Nat → Nat) (o : Oper) : Nat → PEs → Prop
  | _, [] => True
  | k, (_, _, some b) :: r => (edgeOn o k = true → hp[nm k]? = some b) ∧ newOk hp nm o (k + 1) r
  | k, (_, _, none) :: r => newOk hp nm o (k + 1) r
theorem slotP_at {π : Nat → Nat} {tm : List AV} {t : Nat} {v : AV} {b : Option Blk} : ∀ {pv : PEs} {i : Nat}, pv[i]? = some (t, v, b) → (∀ (j : Nat) e, pv[j]? = some e → e.1 = t → j = i) → slotP π tm pv t = ren π v
  | [], i, h, _ => by simp at h
  | (d, u, c) :: r, 0, h, _ => by simp at h; simp [slotP, h]
  | (d, u, c) :: r, i + 1, h, hu => by
    have hd : d ≠ t := fun e => by have := hu 0 (d, u, c) rfl e; omega
    simp only [slotP, hd, if_false]
    exact slotP_at (by simpa using h) fun j e hj he => by have := hu (j + 1) e (by simpa using hj) he; omega
theorem slotP_rest {π : Nat → Nat} {tm : List AV} {t : Nat} : ∀ {pv : PEs}, (∀ (j : Nat) e, pv[j]? = some e → e.1 ≠ t) → slotP π tm pv t = tm.getD t .any
  | [], _ => rfl
  | (d, u, c) :: r, hu => by
    have hd : d ≠ t := hu 0 (d, u, c) rfl
    simp only [slotP, hd, if_false]
    exact slotP_rest fun j e hj => hu (j + 1) e (by simpa using hj)
theorem oldOk_of {hp : List Blk} : ∀ (r : List Blk) (k : Nat), (∀ b, k ≤ b → b < k + r.length → hp[b]? = r[b - k]?) → oldOk hp k r
  | [], _, _ => trivial
  | b :: r, k, h => ⟨by have := h k (Nat.le_refl _) (by simp); simpa using this, oldOk_of r (k + 1) fun c h1 h2 => by
      have := h c (by omega) (by simp; omega)
      rw [this, show c - k = (c - (k + 1)) + 1 from by omega]
      simp⟩
theorem newOk_of {hp : List Blk} {nm : Nat → Nat} {o : Oper} : ∀ (r : PEs) (k : Nat), (∀ (i : Nat) e b, r[i]? = some e → e.2.2 = some b → edgeOn o (k + i) = true → hp[nm (k + i)]? = some b) → newOk hp nm o k r
  | [], _, _ => trivial
  | (d, v, some b) :: r, k, h => ⟨fun he => h 0 (d, v, some b) b rfl rfl he, newOk_of r (k + 1) fun i e b hi he hg => by
      have := h (i + 1) e b (by simpa using hi) he (by rw [show k + (i + 1) = k + 1 + i from by omega]; exact hg)
      rwa [show k + (i + 1) = k + 1 + i from by omega] at this⟩
  | (d, v, none) :: r, k, h => newOk_of r (k + 1) fun i e b hi he hg => by
      have := h (i + 1) e b (by simpa using hi) he (by rw [show k + (i + 1) = k + 1 + i from by omega]; exact hg)
      rwa [show k + (i + 1) = k + 1 + i from by omega] at this

theorem names_lt {N : Nat} (a : AV) (h : below N a = true) : ∀ b ∈ names a, b < N := by
  have hL : ∀ a, belowL N a = true → ∀ b ∈ namesL a, b < N := fun a h b hb => by
    cases a <;> first | (simp [namesL] at hb; done) | (simp only [namesL, List.mem_singleton] at hb; subst hb; simpa [belowL] using h)
  have hM : ∀ a, belowM N a = true → ∀ b ∈ namesM a, b < N := fun a h b hb => by
    cases a with
    | agg l =>
      simp only [belowM, List.all_eq_true] at h
      simp only [namesM, List.mem_flatMap] at hb
      obtain ⟨x, hx, hb⟩ := hb
      exact hL x (h x hx) b hb
    | fn f l =>
      simp only [belowM, List.all_eq_true] at h
      simp only [namesM, List.mem_flatMap] at hb
      obtain ⟨x, hx, hb⟩ := hb
      exact hL x (h x hx) b hb
    | _ => first | (simp [namesM, namesL] at hb; done) | (simp only [namesM, namesL, List.mem_singleton] at hb; subst hb; simpa [belowM, belowL] using h)
  intro b hb
  cases a with
  | tup l =>
    simp only [below, List.all_eq_true] at h
    simp only [names, List.mem_flatMap] at hb
    obtain ⟨x, hx, hb⟩ := hb
    exact hM x (h x hx) b hb
  | agg l => exact hM (.agg l) h b hb
  | fn f l => exact hM (.fn f l) h b hb
  | _ => first | (simp [names, namesM, namesL] at hb; done) | (simp only [names, namesM, namesL, List.mem_singleton] at hb; subst hb; simpa [below, belowM, belowL] using h)
theorem below_le {N M : Nat} (hle : N ≤ M) (a : AV) (h : below N a = true) : below M a = true := by
  have hL : ∀ a, belowL N a = true → belowL M a = true := fun a h => by
    cases a <;> first | exact h | (simp only [belowL, decide_eq_true_eq] at h ⊢; omega)
  have hM : ∀ a, belowM N a = true → belowM M a = true := fun a h => by
    cases a with
    | agg l => simp only [belowM, List.all_eq_true] at h ⊢; exact fun x hx => hL x (h x hx)
    | fn f l => simp only [belowM, List.all_eq_true] at h ⊢; exact fun x hx => hL x (h x hx)
    | _ => first | exact h | (simp only [belowM, belowL, decide_eq_true_eq] at h ⊢; omega)
  cases a with
  | tup l => simp only [below, List.all_eq_true] at h ⊢; exact fun x hx => hM x (h x hx)
  | agg l => exact hM (.agg l) h
  | fn f l => exact hM (.fn f l) h
  | _ => first | exact h | (simp only [below, belowM, belowL, decide_eq_true_eq] at h ⊢; omega)
theorem ren_same (a : AV) : ∀ {N : Nat}, below N a = true → ∀ {π : Nat → Nat}, (∀ b, b < N → π b = b) → ren π a = a := by
  intro N h π hπ
  have e : ren π a = ren (fun b => b) a := ren_names a fun b hb => hπ b (names_lt a h b hb)
  rw [e]
  exact ren_id N h

/-- The end's names: the new blocks follow in the order of 'ps'. -/
def endName (N0 : Nat) (ps : List Nat) (c : Nat) : Nat := if c < N0 then c else N0 + ps.getD (c - N0) 0
def finAt (N0 : Nat) (ps : List Nat) (tm : List AV) : PEs → Nat → AV → Prop
  | [], t, b => tm.getD t .any = b ∧ below N0 b = true
  | (d, v, _) :: r, t, b => if d = t then v = ren (endName N0 ps) b ∧ below (N0 + ps.length) b = true else finAt N0 ps tm r t b
def finOk (N0 : Nat) (ps : List Nat) (tm : List AV) (pv : PEs) : Nat → List AV → Prop
  | _, [] => True
  | t, b :: r => (b = .any ∨ finAt N0 ps tm pv t b) ∧ finOk N0 ps tm pv (t + 1) r
theorem finOk_nil {N0 : Nat} {ps : List Nat} {tm : List AV} {pv : PEs} {t : Nat} : finOk N0 ps tm pv t [] := trivial
theorem finOk_any {N0 : Nat} {ps : List Nat} {tm m : List AV} {pv : PEs} {t : Nat} (h : finOk N0 ps tm pv (t + 1) m) : finOk N0 ps tm pv t (.any :: m) := ⟨.inl rfl, h⟩
theorem finOk_val {N0 : Nat} {ps : List Nat} {tm m : List AV} {pv : PEs} {t : Nat} {b : AV} (hb : finAt N0 ps tm pv t b) (h : finOk N0 ps tm pv (t + 1) m) : finOk N0 ps tm pv t (b :: m) := ⟨.inr hb, h⟩
theorem finOk_get {N0 : Nat} {ps : List Nat} {tm : List AV} {pv : PEs} : ∀ {m : List AV} {t : Nat}, finOk N0 ps tm pv t m → ∀ (i : Nat) b, m[i]? = some b → b = .any ∨ finAt N0 ps tm pv (t + i) b
  | [], t, _, i, b, h => by simp at h
  | c :: m, t, hf, 0, b, h => by simp at h; subst h; exact hf.1
  | c :: m, t, hf, i + 1, b, h => by
    have := finOk_get hf.2 i b (by simpa using h)
    rwa [show t + 1 + i = t + (i + 1) from by omega] at this
theorem finAt_slot {N0 : Nat} {ps : List Nat} {tm : List AV} {nm : Nat → Nat} {t : Nat} {b : AV} : ∀ {pv : PEs}, finAt N0 ps tm pv t b → slotP (plName N0 nm) tm pv t = ren (planName N0 nm ps) b ∧ below (N0 + ps.length) b = true
  | [], h => ⟨by
      show tm.getD t .any = _
      rw [h.1]
      exact (ren_same b h.2 fun c hc => by simp [planName, hc]).symm, below_le (by omega) b h.2⟩
  | (d, v, c) :: r, h => by
    unfold finAt at h
    unfold slotP
    by_cases hd : d = t
    · rw [if_pos hd] at h ⊢
      refine ⟨?_, h.2⟩
      rw [h.1, ren_comp]
      refine ren_names b fun c _ => ?_
      simp only [plName, endName, planName]
      by_cases hc : c < N0
      · simp [hc]
      · simp [hc, Nat.not_lt.2 (Nat.le_add_right N0 _)]
    · rw [if_neg hd] at h ⊢
      exact finAt_slot h

section
variable {P : Program} {n0 : Nat}
/-- What one operation of a plan owes. -/
def HopAt (P : Program) (n0 : Nat) (ops : List Oper) (ms : List Bool) (st0 : St) (pv : PEs) (i : Nat) : Prop :=
  ∀ o, ops[i]? = some o → ∀ (nm : Nat → Nat) (hp : List Blk), oldOk hp 0 st0.hp → newOk hp nm o 0 pv → st0.hp.length ≤ hp.length →
    (ms.getD i true = true ∧ opA P n0 o.op (evP (plName st0.hp.length nm) st0.tm pv) hp (Cn (fun v hp' kb => kb = none ∧ match pv.b i with
      | none => v = ren (plName st0.hp.length nm) (pv.v i) ∧ hp' = hp
      | some b => v = ren (plName st0.hp.length (upd nm i hp.length)) (pv.v i) ∧ hp' = hp ++ [b]) .mk)) ∨
    (ms.getD i true = false ∧ pv.b i = none ∧ Yields P o (evP (plName st0.hp.length nm) st0.tm pv) hp (ren (plName st0.hp.length nm) (pv.v i)))
def HopsFrom (P : Program) (n0 : Nat) (ops : List Oper) (ms : List Bool) (st0 : St) (pv : PEs) : Nat → Nat → Prop
  | _, 0 => True
  | k, n + 1 => HopAt P n0 ops ms st0 pv k ∧ HopsFrom P n0 ops ms st0 pv (k + 1) n
theorem HopsFrom.get {ops : List Oper} {ms : List Bool} {st0 : St} {pv : PEs} : ∀ {n k : Nat}, HopsFrom P n0 ops ms st0 pv k n → ∀ i, k ≤ i → i < k + n → HopAt P n0 ops ms st0 pv i
  | 0, k, _, i, h1, h2 => by omega
  | n + 1, k, h, i, h1, h2 => by
    by_cases he : i = k
    · subst he; exact h.1
    · exact h.2.get i (by omega) (by omega)

/-- A region whose order is drawn and whose operations make blocks, by a plan. -/
theorem go_plan (hm : P.follows .mixedOrders = true) {id : Nat} {ops : Array Oper} {Q : Ex → St → Prop} {st0 : St} {t} (ms : List Bool) (pv : PEs) (ps : List Nat) (bs : List Blk) (m : List AV) (oL : Oper)
    (hok : planOk ops.toList st0.hp.length st0.tm.length pv = true) (hL : ops.toList[pv.length]? = some oL) (hmL : ms.getD pv.length true = true) (hn0 : n0 ≤ st0.hp.length)
    (hflat : ∀ r ∈ st0.hp, allBelow 0 r.els = true) (hbs : ∀ r ∈ bs, allBelow 0 r.els = true)
    (hnd : ps.Nodup) (hps : ps.map pv.b = bs.map some) (hLd : (oL.dst.map fun d => m.getD d .any).getD .any = .any) (hfin : m.length = st0.tm.length ∧ finOk st0.hp.length ps st0.tm pv 0 m)
    (hops : HopsFrom P n0 ops.toList ms st0 pv 0 pv.length)
    (hend : opA P n0 oL.op (St.mk m (st0.hp ++ bs)).ev (st0.hp ++ bs) (Cn (fun v hp' kb => Q .normal (((St.mk m (st0.hp ++ bs)).after hp' kb).put oL.dst v)) .mk)) : Lp P n0 (.region id ops true) Q t st0 := by
  refine anyS_region hm ?_
  obtain ⟨opl⟩ := ops
  simp only [List.size_toArray] at *
  simp only [planOk, Bool.and_eq_true, List.all_eq_true, List.mem_range] at hok
  obtain ⟨hlast, hall⟩ := hok
  unfold planLast at hlast
  rw [hL] at hlast
  simp only [Bool.and_eq_true, beq_iff_eq] at hlast
  obtain ⟨⟨⟨⟨hsize, hgL⟩, hbL⟩, heL⟩, hdL⟩ := hlast
  simp only [List.all_eq_true, List.mem_range] at heL
  have gl : ∀ (i : Nat) o, opl[i]? = some o → i < pv.length ∨ (i = pv.length ∧ o = oL) := fun i o h => by
    have := (List.getElem?_eq_some_iff.1 h).1
    by_cases hi : i < pv.length
    · exact .inl hi
    · have e : i = pv.length := by omega
      subst e
      rw [hL] at h
      cases h
      exact .inr ⟨rfl, rfl⟩
  have at_ : ∀ (i : Nat) o, opl[i]? = some o → i < pv.length → ∃ d v b, pv[i]? = some (d, v, b) ∧ o.guard = none ∧ o.dst = some d ∧ d < st0.tm.length ∧ freeSlot opl i d = true ∧ (∀ k ∈ pv.uses st0.hp.length i, edgeOn o k = true) ∧ (st0.hp.length + i ∈ names v → b ≠ none) ∧ edgeBack o i = true ∧ looksOk opl o = true := by
    intro i o ho hi
    have h := hall i hi
    unfold planAt at h
    rw [ho] at h
    cases hp : pv[i]? with
    | none => rw [hp] at h; cases h
    | some e =>
      obtain ⟨d, v, b⟩ := e
      rw [hp] at h
      simp only [Bool.and_eq_true, beq_iff_eq, decide_eq_true_eq, List.all_eq_true, Bool.or_eq_true, Bool.not_eq_true', Option.isNone_iff_eq_none] at h
      obtain ⟨⟨⟨⟨⟨⟨⟨h1, h2⟩, h3⟩, h4⟩, h5⟩, h6⟩, h7⟩, h8⟩ := h
      refine ⟨d, v, b, rfl, h1, h2, h3, h4, h5, fun hmem => ?_, h7, h8⟩
      rcases h6 with h6 | h6
      · have : (names v).contains (st0.hp.length + i) = true := by simpa using hmem
        rw [this] at h6; cases h6
      · intro e; rw [e] at h6; cases h6
  have pvv : ∀ {i : Nat} {d v b}, pv[i]? = some (d, v, b) → pv.v i = v ∧ pv.b i = b := fun {i d v b} h => by
    simp [PEs.v, PEs.b, List.getD_eq_getElem?_getD, h]
  have back : ∀ (j : Nat) (o : Oper), opl[j]? = some o → ∀ e ∈ o.after, Region.binds .any e = true → e.on < j := by
    intro j o ho e he hb
    have hbk : edgeBack o j = true := by
      rcases gl j o ho with hj | ⟨hj, rfl⟩
      · obtain ⟨d, v, b, _, _, _, _, _, _, _, h7, _⟩ := at_ j o ho hj
        exact h7
      · rw [hj]; exact hbL
    unfold edgeBack at hbk
    rw [Array.all_eq_true] at hbk
    obtain ⟨k, hk, rfl⟩ := Array.getElem_of_mem he
    have := hbk k hk
    simp only [hb, Bool.not_true, Bool.false_or, decide_eq_true_eq] at this
    exact this
  have dsts : ∀ (i : Nat) (o : Oper) (d : Nat), opl[i]? = some o → o.dst = some d → d < st0.tm.length ∧ freeSlot opl i d = true := by
    intro i o d ho hd
    rcases gl i o ho with hj | ⟨hj, rfl⟩
    · obtain ⟨d', v, b, _, _, h2, h3, h4, _⟩ := at_ i o ho hj
      rw [hd] at h2; cases h2
      exact ⟨h3, h4⟩
    · rw [hd] at hdL
      simp only [Bool.and_eq_true, decide_eq_true_eq] at hdL
      rw [hj]; exact hdL
  have hdd : ∀ (i j : Nat) (oi oj : Oper) (d : Nat), opl[i]? = some oi → opl[j]? = some oj → oi.dst = some d → oj.dst = some d → i = j := by
    intro i j oi oj d hi hj h1 h2
    have := (dsts i oi d hi h1).2
    unfold freeSlot at this
    simp only [List.all_eq_true, List.mem_range, Bool.or_eq_true, beq_iff_eq, bne_iff_ne, ne_eq] at this
    rcases this j (List.getElem?_eq_some_iff.1 hj).1 with h | h
    · exact h.symm
    · simp [hj, h2] at h
  have slots : ∀ {listed nm st} (M : Mid opl (planOf st0.hp.length pv) st0 listed nm st) (t : Nat), (∀ (i : Nat) oi, opl[i]? = some oi → oi.dst = some t → On listed i ∧ i < pv.length) → st.tm.getD t .any = slotP (plName st0.hp.length nm) st0.tm pv t := by
    intro listed nm st M t hon
    by_cases hex : ∃ (i : Nat) (oi : Oper), opl[i]? = some oi ∧ oi.dst = some t
    · obtain ⟨i, oi, hi, hd⟩ := hex
      obtain ⟨h1, h2⟩ := hon i oi hi hd
      obtain ⟨d, v, b, hp, _, hd', _⟩ := at_ i oi hi h2
      rw [hd] at hd'; cases hd'
      rw [M.slot i oi t hi h1 hd, slotP_at hp fun j e hj he => ?_]
      · show ren _ (pv.v i) = _
        rw [(pvv hp).1]
      · have hjl : j < pv.length := (List.getElem?_eq_some_iff.1 hj).1
        have hoj : opl[j]? = some (opl[j]'(by omega)) := List.getElem?_eq_getElem (by omega)
        obtain ⟨d2, v2, b2, hp2, _, hd2, _⟩ := at_ j _ hoj hjl
        rw [hj] at hp2
        cases hp2
        simp only at he
        subst he
        exact hdd j i _ oi d2 hoj hi hd2 hd
    · rw [M.rest t fun i oi hi hd => hex ⟨i, oi, hi, hd⟩, slotP_rest fun j e hj he => ?_]
      have hjl : j < pv.length := (List.getElem?_eq_some_iff.1 hj).1
      have hoj : opl[j]? = some (opl[j]'(by omega)) := List.getElem?_eq_getElem (by omega)
      obtain ⟨d2, v2, b2, hp2, _, hd2, _⟩ := at_ j _ hoj hjl
      rw [hj] at hp2
      cases hp2
      exact hex ⟨j, _, hoj, by rw [hd2, ← he]⟩
  refine plan_run (pl := planOf st0.hp.length pv) (ms := ms) (st1 := St.mk m (st0.hp ++ bs)) pv.length oL hL hmL ?_ hdd ?_ ?_ ?_ ?_ ?_ back ?_ ?_ (by simpa only [Cn_eq] using hend)
  · intro o ho
    obtain ⟨i, hi⟩ := List.getElem?_of_mem ho
    rcases gl i o hi with hj | ⟨_, rfl⟩
    · obtain ⟨d, v, b, _, h1, _⟩ := at_ i o hi hj
      exact h1
    · simpa using hgL
  · intro i o d ho hd; exact (dsts i o d ho hd).1
  · intro i o ho hne
    rcases gl i o ho with hj | ⟨hj, _⟩
    · obtain ⟨d, v, b, _, _, h2, _⟩ := at_ i o ho hj
      exact ⟨d, h2⟩
    · exact absurd hj hne
  · intro j o ho i hi
    rcases gl j o ho with hj | ⟨hj, _⟩
    · obtain ⟨d, v, b, _, _, _, _, _, h5, _⟩ := at_ j o ho hj
      exact edgeOn_spec (h5 i hi)
    · exfalso
      have hi' : i ∈ pv.uses st0.hp.length j := hi
      have e : pv.v j = .any := by simp [PEs.v, List.getD_eq_getElem?_getD, hj]
      simp [PEs.uses, e, names, namesM, namesL] at hi'
  · intro j nm nm' h1 h2
    show ren _ (pv.v j) = ren _ (pv.v j)
    refine ren_names _ fun b hb => ?_
    simp only [plName]
    by_cases hc : b < st0.hp.length
    · simp [hc]
    · simp only [hc, if_false]
      by_cases he : b = st0.hp.length + j
      · have hj : j < pv.length := by
          apply Decidable.byContradiction
          intro hn
          have e : pv.v j = .any := by simp [PEs.v, List.getD_eq_getElem?_getD, List.getElem?_eq_none (Nat.le_of_not_lt hn)]
          rw [e] at hb
          simp [names, namesM, namesL] at hb
        have hoj : opl[j]? = some (opl[j]'(by omega)) := List.getElem?_eq_getElem (by omega)
        obtain ⟨d, v, bb, hp, _, _, _, _, _, h6, _⟩ := at_ j _ hoj hj
        have h7 := h6 (by rw [← he, ← (pvv hp).1]; exact hb)
        rw [show b - st0.hp.length = j from by omega]
        exact h2 (by show pv.b j ≠ none; rw [(pvv hp).2]; exact h7)
      · refine h1 _ ?_
        show _ ∈ pv.uses st0.hp.length j
        simp only [PEs.uses, List.mem_filterMap]
        exact ⟨b, hb, by rw [if_pos ⟨by omega, he⟩]⟩
  · intro i hi hne
    exact edgeOn_spec (heL i (by omega))
  · intro i o listed nm st ho hne M hedge
    rcases gl i o ho with hj | ⟨hj, _⟩
    · obtain ⟨d, v, b, hp, _, h2, _, _, _, _, _, hlk⟩ := at_ i o ho hj
      have hev : ∀ x ∈ o.op.operands, evP (plName st0.hp.length nm) st0.tm pv x = st.ev x := by
        intro x hx
        cases x with
        | tmp t =>
          refine (slots M t fun k ok hk hd => ?_).symm
          unfold looksOk at hlk
          rw [Array.all_eq_true] at hlk
          obtain ⟨q, hq, e⟩ := Array.getElem_of_mem hx
          have h := hlk q hq
          rw [e] at h
          simp only [List.all_eq_true, List.mem_range, Bool.or_eq_true, bne_iff_ne, ne_eq] at h
          rcases h k (List.getElem?_eq_some_iff.1 hk).1 with h | h
          · simp [hk, hd] at h
          · obtain ⟨ed, he, hb, rfl⟩ := edgeOn_spec h
            have := back i o ho ed he hb
            exact ⟨hedge ed he hb, by omega⟩
        | _ => rfl
      have hold : oldOk st.hp 0 st0.hp := oldOk_of _ _ fun b _ hb => by rw [M.old b (by omega)]; simp
      have hnew : newOk st.hp nm o 0 pv := newOk_of _ _ fun k e bb hk hb he => by
        rw [Nat.zero_add] at he ⊢
        obtain ⟨ed, hee, hbb, rfl⟩ := edgeOn_spec he
        have hkl := (List.getElem?_eq_some_iff.1 hk).1
        obtain ⟨d', v', b'⟩ := e
        simp only at hb
        subst hb
        exact (M.blk ed.on bb (by omega) (hedge ed hee hbb) (pvv hk).2).2
      rcases hops.get i (Nat.zero_le _) (by omega) o ho nm st.hp hold hnew M.more with ⟨h1, h2⟩ | ⟨h1, h2, h3⟩
      · rw [Cn_eq] at h2
        exact .inl ⟨h1, opA_congr hev h2⟩
      · exact .inr ⟨h1, h2, h3.congr hev⟩
    · exact absurd hj hne
  · intro listed nm st M hon
    refine M.weak hn0 hflat ps bs hnd (by have := congrArg List.length hps; simpa using this.symm) ?_ hbs m hfin.1 ?_
    · intro j i hj
      have hb : (ps.map pv.b)[j]? = some (pv.b i) := by simp [hj]
      rw [hps] at hb
      have hbj : bs[j]? = pv.b i := by
        cases hc : bs[j]? with
        | none => simp [hc] at hb
        | some c => simp [hc] at hb; exact hb
      have hi : i < pv.length := by
        apply Decidable.byContradiction
        intro hn
        have e : pv.b i = none := by simp [PEs.b, List.getD_eq_getElem?_getD, List.getElem?_eq_none (Nat.le_of_not_lt hn)]
        rw [e] at hb
        simp at hb
      exact ⟨by omega, hon i (by omega) (by omega), hbj.symm⟩
    · intro i b hi
      rcases finOk_get hfin.2 i b hi with rfl | h
      · exact .inl rfl
      · rw [Nat.zero_add] at h
        by_cases hany : b = .any
        · exact .inl hany
        · right
          by_cases hex : ∃ (k : Nat) (ok : Oper), opl[k]? = some ok ∧ ok.dst = some i ∧ k = pv.length
          · exfalso
            obtain ⟨k, ok, hk, hd, e⟩ := hex
            subst e
            rw [hL] at hk
            cases hk
            have := hLd
            rw [hd, Option.map_some, Option.getD_some] at this
            rw [List.getD_eq_getElem?_getD, hi, Option.getD_some] at this
            exact hany this
          · obtain ⟨h1, h2⟩ := finAt_slot (nm := nm) h
            refine ⟨?_, h2⟩
            rw [← h1]
            refine slots M i fun k ok hk hd => ?_
            rcases gl k ok hk with hj | ⟨hj, _⟩
            · exact ⟨hon k (by omega) (by omega), hj⟩
            · exact absurd ⟨k, ok, hk, hd, hj⟩ hex

section
variable {ops : List Oper} {ms : List Bool} {st0 : St} {pv : PEs} {k n : Nat}
theorem hops_nil : HopsFrom P n0 ops ms st0 pv k 0 := trivial
/-- An operation that makes no block. -/
theorem hops_op {o : Oper} {d : Nat} {v : AV} (ho : ops[k]? = some o) (hm : ms.getD k true = true) (hv : pv[k]? = some (d, v, none))
    (h : ∀ (nm : Nat → Nat) (hp : List Blk), oldOk hp 0 st0.hp → newOk hp nm o 0 pv → st0.hp.length ≤ hp.length →
      opA P n0 o.op (evP (plName st0.hp.length nm) st0.tm pv) hp (Cn (fun w hp' kb => kb = none ∧ w = ren (plName st0.hp.length nm) v ∧ hp' = hp) .mk))
    (hr : HopsFrom P n0 ops ms st0 pv (k + 1) n) : HopsFrom P n0 ops ms st0 pv k (n + 1) := by
  refine ⟨fun o' ho' nm hp h1 h2 h3 => ?_, hr⟩
  rw [ho] at ho'
  cases ho'
  have h4 := h nm hp h1 h2 h3
  have e1 : pv.v k = v := by simp [PEs.v, List.getD_eq_getElem?_getD, hv]
  have e2 : pv.b k = none := by simp [PEs.b, List.getD_eq_getElem?_getD, hv]
  refine .inl ⟨hm, ?_⟩
  rw [e1, e2]
  exact h4
/-- An operation that makes a block. -/
theorem hops_new {o : Oper} {d : Nat} {v : AV} {b : Blk} (ho : ops[k]? = some o) (hm : ms.getD k true = true) (hv : pv[k]? = some (d, v, some b))
    (h : ∀ (nm : Nat → Nat) (hp : List Blk), oldOk hp 0 st0.hp → newOk hp nm o 0 pv → st0.hp.length ≤ hp.length →
      opA P n0 o.op (evP (plName st0.hp.length nm) st0.tm pv) hp (Cn (fun w hp' kb => kb = none ∧ w = ren (plName st0.hp.length (upd nm k hp.length)) v ∧ hp' = hp ++ [b]) .mk))
    (hr : HopsFrom P n0 ops ms st0 pv (k + 1) n) : HopsFrom P n0 ops ms st0 pv k (n + 1) := by
  refine ⟨fun o' ho' nm hp h1 h2 h3 => ?_, hr⟩
  rw [ho] at ho'
  cases ho'
  have h4 := h nm hp h1 h2 h3
  have e1 : pv.v k = v := by simp [PEs.v, List.getD_eq_getElem?_getD, hv]
  have e2 : pv.b k = some b := by simp [PEs.b, List.getD_eq_getElem?_getD, hv]
  refine .inl ⟨hm, ?_⟩
  rw [e1, e2]
  exact h4
end
/-- A slice of no elements that is not nil: as nil, but for the comparison with nil. -/
theorem Yields.bare2 {o : Oper} {f : Operand → AV} {hp : List Blk} {t e : TypeId} (ho : o.op = .buildSlice t 0 #[]) (hd : P.underlying t = some (.slice e)) (hpos : 0 < P.cellsOf e) : Yields P o f hp .nils := by
  intro E g H hr hcst
  have run : (Instr.buildSlice t 0 #[]).run P E.w = .ok (.slice (some ⟨E.w.heap.size, 0, none⟩) 0 0) { E.w with heap := E.w.heap.push (.cells #[] e) } := by
    have hc : ¬ (0 : Nat) > 2 ^ 24 := by omega
    simp only [Instr.buildSlice, Sem.run_bind, run_underlying' hd, Result.andThen_ok, run_sizeOf_pos hpos, Nat.zero_mul, hc, if_false, if_true, Sem.run_pure]
    have e0 : (Array.map (fun x => (#[] : Array Value)[x % (#[] : Array Value).size]!) (Array.range 0)) = #[] := by simp
    rw [e0]
    rfl
  have old : ∀ c, c < E.w.heap.size → (E.w.heap.push (.cells #[] e))[c]? = E.w.heap[c]? := fun c hc => by
    rw [Array.getElem?_push]
    simp [show c ≠ E.w.heap.size from by omega]
  let E2 : Env P := { E with w := { E.w with heap := E.w.heap.push (.cells #[] e) } }
  have le : E.le E2 := ⟨fun _ h => h, fun c hc => old c (H.old c hc), Nat.le_refl _, fun _ _ => rfl, fun _ _ => rfl, fun c => csz_push E.w _ c⟩
  have H2 : HRel E2 hp := by
    refine ⟨H.N, H.wd, fun b blk hb hl => ?_, H.inj, H.apart, fun c hc => by have := H.old c hc; simp [E2]; omega, H.laidLe le⟩
    obtain ⟨cs, h1, h2⟩ := (H.holds b blk hb hl).cells
    refine ⟨cs, ?_, fun i e he => ⟨(h2 i e he).1, fun j x hx => ?_⟩⟩
    · show (E.w.heap.push _)[_]? = _
      rw [old _ (Array.getElem?_eq_some_iff.1 h1).1]
      exact h1
    · obtain ⟨v, h3, h4⟩ := (h2 i e he).2 j x hx
      exact ⟨v, h3, h4.mono le⟩
  have F2 : Fr E hp E2 hp :=
    { size := by simp [E2], os := rfl, tape := rfl, output := rfl, block := fun c hc _ => old c hc, len := Nat.le_refl _, ρ := fun _ _ => rfl, wd := fun _ _ => rfl, F := fun _ h => h, F' := fun c h => .inl h
      live := fun b hb => .inl ⟨by obtain ⟨blk, h1, _⟩ := hb; exact (List.getElem?_eq_some_iff.1 h1).1, hb⟩, csz := fun c => csz_push E.w _ c }
  unfold Runs
  have hx : (execOp g o).run P E.w = .ok (.value (.slice (some ⟨E.w.heap.size, 0, none⟩) 0 0)) { E.w with heap := E.w.heap.push (.cells #[] e) } := by
    simp only [execOp, ho]
    simp [Sem.run_bind, run]
  rw [hx]
  exact ⟨E2, rfl, .nils _, H2, F2, le⟩
theorem hops_bare {ops : List Oper} {ms : List Bool} {st0 : St} {pv : PEs} {k n : Nat} {o : Oper} {d : Nat} {ty e : TypeId} (ho : ops[k]? = some o) (hm : ms.getD k true = false) (hv : pv[k]? = some (d, .nils, none))
    (hop : o.op = .buildSlice ty 0 #[]) (hd : P.underlying ty = some (.slice e)) (hpos : 0 < P.cellsOf e)
    (hr : HopsFrom P n0 ops ms st0 pv (k + 1) n) : HopsFrom P n0 ops ms st0 pv k (n + 1) := by
  refine ⟨fun o' ho' nm hp h1 h2 h3 => ?_, hr⟩
  rw [ho] at ho'
  cases ho'
  have e1 : pv.v k = .nils := by simp [PEs.v, List.getD_eq_getElem?_getD, hv]
  have e2 : pv.b k = none := by simp [PEs.b, List.getD_eq_getElem?_getD, hv]
  refine .inr ⟨hm, e2, ?_⟩
  rw [e1]
  exact Yields.bare2 hop hd hpos
end
end Go.Abs
