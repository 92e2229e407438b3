/- The abstract layer, part I: one operation is what 'opA' says; the operations of a region, one after another. -/
import Derived.Test.YtdhomifcjakbgaaDoorAbsH
set_option linter.unusedSimpArgs false
set_option linter.unusedVariables false
namespace Go.Abs
open Go
variable {P : Program}
section
variable {P : Program}

theorem runs_of {o : Oper} {g : Operand → Value} {w : World} {s : Sem Value} (he : execOp g o = (do pure (Next.value (← s)) : Sem Next)) {post : Value → World → Prop} {v : Value} {w' : World} (hr : s.run P w = .ok v w') (hp : post v w') : Runs P o g w post := by
  unfold Runs
  rw [he]
  simp [hr, Result.andThen]
  exact hp

theorem Gets.mono {f : FuncId} {args : Array Value} {w : World} {R R' : Value → World → Prop} (h : Gets P f args w R) (hr : ∀ v w', R v w' → R' v w') : Gets P f args w R' := by
  rcases h with ⟨h1, h2⟩ | ⟨v, w', h1, h2⟩
  · exact .inl ⟨h1, h2.mono fun e w' ⟨v, he, h⟩ => ⟨v, he, hr _ _ h⟩⟩
  · exact .inr ⟨v, w', h1, hr _ _ h2⟩

theorem callFunc_go {f : FuncId} (h : isGo P f) (args : Array Value) (w : World) : (callFunc f args).run P w = .ok (.enter f args) w := by
  unfold isGo at h
  split at h
  · rename_i fn hf
    simp only [callFunc, Sem.run_bind, run_program, Result.andThen_ok, hf, h.2, h.1, Bool.false_eq_true, if_false, Sem.run_pure]
  · exact h.elim

theorem call_sound {E E0 : Env P} {hp hp0 : List Blk} (H : HRel E hp) (F : Fr E0 hp0 E hp) {o : Oper} {f : Operand → AV} {g : Operand → Value} (hr : ∀ x ∈ o.op.operands, RV E (f x) (g x)) {k : AV → List Blk → Option Nat → Prop} {c : Call} (ho : o.op = .call c) {gf : Operand} (hcl : c.callee = .value gf) {fid : FuncId} {caps : List AV} (hfn : f gf = .fn fid caps)
    (h : CallA P fid (c.args.toList.map f ++ caps) hp fun r hp' => k r hp' none) : Runs P o g E.w (OpPost E E0 hp0 k) := by
  have hcall := h
  have h1 := hr gf (by simp [ho, Op.operands, Call.operands, hcl]); rw [hfn] at h1
  generalize hgg : g gf = gg at h1
  cases h1 with
  | fn _ _ vs hl hc =>
    have hargs := hcall E (c.args.toList.map g ++ vs.toList) H (by simp [hl]) (fun i a v h1 h2 => by
      rw [List.getElem?_append] at h1 h2
      simp only [List.length_map] at h1 h2
      split at h1
      · rename_i hi
        rw [if_pos hi] at h2
        obtain ⟨x, e0, rfl, hm⟩ := mem_map_get h1
        obtain ⟨y, e1, rfl, _⟩ := mem_map_get h2
        rw [e0] at e1; cases e1
        exact hr x (by rw [ho]; simp only [Op.operands, Call.operands, Array.mem_append]; exact .inr (by simpa using hm))
      · rename_i hi
        rw [if_neg hi] at h2
        exact hc _ a v h1 (by simpa using h2))
    have e : (c.args.map g ++ vs : Array Value) = (c.args.toList.map g ++ vs.toList).toArray := by
      apply Array.ext'; simp
    have run : (execOp g o).run P E.w = (callFunc fid (c.args.toList.map g ++ vs.toList).toArray).run P E.w := by
      simp only [execOp, ho, resolve, hcl, hgg, Deferred.ofValue, Sem.run_bind, Sem.run_pure, Result.andThen_ok, invoke, Array.empty_append]
      rw [e]
    rcases hargs with ⟨hgo, hargs⟩ | ⟨v, w'', hrun, r, hp', E', hw, hQ, hrv, H', F'⟩
    · unfold Runs
      rw [run, callFunc_go hgo]
      refine hargs.mono fun e w'' ⟨v, he, r, hp', E', hw, hQ, hrv, H', F'⟩ => ?_
      exact ⟨v, he, E', r, hp', none, hw, hQ, hrv, H', F.trans F', fun a u hu => hu.mono (F'.le H H')⟩
    · unfold Runs
      rw [run, hrun]
      exact ⟨E', r, hp', none, hw, hQ, hrv, H', F.trans F', fun a u hu => hu.mono (F'.le H H')⟩

theorem append_sound {E E0 : Env P} {hp hp0 : List Blk} (H : HRel E hp) (F : Fr E0 hp0 E hp) {o : Oper} {f : Operand → AV} {g : Operand → Value} (hr : ∀ x ∈ o.op.operands, RV E (f x) (g x)) {k : AV → List Blk → Option Nat → Prop} {c : Call} (ho : o.op = .call c) (hcl : c.callee = .builtin .append) {s x : Operand} (hargs : c.args.toList = [s, x]) {t : TypeId} (ht : c.argTypes[0]? = some t)
    (hni : notInt P (c.argTypes[1]?)) (h : appendA P hp0.length t hp (f s) (f x) k) : Runs P o g E.w (OpPost E E0 hp0 k) := by
  cases ht' : c.argTypes[1]? with
  | none => rw [ht'] at hni; simp [notInt] at hni
  | some t' =>
    rw [ht'] at hni
    have hmem : ∀ y ∈ c.args.toList, RV E (f y) (g y) := fun y hy => hr y (by rw [ho]; simp only [Op.operands, Call.operands, Array.mem_append]; exact .inr (by simpa using hy))
    obtain ⟨z, w', h1, h2⟩ := appendA_sound (ty := o.type) H F hni (hmem s (by rw [hargs]; simp)) (hmem x (by rw [hargs]; simp)) h
    refine runs_of (s := Builtin.append_ c.argTypes o.type #[g s, g x]) ?_ ?_ h2
    · have e : c.args.map g = #[g s, g x] := by apply Array.ext'; simp [hargs]
      simp only [execOp, ho, resolve, hcl, e, pure_bind, invoke, Go.builtin]
    · rw [← h1]
      have ea : ∀ (a : Array TypeId), a[0]? = some t → a[1]? = some t' → (Builtin.append_ a o.type #[g s, g x]).run P E.w = (Builtin.append_ #[t, t'] o.type #[g s, g x]).run P E.w := by
        intro a a0 a1
        simp only [Builtin.append_, a0, a1, List.getElem?_toArray, List.getElem?_cons_zero, List.getElem?_cons_succ]
      exact ea _ ht ht'

theorem build_sound {E E0 : Env P} {hp hp0 : List Blk} (H : HRel E hp) (F : Fr E0 hp0 E hp) {o : Oper} {f : Operand → AV} {g : Operand → Value} (hr : ∀ x ∈ o.op.operands, RV E (f x) (g x)) {k : AV → List Blk → Option Nat → Prop} {t e : TypeId} {len : Nat} {parts : Array (Nat × Operand)} (ho : o.op = .buildSlice t len parts)
    (hd : P.underlying t = some (.slice e)) (hpos : 0 < P.cellsOf e) (hlen : len * P.cellsOf e ≤ 16777216) (hz : (zeroOf P e).solid = true) (hzw : (zeroOf P e).cells.length = P.cellsOf e)
    (h : setAll len (P.cellsOf e) (parts.toList.map fun p => (p.1, f p.2)) (List.replicate len (zeroOf P e)) fun els => k (.sl hp.length 0 len) (hp ++ [{ ty := e, w := P.cellsOf e, els := els }]) none) : Runs P o g E.w (OpPost E E0 hp0 k) := by
  have hvs : ∀ (i : Nat) (p : Nat × AV) (q : Nat × Value), (parts.toList.map fun p => (p.1, f p.2))[i]? = some p → (parts.map fun x => (x.1, g x.2)).toList[i]? = some q → q.1 = p.1 ∧ RV E p.2 q.2 := by
    intro i p q hp hq
    obtain ⟨p0, e0, rfl, hm⟩ := mem_map_get hp
    have hq' : (parts.toList.map fun x => (x.1, g x.2))[i]? = some q := by simpa using hq
    obtain ⟨q0, e1, rfl, _⟩ := mem_map_get hq'
    rw [e0] at e1; cases e1
    refine ⟨rfl, hr p0.2 ?_⟩
    rw [ho]
    show p0.2 ∈ ((parts.toList.map (·.2)).toArray)
    simp only [List.mem_toArray]
    exact List.mem_map_of_mem hm
  obtain ⟨v, w', h1, h2⟩ := buildSlice_sound (k := k) (parts := parts.toList.map fun p => (p.1, f p.2)) (vs := parts.map fun x => (x.1, g x.2)) H F hd hpos hlen hz hzw (by simp) hvs h
  have e : execOp g o = (do pure (Next.value (← Instr.buildSlice t len (parts.map fun x => (x.1, g x.2)))) : Sem Next) := by
    unfold execOp
    rw [ho]
  exact runs_of e h1 h2

theorem opA_sound {E E0 : Env P} {hp hp0 : List Blk} (H : HRel E hp) (F : Fr E0 hp0 E hp) {o : Oper} {f : Operand → AV} {g : Operand → Value} (hr : ∀ x ∈ o.op.operands, RV E (f x) (g x)) (hcst : ∀ v, g (.const v) = v) {k : AV → List Blk → Option Nat → Prop}
    (h : opA P hp0.length o.op f hp k) : Runs P o g E.w (OpPost E E0 hp0 k) := by
  have quiet : quietA P o.op f hp (fun v => k v hp none) → Runs P o g E.w (OpPost E E0 hp0 k) := by
    intro h
    obtain ⟨av, hk, hq⟩ := quietA_sound h
    obtain ⟨v, w', h1, h2, h3⟩ := hq E g o rfl H hr hcst
    unfold Runs
    rw [h1]
    exact ⟨E.with w', av, hp, none, rfl, hk, h3.mono (Env.le_with h2), H.with h2, F.with h2, fun a u hu => hu.mono (Env.le_with h2)⟩
  unfold opA at h
  split at h
  · rename_i t ho
    obtain ⟨hz, hk⟩ := h
    obtain ⟨z, hz1, hz2⟩ := zero_run hz
    have hzr : RV E (zeroOf P t) z := by rw [hz2]; exact RV_ofV E z
    obtain ⟨v, w', h1, h2⟩ := box_sound (P := P) H F hz hzr hk
    refine runs_of (s := Instr.alloc t true (.tuple #[])) (by simp [execOp, ho]) ?_ h2
    simp only [Instr.alloc, Sem.run_bind, hz1, Result.andThen_ok]
    simpa [Instr.box] using h1
  · rename_i t x ho
    obtain ⟨v, w', h1, h2⟩ := box_sound (P := P) H F h.1 (hr x (by simp [ho, Op.operands])) h.2
    exact runs_of (s := Instr.box t (g x)) (by simp [execOp, ho]) h1 h2
  · rename_i t len parts ho
    split at h
    · rename_i e hd
      obtain ⟨hpos, hlen, hz, hzw, h⟩ := h
      exact build_sound H F hr ho hd hpos hlen hz hzw h
    · exact h.elim
  · rename_i t a x ho
    obtain ⟨w', h1, h2⟩ := store_sound (P := P) H F (hr a (by simp [ho, Op.operands])) (hr x (by simp [ho, Op.operands])) h
    unfold Runs
    simp only [execOp, ho, Sem.run_bind, h1, Result.andThen_ok, Sem.run_pure]
    exact h2
  · rename_i t l c ho
    split at h
    · rename_i e kd n kd' m hd hl hc
      obtain ⟨rfl, h0, hmax, hb, hpos, hz, hzw, hk⟩ := h
      have h1 := hr l (by simp [ho, Op.operands]); rw [hl] at h1
      have h2 := hr c (by simp [ho, Op.operands]); rw [hc] at h2
      generalize hgl : g l = gl at h1
      generalize hgc : g c = gc at h2
      cases h1
      cases h2
      obtain ⟨v, w', h3, h4⟩ := makeSlice_sound (kd := kd) (kd' := kd') H F hd h0 hmax hb hpos hz hzw hk
      exact runs_of (s := Instr.makeSlice t (.int kd n) (.int kd' n)) (by simp [execOp, ho, hgl, hgc]) h3 h4
    · exact h.elim
  · rename_i c ho
    split at h
    · rename_i gf hcl
      split at h
      · rename_i fid caps hfn
        exact call_sound H F hr ho hcl hfn h
      · exact h.elim
    · rename_i hcl
      split at h
      · rename_i s x hargs
        obtain ⟨hni, h⟩ := h
        split at h
        · rename_i t ht
          exact append_sound H F hr ho hcl hargs ht hni h
        · exact h.elim
      · exact h.elim
    · rename_i b hb hcl
      exact quiet (by rw [ho]; simp only [quietA, hcl]; exact h)
    · exact h.elim
  · exact quiet h
end
end Go.Abs
