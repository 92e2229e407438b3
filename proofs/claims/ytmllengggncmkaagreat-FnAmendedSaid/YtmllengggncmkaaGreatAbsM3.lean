/- The abstract layer: parts W X Y Z Z1 Z2 Z3 Z4 Z5 Z6 Z7 Z8 Z9 ZA ZB ZC ZD ZE ZF ZG ZH. -/
import Derived.Test.YtmllengggncmkaaGreatAbsM2
import Derived.Laws.Externs
import Derived.Laws.FloatBits
import Derived.Lib.Bytealg
import Derived.Sort.OwnSortedInts
import Derived.Lib.ItoaNum
import Derived.Lib.LaidTab
import Derived.Below
import Derived.Lib.Join
import Derived.Sort.Grow
import Derived.Deep.Draws
import Derived.Lib.Strings
import Derived.Lib.Split
import Derived.Lib.SplitLaws
import Derived.Lib.CountLaws
import Derived.Lib.IndexMore
/- The abstract layer, part W: functions that are answered in place; which floats are numbers. -/
set_option linter.unusedSimpArgs false
set_option linter.unusedVariables false
namespace Go.Abs
open Go
variable {P : Program}

section
variable {P : Program}
theorem RV.one {E : Env P} {a : AV} {vs : List Value} (hl : vs.length = 1) (hv : ∀ (i : Nat) x v, [a][i]? = some x → vs[i]? = some v → RV E x v) : ∃ v, vs = [v] ∧ RV E a v := by
  match vs, hl with
  | [v], _ => exact ⟨v, rfl, hv 0 a v rfl rfl⟩

end

def finB (k : FloatKind) (x : Nat) : Bool := match k.decode x with
  | .number _ _ _ => true
  | _ => false
theorem rvs_nil {E : Env P} : ∀ (i : Nat) a v, ([] : List AV)[i]? = some a → ([] : List Value)[i]? = some v → RV E a v := by intro i a v h; simp at h
theorem rvs_cons {E : Env P} {a : AV} {v : Value} {l : List AV} {vs : List Value} (h : RV E a v) (hs : ∀ (i : Nat) a v, l[i]? = some a → vs[i]? = some v → RV E a v) : ∀ (i : Nat) a' v', (a :: l)[i]? = some a' → (v :: vs)[i]? = some v' → RV E a' v' := by
  intro i a' v' h1 h2
  cases i with
  | zero => simp at h1 h2; subst h1; subst h2; exact h
  | succ i => exact hs i a' v' (by simpa using h1) (by simpa using h2)

def findI {α : Type} (q : α → Bool) : List α → Nat → Int
  | [], _ => -1
  | x :: xs, i => if q x then i else findI q xs (i + 1)
theorem findI_any {α : Type} (q : α → Bool) : ∀ (xs : List α) (i : Nat), decide (findI q xs i ≥ 0) = xs.any q
  | [], _ => rfl
  | x :: xs, i => by
    unfold findI
    cases h : q x with
    | true => simp [h]
    | false => simp [h, ← findI_any q xs (i + 1)]
theorem drop_at {α : Type} (xs : List α) (i : Nat) (h : i < xs.length) : xs.drop i = xs[i] :: xs.drop (i + 1) := List.drop_eq_getElem_cons h
theorem findI_step {α : Type} (q : α → Bool) (xs : List α) (i : Nat) (h : i < xs.length) : findI q (xs.drop i) i = if q xs[i] then (i : Int) else findI q (xs.drop (i + 1)) (i + 1) := by
  rw [drop_at xs i h]; rfl
theorem any_not {α : Type} (p : α → Bool) (xs : List α) : (!xs.any fun x => !p x) = xs.all p := by
  induction xs with
  | nil => rfl
  | cons x xs ih => simp only [List.any_cons, List.all_cons, ← ih, Bool.not_or, Bool.not_not]

end Go.Abs
/- The abstract layer, part X: what is lent, read. -/
set_option linter.unusedSimpArgs false
set_option linter.unusedVariables false
namespace Go.Abs
open Go
variable {P : Program}

theorem view_sl (d : Nat) (hp : List Blk) (b i n : Nat) : view (d + 1) hp (.sl b i n) = match hp[b]? with
    | some blk => if blk.live && decide (i + n ≤ blk.els.length) then .ro (((blk.els.drop i).take n).map (view d hp)) else .any
    | none => .any := rfl
theorem view_agg (d : Nat) (hp : List Blk) (l : List AV) : view (d + 1) hp (.agg l) = .agg (l.map (view d hp)) := rfl
theorem view_ro (d : Nat) (hp : List Blk) (l : List AV) : view d hp (.ro l) = .ro l := by cases d <;> rfl
theorem view_int (d : Nat) (hp : List Blk) (k : IntKind) (n : Int) : view d hp (.int k n) = .int k n := by cases d <;> rfl
theorem map_view_ints (d : Nat) (hp : List Blk) (xs : List Int) : (ints xs).map (view d hp) = ints xs := by
  unfold ints
  rw [List.map_map]
  exact List.map_congr_left fun x _ => view_int d hp .i64 x
theorem take_ints (xs : List Int) : (ints xs).take xs.length = ints xs := List.take_of_length_le (by simp [ints_len])
theorem CallA.freeze {P : Program} (d : Nat) {f : FuncId} {args : List AV} {r : AV} {new : List Blk} (h : CallA P f args [] (Ret r new)) : CallA P f args [] (Ret (view d new r) []) := by
  intro E vs H hl hrv
  refine (h E vs H hl hrv).mono ?_
  rintro v w' ⟨r', hp', E', hw, ⟨rfl, rfl⟩, hv, H', F'⟩
  refine ⟨_, [], E'.lent hp', hw, ⟨rfl, rfl⟩, (view_sound H' d r').1 v hv, ?_, ?_⟩
  · exact ⟨rfl, by simp, by simp, by simp, by simp, fun c hc => by
      rcases hc with h1 | ⟨b, ⟨q, hq, hlv⟩, rfl⟩
      · exact H'.old c h1
      · exact (H'.holds b q hq hlv).lt, H'.laid.keep (fun c h => .inl h) (fun _ _ => rfl)⟩
  · exact { size := F'.size, os := F'.os, tape := F'.tape, output := F'.output, block := F'.block, len := Nat.le_refl _, ρ := fun b hb => absurd hb (Nat.not_lt_zero _), wd := fun b hb => absurd hb (Nat.not_lt_zero _),
            F := fun c hc => .inl (F'.F c hc)
            F' := fun c hc => by
              rcases hc with h1 | ⟨b, hb, rfl⟩
              · exact F'.F' c h1
              · rcases F'.live b hb with ⟨h2, _⟩ | ⟨_, h3⟩
                · exact absurd h2 (Nat.not_lt_zero _)
                · exact .inr h3
            live := fun b ⟨q, hq, _⟩ => by simp at hq
            csz := F'.csz }
theorem CallA.frozen {P : Program} (d : Nat) {f : FuncId} {args : List AV} {r r2 : AV} {new : List Blk} (h : CallA P f args [] (Ret r new)) (hr : view d new r = r2) : CallA P f args [] (Ret r2 []) := by
  subst hr; exact h.freeze d
end Go.Abs
/- The abstract layer, part Y: the rules of a walk, some at once. -/
set_option linter.unusedVariables false
set_option linter.defProp false
namespace Go.Abs
open Go
variable {P : Program}

def q0 := And.intro @V_skip (And.intro @V_region (And.intro @V_draw (And.intro @V_seq (And.intro @V_cond (And.intro @opA_alloc (And.intro @opA_box (And.intro @opA_buildSlice (And.intro @opA_store (And.intro @opA_makeSlice (And.intro @opA_append @opA_len))))))))))
def q1 := And.intro @opA_min (And.intro @opA_max (And.intro @opA_real (And.intro @opA_imag (And.intro @opA_complex (And.intro @V_block (And.intro @V_loop (And.intro @V_exit (And.intro @V_ret (And.intro @retQ_ret (And.intro @retQ_normal @R_nil))))))))))
def q2 := And.intro @R_none (And.intro @R_some (And.intro @RQ_nil (And.intro @RQ_none (And.intro @RQ_some (And.intro @RQ_fnone (And.intro @RQ_fsome (And.intro @stepQ_call (And.intro @stepQ_builtin (And.intro @callQ_fn (And.intro @callV_fn @opA_call))))))))))
def q3 := And.intro @Br_true (And.intro @Br_false (And.intro @Br_not (And.intro @guardB_true (And.intro @guardB_false (And.intro @guardO_some (And.intro @condB_bool (And.intro @Cn_any (And.intro @Cn_bool (And.intro @Cn_int (And.intro @Cn_flt @Cn_cpx))))))))))
def q4 := And.intro @Cn_str (And.intro @Cn_agg (And.intro @Cn_tup (And.intro @Cn_nils (And.intro @Cn_ro (And.intro @Cn_sl (And.intro @Cn_ptr (And.intro @Cn_rop (And.intro @Cn_nilp (And.intro @Cn_fn (And.intro @Cn_nilf @stepQ_move))))))))))
def q5 := And.intro @stepQ_assign (And.intro @stepQ_pick (And.intro @stepQ_build (And.intro @stepQ_load (And.intro @stepQ_nilCheck (And.intro @stepQ_binOp (And.intro @stepQ_unOp (And.intro @stepQ_convert (And.intro @stepQ_makeFunc (And.intro @stepQ_slice (And.intro @stepQ_fieldAddr @stepQ_field))))))))))
def q6 := And.intro @stepQ_indexAddr (And.intro @stepQ_index (And.intro @stepQ_extract (And.intro @opA_move (And.intro @opA_assign (And.intro @opA_pick (And.intro @opA_build (And.intro @opA_load (And.intro @opA_nilCheck (And.intro @opA_binOp (And.intro @opA_unOp @opA_convert))))))))))
def q7 := And.intro @opA_makeFunc (And.intro @opA_slice (And.intro @opA_fieldAddr (And.intro @opA_field (And.intro @opA_indexAddr (And.intro @opA_index (And.intro @opA_extract (And.intro @ints_len (And.intro @flts_len (And.intro @ints_get (And.intro @flts_get @flts_kill))))))))))
def q8 := And.intro @ints_kill (And.intro @flts_snoc (And.intro @ints_snoc (And.intro @flts_append (And.intro @ints_append @wide_ok))))
def q9 := And.intro @guardB_skip (And.intro @drawQ_cons (And.intro @drawQ_nil (And.intro @opA_cap (And.intro @opA_clear (And.intro @opA_lookup (And.intro @opA_makeMap (And.intro @opA_mapUpdate (And.intro @opA_mapEntry (And.intro @opA_entryStore (And.intro @stepQ_lookup (And.intro @Cn_mp (And.intro @Cn_rom (And.intro @Cn_mv (And.intro @callV_mv @callQ_mv))))))))))))))
end Go.Abs
/- The abstract layer, part Z: calls that read known blocks and make new ones. -/
set_option linter.unusedSimpArgs false
set_option linter.unusedVariables false
namespace Go.Abs
open Go
variable {P : Program}

theorem joinHp_flat {hp new : List Blk} (hf : ∀ q ∈ new, allBelow 0 q.els = true) : joinHp hp new = hp ++ new := by
  unfold joinHp
  congr 1
  have : ∀ l : List Blk, (∀ q ∈ l, allBelow 0 q.els = true) → l.map (renB fun b => b + hp.length) = l := by
    intro l
    induction l with
    | nil => intro _; rfl
    | cons q l ih => intro hl; rw [List.map_cons, renB_flat (hl q (by simp)), ih fun x hx => hl x (by simp [hx])]
  exact this new hf
end Go.Abs
/- The abstract layer, part Z1: drawn regions by an invariant. -/
set_option linter.unusedSimpArgs false
set_option linter.unusedVariables false
namespace Go.Abs
open Go
variable {P : Program}

section
variable {P : Program} {n0 : Nat}
end
end Go.Abs
/- The abstract layer, part Z2: a drawn region whose operations make blocks of their own, in any order. -/
set_option linter.unusedSimpArgs false
set_option linter.unusedVariables false
namespace Go.Abs
open Go
variable {P : Program}

structure Plan where
  val : Nat → (Nat → Nat) → AV
  fresh : Nat → Option Blk
  uses : Nat → List Nat

def On (listed : Array Bool) (i : Nat) : Prop := listed.getD i false = true
def upd (nm : Nat → Nat) (i x : Nat) : Nat → Nat := fun j => if j = i then x else nm j

structure Mid (ops : List Oper) (pl : Plan) (st0 : St) (listed : Array Bool) (nm : Nat → Nat) (st : St) : Prop where
  len : st.tm.length = st0.tm.length
  slot : ∀ (i : Nat) (o : Oper) (d : Nat), ops[i]? = some o → On listed i → o.dst = some d → st.tm.getD d .any = pl.val i nm
  rest : ∀ d, (∀ (i : Nat) (o : Oper), ops[i]? = some o → o.dst ≠ some d) → st.tm.getD d .any = st0.tm.getD d .any
  more : st0.hp.length ≤ st.hp.length
  old : ∀ b, b < st0.hp.length → st.hp[b]? = st0.hp[b]?
  blk : ∀ i b, i < ops.length → On listed i → pl.fresh i = some b → st0.hp.length ≤ nm i ∧ st.hp[nm i]? = some b
  inj : ∀ i j, i < ops.length → j < ops.length → On listed i → On listed j → pl.fresh i ≠ none → pl.fresh j ≠ none → nm i = nm j → i = j
  closed : ∀ (j : Nat) (o : Oper), ops[j]? = some o → On listed j → ∀ e ∈ o.after, Region.binds .any e = true → On listed e.on

theorem set_getD (l : List AV) (d e : Nat) (v : AV) (h : d ≠ e) : (l.set d v).getD e .any = l.getD e .any := by
  simp [List.getD, List.getElem?_set_ne h]
theorem set_getD_self (l : List AV) (d : Nat) (v : AV) (h : d < l.length) : (l.set d v).getD d .any = v := by
  simp [List.getD, h]

section
variable {P : Program} {n0 : Nat}

theorem Mid.step {ops : List Oper} {pl : Plan} {st0 : St} {listed : Array Bool} {nm : Nat → Nat} {st : St} (M : Mid ops pl st0 listed nm st)
    (hd : ∀ (i j : Nat) (oi oj : Oper) (d : Nat), ops[i]? = some oi → ops[j]? = some oj → oi.dst = some d → oj.dst = some d → i = j)
    (hlen : ∀ (i : Nat) (o : Oper) (d : Nat), ops[i]? = some o → o.dst = some d → d < st0.tm.length)
    (huses : ∀ (j : Nat) (o : Oper), ops[j]? = some o → ∀ i ∈ pl.uses j, ∃ e ∈ o.after, Region.binds .any e = true ∧ e.on = i)
    (hloc : ∀ j nm nm', (∀ i ∈ pl.uses j, nm i = nm' i) → (pl.fresh j ≠ none → nm j = nm' j) → pl.val j nm = pl.val j nm')
    {i : Nat} {o : Oper} {d : Nat} (ho : ops[i]? = some o) (hi : listed.getD i true = false) (hdst : o.dst = some d) (hedge : ∀ e ∈ o.after, Region.binds .any e = true → On listed e.on)
    {v : AV} {hp' : List Blk} (hs : listed.size = ops.length) (h : match pl.fresh i with
      | none => v = pl.val i nm ∧ hp' = st.hp
      | some b => v = pl.val i (upd nm i st.hp.length) ∧ hp' = st.hp ++ [b]) :
    ∃ nm', Mid ops pl st0 (listed.setIfInBounds i true) nm' { tm := st.tm.set d v, hp := hp' } := by
  have hilt : i < ops.length := (List.getElem?_eq_some_iff.1 ho).1
  have hnot : ¬ On listed i := by
    unfold On
    simp [Array.getD, hs, hilt] at hi ⊢
    simp [hi]
  have on' : ∀ j, On (listed.setIfInBounds i true) j → j = i ∨ On listed j := by
    intro j hj
    by_cases h : i = j
    · exact .inl h.symm
    · right; unfold On at hj ⊢; rwa [getD_set_ne false h] at hj
  have onI : On (listed.setIfInBounds i true) i := by
    unfold On
    simp [hs, hilt]
  have onM : ∀ j, On listed j → On (listed.setIfInBounds i true) j := fun j hj => getD_set_true hj
  have usesOn : ∀ (j : Nat) (oj : Oper), ops[j]? = some oj → On listed j → ∀ k ∈ pl.uses j, On listed k := by
    intro j oj hj hon k hk
    obtain ⟨e, he, hb, rfl⟩ := huses j oj hj k hk
    exact M.closed j oj hj hon e he hb
  have closed' : ∀ (j : Nat) (oj : Oper), ops[j]? = some oj → On (listed.setIfInBounds i true) j → ∀ e ∈ oj.after, Region.binds .any e = true → On (listed.setIfInBounds i true) e.on := by
    intro j oj hj hon e he hb
    rcases on' j hon with rfl | hon
    · rw [ho] at hj; cases hj
      exact onM _ (hedge e he hb)
    · exact onM _ (M.closed j oj hj hon e he hb)
  have rest' : ∀ c, (∀ (k : Nat) (ok : Oper), ops[k]? = some ok → ok.dst ≠ some c) → (st.tm.set d v).getD c .any = st0.tm.getD c .any := by
    intro c hc
    rw [set_getD _ _ _ _ (fun e => hc i o ho (by rw [hdst, e]))]
    exact M.rest c hc
  have dlt : d < st.tm.length := by rw [M.len]; exact hlen i o d ho hdst
  cases hf : pl.fresh i with
  | none =>
    rw [hf] at h
    obtain ⟨rfl, rfl⟩ := h
    refine ⟨nm, by simp [M.len], ?_, rest', M.more, M.old, ?_, ?_, closed'⟩
    · intro j oj c hj hon hc
      rcases on' j hon with rfl | hon
      · rw [ho] at hj; cases hj
        rw [hdst] at hc; cases hc
        exact set_getD_self _ _ _ dlt
      · rw [set_getD _ _ _ _ (fun e => hnot (by
          subst e
          have := hd i j o oj d ho hj hdst hc
          rw [this]; exact hon))]
        exact M.slot j oj c hj hon hc
    · intro j b hj hon hb
      rcases on' j hon with rfl | hon
      · rw [hf] at hb; cases hb
      · exact M.blk j b hj hon hb
    · intro j k hj hk hoj hok fj fk e
      rcases on' j hoj with rfl | hoj
      · exact absurd hf fj
      · rcases on' k hok with rfl | hok
        · exact absurd hf fk
        · exact M.inj j k hj hk hoj hok fj fk e
  | some b =>
    rw [hf] at h
    obtain ⟨rfl, rfl⟩ := h
    have keep : ∀ j, On listed j → upd nm i st.hp.length j = nm j := by
      intro j hj
      have : j ≠ i := fun e => hnot (e ▸ hj)
      simp [upd, this]
    have self : upd nm i st.hp.length i = st.hp.length := by simp [upd]
    have vals : ∀ (j : Nat) (oj : Oper), ops[j]? = some oj → On listed j → pl.val j (upd nm i st.hp.length) = pl.val j nm := by
      intro j oj hj hon
      exact hloc j _ _ (fun k hk => keep k (usesOn j oj hj hon k hk)) (fun _ => keep j hon)
    refine ⟨upd nm i st.hp.length, by simp [M.len], ?_, rest', by simp; have := M.more; omega, ?_, ?_, ?_, closed'⟩
    · intro j oj c hj hon hc
      rcases on' j hon with rfl | hon
      · rw [ho] at hj; cases hj
        rw [hdst] at hc; cases hc
        exact set_getD_self _ _ _ dlt
      · rw [set_getD _ _ _ _ (fun e => hnot (by
          subst e
          have := hd i j o oj d ho hj hdst hc
          rw [this]; exact hon)), vals j oj hj hon]
        exact M.slot j oj c hj hon hc
    · intro c hc
      have := M.more
      show (st.hp ++ [b])[c]? = _
      rw [List.getElem?_append_left (by omega)]
      exact M.old c hc
    · intro j b' hj hon hb
      rcases on' j hon with rfl | hon
      · rw [hf] at hb; cases hb
        rw [self]
        exact ⟨M.more, by simp⟩
      · rw [keep j hon]
        obtain ⟨h1, h2⟩ := M.blk j b' hj hon hb
        refine ⟨h1, ?_⟩
        show (st.hp ++ [b])[nm j]? = _
        rw [List.getElem?_append_left (List.getElem?_eq_some_iff.1 h2).1]
        exact h2
    · intro j k hj hk hoj hok fj fk e
      have lt : ∀ j, j < ops.length → On listed j → pl.fresh j ≠ none → nm j < st.hp.length := by
        intro j hj hoj fj
        cases hfj : pl.fresh j with
        | none => exact absurd hfj fj
        | some b' => exact (List.getElem?_eq_some_iff.1 (M.blk j b' hj hoj hfj).2).1
      rcases on' j hoj with hj' | hoj2
      · rcases on' k hok with hk' | hok2
        · rw [hj', hk']
        · rw [hj', self, keep k hok2] at e
          have := lt k hk hok2 fk
          omega
      · rcases on' k hok with hk' | hok2
        · rw [hk', self, keep j hoj2] at e
          have := lt j hj hoj2 fj
          omega
        · rw [keep j hoj2, keep k hok2] at e
          exact M.inj j k hj hk hoj2 hok2 fj fk e

end
end Go.Abs
/- The abstract layer, part Z3: how a drawn region that is done is told by names of one's choice. -/
set_option linter.unusedSimpArgs false
set_option linter.unusedVariables false
namespace Go.Abs
open Go
variable {P : Program}

theorem LeTm.of {N : Nat} {π : Nat → Nat} : ∀ {l m : List AV}, l.length = m.length → (∀ (i : Nat) b, m[i]? = some b → LeV N π (l.getD i .any) b) → LeTm N π l m
  | [], [], _, _ => trivial
  | a :: l, b :: m, hl, h => ⟨by simpa using h 0 b rfl, LeTm.of (by simpa using hl) fun i x hx => by simpa using h (i + 1) x (by simpa using hx)⟩
  | [], _ :: _, hl, _ => by simp at hl
  | _ :: _, [], hl, _ => by simp at hl

end Go.Abs
/- The abstract layer, part Z4: calls whose result is told by a property; branches whose way is known; bytes. -/
set_option linter.unusedSimpArgs false
set_option linter.unusedVariables false
namespace Go.Abs
open Go
variable {P : Program}

theorem br_no {c : Bool} {x y : Prop} {t : Tok x} {u : Tok y} (hc : c = false) (hy : y) : Br c x y t u := by subst hc; exact br_intro (fun h => by cases h) (fun _ => hy)
theorem br_yes {c : Bool} {x y : Prop} {t : Tok x} {u : Tok y} (hc : c = true) (hx : x) : Br c x y t u := by subst hc; exact br_intro (fun _ => hx) (fun h => by cases h)

section
variable {P : Program} {f : FuncId} {args : List AV} {hp : List Blk} {Q Q0 : AV → List Blk → Prop} {t : Tok Q}
theorem call_newQ (h : CallA P f args [] Q0) (ha : args.all (below 0) = true) (hQ : ∀ r new, Q0 r new → (∀ q ∈ new, allBelow 0 q.els = true) ∧ Q (ren (fun b => b + hp.length) r) (hp ++ new)) : CallP P f args hp Q t := by
  refine call_at (CallA.lift ha (h.mono ?_))
  intro r new h0
  obtain ⟨hf, hq⟩ := hQ r new h0
  rw [joinHp_flat hf]
  exact hq
theorem call_handedQ (σ : List Nat) {args' : List AV} {hps : List Blk} (h : CallA P f args' hps Q0) (hn : σ.Nodup) (S : SubF hp σ hps) (ha : args = args'.map (ren fun i => σ.getD i 0)) (hb : args'.all (below σ.length) = true)
    (hQ : ∀ r hps', Q0 r hps' → (∀ q ∈ hps', allBelow 0 q.els = true) ∧ Q (ren (upName σ hp.length) r) (putF σ hps' hp ++ hps'.drop σ.length)) : CallP P f args hp Q t := by
  refine call_at (CallA.sub σ (S.sub hn) ha hb (h.mono ?_))
  intro r hps' h0
  obtain ⟨hf, hq⟩ := hQ r hps' h0
  have e : subHp σ hp hps' = putF σ hps' hp ++ hps'.drop σ.length := by
    unfold subHp
    rw [putBack_flat _ _ _ _ hf]
    congr 1
    have : ∀ l : List Blk, (∀ q ∈ l, allBelow 0 q.els = true) → l.map (renB (upName σ hp.length)) = l := by
      intro l
      induction l with
      | nil => intro _; rfl
      | cons q l ih => intro hl; rw [List.map_cons, renB_flat (hl q (by simp)), ih fun x hx => hl x (by simp [hx])]
    exact this _ fun q hq => hf q (List.mem_of_mem_drop hq)
  rw [e]
  exact hq
end

theorem allBelow_cons {N : Nat} {a : AV} {l : List AV} : allBelow N (a :: l) = (below N a && allBelow N l) := rfl
theorem allBelow_nil {N : Nat} : allBelow N [] = true := rfl

def SubG (π : Nat → Nat) (N : Nat) (hp : List Blk) : List Nat → List Blk → Prop
  | [], [] => True
  | s :: σ, r :: l => (hp[s]? = some (renB π r) ∧ allBelow N r.els = true) ∧ SubG π N hp σ l
  | _, _ => False
theorem SubG.len {π : Nat → Nat} {N : Nat} {hp : List Blk} : ∀ {σ : List Nat} {l : List Blk}, SubG π N hp σ l → l.length = σ.length
  | [], [], _ => rfl
  | s :: σ, r :: l, h => by simp [SubG.len h.2]
  | [], _ :: _, h => h.elim
  | _ :: _, [], h => h.elim
theorem SubG.get {π : Nat → Nat} {N : Nat} {hp : List Blk} : ∀ {σ : List Nat} {l : List Blk}, SubG π N hp σ l → ∀ (i : Nat) r, l[i]? = some r → hp[σ.getD i 0]? = some (renB π r) ∧ allBelow N r.els = true
  | [], [], _, i, r, h => by simp at h
  | s :: σ, q :: l, h, 0, r, hr => by simp at hr; subst hr; simpa using h.1
  | s :: σ, q :: l, h, i + 1, r, hr => by simpa using SubG.get h.2 i r (by simpa using hr)
  | [], _ :: _, h, _, _, _ => h.elim
  | _ :: _, [], h, _, _, _ => h.elim
theorem getD_inj {σ : List Nat} (hn : σ.Nodup) : ∀ b b', b < σ.length → b' < σ.length → σ.getD b 0 = σ.getD b' 0 → b = b' := by
  intro b b' h1 h2 e
  simp only [List.getD_eq_getElem?_getD, List.getElem?_eq_getElem h1, List.getElem?_eq_getElem h2, Option.getD_some] at e
  have hne := List.pairwise_iff_getElem.1 hn
  rcases Nat.lt_trichotomy b b' with hlt | he | hlt
  · exact absurd e (hne b b' h1 h2 hlt)
  · exact he
  · exact absurd e.symm (hne b' b h2 h1 hlt)
theorem SubG.le {σ : List Nat} {n0 : Nat} {hp hp2 : List Blk} (hn : σ.Nodup) (h0 : n0 ≤ σ.length) (hlow : ∀ b, b < n0 → σ.getD b 0 = b) (S : SubG (fun i => σ.getD i 0) σ.length hp σ hp2) : LeHp σ.length (fun i => σ.getD i 0) n0 hp hp2 := by
  refine ⟨S.len, h0, hlow, getD_inj hn, fun b r hr => ?_⟩
  obtain ⟨h1, h2⟩ := S.get b r hr
  exact ⟨_, h1, rfl, fun hl => ⟨hl, rfl, rfl, by simpa [allBelow] using h2⟩⟩
theorem weak_names (σ : List Nat) {n0 : Nat} {st st2 : St} (hn : σ.Nodup) (h0 : n0 ≤ σ.length) (hlow : ∀ b, b < n0 → σ.getD b 0 = b) (S : SubG (fun i => σ.getD i 0) σ.length st.hp σ st2.hp) (ht : LeTm σ.length (fun i => σ.getD i 0) st.tm st2.tm) : Weak n0 st st2 :=
  weak_ren σ.length (fun i => σ.getD i 0) ht (S.le hn h0 hlow)
theorem PostR.tell (σ : List Nat) {n0 : Nat} {r r2 : AV} {hp hp2 : List Blk} {Q : AV → List Blk → Prop} (hn : σ.Nodup) (h0 : n0 ≤ σ.length) (hlow : ∀ b, b < n0 → σ.getD b 0 = b) (S : SubG (fun i => σ.getD i 0) σ.length hp σ hp2) (hr : r = ren (fun i => σ.getD i 0) r2) (hb : below σ.length r2 = true) (h : Q r2 hp2) : PostR n0 r hp Q :=
  PostR.names (fun i => σ.getD i 0) r2 hp2 (.inr ⟨hr, by rw [S.len]; exact hb⟩) (by have := S.le hn h0 hlow; rwa [← S.len] at this) h

theorem allW_int (k : IntKind) (n : Int) : AllW 1 [AV.int k n] = True := by
  simp only [eq_iff_iff, iff_true]
  intro a ha
  simp only [List.mem_singleton] at ha
  subst ha
  exact ⟨rfl, rfl⟩

def kint (k : IntKind) (l : List Int) : List AV := l.map (AV.int k)
section
variable {k : IntKind} {l : List Int}
theorem kint_len : (kint k l).length = l.length := by simp [kint]
theorem kint_get (i : Nat) (h : i < (kint k l).length) : (kint k l)[i] = .int k (l[i]'(by simpa [kint] using h)) := by simp [kint]
theorem kint_below (N : Nat) : allBelow N (kint k l) = true := by simp [allBelow, kint, below, belowM, belowL]
theorem kint_ren (π : Nat → Nat) : (kint k l).map (ren π) = kint k l := by simp [kint, ren, renM, renL]
end
theorem ofT_kint {P : Program} {m : Nat} {t e : TypeId} {k : IntKind} {a : AV} (ht : P.underlying t = some (.slice e)) (he : P.underlying e = some (.int k)) (h : OfT P (m + 2) t [a]) : ∃ xs : List Int, a = .ro (kint k xs) ∧ xs.length ≤ maxLen ∧ ∀ x ∈ xs, (Lit.int k x).wf = true := by
  unfold OfT at h
  rw [ht] at h
  obtain ⟨els, h0, hl, h⟩ := h
  have key : ∀ els : List AV, (∀ a ∈ els, OfT P (m + 1) e a.cells ∧ ((∃ fs, P.underlying e = some (.struct fs)) → ∃ c, a = .agg c) ∧ ((∀ fs, P.underlying e ≠ some (.struct fs)) → a.one = true)) → ∃ xs : List Int, els = kint k xs ∧ ∀ x ∈ xs, (Lit.int k x).wf = true := by
    intro els
    induction els with
    | nil => intro _; exact ⟨[], rfl, by simp⟩
    | cons a els ih =>
      intro h
      obtain ⟨xs, h1, h2⟩ := ih fun b hb => h b (by simp [hb])
      obtain ⟨h3, _, h4⟩ := h a (by simp)
      have h5 := h4 (by rw [he]; intro fs h; cases h)
      unfold OfT at h3
      rw [he] at h3
      obtain ⟨z, h6, h7⟩ := h3
      have : a = .int k z := by cases a <;> simp_all [AV.cells, AV.one]
      exact ⟨z :: xs, by simp [kint, this, h1], by simp only [List.mem_cons, forall_eq_or_imp]; exact ⟨h7, h2⟩⟩
  obtain ⟨xs, rfl, h2⟩ := key els h
  refine ⟨xs, by simpa using h0, by simpa [kint_len] using hl, h2⟩
end Go.Abs
/- The abstract layer, part Z5: drawn regions in an order of one's choice; new blocks told as what nobody writes. -/
set_option linter.unusedSimpArgs false
set_option linter.unusedVariables false
namespace Go.Abs
open Go
variable {P : Program}
theorem Cn_eq {g : AV → List Blk → Option Nat → Prop} {t : Tok g} : Cn g t = g := by delta Cn; rfl
section
variable {P : Program}

theorem freeze_one {E E' : Env P} {hp : List Blk} {q : Blk} (H : HRel E hp) (H' : HRel E' (hp ++ [q])) (F' : Fr E hp E' (hp ++ [q])) (hl : q.live = true) (hf : allBelow 0 q.els = true) (hflat : ∀ b ∈ hp, allBelow hp.length b.els = true)
    (d : Nat) (r0 : AV) (hb : below 1 r0 = true) (v : Value) (hv : RV E' (ren (fun i => [hp.length].getD i 0) r0) v) :
    ∃ E2 : Env P, E2.w = E'.w ∧ RV E2 (view d [q] r0) v ∧ HRel E2 hp ∧ Fr E hp E2 hp ∧ E.le E2 := by
  have hq : (hp ++ [q])[hp.length]? = some q := by simp
  have hlt : ∀ (b : Nat) blk, hp[b]? = some blk → b < hp.length ∧ (hp ++ [q])[b]? = some blk := fun b blk h => by
    have := (List.getElem?_eq_some_iff.1 h).1
    exact ⟨this, by rw [List.getElem?_append_left this]; exact h⟩
  let E2 : Env P := { E' with F := fun c => E'.F c ∨ c = E'.ρ hp.length, N := hp.length }
  have leN : (E'.ren hp.length fun b => b).le E2 := ⟨fun _ h => .inl h, fun _ _ => rfl, Nat.le_refl _, fun _ _ => rfl, fun _ _ => rfl, fun _ => Nat.le_refl _⟩
  have H2 : HRel E2 hp := by
    refine ⟨rfl, fun b blk h => H'.wd b blk (hlt b blk h).2, ?_, ?_, ?_, ?_, H'.laid.keep (fun c h => .inl h) (fun _ _ => rfl)⟩
    · intro b blk h hlv
      refine (H'.holds b blk (hlt b blk h).2 hlv).keepE rfl fun e he j x hx u h4 => ?_
      have hbe : below hp.length e = true := by
        have := hflat blk (List.mem_of_getElem? h)
        simp only [allBelow, List.all_eq_true] at this
        exact this e he
      obtain ⟨_, h5⟩ := ren_cells (π := fun b => b) hbe
      obtain ⟨c', h6, h7⟩ := h5 j x hx
      rw [ren_id _ hbe, hx] at h6
      cases h6
      exact (h7 h4).mono leN
    · intro b b' blk blk' h1 h2 h3 h4 h5
      exact H'.inj b b' blk blk' (hlt _ _ h1).2 h2 (hlt _ _ h3).2 h4 h5
    · intro b blk h hlv hF
      rcases hF with h1 | h1
      · exact H'.apart b blk (hlt b blk h).2 hlv h1
      · have := H'.inj b hp.length blk q (hlt b blk h).2 hlv hq hl h1
        have := (hlt b blk h).1
        omega
    · rintro c (h | rfl)
      · exact H'.old c h
      · exact (H'.holds _ q hq hl).lt
  have F2 : Fr E hp E2 hp :=
    { size := F'.size, os := F'.os, tape := F'.tape, output := F'.output, block := F'.block, len := Nat.le_refl _, ρ := F'.ρ, wd := F'.wd, csz := F'.csz
      F := fun c h => .inl (F'.F c h)
      F' := fun c hc => by
        rcases hc with h | rfl
        · exact F'.F' c h
        · rcases F'.live hp.length ⟨q, hq, hl⟩ with ⟨h1, _⟩ | ⟨_, h2⟩
          · exact absurd h1 (Nat.lt_irrefl _)
          · exact .inr h2
      live := fun b ⟨blk, h, hlv⟩ => .inl ⟨(hlt b blk h).1, blk, h, hlv⟩ }
  refine ⟨E2, rfl, ?_, H2, F2, F2.le H H2⟩
  have S : Sub [hp.length] (hp ++ [q]) [q] := SubF.sub (by simp) ⟨⟨hq, hf⟩, trivial⟩
  have Hq := S.hrel H'
  have h1 := RV.unren (E := E') (N := 1) (π := fun i => [hp.length].getD i 0) hb hv
  have h2 := (view_sound Hq d r0).1 v h1
  refine h2.mono ⟨fun c hc => ?_, fun _ _ => rfl, Nat.zero_le _, fun _ hb => absurd hb (Nat.not_lt_zero _), fun _ hb => absurd hb (Nat.not_lt_zero _), fun _ => Nat.le_refl _⟩
  rcases hc with h | ⟨b, ⟨bk, hbk, _⟩, rfl⟩
  · exact .inl h
  · have : b = 0 := by
      have := (List.getElem?_eq_some_iff.1 hbk).1
      simpa using this
    subst this
    exact .inr rfl

theorem Yields.fresh {o : Oper} {f : Operand → AV} {hp : List Blk} (q : Blk) (hl : q.live = true) (hf : allBelow 0 q.els = true) (hflat : ∀ b ∈ hp, allBelow hp.length b.els = true) (d : Nat) (r0 : AV) (hb : below 1 r0 = true)
    (h : opA P hp.length o.op f hp (fun v hp' kb => v = ren (fun i => [hp.length].getD i 0) r0 ∧ hp' = hp ++ [q] ∧ kb = none)) : Yields P o f hp (view d [q] r0) := by
  intro E g H hr hcst
  have := opA_sound (E0 := E) (hp0 := hp) H (Fr.refl E hp) hr hcst h
  unfold Runs at this ⊢
  have conv : ∀ u w', OpPost E E hp (fun v hp' kb => v = ren (fun i => [hp.length].getD i 0) r0 ∧ hp' = hp ++ [q] ∧ kb = none) u w' → ∃ E', E'.w = w' ∧ RV E' (view d [q] r0) u ∧ HRel E' hp ∧ Fr E hp E' hp ∧ E.le E' := by
    rintro u w' ⟨E', av, hp', kb, hl'⟩
    obtain ⟨rfl, rfl, rfl⟩ := hl'.k
    obtain ⟨E2, h1, h2, h3, h4, h5⟩ := freeze_one H hl'.hr hl'.fr hl hf hflat d r0 hb u hl'.rv
    exact ⟨E2, h1.trans hl'.w, h2, h3, h4, h5⟩
  split at this
  · exact conv _ _ this
  · exact conv _ _ this
  · exact this.mono fun e w'' ⟨v, he, hp⟩ => ⟨v, he, conv _ _ hp⟩
  · exact this.elim

theorem Yields.bare {o : Oper} {f : Operand → AV} {hp : List Blk} {t e : TypeId} (ho : o.op = .buildSlice t 0 #[]) (hd : P.underlying t = some (.slice e)) (hpos : 0 < P.cellsOf e) (hflat : ∀ b ∈ hp, allBelow hp.length b.els = true) : Yields P o f hp .nils := by
  intro E g H hr hcst
  have run : (Instr.buildSlice t 0 #[]).run P E.w = .ok (.slice (some ⟨E.w.heap.size, 0, none⟩) 0 0) { E.w with heap := E.w.heap.push (.cells #[] e) } := by
    have hc : ¬ (0 : Nat) > 2 ^ 24 := by omega
    simp only [Instr.buildSlice, Sem.run_bind, run_underlying' hd, Result.andThen_ok, run_sizeOf_pos hpos, Nat.zero_mul, hc, if_false, if_true, Sem.run_pure]
    have e0 : (Array.map (fun x => (#[] : Array Value)[x % (#[] : Array Value).size]!) (Array.range 0)) = #[] := by simp
    rw [e0]
    rfl
  obtain ⟨E', h1, h2, h3, h4, _⟩ := new_block H (Fr.refl E hp) { ty := e, w := P.cellsOf e, els := [], live := true } #[] rfl _ (Same.refl _) hpos (fun i e he => by simp at he)
  obtain ⟨E2, k1, _, k2, k3, k4⟩ := freeze_one H h2 h3 rfl rfl hflat 0 .any rfl undef (.any _)
  unfold Runs
  have hx : (execOp g o).run P E.w = .ok (.value (.slice (some ⟨E.w.heap.size, 0, none⟩) 0 0)) { E.w with heap := E.w.heap.push (.cells #[] e) } := by
    simp only [execOp, ho]
    simp [Sem.run_bind, run]
  rw [hx]
  exact ⟨E2, k1.trans h1, .nils _, k2, k3, k4⟩

def freeZ (ops : Array Oper) (ms : List Bool) (listed : Array Bool) (k : Nat) : Bool :=
  match ops[k]? with
  | none => false
  | some o => lateOk ops listed k (lateOf ops listed k) && (List.range ops.size).all fun j =>
    j == k || listed.getD j true || (lateOf ops listed k).contains j ||
    match ops[j]? with
    | none => true
    | some oj => (oj.after.any fun e => Region.binds .any e && e.on == k) || (o.apart ops oj && !(ms.getD j true))
theorem freeZ_spec {ops : List Oper} {ms : List Bool} {listed : Array Bool} {k : Nat} {o : Oper} (hk : ops[k]? = some o) (h : freeZ ops.toArray ms listed k = true) : Free ops ms listed k o := by
  unfold freeZ at h
  have hk' : ops.toArray[k]? = some o := by simpa using hk
  rw [hk'] at h
  simp only [Bool.and_eq_true] at h
  refine ⟨_, lateOk_spec h.1, ?_⟩
  have h := h.2
  intro j oj hoj hjk hun hD hno
  simp only [List.all_eq_true, List.mem_range] at h
  have hj : j < ops.toArray.size := by
    have := (List.getElem?_eq_some_iff.1 hoj).1
    simpa using this
  have h1 := h j hj
  have hoj' : ops.toArray[j]? = some oj := by simpa using hoj
  rw [hoj', hun] at h1
  have hjk' : (j == k) = false := by simpa using hjk
  have hD' : (lateOf ops.toArray listed k).contains j = false := by simpa using hD
  rw [hjk', hD'] at h1
  simp only [Bool.false_or, Bool.or_eq_true, Bool.and_eq_true] at h1
  rcases h1 with h1 | ⟨h1, h2⟩
  · exfalso
    rw [Array.any_eq_true] at h1
    obtain ⟨m, hm, he⟩ := h1
    simp only [Bool.and_eq_true, beq_iff_eq] at he
    exact hno _ (Array.getElem_mem hm) he.1 he.2
  · exact ⟨h1, by simpa using h2⟩

def ordOk (ops : Array Oper) (ms : List Bool) : List Nat → Array Bool → Bool
  | [], listed => (Region.ready .any ops listed).isEmpty
  | k :: r, listed => (if ms.getD k true then Region.ready .any ops listed == [k] else (Region.ready .any ops listed).contains k && freeZ ops ms listed k) && ordOk ops ms r (listed.setIfInBounds k true)

def ordA (P : Program) (n0 : Nat) (ops : List Oper) (ms : List Bool) (K : St → Prop) : List Nat → St → Prop
  | [], st => K st
  | k :: r, st => ∃ o, ops[k]? = some o ∧ o.guard = none ∧
    if ms.getD k true then ∃ g : AV → List Blk → Option Nat → Prop, opA P n0 o.op st.ev st.hp g ∧ ∀ v hp' kb, g v hp' kb → ordA P n0 ops ms K r ((st.after hp' kb).put o.dst v)
    else ∃ v, Yields P o st.ev st.hp v ∧ ordA P n0 ops ms K r (st.put o.dst v)

theorem anyA_ord {n0 : Nat} {ops : List Oper} {ms : List Bool} {K : St → Prop} : ∀ (ord : List Nat) (listed : Array Bool) (st : St), ordOk ops.toArray ms ord listed = true → ordA P n0 ops ms K ord st → anyA P n0 ops ms K ord.length listed st
  | [], listed, st, hB, h => ⟨by simpa [ordOk] using hB, h⟩
  | k :: r, listed, st, hB, h => by
    obtain ⟨o, ho, hg, h⟩ := h
    simp only [ordOk, Bool.and_eq_true] at hB
    obtain ⟨hB1, hB2⟩ := hB
    have hw : wantedA ops o st = some true := by simp [wantedA, hg]
    cases hm : ms.getD k true with
    | true =>
      rw [hm] at hB1 h
      simp only [if_true, beq_iff_eq] at hB1 h
      refine ⟨fun h => (by rw [hB1] at h; cases h), fun i hi => ?_⟩
      rw [hB1] at hi
      have : i = k := by simpa using hi
      subst this
      unfold stepA
      simp only [ho, hm, if_true]
      obtain ⟨g, h1, h2⟩ := h
      exact .inl ⟨hw, g, h1, fun v hp' kb hv => anyA_ord r _ _ hB2 (h2 v hp' kb hv)⟩
    | false =>
      rw [hm] at hB1 h
      simp only [Bool.false_eq_true, if_false, Bool.and_eq_true] at hB1 h
      obtain ⟨hr, hf⟩ := hB1
      obtain ⟨v, hy, hK⟩ := h
      exact anyA_first ho hm r.length listed st (freeZ_spec ho hf) (by simpa using hr) (.inl ⟨hw, hy⟩) (anyA_ord r _ _ hB2 hK)

def Od (P : Program) (n0 : Nat) (ops : List Oper) (ms : List Bool) (K : St → Prop) (ord : List Nat) (_t : Tok (ops, ord, K)) (st : St) : Prop := ordA P n0 ops ms K ord st

theorem go_order (hm : P.follows .mixedOrders = true) {n0 : Nat} {id : Nat} {ops : Array Oper} {Q : Ex → St → Prop} {st : St} {t} (ord : List Nat) (ms : List Bool)
    (hok : (ord.length == ops.size && ordOk ops ms ord (Array.replicate ops.size false)) = true) (h : Od P n0 ops.toList ms (Q .normal) ord .mk st) : Lp P n0 (.region id ops true) Q t st := by
  delta Lp
  simp only [Bool.and_eq_true, beq_iff_eq] at hok
  intro E0 hp0 E a hn hs
  subst hn
  have h1 := anyA_ord (P := P) (n0 := hp0.length) (ops := ops.toList) (ms := ms) (K := Q .normal) ord (Array.replicate ops.size false) st (by simpa using hok.2) h
  rw [hok.1] at h1
  refine wp_region_any hm ?_
  have hs' : SR E0 hp0 (E.with { E.w with drawn := E.w.drawn + 1 }) st a := ⟨hs.hr.with (Same.drew _ _), hs.fr.with (Same.drew _ _), hs.len, fun i v u a1 a2 => (hs.tm i v u a1 a2).mono (Env.le_with (Same.drew _ _)), hs.df⟩
  have h2 := anyA_sound (P := P) (Q := liftQ E0 hp0 Q) (fun E st a hs hk => ⟨.normal, st, E, rfl, rfl, hs, hk⟩) _ _ _ st a hs' h1
  rw [show ops.toList.toArray = ops from by simp] at h2
  exact h2

section
variable {n0 : Nat} {ops : List Oper} {ms : List Bool} {K : St → Prop} {k : Nat} {r : List Nat} {st : St} {t : Tok (ops, k :: r, K)} {o : Oper}
theorem od_nil {t : Tok (ops, ([] : List Nat), K)} (h : K st) : Od P n0 ops ms K [] t st := h
theorem od_one (ho : ops[k]? = some o) (hg : o.guard = none) (hm : ms.getD k true = true) (h : opA P n0 o.op st.ev st.hp (Cn (fun v hp' kb => Od P n0 ops ms K r .mk ((st.after hp' kb).put o.dst v)) .mk)) : Od P n0 ops ms K (k :: r) t st :=
  ⟨o, ho, hg, by rw [hm]; exact ⟨_, h, fun v hp' kb hv => by rw [Cn_go] at hv; exact hv⟩⟩
theorem od_quiet (ho : ops[k]? = some o) (hg : o.guard = none) (hm : ms.getD k true = false) (h : quietA P o.op st.ev st.hp (fun v => Od P n0 ops ms K r .mk (st.put o.dst v))) : Od P n0 ops ms K (k :: r) t st :=
  ⟨o, ho, hg, by
    rw [hm]
    obtain ⟨v, h1, h2⟩ := Yields.quiet h
    exact ⟨v, h2, h1⟩⟩
theorem od_fresh (ho : ops[k]? = some o) (hg : o.guard = none) (hm : ms.getD k true = false) (q : Blk) (d : Nat) (r0 : AV) (hl : q.live = true) (hf : allBelow 0 q.els = true) (hflat : ∀ b ∈ st.hp, allBelow st.hp.length b.els = true) (hb : below 1 r0 = true)
    (hop : opA P st.hp.length o.op st.ev st.hp (Cn (fun v hp' kb => v = ren (fun i => [st.hp.length].getD i 0) r0 ∧ hp' = st.hp ++ [q] ∧ kb = none) .mk)) (h : Od P n0 ops ms K r .mk (st.put o.dst (view d [q] r0))) : Od P n0 ops ms K (k :: r) t st :=
  ⟨o, ho, hg, by rw [hm]; exact ⟨_, Yields.fresh q hl hf hflat d r0 hb (by rw [Cn_eq] at hop; exact hop), h⟩⟩
end
end
attribute [irreducible] Od
end Go.Abs
/- The abstract layer, part Z6: a function's code, piece by piece: what comes later stands apart; ways that meet again. -/
set_option linter.unusedSimpArgs false
set_option linter.unusedVariables false
namespace Go.Abs
open Go
variable {P : Program}
section
variable {P : Program}
variable {n0 : Nat} {Q : Ex → St → Prop} {st : St}
end
end Go.Abs
/- The abstract layer, part Z7: drawn regions in which a call changes memory beside quiet operations that do not mind. -/
set_option linter.unusedSimpArgs false
set_option linter.unusedVariables false
namespace Go.Abs
open Go
variable {P : Program}
section
variable {P : Program}

def CallAt (P : Program) (o : Oper) (f : Operand → AV) (hp : List Blk) (Q : AV → List Blk → Prop) : Prop :=
  (∃ (c : Call) (gf : Operand) (fid : FuncId) (caps : List AV), o.op = .call c ∧ c.callee = .value gf ∧ f gf = .fn fid caps ∧ CallA P fid (c.args.toList.map f ++ caps) hp Q) ∨
  (∃ t len parts, o.op = .buildSlice t len parts ∧ ∀ n0, opA P n0 o.op f hp (fun v hp' kb => Q v hp' ∧ kb = none))
theorem CallAt.congr {o : Oper} {f f' : Operand → AV} {hp : List Blk} {Q : AV → List Blk → Prop} (h : CallAt P o f hp Q) (he : ∀ x ∈ o.op.operands, f x = f' x) : CallAt P o f' hp Q := by
  rcases h with ⟨c, gf, fid, caps, h1, h2, h3, h4⟩ | ⟨t, len, parts, h1, h2⟩
  · refine .inl ⟨c, gf, fid, caps, h1, h2, by rw [← he gf (by simp [h1, Op.operands, Call.operands, h2])]; exact h3, ?_⟩
    have : c.args.toList.map f' = c.args.toList.map f := by
      apply List.map_congr_left
      intro x hx
      exact (he x (by
        simp only [h1, Op.operands, Call.operands, h2]
        simp at hx ⊢
        exact .inr hx)).symm
    rw [this]
    exact h4
  · refine .inr ⟨t, len, parts, h1, fun n0 => ?_⟩
    have h3 := h2 n0
    rw [h1] at h3 he ⊢
    have e : (parts.toList.map fun p => (p.1, f p.2)) = parts.toList.map fun p => (p.1, f' p.2) := by
      apply List.map_congr_left
      intro p hp
      rw [he p.2 (by simp only [Op.operands]; simp; exact ⟨p.1, by simpa using hp⟩)]
    simp only [opA] at h3 ⊢
    simp only [e] at h3
    exact h3

def stepH (P : Program) (n0 : Nat) (ops : List Oper) (ms : List Nat) (Hs : List Blk → Prop) (i : Nat) (K : St → Prop) (st : St) : Prop :=
  match ops[i]? with
  | none => K st
  | some o => o.guard = none ∧ match ms.getD i 1 with
    | 0 => ∃ v, Yields P o st.ev st.hp v ∧ K (st.put o.dst v)
    | 2 => ∃ Q, CallAt P o st.ev st.hp Q ∧ ∀ r hp', Q r hp' → Hs hp' ∧ K ((st.after hp' none).put o.dst r)
    | _ => ∃ k : AV → List Blk → Option Nat → Prop, opA P n0 o.op st.ev st.hp k ∧ ∀ v hp' kb, k v hp' kb → K ((st.after hp' kb).put o.dst v)
def anyH (P : Program) (n0 : Nat) (ops : List Oper) (ms : List Nat) (Hs : List Blk → Prop) (K : St → Prop) : Nat → Array Bool → St → Prop
  | 0, listed, st => Region.ready .any ops.toArray listed = [] ∧ K st
  | fuel + 1, listed, st =>
    (Region.ready .any ops.toArray listed = [] → K st) ∧ ∀ i ∈ Region.ready .any ops.toArray listed, stepH P n0 ops ms Hs i (anyH P n0 ops ms Hs K fuel (listed.setIfInBounds i true)) st

theorem opA_callAt {n0 : Nat} {o : Oper} {f : Operand → AV} {hp : List Blk} {Q : AV → List Blk → Prop} (h : CallAt P o f hp Q) : opA P n0 o.op f hp (fun v hp' kb => Q v hp' ∧ kb = none) := by
  rcases h with ⟨c, gf, fid, caps, h1, h2, h3, h4⟩ | ⟨t, len, parts, h1, h2⟩
  · obtain ⟨callee, args, ts⟩ := c
    simp only at h2
    subst h2
    rw [h1]
    simp only [opA, h3]
    exact h4.mono fun r hp' hq => ⟨hq, trivial⟩
  · exact h2 n0
def boolMs (ms : List Nat) : List Bool := ms.map fun m => m != 0
theorem boolMs_get (ms : List Nat) (i : Nat) : (boolMs ms).getD i true = (ms.getD i 1 != 0) := by
  simp only [boolMs, List.getD_eq_getElem?_getD, List.getElem?_map]
  cases ms[i]? <;> rfl
theorem stepH_stepA {n0 : Nat} {ops : List Oper} {ms : List Nat} {Hs : List Blk → Prop} {i : Nat} {K K' : St → Prop} {st : St} (hK : ∀ st, K st → K' st) (h : stepH P n0 ops ms Hs i K st) : stepA P n0 ops (boolMs ms) i K' st := by
  unfold stepH at h
  unfold stepA
  cases ho : ops[i]? with
  | none => rw [ho] at h; exact hK _ h
  | some o =>
    rw [ho] at h
    obtain ⟨hg, h⟩ := h
    have hw : wantedA ops o st = some true := by simp [wantedA, hg]
    simp only [boolMs_get]
    split at h
    · rename_i h0
      rw [h0]
      obtain ⟨v, hy, hk⟩ := h
      simp only [bne_self_eq_false, Bool.false_eq_true, if_false]
      exact ⟨v, .inl ⟨hw, hy⟩, hK _ hk⟩
    · rename_i h0
      rw [h0]
      obtain ⟨Q, hc, hk⟩ := h
      simp only [show ((2 : Nat) != 0) = true from rfl, if_true]
      refine .inl ⟨hw, _, opA_callAt hc, ?_⟩
      rintro v hp' kb ⟨hq, rfl⟩
      exact hK _ (hk v hp' hq).2
    · rename_i h0 h2
      have : (ms.getD i 1 != 0) = true := bne_iff_ne.2 h0
      rw [this]
      obtain ⟨k, hop, hk⟩ := h
      simp only [if_true]
      exact .inl ⟨hw, k, hop, fun v hp' kb hv => hK _ (hk v hp' kb hv)⟩
theorem anyH_anyA {n0 : Nat} {ops : List Oper} {ms : List Nat} {Hs : List Blk → Prop} {K : St → Prop} : ∀ (fuel : Nat) (listed : Array Bool) (st : St), anyH P n0 ops ms Hs K fuel listed st → anyA P n0 ops (boolMs ms) K fuel listed st
  | 0, listed, st, h => h
  | fuel + 1, listed, st, h => ⟨h.1, fun i hi => stepH_stepA (fun st' h' => anyH_anyA fuel _ st' h') (h.2 i hi)⟩

def FreeH (ops : List Oper) (ms : List Nat) (listed : Array Bool) (i : Nat) (oi : Oper) : Prop :=
  ∃ D : List Nat, Waits ops listed i D ∧ ∀ j oj, ops[j]? = some oj → j ≠ i → listed.getD j true = false → j ∉ D → (∀ e ∈ oj.after, Region.binds .any e = true → e.on ≠ i) → oi.apart ops.toArray oj = true ∧ (ms.getD j 1 = 0 ∨ ms.getD j 1 = 2)

theorem St.ev_after (st : St) (hp : List Blk) (x : Operand) : (st.after hp none).ev x = st.ev x := by
  cases x <;> rfl
theorem put_after (st : St) (hp : List Blk) (d : Option Tmp) (v : AV) : (st.put d v).after hp none = (st.after hp none).put d v := by
  cases d <;> rfl
theorem put_hp (st : St) (d : Option Tmp) (v : AV) : (st.put d v).hp = st.hp := by cases d <;> rfl
theorem ev_apart {ops : List Oper} {o : Oper} {st : St} {d : Option Tmp} {v : AV} (h : ∀ t, d = some t → t ∉ o.looksAt ops.toArray) : ∀ x ∈ o.op.operands, (st.put d v).ev x = st.ev x := fun x hx => St.ev_put fun t ht e => h t ht (by
    subst e
    simp only [Oper.looksAt, List.mem_append, List.mem_filterMap]
    exact .inl ⟨.tmp t, by simpa using hx, rfl⟩)

theorem anyH_first {n0 : Nat} {ops : List Oper} {ms : List Nat} {Hs : List Blk → Prop} {K : St → Prop} {i : Nat} {oi : Oper} {v : AV} (hi : ops[i]? = some oi) (hm : ms.getD i 1 = 0) (hgi : oi.guard = none) :
    ∀ (fuel : Nat) (listed : Array Bool) (st : St), FreeH ops ms listed i oi → i ∈ Region.ready .any ops.toArray listed → (∀ hp, Hs hp → Yields P oi st.ev hp v) → Hs st.hp →
      anyH P n0 ops ms Hs K fuel (listed.setIfInBounds i true) (st.put oi.dst v) → anyH P n0 ops ms Hs K (fuel + 1) listed st := by
  have self : ∀ (fuel : Nat) (listed : Array Bool) (st : St), Yields P oi st.ev st.hp v → anyH P n0 ops ms Hs K fuel (listed.setIfInBounds i true) (st.put oi.dst v) → stepH P n0 ops ms Hs i (anyH P n0 ops ms Hs K fuel (listed.setIfInBounds i true)) st := by
    intro fuel listed st hy H
    unfold stepH
    simp only [hi, hm]
    exact ⟨hgi, v, hy, H⟩
  intro fuel
  induction fuel with
  | zero =>
    intro listed st _ hr hy hs H
    refine ⟨fun h => (by rw [h] at hr; cases hr), fun j hj => ?_⟩
    by_cases hji : j = i
    · subst hji; exact self 0 listed st (hy _ hs) H
    · have := ready_mono hj hji
      rw [H.1] at this
      cases this
  | succ fuel ih =>
    intro listed st hfree hr hy hs H
    refine ⟨fun h => (by rw [h] at hr; cases hr), fun j hj => ?_⟩
    by_cases hji : j = i
    · subst hji; exact self _ listed st (hy _ hs) H
    · have h1 := H.2 j (ready_mono hj hji)
      obtain ⟨hjun, oj, hoj, hall⟩ := mem_ready.1 hj
      have hoj' : ops[j]? = some oj := by simpa using hoj
      have hnot : ∀ e ∈ oj.after, Region.binds .any e = true → e.on ≠ i := fun e he hb heq => by
        have h1 := hall e he hb
        have h0 := (mem_ready.1 hr).1
        rw [heq] at h1
        rcases Nat.lt_or_ge i listed.size with h' | h'
        · simp [h'] at h0 h1; rw [h0] at h1; cases h1
        · simp [Array.getElem?_eq_none h'] at h1
      obtain ⟨D, hwait, hfree⟩ := hfree
      have hjD : j ∉ D := fun hD => by
        obtain ⟨_, oj', hoj'', e, he, hb, hc⟩ := hwait j hD
        have : oj' = oj := by rw [hoj'] at hoj''; cases hoj''; rfl
        subst this
        rcases hc with hc | hc
        · exact hnot e he hb hc
        · have h1 := hall e he hb
          have h0 := (hwait e.on hc).1
          rcases Nat.lt_or_ge e.on listed.size with h' | h'
          · simp [h'] at h0 h1; rw [h0] at h1; cases h1
          · simp [Array.getElem?_eq_none h'] at h1
      obtain ⟨hap, hmj⟩ := hfree j oj hoj' hji hjun hjD hnot
      obtain ⟨a1, a2, a3⟩ := Oper.apart_spec hap
      have hfree' : FreeH ops ms (listed.setIfInBounds j true) i oi := ⟨D, fun d hd => by
        have hne : j ≠ d := fun h => hjD (h ▸ hd)
        obtain ⟨w1, w2⟩ := hwait d hd
        exact ⟨by rw [getD_set_ne true hne]; exact w1, w2⟩, fun k ok hk hki hun hkD hno => by
        refine hfree k ok hk hki ?_ hkD hno
        by_cases hjk : j = k
        · subst hjk; exact hjun
        · rw [getD_set_ne true hjk] at hun; exact hun⟩
      unfold stepH at h1 ⊢
      simp only [hoj'] at h1 ⊢
      obtain ⟨hgj, h1⟩ := h1
      refine ⟨hgj, ?_⟩
      have evj : ∀ x ∈ oj.op.operands, (st.put oi.dst v).ev x = st.ev x := ev_apart (ops := ops) a1
      rcases hmj with hmj | hmj
      · simp only [hmj] at h1 ⊢
        obtain ⟨u, hu, hK⟩ := h1
        rw [put_hp] at hu
        refine ⟨u, hu.congr evj, ?_⟩
        refine ih (listed.setIfInBounds j true) (st.put oj.dst u) hfree' (ready_mono hr (Ne.symm hji)) (fun hp hh => (hy hp hh).congr fun x hx => (ev_apart (ops := ops) a3 x hx).symm) (by rw [put_hp]; exact hs) ?_
        rw [Array.setIfInBounds_comm _ _ hji, St.put_comm st u v (fun d hd he => a2 d he hd)]
        exact hK
      · simp only [hmj] at h1 ⊢
        obtain ⟨Q, hc, hK⟩ := h1
        rw [put_hp] at hc
        refine ⟨Q, hc.congr evj, fun r hp' hq => ?_⟩
        obtain ⟨hh, hK⟩ := hK r hp' hq
        refine ⟨hh, ?_⟩
        refine ih (listed.setIfInBounds j true) ((st.after hp' none).put oj.dst r) hfree' (ready_mono hr (Ne.symm hji)) (fun hp hh' => (hy hp hh').congr fun x hx => ?_) (by rw [put_hp]; exact hh) ?_
        · rw [ev_apart (ops := ops) a3 x hx, St.ev_after]
        · rw [Array.setIfInBounds_comm _ _ hji, St.put_comm _ r v (fun d hd he => a2 d he hd), ← put_after]
          exact hK

def freeHB (ops : Array Oper) (ms : List Nat) (listed : Array Bool) (k : Nat) : Bool :=
  match ops[k]? with
  | none => false
  | some o => lateOk ops listed k (lateOf ops listed k) && (List.range ops.size).all fun j =>
    j == k || listed.getD j true || (lateOf ops listed k).contains j ||
    match ops[j]? with
    | none => true
    | some oj => (oj.after.any fun e => Region.binds .any e && e.on == k) || (o.apart ops oj && (ms.getD j 1 == 0 || ms.getD j 1 == 2))
theorem freeHB_spec {ops : List Oper} {ms : List Nat} {listed : Array Bool} {k : Nat} {o : Oper} (hk : ops[k]? = some o) (h : freeHB ops.toArray ms listed k = true) : FreeH ops ms listed k o := by
  unfold freeHB at h
  have hk' : ops.toArray[k]? = some o := by simpa using hk
  rw [hk'] at h
  simp only [Bool.and_eq_true] at h
  refine ⟨_, lateOk_spec h.1, ?_⟩
  have h := h.2
  intro j oj hoj hjk hun hD hno
  simp only [List.all_eq_true, List.mem_range] at h
  have hj : j < ops.toArray.size := by
    have := (List.getElem?_eq_some_iff.1 hoj).1
    simpa using this
  have h1 := h j hj
  have hoj' : ops.toArray[j]? = some oj := by simpa using hoj
  rw [hoj', hun] at h1
  have hjk' : (j == k) = false := by simpa using hjk
  have hD' : (lateOf ops.toArray listed k).contains j = false := by simpa using hD
  rw [hjk', hD'] at h1
  simp only [Bool.false_or, Bool.or_eq_true, Bool.and_eq_true, beq_iff_eq] at h1
  rcases h1 with h1 | ⟨h1, h2⟩
  · exfalso
    rw [Array.any_eq_true] at h1
    obtain ⟨m, hm, he⟩ := h1
    simp only [Bool.and_eq_true, beq_iff_eq] at he
    exact hno _ (Array.getElem_mem hm) he.1 he.2
  · exact ⟨h1, h2⟩

def ordOkH (ops : Array Oper) (ms : List Nat) : List Nat → Array Bool → Bool
  | [], listed => (Region.ready .any ops listed).isEmpty
  | k :: r, listed => (if ms.getD k 1 == 0 then (Region.ready .any ops listed).contains k && freeHB ops ms listed k else Region.ready .any ops listed == [k]) && ordOkH ops ms r (listed.setIfInBounds k true)
def ordH (P : Program) (n0 : Nat) (ops : List Oper) (ms : List Nat) (Hs : List Blk → Prop) (K : St → Prop) : List Nat → St → Prop
  | [], st => K st
  | k :: r, st => ∃ o, ops[k]? = some o ∧ o.guard = none ∧ match ms.getD k 1 with
    | 0 => ∃ v, Hs st.hp ∧ (∀ hp, Hs hp → Yields P o st.ev hp v) ∧ ordH P n0 ops ms Hs K r (st.put o.dst v)
    | 2 => ∃ Q, CallAt P o st.ev st.hp Q ∧ ∀ v hp', Q v hp' → Hs hp' ∧ ordH P n0 ops ms Hs K r ((st.after hp' none).put o.dst v)
    | _ => ∃ g : AV → List Blk → Option Nat → Prop, opA P n0 o.op st.ev st.hp g ∧ ∀ v hp' kb, g v hp' kb → ordH P n0 ops ms Hs K r ((st.after hp' kb).put o.dst v)
theorem anyH_ord {n0 : Nat} {ops : List Oper} {ms : List Nat} {Hs : List Blk → Prop} {K : St → Prop} : ∀ (ord : List Nat) (listed : Array Bool) (st : St), ordOkH ops.toArray ms ord listed = true → ordH P n0 ops ms Hs K ord st → anyH P n0 ops ms Hs K ord.length listed st
  | [], listed, st, hB, h => ⟨by simpa [ordOkH] using hB, h⟩
  | k :: r, listed, st, hB, h => by
    obtain ⟨o, ho, hg, h⟩ := h
    simp only [ordOkH, Bool.and_eq_true] at hB
    obtain ⟨hB1, hB2⟩ := hB
    split at h
    · rename_i hm
      obtain ⟨v, hh, hy, hK⟩ := h
      rw [hm] at hB1
      simp only [beq_self_eq_true, if_true, Bool.and_eq_true] at hB1
      exact anyH_first ho hm hg r.length listed st (freeHB_spec ho hB1.2) (by simpa using hB1.1) hy hh (anyH_ord r _ _ hB2 hK)
    · rename_i hm
      obtain ⟨Q, hc, hK⟩ := h
      rw [hm] at hB1
      simp only [show ((2 : Nat) == 0) = false from rfl, Bool.false_eq_true, if_false, beq_iff_eq] at hB1
      refine ⟨fun h => (by rw [hB1] at h; cases h), fun i hi => ?_⟩
      rw [hB1] at hi
      have : i = k := by simpa using hi
      subst this
      unfold stepH
      simp only [ho, hm]
      exact ⟨hg, Q, hc, fun v hp' hq => ⟨(hK v hp' hq).1, anyH_ord r _ _ hB2 (hK v hp' hq).2⟩⟩
    · rename_i hm hm2
      obtain ⟨g, hop, hK⟩ := h
      have hm' : (ms.getD k 1 == 0) = false := beq_false_of_ne hm
      rw [hm'] at hB1
      simp only [Bool.false_eq_true, if_false, beq_iff_eq] at hB1
      refine ⟨fun h => (by rw [hB1] at h; cases h), fun i hi => ?_⟩
      rw [hB1] at hi
      have : i = k := by simpa using hi
      subst this
      unfold stepH
      simp only [ho]
      refine ⟨hg, ?_⟩
      exact ⟨g, hop, fun v hp' kb hv => anyH_ord r _ _ hB2 (hK v hp' kb hv)⟩

def Oh (P : Program) (n0 : Nat) (ops : List Oper) (ms : List Nat) (Hs : List Blk → Prop) (K : St → Prop) (ord : List Nat) (_t : Tok (ops, ord, K)) (st : St) : Prop := ordH P n0 ops ms Hs K ord st
theorem go_calls (hm : P.follows .mixedOrders = true) {n0 : Nat} {id : Nat} {ops : Array Oper} {Q : Ex → St → Prop} {st : St} {t} (Hs : List Blk → Prop) (ord : List Nat) (ms : List Nat)
    (hok : (ord.length == ops.size && ordOkH ops ms ord (Array.replicate ops.size false)) = true) (h : Oh P n0 ops.toList ms Hs (Q .normal) ord .mk st) : Lp P n0 (.region id ops true) Q t st := by
  delta Lp
  simp only [Bool.and_eq_true, beq_iff_eq] at hok
  intro E0 hp0 E a hn hs
  subst hn
  have h1 := anyH_anyA _ _ _ (anyH_ord (P := P) (n0 := hp0.length) (ops := ops.toList) (ms := ms) (Hs := Hs) (K := Q .normal) ord (Array.replicate ops.size false) st (by simpa using hok.2) h)
  rw [hok.1] at h1
  refine wp_region_any hm ?_
  have hs' : SR E0 hp0 (E.with { E.w with drawn := E.w.drawn + 1 }) st a := ⟨hs.hr.with (Same.drew _ _), hs.fr.with (Same.drew _ _), hs.len, fun i v u a1 a2 => (hs.tm i v u a1 a2).mono (Env.le_with (Same.drew _ _)), hs.df⟩
  have h2 := anyA_sound (P := P) (Q := liftQ E0 hp0 Q) (fun E st a hs hk => ⟨.normal, st, E, rfl, rfl, hs, hk⟩) _ _ _ st a hs' h1
  rw [show ops.toList.toArray = ops from by simp] at h2
  exact h2

section
variable {n0 : Nat} {ops : List Oper} {ms : List Nat} {Hs : List Blk → Prop} {K : St → Prop} {k : Nat} {r : List Nat} {st : St} {t : Tok (ops, k :: r, K)} {o : Oper}
theorem oh_nil {t : Tok (ops, ([] : List Nat), K)} (h : K st) : Oh P n0 ops ms Hs K [] t st := h
theorem oh_quiet (ho : ops[k]? = some o) (hg : o.guard = none) (hm : ms.getD k 1 = 0) (hh : Hs st.hp) {v : AV} (hq : ∀ hp, Hs hp → quietA P o.op st.ev hp (fun v' => v' = v)) (h : Oh P n0 ops ms Hs K r .mk (st.put o.dst v)) : Oh P n0 ops ms Hs K (k :: r) t st :=
  ⟨o, ho, hg, by
    rw [hm]
    refine ⟨v, hh, fun hp hp' => ?_, h⟩
    obtain ⟨v', h1, h2⟩ := Yields.quiet (hq hp hp')
    subst h1
    exact h2⟩
theorem oh_call (ho : ops[k]? = some o) (hg : o.guard = none) (hm : ms.getD k 1 = 2) {gf : Operand} {args : Array Operand} {ts : Array TypeId} (hop : o.op = .call { callee := .value gf, args := args, argTypes := ts }) {fid : FuncId} {caps : List AV} (hfn : st.ev gf = .fn fid caps) 
    (hc : CallP P fid (args.toList.map st.ev ++ caps) st.hp (fun v hp' => Hs hp' ∧ Oh P n0 ops ms Hs K r .mk ((st.after hp' none).put o.dst v)) .mk) : Oh P n0 ops ms Hs K (k :: r) t st :=
  ⟨o, ho, hg, by
    rw [hm]
    delta CallP at hc
    exact ⟨_, .inl ⟨_, gf, fid, caps, hop, rfl, hfn, hc⟩, fun v hp' hq => hq⟩⟩
theorem oh_one (ho : ops[k]? = some o) (hg : o.guard = none) (hm : ms.getD k 1 = 1) (h : opA P n0 o.op st.ev st.hp (Cn (fun v hp' kb => Oh P n0 ops ms Hs K r .mk ((st.after hp' kb).put o.dst v)) .mk)) : Oh P n0 ops ms Hs K (k :: r) t st :=
  ⟨o, ho, hg, by rw [hm]; exact ⟨_, h, fun v hp' kb hv => by rw [Cn_go] at hv; exact hv⟩⟩
end
end
attribute [irreducible] Oh
theorem CallA.freezeQ {P : Program} (d : Nat) {f : FuncId} {args : List AV} {Q0 : AV → List Blk → Prop} (h : CallA P f args [] Q0) : CallA P f args [] (fun r hp => ∃ r0 new, Q0 r0 new ∧ r = view d new r0 ∧ hp = []) := by
  intro E vs H hl hrv
  refine (h E vs H hl hrv).mono ?_
  rintro v w' ⟨r', hp', E', hw, hq, hv, H', F'⟩
  refine ⟨_, [], E'.lent hp', hw, ⟨r', hp', hq, rfl, rfl⟩, (view_sound H' d r').1 v hv, ?_, ?_⟩
  · exact ⟨rfl, by simp, by simp, by simp, by simp, fun c hc => by
      rcases hc with h1 | ⟨b, ⟨q, hq, hlv⟩, rfl⟩
      · exact H'.old c h1
      · exact (H'.holds b q hq hlv).lt, H'.laid.keep (fun c h => .inl h) (fun _ _ => rfl)⟩
  · exact { size := F'.size, os := F'.os, tape := F'.tape, output := F'.output, block := F'.block, len := Nat.le_refl _, ρ := fun b hb => absurd hb (Nat.not_lt_zero _), wd := fun b hb => absurd hb (Nat.not_lt_zero _),
            F := fun c hc => .inl (F'.F c hc)
            F' := fun c hc => by
              rcases hc with h1 | ⟨b, hb, rfl⟩
              · exact F'.F' c h1
              · rcases F'.live b hb with ⟨h2, _⟩ | ⟨_, h3⟩
                · exact absurd h2 (Nat.not_lt_zero _)
                · exact .inr h3
            live := fun b ⟨q, hq, _⟩ => by simp at hq
            csz := F'.csz }
end Go.Abs
/- The greatest of a number, another and that one turned about. -/
set_option linter.unusedVariables false
namespace Go.Abs
open Go
variable {P : Program}

end Go.Abs
/- The abstract layer, part Z9: places of bytes in strings, answered in place. -/
set_option linter.unusedSimpArgs false
set_option linter.unusedVariables false
namespace Go.Abs
open Go
variable {P : Program}

section
variable {P : Program}
theorem RV.two {E : Env P} {a b : AV} {vs : List Value} (hl : vs.length = 2) (hv : ∀ (i : Nat) x v, [a, b][i]? = some x → vs[i]? = some v → RV E x v) : ∃ v u, vs = [v, u] ∧ RV E a v ∧ RV E b u := by
  match vs, hl with
  | [v, u], _ => exact ⟨v, u, rfl, hv 0 a v rfl rfl, hv 1 b u rfl rfl⟩
end

end Go.Abs
/- The abstract layer, part ZA: a drawn region whose operations make blocks of their own, told by a plan: what each operation yields; its end told by names of one's choice, ahead of the last operation. -/
set_option linter.unusedSimpArgs false
set_option linter.unusedVariables false
namespace Go.Abs
open Go
variable {P : Program}

def namesL : AV → List Nat
  | .sl b _ _ | .ptr b _ _ | .mp b => [b]
  | _ => []
def namesM : AV → List Nat
  | .agg l | .fn _ l | .mv _ l => l.flatMap namesL
  | v => namesL v
def names : AV → List Nat
  | .tup l => l.flatMap namesM
  | v => namesM v
section
variable {P : Program} {n0 : Nat}
theorem quietA_congr {op : Op} {f f' : Operand → AV} {hp : List Blk} {k : AV → Prop} (he : ∀ x ∈ op.operands, f x = f' x) (h : quietA P op f hp k) : quietA P op f' hp k := by
  cases op with
  | move x => simp only [quietA] at h ⊢; rw [← he x (by simp [Op.operands])]; exact h
  | assign x => simp only [quietA] at h ⊢; rw [← he x (by simp [Op.operands])]; exact h
  | pick c a b => simp only [quietA] at h ⊢; rw [← he c (by simp [Op.operands]), ← he a (by simp [Op.operands]), ← he b (by simp [Op.operands])]; exact h
  | build t parts =>
    simp only [quietA] at h ⊢
    have e : (parts.toList.map fun p => (p.1, f' p.2)) = parts.toList.map fun p => (p.1, f p.2) := List.map_congr_left fun p hp => by rw [he p.2 (by simp only [Op.operands]; simpa using ⟨p.1, by simpa using hp⟩)]
    rw [e]
    exact h
  | load t a => simp only [quietA] at h ⊢; rw [← he a (by simp [Op.operands])]; exact h
  | nilCheck x => simp only [quietA] at h ⊢; rw [← he x (by simp [Op.operands])]; exact h
  | binOp o t x y t' => simp only [quietA] at h ⊢; rw [← he x (by simp [Op.operands]), ← he y (by simp [Op.operands])]; exact h
  | unOp o t x => simp only [quietA] at h ⊢; rw [← he x (by simp [Op.operands])]; exact h
  | convert s d x => simp only [quietA] at h ⊢; rw [← he x (by simp [Op.operands])]; exact h
  | makeFunc c first cap =>
    cases c with
    | func g =>
      simp only [quietA] at h ⊢
      have e : cap.toList.map f' = cap.toList.map f := List.map_congr_left fun x hx => (he x (by simp [Op.operands]; simp at hx; simp [hx])).symm
      have e2 : first.toList.map f' = first.toList.map f := List.map_congr_left fun x hx => (he x (by simp [Op.operands]; simp at hx; simp [hx])).symm
      rw [e]
      cases hq : first.toList with
      | nil => rw [hq] at h; exact h
      | cons y l => rw [hq] at h e2; simp only [] at h ⊢; rw [e2]; exact h
    | _ => exact h.elim
  | slice t x lo hi mx =>
    cases mx with
    | some m => exact h.elim
    | none =>
      simp only [quietA] at h ⊢
      have e1 : lo.map f' = lo.map f := by
        cases lo with
        | none => rfl
        | some a => simp [he a (by simp [Op.operands])]
      have e2 : hi.map f' = hi.map f := by
        cases hi with
        | none => rfl
        | some a => simp [he a (by simp [Op.operands])]
      rw [← he x (by simp [Op.operands]), e1, e2]
      exact h
  | fieldAddr s x i => simp only [quietA] at h ⊢; rw [← he x (by simp [Op.operands])]; exact h
  | field t x i => simp only [quietA] at h ⊢; rw [← he x (by simp [Op.operands])]; exact h
  | indexAddr t x ix => simp only [quietA] at h ⊢; rw [← he x (by simp [Op.operands]), ← he ix (by simp [Op.operands])]; exact h
  | index t x ix => simp only [quietA] at h ⊢; rw [← he x (by simp [Op.operands]), ← he ix (by simp [Op.operands])]; exact h
  | lookup t x ix ok =>
    cases ok with
    | true => exact h.elim
    | false => simp only [quietA] at h ⊢; rw [← he x (by simp [Op.operands]), ← he ix (by simp [Op.operands])]; exact h
  | extract x i => simp only [quietA] at h ⊢; rw [← he x (by simp [Op.operands])]; exact h
  | call c =>
    obtain ⟨callee, args, ts⟩ := c
    cases callee with
    | builtin b =>
      simp only [quietA] at h ⊢
      have e : args.toList.map f' = args.toList.map f := List.map_congr_left fun x hx => (he x (by simp [Op.operands, Call.operands]; simpa using hx)).symm
      rw [e]
      exact h
    | _ => exact h.elim
  | _ => exact h.elim
theorem opA_congr {op : Op} {f f' : Operand → AV} {hp : List Blk} {k : AV → List Blk → Option Nat → Prop} (he : ∀ x ∈ op.operands, f x = f' x) (h : opA P n0 op f hp k) : opA P n0 op f' hp k := by
  cases op with
  | alloc t => exact h
  | box t x => simp only [opA] at h ⊢; rw [← he x (by simp [Op.operands])]; exact h
  | buildSlice t len parts =>
    simp only [opA] at h ⊢
    have e : (parts.toList.map fun p => (p.1, f' p.2)) = parts.toList.map fun p => (p.1, f p.2) := List.map_congr_left fun p hp => by rw [he p.2 (by simp only [Op.operands]; simpa using ⟨p.1, by simpa using hp⟩)]
    rw [e]
    exact h
  | store t a x => simp only [opA] at h ⊢; rw [← he a (by simp [Op.operands]), ← he x (by simp [Op.operands])]; exact h
  | makeMap t r =>
    cases r with
    | none => exact h
    | some r => exact h.elim
  | mapUpdate t m n x => simp only [opA] at h ⊢; rw [← he m (by simp [Op.operands]), ← he n (by simp [Op.operands]), ← he x (by simp [Op.operands])]; exact h
  | mapEntry t m n => simp only [opA] at h ⊢; rw [← he m (by simp [Op.operands]), ← he n (by simp [Op.operands])]; exact h
  | entryStore t m n x => simp only [opA] at h ⊢; rw [← he m (by simp [Op.operands]), ← he n (by simp [Op.operands]), ← he x (by simp [Op.operands])]; exact h
  | makeSlice t l c => simp only [opA] at h ⊢; rw [← he l (by simp [Op.operands]), ← he c (by simp [Op.operands])]; exact h
  | call c =>
    obtain ⟨callee, args, ts⟩ := c
    cases callee with
    | value g =>
      simp only [opA] at h ⊢
      have e : args.toList.map f' = args.toList.map f := List.map_congr_left fun x hx => (he x (by simp [Op.operands, Call.operands]; simp at hx; simp [hx])).symm
      rw [← he g (by simp [Op.operands, Call.operands]), e]
      exact h
    | builtin b =>
      have e : args.toList.map f' = args.toList.map f := List.map_congr_left fun x hx => (he x (by simp [Op.operands, Call.operands]; simpa using hx)).symm
      by_cases hb : b = .append
      · subst hb
        obtain ⟨l⟩ := args
        simp only [opA] at h ⊢
        match l, he, h with
        | [s, x], he, h => simp only [] at h ⊢; rw [← he s (by simp [Op.operands, Call.operands]), ← he x (by simp [Op.operands, Call.operands])]; exact h
        | [], _, h => exact h.elim
        | [_], _, h => exact h.elim
        | _ :: _ :: _ :: _, _, h => exact h.elim
      · by_cases hb2 : b = .clear
        · subst hb2
          obtain ⟨l⟩ := args
          simp only [opA] at h ⊢
          match l, he, h with
          | [x], he, h => simp only [] at h ⊢; rw [← he x (by simp [Op.operands, Call.operands])]; exact h
          | [], _, h => exact h.elim
          | _ :: _ :: _, _, h => exact h.elim
        · cases b <;> first | exact absurd rfl hb | exact absurd rfl hb2 | (simp only [opA] at h ⊢; rw [e]; exact h)
    | _ => exact h.elim
  | move x => exact quietA_congr (P := P) (hp := hp) (k := fun v => k v hp none) he h
  | assign x => exact quietA_congr (P := P) (hp := hp) (k := fun v => k v hp none) he h
  | pick c a b => exact quietA_congr (P := P) (hp := hp) (k := fun v => k v hp none) he h
  | build t parts => exact quietA_congr (P := P) (hp := hp) (k := fun v => k v hp none) he h
  | load t a => exact quietA_congr (P := P) (hp := hp) (k := fun v => k v hp none) he h
  | nilCheck x => exact quietA_congr (P := P) (hp := hp) (k := fun v => k v hp none) he h
  | binOp o t x y t' => exact quietA_congr (P := P) (hp := hp) (k := fun v => k v hp none) he h
  | unOp o t x => exact quietA_congr (P := P) (hp := hp) (k := fun v => k v hp none) he h
  | convert s d x => simp only [opA] at h ⊢; rw [← he x (by simp [Op.operands])]; exact h
  | makeFunc c first cap => exact quietA_congr (P := P) (hp := hp) (k := fun v => k v hp none) he h
  | slice t x lo hi mx => exact quietA_congr (P := P) (hp := hp) (k := fun v => k v hp none) he h
  | fieldAddr s x i => exact quietA_congr (P := P) (hp := hp) (k := fun v => k v hp none) he h
  | field t x i => exact quietA_congr (P := P) (hp := hp) (k := fun v => k v hp none) he h
  | indexAddr t x ix => exact quietA_congr (P := P) (hp := hp) (k := fun v => k v hp none) he h
  | index t x ix => exact quietA_congr (P := P) (hp := hp) (k := fun v => k v hp none) he h
  | lookup t x ix ok => exact quietA_congr (P := P) (hp := hp) (k := fun v => k v hp none) he h
  | extract x i => exact quietA_congr (P := P) (hp := hp) (k := fun v => k v hp none) he h
  | _ => exact h.elim
end

section
variable {P : Program} {n0 : Nat}
theorem Weak.refl {st : St} : Weak n0 st st := fun _ _ _ E _ _ hs => ⟨E, rfl, hs⟩
end

def plName (N0 : Nat) (nm : Nat → Nat) (b : Nat) : Nat := if b < N0 then b else nm (b - N0)
abbrev PEs := List (Nat × AV × Option Blk)
def PEs.v (pv : PEs) (i : Nat) : AV := (pv.getD i (0, .any, none)).2.1
def PEs.b (pv : PEs) (i : Nat) : Option Blk := (pv.getD i (0, .any, none)).2.2
def PEs.uses (N0 : Nat) (pv : PEs) (i : Nat) : List Nat := (names (pv.v i)).filterMap fun b => if N0 ≤ b ∧ b ≠ N0 + i then some (b - N0) else none
def edgeOn (o : Oper) (i : Nat) : Bool := o.after.any fun e => Region.binds .any e && e.on == i
def slotP (π : Nat → Nat) (tm : List AV) : PEs → Nat → AV
  | [], t => tm.getD t .any
  | (d, v, _) :: r, t => if d = t then ren π v else slotP π tm r t
def evP (π : Nat → Nat) (tm : List AV) (pv : PEs) : Operand → AV
  | .tmp t => slotP π tm pv t
  | .const v => ofV v
  | .func f => .fn f []
  | .global _ => .any
def oldOk (hp : List Blk) : Nat → List Blk → Prop
  | _, [] => True
  | k, b :: r => hp[k]? = some b ∧ oldOk hp (k + 1) r
def newOk (hp : List Blk) (nm : Nat → Nat) (o : Oper) : Nat → PEs → Prop
  | _, [] => True
  | k, (_, _, some b) :: r => (edgeOn o k = true → hp[nm k]? = some b) ∧ newOk hp nm o (k + 1) r
  | k, (_, _, none) :: r => newOk hp nm o (k + 1) r
theorem below_le {N M : Nat} (hle : N ≤ M) (a : AV) (h : below N a = true) : below M a = true := by
  have hL : ∀ a, belowL N a = true → belowL M a = true := fun a h => by
    cases a <;> first | exact h | (simp only [belowL, decide_eq_true_eq] at h ⊢; omega)
  have hM : ∀ a, belowM N a = true → belowM M a = true := fun a h => by
    cases a with
    | agg l => simp only [belowM, List.all_eq_true] at h ⊢; exact fun x hx => hL x (h x hx)
    | fn f l => simp only [belowM, List.all_eq_true] at h ⊢; exact fun x hx => hL x (h x hx)
    | mv f l => simp only [belowM, List.all_eq_true] at h ⊢; exact fun x hx => hL x (h x hx)
    | _ => first | exact h | (simp only [belowM, belowL, decide_eq_true_eq] at h ⊢; omega)
  cases a with
  | tup l => simp only [below, List.all_eq_true] at h ⊢; exact fun x hx => hM x (h x hx)
  | agg l => exact hM (.agg l) h
  | fn f l => exact hM (.fn f l) h
  | mv f l => exact hM (.mv f l) h
  | _ => first | exact h | (simp only [below, belowM, belowL, decide_eq_true_eq] at h ⊢; omega)
section
variable {P : Program} {n0 : Nat}
def HopAt (P : Program) (n0 : Nat) (ops : List Oper) (ms : List Bool) (st0 : St) (pv : PEs) (i : Nat) : Prop :=
  ∀ o, ops[i]? = some o → ∀ (nm : Nat → Nat) (hp : List Blk), oldOk hp 0 st0.hp → newOk hp nm o 0 pv → st0.hp.length ≤ hp.length →
    (ms.getD i true = true ∧ opA P n0 o.op (evP (plName st0.hp.length nm) st0.tm pv) hp (Cn (fun v hp' kb => kb = none ∧ match pv.b i with
      | none => v = ren (plName st0.hp.length nm) (pv.v i) ∧ hp' = hp
      | some b => v = ren (plName st0.hp.length (upd nm i hp.length)) (pv.v i) ∧ hp' = hp ++ [b]) .mk)) ∨
    (ms.getD i true = false ∧ pv.b i = none ∧ Yields P o (evP (plName st0.hp.length nm) st0.tm pv) hp (ren (plName st0.hp.length nm) (pv.v i)))
def HopsFrom (P : Program) (n0 : Nat) (ops : List Oper) (ms : List Bool) (st0 : St) (pv : PEs) : Nat → Nat → Prop
  | _, 0 => True
  | k, n + 1 => HopAt P n0 ops ms st0 pv k ∧ HopsFrom P n0 ops ms st0 pv (k + 1) n
theorem HopsFrom.get {ops : List Oper} {ms : List Bool} {st0 : St} {pv : PEs} : ∀ {n k : Nat}, HopsFrom P n0 ops ms st0 pv k n → ∀ i, k ≤ i → i < k + n → HopAt P n0 ops ms st0 pv i
  | 0, k, _, i, h1, h2 => by omega
  | n + 1, k, h, i, h1, h2 => by
    by_cases he : i = k
    · subst he; exact h.1
    · exact h.2.get i (by omega) (by omega)

section
variable {ops : List Oper} {ms : List Bool} {st0 : St} {pv : PEs} {k n : Nat}
end
end
end Go.Abs
/- The abstract layer, part ZB: a call that reads known blocks; what it makes is told as lists that nobody writes any more. -/
set_option linter.unusedSimpArgs false
set_option linter.unusedVariables false
namespace Go.Abs
open Go
variable {P : Program}
theorem view_ptr (d : Nat) (hp : List Blk) (b i j : Nat) : view (d + 1) hp (.ptr b i j) = match hp[b]? with
  | some blk => if blk.live then (match blk.els[i]? with
    | some e => .rop ((e.cells.drop j).map (view d hp))
    | none => .any) else .any
  | none => .any := rfl
section
variable {P : Program}
end
end Go.Abs
/- The abstract layer, part ZC: numbers that are not negative: sums, products and quotients keep it. Of no program. -/
set_option linter.unusedSimpArgs false
set_option linter.unusedVariables false
namespace Go.Abs
open Go
variable {P : Program}

end Go.Abs
/- The abstract layer, part ZD: the library's sort, by the kit's contract. -/
set_option linter.unusedSimpArgs false
set_option linter.unusedVariables false
namespace Go.Abs
open Go
variable {P : Program}

theorem HRel.extend {E : Env P} {hp : List Blk} (H : HRel E hp) {w' : World} (hs : E.w.heap.size ≤ w'.heap.size) (hh : ∀ c, c < E.w.heap.size → w'.heap[c]? = E.w.heap[c]?) (h1 : w'.os = E.w.os) (h2 : w'.tape = E.w.tape) (h3 : w'.output = E.w.output) :
    HRel (E.with w') hp ∧ (∀ {E0 : Env P} {hp0 : List Blk}, Fr E0 hp0 E hp → Fr E0 hp0 (E.with w') hp) ∧ E.le (E.with w') := by
  have hcsz : ∀ c, csz E.w c ≤ csz w' c := fun c => by
    by_cases hc : c < E.w.heap.size
    · unfold csz; rw [hh c hc]; exact Nat.le_refl _
    · unfold csz
      rw [Array.getElem?_eq_none (by omega)]
      exact Nat.zero_le _
  have le : E.le (E.with w') := ⟨fun _ h => h, fun c hc => hh c (H.old c hc), Nat.le_refl _, fun _ _ => rfl, fun _ _ => rfl, hcsz⟩
  refine ⟨⟨H.N, H.wd, fun b blk hb hl => ?_, H.inj, H.apart, fun c hc => Nat.lt_of_lt_of_le (H.old c hc) hs, H.laidLe le⟩, ?_, le⟩
  · exact (H.holds b blk hb hl).keep (hh _ (H.holds b blk hb hl).lt) fun x u hu => hu.mono le
  · intro E0 hp0 F
    exact { size := Nat.le_trans F.size hs, os := h1.trans F.os, tape := h2.trans F.tape, output := h3.trans F.output
            block := fun c hc hn => by
              show w'.heap[c]? = _
              rw [hh c (Nat.lt_of_lt_of_le hc F.size)]
              exact F.block c hc hn
            len := F.len, ρ := F.ρ, wd := F.wd, F := F.F, F' := F.F', live := F.live, csz := fun c => Nat.le_trans (F.csz c) (hcsz c) }

def sortI (zs : List Int) : List Int := zs.mergeSort fun x y => decide (x ≤ y)
theorem sortI_len (zs : List Int) : (sortI zs).length = zs.length := by simp [sortI]

theorem sort_call {P : Program} {f : FuncId} {e : TypeId} {zs : List Int} (hgo : isGo P f)
    (h : ∀ (blk off cap : Nat) (w : World), Sort.Holds (Value.int .i64) w blk off zs.toArray → blk < w.heap.size → Calls P f #[.slice (some ⟨blk, off, none⟩) zs.length cap] w fun ex w' =>
      ex = .returned (.tuple #[]) ∧ ∃ n os, w' = Sort.grow (Sort.putRow (Value.int .i64) (Sort.ahead w n) blk off (zs.mergeSort fun x y => decide (x ≤ y)).toArray) os) :
    CallA P f [.sl 0 0 zs.length] [{ ty := e, w := 1, els := ints zs }] (Ret (.tup []) [{ ty := e, w := 1, els := ints (sortI zs) }]) := by
  intro E vs H hl hrv
  obtain ⟨v, rfl, hv⟩ := RV.one hl hrv
  have hv := hv
  cases hv with
  | sl _ _ _ off cap hb ho hcap hmax hroom hwE =>
    obtain ⟨cs, hc1, hc2⟩ := (H.holds 0 _ rfl rfl).cells Nat.one_pos
    have hwd : E.wd 0 = 1 := H.wd 0 _ rfl
    have hoff : 0 < zs.length → off = 0 := fun hp => by have := ho (by omega); omega
    have hget : ∀ (i : Nat) (hi : i < zs.length), cs[i]? = some (.int .i64 zs[i]) := by
      intro i hi
      have he : (ints zs)[i]? = some (.int .i64 zs[i]) := by simp [ints, hi]
      obtain ⟨u, h3, h4⟩ := (hc2 i _ he).2 0 _ rfl
      cases h4
      simpa using h3
    have hlen : zs.length ≤ cs.size := by
      by_cases hz : zs.length = 0
      · omega
      · have := hget (zs.length - 1) (by omega)
        have := (Array.getElem?_eq_some_iff.1 this).1
        omega
    have hblk : E.ρ 0 < E.w.heap.size := Row.lt hc1
    have hH : Sort.Holds (Value.int .i64) E.w (E.ρ 0) off zs.toArray := by
      by_cases hz : zs.length = 0
      · intro j hj
        simp [hz] at hj
      · intro j hj
        have hj' : j < zs.length := by simpa using hj
        rw [hoff (by omega), Nat.zero_add, hc1.cell, hc1.frozen j (by omega), hget j hj']
        simp [hj']
    refine .inl ⟨hgo, (h (E.ρ 0) off cap E.w hH hblk).mono ?_⟩
    rintro ex w' ⟨rfl, n, os, rfl⟩
    refine ⟨_, rfl, .tup [], [{ ty := e, w := 1, els := ints (sortI zs) }], E.with _, rfl, ⟨rfl, rfl⟩, .tup [] #[] rfl (fun i a v h => by simp at h), ?_⟩
    let new := Sort.putCells (Value.int .i64) off (sortI zs).toArray cs
    have hnew : new.size = cs.size := by simp [new, Sort.putCells]
    have hel : EA E 1 (ints (sortI zs)) new := by
      intro i a ha
      have hi : i < zs.length := by
        have := (List.getElem?_eq_some_iff.1 ha).1
        simpa [ints, sortI_len] using this
      have ea : a = .int .i64 ((sortI zs)[i]'(by rw [sortI_len]; exact hi)) := by
        have : (ints (sortI zs))[i]? = some (.int .i64 ((sortI zs)[i]'(by rw [sortI_len]; exact hi))) := by simp [ints, sortI_len, hi]
        rw [this] at ha
        exact (Option.some.inj ha).symm
      subst ea
      refine ⟨rfl, fun j x hx => ?_⟩
      have hj : j = 0 := by
        have := (List.getElem?_eq_some_iff.1 hx).1
        simp [AV.cells] at this
        exact this
      subst hj
      have hx' : x = .int .i64 ((sortI zs)[i]'(by rw [sortI_len]; exact hi)) := by simpa [AV.cells] using hx.symm
      subst hx'
      refine ⟨_, ?_, .int .i64 _⟩
      have h0 : off = 0 := hoff (by omega)
      simp only [new, Sort.putCells, Array.getElem?_mapIdx, Nat.mul_one, Nat.add_zero]
      rw [Array.getElem?_eq_getElem (show i < cs.size from by omega), Option.map_some, if_pos (by simp [h0, sortI_len]; omega)]
      simp [h0, sortI_len, hi]
    obtain ⟨H1, F1, le1⟩ := write_block (b := 0) H (Fr.refl E _) rfl rfl (ints (sortI zs)) cs new hc1 hnew Nat.one_pos hel
    obtain ⟨fr, hc1, _⟩ := hc1
    have hw : ∀ c, c < E.w.heap.size → (Sort.grow (Sort.putRow (Value.int .i64) (Sort.ahead E.w n) (E.ρ 0) off (sortI zs).toArray) os).heap[c]? = (E.w.setRow (E.ρ 0) new).heap[c]? := by
      intro c hc
      rw [Sort.heap_grow_old _ _ (by simpa using hc), setRow_get _ _ _ _ _ _ _ hc1]
      by_cases hcc : c = E.ρ 0
      · subst hcc
        rw [if_pos rfl]
        simp [Sort.putRow, Sort.mapBlock, Sort.ahead, Array.getElem?_modify, hc1, Sort.onCells, new]
      · rw [if_neg hcc]
        have : E.ρ 0 ≠ c := fun e => hcc e.symm
        simp [Sort.putRow, Sort.mapBlock, Sort.ahead, Array.getElem?_modify, this]
    have hsz1 : (E.w.setRow (E.ρ 0) new).heap.size = E.w.heap.size := by simp [World.setRow]
    obtain ⟨H2, F2, _⟩ := H1.extend (w' := Sort.grow (Sort.putRow (Value.int .i64) (Sort.ahead E.w n) (E.ρ 0) off (sortI zs).toArray) os) (by
      show (E.w.setRow (E.ρ 0) new).heap.size ≤ _
      rw [hsz1]; simp [Sort.putRow, Sort.mapBlock, Sort.ahead]) (fun c hc => hw c (by rw [← hsz1]; exact hc)) rfl rfl rfl
    exact ⟨H2, F2 F1⟩
end Go.Abs
/- The abstract layer, part ZE: numerals by the kit's contract; bytes; places in strings. -/
set_option linter.unusedSimpArgs false
set_option linter.unusedVariables false
namespace Go.Abs
open Go Go.RowKit
variable {P : Program}

theorem HRel.table {E : Env P} {hp : List Blk} (H : HRel E hp) {n : String} {k : IntKind} {zs : List Int} (ht : (n, k, zs) ∈ tables) {g : Nat} (hg : P.globalNamed n = some g) : Lib.TabIs P E.w n k zs := by
  obtain ⟨_, ty, fr, h⟩ := H.laid.1 _ ht g hg
  simp only [Lib.TabIs, World.var?, hg, Option.bind_some, h]

end Go.Abs
/- The abstract layer, part ZF: a block of the caller's is taken over: it is dead, and a new one lies in its place. -/
set_option linter.unusedSimpArgs false
set_option linter.unusedVariables false
namespace Go.Abs
open Go
variable {P : Program}

structure LeHpW (N : Nat) (π : Nat → Nat) (n0 : Nat) (hp hp2 : List Blk) : Prop where
  len : hp2.length = N
  hn0 : n0 ≤ N
  low : ∀ b, b < n0 → π b = b
  inj : ∀ (b b' : Nat) r r', hp2[b]? = some r → r.live = true → hp2[b']? = some r' → r'.live = true → π b = π b' → b = b'
  blk : ∀ (b : Nat) r, hp2[b]? = some r → ∃ q, hp[π b]? = some q ∧ q.w = r.w ∧ (r.live = true → q.live = true ∧ q.ty = r.ty ∧ q.els = r.els.map (ren π) ∧ ∀ e ∈ r.els, below N e = true)
theorem LeHpW.sound {N : Nat} {π : Nat → Nat} {n0 : Nat} {hp hp2 : List Blk} (h : LeHpW N π n0 hp hp2) {E0 : Env P} {hp0 : List Blk} {E : Env P} (hn : hp0.length = n0) (H : HRel E hp) (F : Fr E0 hp0 E hp) : HRel (E.ren N π) hp2 ∧ Fr E0 hp0 (E.ren N π) hp2 := by
  have lt : ∀ (b : Nat) r, hp2[b]? = some r → b < N := fun b r hb => by rw [← h.len]; exact (List.getElem?_eq_some_iff.1 hb).1
  refine ⟨⟨h.len.symm, ?_, ?_, ?_, ?_, H.old, H.laid⟩, ?_⟩
  · intro b r hb
    obtain ⟨q, hq, hw, _⟩ := h.blk b r hb
    show E.wd (π b) = r.w
    rw [H.wd (π b) q hq, hw]
  · intro b r hb hl
    obtain ⟨q, hq, hw, hx⟩ := h.blk b r hb
    obtain ⟨hql, hty, hels, hbel⟩ := hx hl
    refine ⟨fun hw0 => ?_, fun hw0 => ?_⟩
    rotate_left
    · have := (H.holds (π b) q hq hql).map (hw.trans hw0)
      rw [hels] at this
      exact this.unmap (ren_still π)
    obtain ⟨cs, h1, h2⟩ := (H.holds (π b) q hq hql).cells (hw ▸ hw0)
    refine ⟨cs, by rw [← hty]; exact h1, fun i e he => ?_⟩
    have hbe := hbel e (List.mem_of_getElem? he)
    obtain ⟨k1, k2⟩ := ren_cells (π := π) hbe
    have hqe : q.els[i]? = some (Abs.ren π e) := by rw [hels]; simp [he]
    obtain ⟨h3, h4⟩ := h2 i _ hqe
    refine ⟨by rw [← hw, ← h3, k1], fun j c hc => ?_⟩
    obtain ⟨c', hc', k3⟩ := k2 j c hc
    obtain ⟨v, h5, h6⟩ := h4 j c' hc'
    exact ⟨v, by rw [← hw]; exact h5, k3 h6⟩
  · intro b b' r r' hb hl hb' hl' he
    obtain ⟨q, hq, _, hx⟩ := h.blk b r hb
    obtain ⟨q', hq', _, hx'⟩ := h.blk b' r' hb'
    exact h.inj b b' r r' hb hl hb' hl' (H.inj (π b) (π b') q q' hq (hx hl).1 hq' (hx' hl').1 he)
  · intro b r hb hl
    obtain ⟨q, hq, _, hx⟩ := h.blk b r hb
    exact H.apart (π b) q hq (hx hl).1
  · exact {
      size := F.size
      os := F.os
      tape := F.tape
      output := F.output
      block := F.block
      len := by rw [hn, h.len]; exact h.hn0
      ρ := fun b hb => by show E.ρ (π b) = _; rw [h.low b (by omega)]; exact F.ρ b hb
      wd := fun b hb => by show E.wd (π b) = _; rw [h.low b (by omega)]; exact F.wd b hb
      F := F.F
      F' := F.F'
      live := fun b ⟨r, hb, hl⟩ => by
        obtain ⟨q, hq, _, hx⟩ := h.blk b r hb
        have hlive := F.live (π b) ⟨q, hq, (hx hl).1⟩
        by_cases hbn : b < n0
        · rw [h.low b hbn] at hlive
          rcases hlive with h1 | ⟨h1, _⟩
          · exact .inl h1
          · omega
        · rcases hlive with ⟨h1, h2⟩ | ⟨_, h2⟩
          · exact .inr ⟨by omega, .inr ⟨π b, h2, (F.ρ (π b) h1).symm⟩⟩
          · exact .inr ⟨by omega, h2⟩
      csz := F.csz }
end Go.Abs
/- The abstract layer, part ZG: strings.Cut, TrimSuffix and Split, by the kit's own contracts. -/
set_option linter.unusedSimpArgs false
set_option linter.unusedVariables false
namespace Go.Abs
open Go
variable {P : Program}

def words (sep s : List UInt8) : List (List UInt8) := (Lib.splitB ⟨sep.toArray⟩ 0 (Lib.countB ⟨s.toArray⟩ ⟨sep.toArray⟩) ⟨s.toArray⟩).map (·.data.toList)
end Go.Abs
/- The abstract layer, part ZH: nil slices told as empty lists; a block that holds nothing; heaps whose blocks name one another. -/
set_option linter.unusedSimpArgs false
set_option linter.unusedVariables false
namespace Go.Abs
open Go
variable {P : Program}

def nilD : Nat → AV → AV
  | 0, a => a
  | d + 1, a => match a with
    | .nils => .ro []
    | .agg l => .agg (l.map (nilD d))
    | .tup l => .tup (l.map (nilD d))
    | .ro l => .ro (l.map (nilD d))
    | .rop l => .rop (l.map (nilD d))
    | a => a
theorem nilD_cells (d : Nat) (e : AV) : (nilD d e).cells.length = e.cells.length ∧ ∀ (j : Nat) c, (nilD d e).cells[j]? = some c → ∃ d' c0, e.cells[j]? = some c0 ∧ d' ≤ d ∧ c = nilD d' c0 := by
  cases d with
  | zero => exact ⟨rfl, fun j c h => ⟨0, c, h, Nat.le_refl _, rfl⟩⟩
  | succ d =>
    cases e with
    | agg l =>
      refine ⟨by simp [nilD, AV.cells], fun j c h => ?_⟩
      simp only [nilD, AV.cells, List.getElem?_map, Option.map_eq_some_iff] at h
      obtain ⟨c0, h1, rfl⟩ := h
      exact ⟨d, c0, h1, Nat.le_succ _, rfl⟩
    | _ =>
      refine ⟨rfl, fun j c h => ?_⟩
      cases j with
      | zero => cases h; exact ⟨d + 1, _, rfl, Nat.le_refl _, rfl⟩
      | succ j => cases h
theorem RV.nil : ∀ (d : Nat) {E : Env P} {a : AV} {v : Value}, RV E a v → RV E (nilD d a) v := by
  intro d
  induction d using Nat.strongRecOn with
  | _ d ih =>
  intro E a v h
  match d, ih with
  | 0, _ => exact h
  | d + 1, ih =>
  cases h with
  | nils a => exact .roNil a 0
  | roNil a cap => exact .roNil a cap
  | agg l vs hl h =>
    refine .agg _ vs (by rw [List.length_map]; exact hl) fun i x v h1 h2 => ?_
    rw [List.getElem?_map, Option.map_eq_some_iff] at h1
    obtain ⟨y, h3, rfl⟩ := h1
    exact ih d (by omega) (h i y v h3 h2)
  | tup l vs hl h =>
    refine .tup _ vs (by rw [List.length_map]; exact hl) fun i x v h1 h2 => ?_
    rw [List.getElem?_map, Option.map_eq_some_iff] at h1
    obtain ⟨y, h3, rfl⟩ := h1
    exact ih d (by omega) (h i y v h3 h2)
  | ro l b off cap wd val hF hcap hmax hw hc hv =>
    have hlen : (l.map (nilD d)).length = l.length := List.length_map _
    show RV E (.ro (l.map (nilD d))) _
    rw [← hlen]
    refine .ro _ b off cap wd val hF (by rw [hlen]; exact hcap) hmax (fun i e he => ?_) (fun i e he j c hj => ?_) (fun i e he j c hj => ?_)
    all_goals
      rw [List.getElem?_map, Option.map_eq_some_iff] at he
      obtain ⟨e0, h1, rfl⟩ := he
    · rw [(nilD_cells d e0).1]; exact hw i e0 h1
    · obtain ⟨d', c0, h2, _, _⟩ := (nilD_cells d e0).2 j c hj
      exact hc i e0 h1 j c0 h2
    · obtain ⟨d', c0, h2, h3, rfl⟩ := (nilD_cells d e0).2 j c hj
      exact ih d' (by omega) (hv i e0 h1 j c0 h2)
  | any v => exact .any v
  | bool b => exact .bool b
  | int k n => exact .int k n
  | flt k x b h => exact .flt k x b h
  | cpx k x y a b h h' => exact .cpx k x y a b h h'
  | str s => exact .str s
  | sl b i n off cap hb ho hcap hmax hroom hw => exact .sl b i n off cap hb ho hcap hmax hroom hw
  | ptr b i j hb hw => exact .ptr b i j hb hw
  | mp b hb => exact .mp b hb
  | romNil => exact .romNil
  | rom l r hF hm => exact .rom l r hF hm
  | rop l b off val hF hc hv =>
    refine .rop _ b off val hF (fun j c hj => ?_) (fun j c hj => ?_)
    all_goals
      rw [List.getElem?_map, Option.map_eq_some_iff] at hj
      obtain ⟨c0, h1, rfl⟩ := hj
    · exact hc j c0 h1
    · exact ih d (by omega) (hv j c0 h1)
  | nilp => exact .nilp
  | fn f l vs hl h => exact .fn f l vs hl h
  | mv f l vs hl h => exact .mv f l vs hl h
  | nilf => exact .nilf
theorem CallA.nil (d : Nat) {f : FuncId} {args args' : List AV} {hp : List Blk} {Q : AV → List Blk → Prop} (ha : args.map (nilD d) = args') (h : CallA P f args' hp Q) : CallA P f args hp Q := by
  subst ha
  intro E vs H hl hrv
  refine h E vs H (by rw [List.length_map]; exact hl) fun i a v h1 h2 => ?_
  rw [List.getElem?_map, Option.map_eq_some_iff] at h1
  obtain ⟨y, h3, rfl⟩ := h1
  exact (hrv i y v h3 h2).nil d
section
variable {f : FuncId} {args : List AV} {hp : List Blk} {Q : AV → List Blk → Prop} {t : Tok Q} {g : AV → Prop} {u : Tok g}
end

def deadB : Blk := { ty := 0, w := 1, els := [], live := false }
def Env.more (E : Env P) : Env P := { E with N := E.N + 1, wd := fun b => if b = E.N then 1 else E.wd b }
theorem Env.le_more (E : Env P) : E.le E.more :=
  ⟨fun _ h => h, fun _ _ => rfl, Nat.le_succ _, fun _ _ => rfl, fun b hb => by show (if b = E.N then 1 else E.wd b) = _; rw [if_neg (by omega)], fun _ => Nat.le_refl _⟩
theorem dead_get {hp : List Blk} {b : Nat} {blk : Blk} (h : (hp ++ [deadB])[b]? = some blk) : hp[b]? = some blk ∨ (b = hp.length ∧ blk = deadB) := by
  rcases Nat.lt_trichotomy b hp.length with hb | hb | hb
  · rw [List.getElem?_append_left hb] at h; exact .inl h
  · rw [List.getElem?_append_right (by omega), hb] at h
    simp at h
    exact .inr ⟨hb, h.symm⟩
  · rw [List.getElem?_append_right (by omega)] at h
    rw [List.getElem?_eq_none (by simp; omega)] at h
    cases h
theorem HRel.dead {E : Env P} {hp : List Blk} (H : HRel E hp) : HRel E.more (hp ++ [deadB]) := by
  have live : ∀ {b : Nat} {blk : Blk}, (hp ++ [deadB])[b]? = some blk → blk.live = true → hp[b]? = some blk := fun h hl => by
    rcases dead_get h with h | ⟨_, rfl⟩
    · exact h
    · cases hl
  refine ⟨by show E.N + 1 = _; rw [H.N]; simp, fun b blk hb => ?_, fun b blk hb hl => ?_, fun b b' blk blk' h1 h2 h3 h4 h5 => H.inj b b' blk blk' (live h1 h2) h2 (live h3 h4) h4 h5, fun b blk hb hl => H.apart b blk (live hb hl) hl, H.old, H.laid⟩
  · show (if b = E.N then 1 else E.wd b) = _
    rcases dead_get hb with h | ⟨rfl, rfl⟩
    · have := (List.getElem?_eq_some_iff.1 h).1
      rw [if_neg (by rw [H.N]; omega)]
      exact H.wd b blk h
    · rw [if_pos H.N.symm]; rfl
  · refine (H.holds b blk (live hb hl) hl).keep ?_ fun x u hu => hu.mono E.le_more
    rfl
theorem Fr.dead {E0 E : Env P} {hp0 hp : List Blk} (H : HRel E hp) (F : Fr E0 hp0 E hp) : Fr E0 hp0 E.more (hp ++ [deadB]) :=
  { size := F.size, os := F.os, tape := F.tape, output := F.output, block := F.block
    len := by rw [List.length_append]; have := F.len; omega
    ρ := F.ρ
    wd := fun b hb => by
      show (if b = E.N then 1 else E.wd b) = _
      rw [if_neg (by rw [H.N]; have := F.len; omega)]
      exact F.wd b hb
    F := F.F, F' := F.F'
    live := fun b ⟨blk, hb, hl⟩ => by
      rcases dead_get hb with h | ⟨_, rfl⟩
      · exact F.live b ⟨blk, h, hl⟩
      · cases hl
    csz := F.csz }
theorem PostR.dead {n0 : Nat} {r : AV} {hp : List Blk} {Q : AV → List Blk → Prop} (h : Q r (hp ++ [deadB])) : PostR n0 r hp Q :=
  ⟨r, hp ++ [deadB], fun P E0 hp0 E v hn H F hv => ⟨E.more, rfl, H.dead, F.dead H, hv.mono E.le_more⟩, h⟩

theorem WeakR.trans {n0 : Nat} {r1 r2 r3 : AV} {h1 h2 h3 : List Blk} (g : WeakR n0 r1 h1 r2 h2) (k : WeakR n0 r2 h2 r3 h3) : WeakR n0 r1 h1 r3 h3 := by
  intro P E0 hp0 E v hn H F hv
  obtain ⟨E1, e1, H1, F1, v1⟩ := g P E0 hp0 E v hn H F hv
  obtain ⟨E2, e2, H2, F2, v2⟩ := k P E0 hp0 E1 v hn H1 F1 v1
  exact ⟨E2, e2.trans e1, H2, F2, v2⟩
def SameTm : List AV → List AV → Prop
  | [], [] => True
  | a :: l, b :: m => (b = .any ∨ a = b) ∧ SameTm l m
  | _, _ => False
theorem SameTm.len : ∀ {l m : List AV}, SameTm l m → l.length = m.length
  | [], [], _ => rfl
  | a :: l, b :: m, h => by simp [SameTm.len h.2]
  | [], _ :: _, h => h.elim
  | _ :: _, [], h => h.elim
theorem SameTm.get : ∀ {l m : List AV}, SameTm l m → ∀ (i : Nat) b, m[i]? = some b → b = .any ∨ l[i]? = some b
  | [], [], _, i, b, h => by simp at h
  | a :: l, b :: m, h, 0, x, hx => by
    simp at hx; subst hx
    rcases h.1 with h1 | rfl
    · exact .inl h1
    · exact .inr rfl
  | a :: l, b :: m, h, i + 1, x, hx => by simpa using SameTm.get h.2 i x (by simpa using hx)
  | [], _ :: _, h, _, _, _ => h.elim
  | _ :: _, [], h, _, _, _ => h.elim
theorem Weak.trans {n0 : Nat} {a b c : St} (h : Weak n0 a b) (g : Weak n0 b c) : Weak n0 a c := by
  intro P E0 hp0 E act hn hs
  obtain ⟨E1, h1, h2⟩ := h P E0 hp0 E act hn hs
  obtain ⟨E2, h3, h4⟩ := g P E0 hp0 E1 act hn h2
  exact ⟨E2, h3.trans h1, h4⟩
end Go.Abs
