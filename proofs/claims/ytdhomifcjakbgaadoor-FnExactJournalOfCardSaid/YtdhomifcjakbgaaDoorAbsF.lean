/- The abstract layer, part F: slices of slices, structs; 'quietA' is sound. -/
import Derived.Test.YtdhomifcjakbgaaDoorAbsE
import Derived.Laws.BytesArg
set_option linter.unusedSimpArgs false
set_option linter.unusedVariables false
namespace Go.Abs
open Go
variable {P : Program}
section
variable {P : Program}

theorem boundA_of {x : Option AV} {d : Int} {k : Int → Prop} (h : boundA x d k) : ∃ n, k n ∧ ∀ (E : Env P) (v : Option Value), (∀ a, x = some a → ∃ u, v = some u ∧ RV E a u) → (x = none → v = none) →
    (v = none ∧ n = d) ∨ ∃ kd, v = some (.int kd n) := by
  unfold boundA at h
  split at h
  · exact ⟨_, h, fun E v _ hn => .inl ⟨hn rfl, rfl⟩⟩
  · refine ⟨_, h, fun E v hs _ => ?_⟩
    obtain ⟨u, hu, hr⟩ := hs _ rfl
    cases hr
    exact .inr ⟨_, hu⟩
  · exact h.elim

/-- The bounds of a slice expression, met. -/
theorem run_bounds (isSlice : Bool) (len cap : Nat) (lo hi : Option Value) (l h : Int) (w : World) (hlo : (lo = none ∧ l = 0) ∨ ∃ kd, lo = some (.int kd l)) (hhi : (hi = none ∧ h = len) ∨ ∃ kd, hi = some (.int kd h))
    (h0 : 0 ≤ l) (h1 : l ≤ h) (h2 : h ≤ len) (hcap : len ≤ cap) : (Instr.sliceBounds isSlice len cap lo hi none).run P w = .ok (l.toNat, h.toNat, cap) w := by
  have hc : 0 ≤ h ∧ h ≤ (cap : Int) := by omega
  have hc2 : 0 ≤ l ∧ l ≤ ((h.toNat : Nat) : Int) := by omega
  rcases hhi with ⟨rfl, rfl⟩ | ⟨kd, rfl⟩
  · have hc3 : l ≤ (len : Int) := by omega
    rcases hlo with ⟨rfl, rfl⟩ | ⟨kd', rfl⟩
    · simp [Instr.sliceBounds, Result.andThen]
    · simp [Instr.sliceBounds, Instr.sliceBound, asIntOf, Result.andThen, h0, hc3]
  · rcases hlo with ⟨rfl, rfl⟩ | ⟨kd', rfl⟩
    · simp [Instr.sliceBounds, Instr.sliceBound, asIntOf, Result.andThen, hc]
    · have hc4 : l ≤ max h 0 := by omega
      simp [Instr.sliceBounds, Instr.sliceBound, asIntOf, Result.andThen, hc, hc2, hc4, h0]

theorem sliceA_sound {t : TypeId} {hp : List Blk} {x : AV} {lo hi : Option AV} {k : AV → Prop} (h : sliceA P t hp x lo hi k) :
    ∃ av, k av ∧ ∀ (E : Env P) v vl vh, HRel E hp → RV E x v → (∀ a, lo = some a → ∃ u, vl = some u ∧ RV E a u) → (lo = none → vl = none) → (∀ a, hi = some a → ∃ u, vh = some u ∧ RV E a u) → (hi = none → vh = none) →
      QRun P E (Instr.sliceAt t v vl vh none) av := by
  unfold sliceA at h
  split at h
  · rename_i s hd
    obtain ⟨l, h, hl⟩ := boundA_of h
    obtain ⟨r, h, hr⟩ := boundA_of h
    obtain ⟨h0, h1, h2, hk⟩ := h
    refine ⟨_, hk, fun E v vl vh H hv a1 a2 a3 a4 => ?_⟩
    cases hv
    have hb := run_bounds (P := P) false s.length s.length vl vh l r E.w (hl E vl a1 a2) (hr E vh a3 a4) h0 h1 h2 (Nat.le_refl _)
    have e1 : (⟨s.toArray⟩ : ByteArray).size = s.length := by simp [ByteArray.size]
    refine .of (v := .string ((⟨s.toArray⟩ : ByteArray).extract l.toNat r.toNat)) ?_ ?_
    · simp [Instr.sliceAt, Instr.slice, run_underlying' hd, Result.andThen, e1, hb]
    · have : (⟨s.toArray⟩ : ByteArray).extract l.toNat r.toNat = ⟨((s.take r.toNat).drop l.toNat).toArray⟩ := by
        apply ByteArray.ext
        simp [ByteArray.data_extract, List.extract_eq_take_drop, List.drop_take]
      rw [this]; exact .str _
  · rename_i e hd
    obtain ⟨l, h, hl⟩ := boundA_of h
    obtain ⟨r, h, hr⟩ := boundA_of h
    obtain ⟨h0, h1, h2, hpos, hk⟩ := h
    refine ⟨_, hk, fun E v vl vh H hv a1 a2 a3 a4 => ?_⟩
    cases hv with
    | nils a =>
      have e0 : l = 0 := by omega
      have e1 : r = 0 := by omega
      subst e0; subst e1
      have hb := run_bounds (P := P) true 0 0 vl vh 0 0 E.w (hl E vl a1 a2) (hr E vh a3 a4) h0 h1 h2 (Nat.le_refl _)
      refine .of (v := .slice a 0 0) ?_ (.nils _)
      simp [Instr.sliceAt, Instr.slice, run_underlying' hd, Result.andThen, hb, run_sizeOf_pos hpos]
  · rename_i e s hd
    obtain ⟨l, h, hl⟩ := boundA_of h
    obtain ⟨r, h, hr⟩ := boundA_of h
    obtain ⟨h0, h1, h2, hpos, hall, hk⟩ := h
    refine ⟨_, hk, fun E v vl vh H hv a1 a2 a3 a4 => ?_⟩
    have key : ∀ (a : Option Addr) cap, s.length ≤ cap → (Instr.sliceAt t (.slice a s.length cap) vl vh none).run P E.w = .ok (.slice (if cap = l.toNat then a else a.map (·.add (l.toNat * P.cellsOf e))) (r.toNat - l.toNat) (cap - l.toNat)) E.w := by
      intro a cap hcap
      have hb := run_bounds (P := P) true s.length cap vl vh l r E.w (hl E vl a1 a2) (hr E vh a3 a4) h0 h1 h2 hcap
      simp [Instr.sliceAt, Instr.slice, run_underlying' hd, Result.andThen, hb, run_sizeOf_pos hpos]
    cases hv with
    | roNil a cap =>
      have e0 : l = 0 := by simp at h2; omega
      have e1 : r = 0 := by simp at h2; omega
      subst e0; subst e1
      refine .of (key a cap (Nat.zero_le _)) ?_
      simp
      exact .roNil _ _
    | ro l' b off cap wd val hF hcap hmax hws hc hvs =>
      refine .of (key _ cap hcap) ?_
      have hlen : ((s.take r.toNat).drop l.toNat).length = r.toNat - l.toNat := by simp; omega
      by_cases hemp : r.toNat - l.toNat = 0
      · have : (s.take r.toNat).drop l.toNat = [] := List.eq_nil_of_length_eq_zero (by omega)
        rw [this, hemp]
        exact .roNil _ _
      · have hne : cap ≠ l.toNat := by omega
        have hwd : wd = P.cellsOf e := by
          have hl0 : 0 < s.length := by omega
          rw [← hws 0 _ (List.getElem?_eq_getElem hl0)]
          exact hall _ (List.getElem_mem _)
        subst hwd
        rw [if_neg hne, ← hlen]
        simp only [Option.map_some, add_none]
        have tr : ∀ (i : Nat) e', ((s.take r.toNat).drop l.toNat)[i]? = some e' → s[l.toNat + i]? = some e' := by
          intro i e' h
          rw [List.getElem?_drop, List.getElem?_take] at h
          split at h
          · exact h
          · cases h
        refine .ro _ _ _ _ (P.cellsOf e) (fun i j => val (l.toNat + i) j) hF (by rw [hlen]; omega) (by omega) (fun i e' h => hws _ _ (tr i e' h)) (fun i e' h j c hj => ?_) (fun i e' h j c hj => hvs _ _ (tr i e' h) j c hj)
        have := hc _ _ (tr i e' h) j c hj
        rw [Nat.add_mul, ← Nat.add_assoc] at this
        exact this
  · rename_i e b i n hd
    obtain ⟨l, h, hl⟩ := boundA_of h
    obtain ⟨r, h, hr⟩ := boundA_of h
    obtain ⟨h0, h1, h2, hpos, hwb, hk⟩ := h
    refine ⟨_, hk, fun E v vl vh H hv a1 a2 a3 a4 => ?_⟩
    cases hv with
    | sl b i n off cap hbN ho hcap hmax hroom =>
      have hb := run_bounds (P := P) true n cap vl vh l r E.w (hl E vl a1 a2) (hr E vh a3 a4) h0 h1 h2 hcap
      have key : (Instr.sliceAt t (.slice (some ⟨E.ρ b, off, none⟩) n cap) vl vh none).run P E.w = .ok (.slice (if cap = l.toNat then some ⟨E.ρ b, off, none⟩ else some ⟨E.ρ b, off + l.toNat * P.cellsOf e, none⟩) (r.toNat - l.toNat) (cap - l.toNat)) E.w := by
        simp [Instr.sliceAt, Instr.slice, run_underlying' hd, Result.andThen, hb, run_sizeOf_pos hpos, add_none]
      refine .of key ?_
      cases hbk : hp[b]? with
      | none => simp [hbk] at hwb
      | some blk =>
        have hwd : E.wd b = P.cellsOf e := by rw [H.wd b blk hbk]; simpa [hbk] using hwb
        by_cases hc0 : cap = l.toNat
        · rw [if_pos hc0]
          exact .sl b (i + l.toNat) (r.toNat - l.toNat) off (cap - l.toNat) hbN (fun h => by omega) (by omega) (by omega) (fun h => by omega)
        · rw [if_neg hc0]
          refine .sl b (i + l.toNat) (r.toNat - l.toNat) _ (cap - l.toNat) hbN (fun _ => ?_) (by omega) (by omega) (fun h => ?_)
          · rw [ho (by omega), hwd, Nat.add_mul]
          · have := hroom (by omega)
            rwa [show i + l.toNat + (cap - l.toNat) = i + cap by omega]
  · exact h.elim

/-- A row of cells and its abstract values. -/
def RA (E : Env P) (cs : List AV) (A : Array Value) : Prop := cs.length = A.size ∧ ∀ (i : Nat) c x, cs[i]? = some c → A[i]? = some x → RV E c x

theorem fold_set (off : Nat) : ∀ (vs : List Value) (n : Nat) (cs : Array Value),
    ((vs.zipIdx n).foldl (fun cs p => cs.setIfInBounds (off + p.2) p.1) cs).size = cs.size ∧
    ∀ m, off + n + vs.length ≤ cs.size → ((vs.zipIdx n).foldl (fun cs p => cs.setIfInBounds (off + p.2) p.1) cs)[m]? = if off + n ≤ m ∧ m < off + n + vs.length then vs[m - (off + n)]? else cs[m]?
  | [], n, cs => ⟨rfl, fun m h => by
      simp only [List.length_nil, Nat.add_zero]
      rw [if_neg (by omega)]; rfl⟩
  | v :: vs, n, cs => by
    obtain ⟨h1, h2⟩ := fold_set off vs (n + 1) (cs.setIfInBounds (off + n) v)
    refine ⟨by simp only [List.zipIdx_cons, List.foldl_cons, h1, Array.size_setIfInBounds], fun m h => ?_⟩
    simp only [List.length_cons] at h
    simp only [List.zipIdx_cons, List.foldl_cons]
    rw [h2 m (by simp; omega)]
    by_cases hm : m = off + n
    · subst hm
      rw [if_neg (by omega), if_pos (by simp)]
      have : off + n < cs.size := by omega
      simp [this]
    · by_cases hr : off + n + 1 ≤ m ∧ m < off + n + 1 + vs.length
      · rw [if_pos (by omega), if_pos (by simp; omega)]
        rw [show m - (off + n) = (m - (off + (n + 1))) + 1 by omega]
        rfl
      · rw [if_neg (by omega), if_neg (by simp; omega)]
        rw [Array.getElem?_setIfInBounds_ne (by omega)]

theorem placeA_get {cs v : List AV} {off : Nat} (h : off + v.length ≤ cs.length) (m : Nat) : (placeA cs off v)[m]? = if off ≤ m ∧ m < off + v.length then v[m - off]? else cs[m]? := by
  unfold placeA
  by_cases h1 : m < off
  · rw [if_neg (by omega), List.append_assoc, List.getElem?_append_left (by simp; omega), List.getElem?_take_of_lt h1]
  · by_cases h2 : m < off + v.length
    · rw [if_pos (by omega), List.getElem?_append_left (by simp; omega), List.getElem?_append_right (by simp; omega)]
      congr 1; simp; omega
    · rw [if_neg (by omega), List.getElem?_append_right (by simp; omega), List.getElem?_drop]
      congr 1; simp; omega
theorem placeA_len {cs v : List AV} {off : Nat} (h : off + v.length ≤ cs.length) : (placeA cs off v).length = cs.length := by
  unfold placeA; simp; omega

theorem RA.place {E : Env P} {cs : List AV} {A : Array Value} (h : RA E cs A) {a : AV} {v : Value} (hs : a.solid = true) (hv : RV E a v) {off : Nat} (ho : off + a.cells.length ≤ cs.length) :
    RA E (placeA cs off a.cells) (v.cells.zipIdx.foldl (fun cs (x : Value × Nat) => cs.setIfInBounds (off + x.2) x.1) A) := by
  obtain ⟨hl, hc⟩ := hv.not_agg hs
  have e : v.cells.zipIdx.foldl (fun cs (x : Value × Nat) => cs.setIfInBounds (off + x.2) x.1) A = (v.cells.toList.zipIdx 0).foldl (fun cs p => cs.setIfInBounds (off + p.2) p.1) A := by
    rw [← Array.foldl_toList, Array.toList_zipIdx]
  obtain ⟨f1, f2⟩ := fold_set off v.cells.toList 0 A
  rw [e]
  refine ⟨by rw [placeA_len ho, f1]; exact h.1, fun i c x h1 h2 => ?_⟩
  have hA : off + 0 + v.cells.toList.length ≤ A.size := by rw [← h.1]; simp; omega
  rw [f2 i hA] at h2
  rw [placeA_get ho] at h1
  simp only [Nat.add_zero, Array.length_toList] at h2
  rw [hl] at h1
  by_cases hr : off ≤ i ∧ i < off + v.cells.size
  · rw [if_pos hr] at h1 h2
    exact (hc _ c x h1 (by simpa using h2)).1
  · rw [if_neg hr] at h1 h2
    exact h.2 i c x h1 h2

theorem mapM_list {α β : Type} (f : α → Sem β) (g : α → β) (w : World) : ∀ l : List α, (∀ a ∈ l, (f a).run P w = .ok (g a) w) → (l.mapM f).run P w = .ok (l.map g) w
  | [], _ => by simp
  | a :: l, h => by
    simp only [List.mapM_cons, Sem.run_bind, h a (by simp), Result.andThen_ok, mapM_list f g w l (fun x hx => h x (by simp [hx])), Sem.run_pure, List.map_cons]

theorem mapM_array {α β : Type} (f : α → Sem β) (g : α → β) (w : World) (l : Array α) (h : ∀ a ∈ l.toList, (f a).run P w = .ok (g a) w) : (l.mapM f).run P w = .ok (l.map g) w := by
  rw [Array.mapM_eq_mapM_toList]
  simp only [Sem.run_map, mapM_list f g w l.toList h, Result.andThen_ok]
  congr 1
  apply Array.ext'
  simp

theorem buildA_sound {t : TypeId} {fs : Array Field} (hd : P.underlying t = some (.struct fs)) : ∀ (parts : List (Nat × AV)) (cs : List AV) (k : AV → Prop), buildA P t parts cs k →
    ∃ av, k av ∧ ∀ (E : Env P) (A : Array Value) (vs : List (Nat × Value)), RA E cs A → vs.length = parts.length → (∀ (i : Nat) p q, parts[i]? = some p → vs[i]? = some q → q.1 = p.1 ∧ RV E p.2 q.2) →
      ∃ B, Instr.fill ((fs.map fun f => (f.offset, P.cellsOf f.type))[·]?) A vs = some B ∧ RV E av (.agg B)
  | [], cs, k, h => ⟨_, h, fun E A vs ha hl _ => by
      have : vs = [] := List.eq_nil_of_length_eq_zero hl
      subst this
      exact ⟨A, rfl, .agg _ _ ha.1 ha.2⟩⟩
  | (i, a) :: rest, cs, k, h => by
    unfold buildA at h
    split at h
    · rename_i f hf
      obtain ⟨hs, hw, ho, h⟩ := h
      obtain ⟨av, hk, hr⟩ := buildA_sound hd rest _ k h
      refine ⟨av, hk, fun E A vs ha hl hv => ?_⟩
      cases vs with
      | nil => simp at hl
      | cons q vs =>
        obtain ⟨i', v⟩ := q
        obtain ⟨rfl, hv0⟩ := hv 0 (i, a) (i', v) rfl rfl
        obtain ⟨fs', hd', hfi⟩ := field_of hf
        rw [hd] at hd'
        cases hd'
        have hl0 : a.cells.length = v.cells.size := (hv0.not_agg hs).1
        obtain ⟨B, hB, hrB⟩ := hr E _ vs (ha.place hs hv0 ho) (by simpa using hl) (fun j p q hp hq => hv (j + 1) p q hp hq)
        refine ⟨B, ?_, hrB⟩
        have hpl : (fs.map fun f => (f.offset, P.cellsOf f.type))[i']? = some (f.offset, P.cellsOf f.type) := by
          rw [Array.getElem?_map, hfi]; rfl
        have c1 : ¬ v.cells.size ≠ P.cellsOf f.type := by rw [← hl0, hw]; simp
        have c2 : ¬ f.offset + v.cells.size > A.size := by rw [← hl0, ← ha.1]; omega
        simp only [Instr.fill, hpl, c1, c2, decide_false, Bool.or_self, Bool.false_eq_true, if_false]
        exact hB
    · exact h.elim

theorem minA_sound : ∀ (l : List AV) (x : AV) (k : AV → Prop), minA x l k → ∃ av, k av ∧ ∀ (E : Env P) v (vs : List Value), RV E x v → vs.length = l.length → (∀ (i : Nat) a u, l[i]? = some a → vs[i]? = some u → RV E a u) → QRun P E (vs.foldlM Builtin.min2 v) av
  | [], x, k, h => by
    refine ⟨x, by cases x <;> simpa [minA] using h, fun E v vs hv hl _ => ?_⟩
    have : vs = [] := List.eq_nil_of_length_eq_zero hl
    subst this
    exact .of rfl hv
  | y :: l, x, k, h => by
    cases x <;> cases y <;> simp only [minA] at h
    case int.int kd a kd' b =>
      obtain ⟨rfl, h⟩ := h
      obtain ⟨av, hk, hr⟩ := minA_sound l _ k h
      refine ⟨av, hk, fun E v vs hv hl hvs => ?_⟩
      cases hv
      cases vs with
      | nil => simp at hl
      | cons u vs =>
        have hu := hvs 0 _ u rfl rfl
        cases hu
        obtain ⟨z, w', h1, h2, h3⟩ := hr E (.int kd (if b < a then b else a)) vs (.int _ _) (by simpa using hl) (fun i p q hp hq => hvs (i + 1) p q hp hq)
        exact ⟨z, w', by simp only [List.foldlM_cons, Builtin.min2, Sem.run_bind, Sem.run_pure, Result.andThen_ok]; exact h1, h2, h3⟩
theorem order_not_nan {k : FloatKind} {x y : Nat} (h : (k.format.order x y).isSome = true) : (k.decode x).isNaN = false ∧ (k.decode y).isNaN = false := by
  have e : k.format.order x y = (k.decode x).order (k.decode y) := rfl
  rw [e] at h
  cases hx : k.decode x <;> cases hy : k.decode y <;> rw [hx, hy] at h <;> first | exact ⟨rfl, rfl⟩ | (simp [Ieee.Datum.order] at h)
theorem maxA_sound : ∀ (l : List AV) (x : AV) (k : AV → Prop), maxA x l k → ∃ av, k av ∧ ∀ (E : Env P) v (vs : List Value), RV E x v → vs.length = l.length → (∀ (i : Nat) a u, l[i]? = some a → vs[i]? = some u → RV E a u) → QRun P E (vs.foldlM Builtin.max2 v) av
  | [], x, k, h => by
    refine ⟨x, by cases x <;> simpa [maxA] using h, fun E v vs hv hl _ => ?_⟩
    have : vs = [] := List.eq_nil_of_length_eq_zero hl
    subst this
    exact .of rfl hv
  | y :: l, x, k, h => by
    cases x <;> cases y <;> simp only [maxA] at h
    case int.int kd a kd' b =>
      obtain ⟨rfl, h⟩ := h
      obtain ⟨av, hk, hr⟩ := maxA_sound l _ k h
      refine ⟨av, hk, fun E v vs hv hl hvs => ?_⟩
      cases hv
      cases vs with
      | nil => simp at hl
      | cons u vs =>
        have hu := hvs 0 _ u rfl rfl
        cases hu
        obtain ⟨z, w', h1, h2, h3⟩ := hr E (.int kd (if b > a then b else a)) vs (.int _ _) (by simpa using hl) (fun i p q hp hq => hvs (i + 1) p q hp hq)
        exact ⟨z, w', by simp only [List.foldlM_cons, Builtin.max2, Sem.run_bind, Sem.run_pure, Result.andThen_ok]; exact h1, h2, h3⟩
    case flt.flt kd a kd' b =>
      obtain ⟨rfl, ho, h⟩ := h
      obtain ⟨av, hk, hr⟩ := maxA_sound l _ k h
      refine ⟨av, hk, fun E v vs hv hl hvs => ?_⟩
      cases hv with
      | flt _ _ v hv =>
      cases vs with
      | nil => simp at hl
      | cons u vs =>
        have hu := hvs 0 _ u rfl rfl
        cases hu with
        | flt _ _ u hu =>
        subst hv
        subst hu
        rw [canon_order] at ho
        have ev : canon kd v = v := canon_of_not (order_not_nan ho).1
        have eu : canon kd u = u := canon_of_not (order_not_nan ho).2
        rw [ev, eu] at hr
        obtain ⟨z, w', h1, h2, h3⟩ := hr E (.float kd (fmax kd v u)) vs (.flt _ _ _ (by unfold fmax; split <;> (try split) <;> first | exact ev | exact eu)) (by simpa using hl) (fun i p q hp hq => hvs (i + 1) p q hp hq)
        refine ⟨z, w', ?_, h2, h3⟩
        rw [← h1]
        simp only [List.foldlM_cons, Builtin.max2, Sem.run_bind]
        cases hoo : kd.format.order v u with
        | none => rw [hoo] at ho; cases ho
        | some o => cases o <;> simp [fmax, hoo, Sem.run_pure, Result.andThen_ok]

/-- An operation that makes and writes no memory, told of its operands alone. -/
def QOp (P : Program) (op : Op) (f : Operand → AV) (hp : List Blk) (av : AV) : Prop :=
  ∀ (E : Env P) (g : Operand → Value) (o : Oper), o.op = op → HRel E hp → (∀ x ∈ op.operands, RV E (f x) (g x)) → (∀ v, g (.const v) = v) →
    ∃ v w', (execOp g o).run P E.w = .ok (.value v) w' ∧ Same E.w w' ∧ RV E av v

theorem QRun.lift {E : Env P} {s : Sem Value} {av : AV} (h : QRun P E s av) {r : Sem Next} (hr : r = (do pure (Next.value (← s)) : Sem Next)) : ∃ v w', r.run P E.w = .ok (.value v) w' ∧ Same E.w w' ∧ RV E av v := by
  obtain ⟨v, w', h1, h2, h3⟩ := h
  exact ⟨v, w', by rw [hr]; simp [h1, Result.andThen], h2, h3⟩

theorem RV_pick {E : Env P} (c : Bool) {a b : AV} {u v : Value} (ha : RV E a u) (hb : RV E b v) : RV E (pickV c a b) (if c then u else v) := by
  unfold pickV
  split
  · cases ha; cases hb; cases c <;> exact .bool _
  · cases c
    · simpa using hb
    · simpa using ha

theorem mem_map_get {α β : Type} {l : List α} {f : α → β} {i : Nat} {b : β} (h : (l.map f)[i]? = some b) : ∃ a, l[i]? = some a ∧ f a = b ∧ a ∈ l := by
  rw [List.getElem?_map] at h
  cases hl : l[i]? with
  | none => simp [hl] at h
  | some a => exact ⟨a, rfl, by simpa [hl] using h, List.mem_of_getElem? hl⟩

theorem quietB_sound {b : Builtin} {ts : List TypeId} {xs : List AV} {k : AV → Prop} (h : quietB P b ts xs k) :
    ∃ av, k av ∧ ∀ (E : Env P) ty cs (vs : List Value), vs.length = xs.length → (∀ (i : Nat) a u, xs[i]? = some a → vs[i]? = some u → RV E a u) → ∀ w, w = E.w →
      ∃ v w', (Go.builtin b ts.toArray ty cs vs.toArray).run P w = .ok (.value v) w' ∧ Same E.w w' ∧ RV E av v := by
  have one : ∀ {E : Env P} {x : AV} {vs : List Value}, vs.length = [x].length → (∀ (i : Nat) a u, [x][i]? = some a → vs[i]? = some u → RV E a u) → ∃ v, vs = [v] ∧ RV E x v := by
    intro E x vs hl hv
    match vs, hl with
    | [v], _ => exact ⟨v, rfl, hv 0 x v rfl rfl⟩
  unfold quietB at h
  split at h
  · rename_i t x
    obtain ⟨av, hk, hr⟩ := lenA_sound h
    refine ⟨av, hk, fun E ty cs vs hl hv w hw => ?_⟩
    subst hw
    obtain ⟨v, rfl, hx⟩ := one hl hv
    exact (hr E v ty hx).lift rfl
  · rename_i x r
    obtain ⟨av, hk, hr⟩ := minA_sound _ _ _ h
    refine ⟨av, hk, fun E ty cs vs hl hv w hw => ?_⟩
    subst hw
    cases vs with
    | nil => simp at hl
    | cons v vs => exact (hr E v vs (hv 0 _ _ rfl rfl) (by simpa using hl) (fun i a u h1 h2 => hv (i + 1) a u h1 h2)).lift rfl
  · rename_i x r
    obtain ⟨av, hk, hr⟩ := maxA_sound _ _ _ h
    refine ⟨av, hk, fun E ty cs vs hl hv w hw => ?_⟩
    subst hw
    cases vs with
    | nil => simp at hl
    | cons v vs => exact (hr E v vs (hv 0 _ _ rfl rfl) (by simpa using hl) (fun i a u h1 h2 => hv (i + 1) a u h1 h2)).lift rfl
  · refine ⟨_, h, fun E ty cs vs hl hv w hw => ?_⟩
    subst hw
    obtain ⟨v, rfl, hx⟩ := one hl hv
    cases hx with
    | cpx _ _ _ a b ha hb => exact ⟨.float _ a, E.w, rfl, Same.refl _, .flt _ _ _ ha⟩
  · refine ⟨_, h, fun E ty cs vs hl hv w hw => ?_⟩
    subst hw
    obtain ⟨v, rfl, hx⟩ := one hl hv
    cases hx with
    | cpx _ _ _ a b ha hb => exact ⟨.float _ b, E.w, rfl, Same.refl _, .flt _ _ _ hb⟩
  · rename_i kd a kd' b
    obtain ⟨rfl, h⟩ := h
    refine ⟨_, h, fun E ty cs vs hl hv w hw => ?_⟩
    subst hw
    match vs, hl with
    | [u, v], _ =>
      have h1 := hv 0 _ u rfl rfl
      have h2 := hv 1 _ v rfl rfl
      cases h1 with
      | flt _ _ u hu =>
        cases h2 with
        | flt _ _ v hv' =>
          refine ⟨.complex kd u v, E.w, ?_, Same.refl _, .cpx _ _ _ _ _ hu hv'⟩
          cases kd <;> rfl
  · exact h.elim

theorem zero_run {t : TypeId} (h : (zeroOf P t).solid = true) : ∃ z, (∀ w, (zeroValue t).run P w = .ok z w) ∧ zeroOf P t = ofV z := by
  unfold zeroOf at h ⊢
  cases hi : P.info? t with
  | none => simp [hi] at h; cases h
  | some i =>
    cases hz : i.zero with
    | none => simp [hi, hz] at h; cases h
    | some z => exact ⟨z, fun w => by simp [zeroValue, typeInfo, hi, hz, Result.andThen], by simp [hi, hz]⟩

theorem byts_get {l : List UInt8} {j : Nat} (h : j < l.length) : (byts l)[j]? = some (.int .u8 (l[j].toNat : Int)) := by simp [byts, h]
theorem nums_byts (l : List UInt8) : strOfNums (l.map fun c => (c.toNat : Int)) = ⟨l.toArray⟩ := by
  unfold strOfNums
  rw [List.map_map]
  have : ((fun n : Int => UInt8.ofNat n.toNat) ∘ fun c : UInt8 => (c.toNat : Int)) = id := by
    funext c; simp
  rw [this, List.map_id]
theorem convB_sound {src dst : TypeId} {hp : List Blk} {x : AV} {k : AV → Prop} (h : convB P src dst hp x k) :
    ∃ av, k av ∧ ∀ (E : Env P) u, HRel E hp → RV E x u → QRun P E (Go.convert src dst u) av := by
  unfold convB at h
  split at h
  · rename_i b i n hd
    obtain ⟨⟨e, hs, he⟩, h⟩ := h
    split at h
    · rename_i blk hb
      obtain ⟨hl, hw, l, h1, h2, hk⟩ := h
      refine ⟨_, hk, fun E u H hu => ?_⟩
      cases hu with
      | sl _ _ _ off cap hbN ho hcap hmax hroom =>
        have hwd : E.wd b = 1 := by rw [H.wd b blk hb, hw]
        have run := run_convert_bytes_arg (P := P) E.w src e hs he (E.ρ b) off n cap (l.map fun c => (c.toNat : Int)) (by simp [h2]) (fun j hj => by
          have hoff : off = i := by have := ho (by omega); rw [hwd] at this; omega
          have hj' : j < l.length := by omega
          have g1 : (byts l)[j]? = some (.int .u8 (l[j].toNat : Int)) := byts_get hj'
          rw [← h1, List.getElem?_take_of_lt hj, List.getElem?_drop] at g1
          obtain ⟨v, h3, h4⟩ := H.cell hb hl g1 (j := 0) (c := .int .u8 (l[j].toNat : Int)) rfl
          cases h4
          rw [hwd] at h3
          rw [hoff]
          simpa [hj'] using h3) dst hd
        rw [nums_byts] at run
        exact .of run (.str _)
    · exact h.elim
  · rename_i hd
    obtain ⟨⟨e, hs, he⟩, hk⟩ := h
    refine ⟨_, hk, fun E u H hu => ?_⟩
    cases hu with
    | nils a =>
      refine .of (v := .string ⟨#[]⟩) ?_ (.str [])
      cases a with
      | none => exact run_convert_bytes_nil E.w src e hs he 0 0 dst hd
      | some a =>
        rw [run_convert_bytes_string E.w src dst e _ 0 0 hs he hd, run_bytesToString E.w a 0 0 [] (by simpa using run_loadCells_list (P := P) E.w a [] (fun j v hj => by simp at hj))]
        rfl
  · rename_i s hd
    obtain ⟨⟨e, hs, he⟩, l, rfl, hk⟩ := h
    refine ⟨_, hk, fun E u H hu => ?_⟩
    generalize hbl : byts l = bl at hu
    cases hu with
    | roNil a cap =>
      have : l = [] := by cases l with | nil => rfl | cons _ _ => simp [byts] at hbl
      subst this
      refine .of (v := .string ⟨#[]⟩) ?_ (.str [])
      cases a with
      | none => exact run_convert_bytes_nil E.w src e hs he 0 cap dst hd
      | some a =>
        rw [run_convert_bytes_string E.w src dst e _ 0 cap hs he hd, run_bytesToString E.w a 0 cap [] (by simpa using run_loadCells_list (P := P) E.w a [] (fun j v hj => by simp at hj))]
        rfl
    | ro _ b off cap wd val hF hcap hmax hw hc hv =>
      subst hbl
      have hlen : (byts l).length = l.length := by simp [byts]
      have run := run_convert_bytes_arg (P := P) E.w src e hs he b off (byts l).length cap (l.map fun c => (c.toNat : Int)) (by simp [hlen]) (fun j hj => by
        have hj' : j < l.length := by omega
        have g1 := byts_get hj'
        have hwd : wd = 1 := by have := hw j _ g1; simpa [AV.cells] using this.symm
        have g2 := hc j _ g1 0 _ rfl
        have g3 := hv j _ g1 0 _ rfl
        rw [hwd] at g2
        generalize val j 0 = vv at g2 g3
        cases g3
        simpa [hj'] using g2) dst hd
      rw [nums_byts] at run
      exact .of run (.str _)
  · obtain ⟨⟨d, hs⟩, h⟩ := h
    obtain ⟨av, hk, hr⟩ := convA_sound h
    exact ⟨av, hk, fun E u _ hu => hr E src d u hs hu⟩

theorem quietA_sound {op : Op} {f : Operand → AV} {hp : List Blk} {k : AV → Prop} (h : quietA P op f hp k) : ∃ av, k av ∧ QOp P op f hp av := by
  cases op <;> simp only [quietA] at h
  case move x => exact ⟨_, h, fun E g o ho H hr hcst => ⟨g x, E.w, by simp [execOp, ho], Same.refl _, hr x (by simp [Op.operands])⟩⟩
  case assign x => exact ⟨_, h, fun E g o ho H hr hcst => ⟨g x, E.w, by simp [execOp, ho], Same.refl _, hr x (by simp [Op.operands])⟩⟩
  case pick c a b =>
    split at h
    · rename_i cb hc
      refine ⟨_, h, fun E g o ho H hr hcst => ?_⟩
      have h1 := hr c (by simp [Op.operands])
      rw [hc] at h1
      generalize hgc : g c = gc at h1
      cases h1
      exact ⟨if cb then g a else g b, E.w, by simp [execOp, ho, hgc, asBool, Result.andThen], Same.refl _, RV_pick cb (hr a (by simp [Op.operands])) (hr b (by simp [Op.operands]))⟩
    · exact h.elim
  case build t parts =>
    obtain ⟨h0, hz, h⟩ := h
    split at h0
    · rename_i fs hd
      obtain ⟨av, hk, hr⟩ := buildA_sound hd _ _ _ h
      obtain ⟨z, hz1, hz2⟩ := zero_run hz
      refine ⟨av, hk, fun E g o ho H hv hcst => ?_⟩
      have hzr : RV E (zeroOf P t) z := by rw [hz2]; exact RV_ofV E z
      obtain ⟨hzl, hzc⟩ := hzr.not_agg hz
      obtain ⟨B, hB, hrB⟩ := hr E z.cells (parts.toList.map fun p => (p.1, g p.2)) ⟨hzl, fun i c x h1 h2 => (hzc i c x h1 h2).1⟩ (by simp) (fun i p q hp hq => by
        obtain ⟨p0, e0, rfl, hm⟩ := mem_map_get hp
        obtain ⟨q0, e1, rfl, _⟩ := mem_map_get hq
        rw [e0] at e1; cases e1
        exact ⟨rfl, hv _ (by simp only [Op.operands, List.mem_toArray, List.mem_map]; exact ⟨p0, hm, rfl⟩)⟩)
      refine ⟨.agg B, E.w, ?_, Same.refl _, hrB⟩
      have hm := mapM_array (P := P) (fun f : Field => (do pure (f.offset, ← sizeOf f.type) : Sem (Nat × Nat))) (fun f => (f.offset, P.cellsOf f.type)) E.w fs (fun f hf => by
        simp [run_sizeOf_pos (h0 f hf), Result.andThen])
      have e : (parts.map fun x => (x.1, g x.2)).toList = parts.toList.map fun p => (p.1, g p.2) := by simp
      simp only [execOp, ho, Instr.build, Sem.run_bind, hz1, Result.andThen_ok, run_underlying' hd, hm, e, hB, Sem.run_pure]
    · exact h0.elim
  case load t a =>
    obtain ⟨av, hk, hr⟩ := loadA_sound h
    exact ⟨av, hk, fun E g o ho H hv hcst => (hr E _ H (hv a (by simp [Op.operands]))).run.lift (by simp [execOp, ho])⟩
  case nilCheck x =>
    split at h
    · rename_i b i j hx
      refine ⟨_, h, fun E g o ho H hv hcst => ?_⟩
      have h1 := hv x (by simp [Op.operands]); rw [hx] at h1
      generalize hgc : g x = gc at h1
      cases h1 with
      | ptr _ _ _ hb => exact ⟨_, E.w, by simp only [execOp, ho, hgc]; rfl, Same.refl _, .ptr _ _ _ hb⟩
    · rename_i l hx
      refine ⟨_, h, fun E g o ho H hv hcst => ?_⟩
      have h1 := hv x (by simp [Op.operands]); rw [hx] at h1
      generalize hgc : g x = gc at h1
      have h1' := h1
      cases h1 with
      | rop => exact ⟨_, E.w, by simp only [execOp, ho, hgc]; rfl, Same.refl _, h1'⟩
    · rename_i fid l hx
      refine ⟨_, h, fun E g o ho H hv hcst => ?_⟩
      have h1 := hv x (by simp [Op.operands]); rw [hx] at h1
      generalize hgc : g x = gc at h1
      have h1' := h1
      cases h1 with
      | fn => exact ⟨_, E.w, by simp only [execOp, ho, hgc]; rfl, Same.refl _, h1'⟩
    · exact h.elim
  case binOp op t x y t' =>
    split at h
    · rename_i hn
      unfold nilC at hn
      split at hn
      · unfold nilA at h
        have key : ∀ (a : Addr) (n c : Nat) (e : TypeId) (w : World), P.underlying t = some (.slice e) → (Go.binOp .eql t (.slice (some a) n c) (.slice none 0 0)).run P w = .ok (.bool false) w := by
          intro a n c e w ht
          have e1 : ∀ d, (Op.equalIn (d + 1) t (.slice (some a) n c) (.slice none 0 0)).run P w = .ok false w := by
            intro d
            simp [Op.equalIn, run_underlying' ht, Result.andThen]
          have e2 : (Op.equal t (.slice (some a) n c) (.slice none 0 0)).run P w = .ok false w := e1 9999
          simp [Go.binOp, e2, Result.andThen]
        split at h
        · rename_i e a l ht hx
          refine ⟨_, h, fun E g o ho H hv hcst => ?_⟩
          have h1 := hv x (by simp [Op.operands])
          rw [hx] at h1
          generalize hu : g x = u at h1
          cases h1 with
          | ro _ b off cap wd val _ _ _ _ _ _ =>
            refine QRun.lift (s := (do eqGuard .eql t x (.const (.slice none 0 0)) (g x) (g (.const (.slice none 0 0))); Go.binOp .eql t (g x) (g (.const (.slice none 0 0))))) ⟨.bool false, E.w, ?_, Same.refl _, .bool _⟩ (by simp [execOp, ho])
            rw [hu, hcst]
            simp only [Sem.run_bind, eqGuard_plain .eql t x _ (.slice _ _ _) _ E.w rfl (by simp), Result.andThen_ok]
            exact key _ _ _ _ _ ht
        · rename_i e b i n ht hx
          refine ⟨_, h, fun E g o ho H hv hcst => ?_⟩
          have h1 := hv x (by simp [Op.operands])
          rw [hx] at h1
          generalize hu : g x = u at h1
          cases h1 with
          | sl _ _ _ off cap _ _ _ _ _ =>
            refine QRun.lift (s := (do eqGuard .eql t x (.const (.slice none 0 0)) (g x) (g (.const (.slice none 0 0))); Go.binOp .eql t (g x) (g (.const (.slice none 0 0))))) ⟨.bool false, E.w, ?_, Same.refl _, .bool _⟩ (by simp [execOp, ho])
            rw [hu, hcst]
            simp only [Sem.run_bind, eqGuard_plain .eql t x _ (.slice _ _ _) _ E.w rfl (by simp), Result.andThen_ok]
            exact key _ _ _ _ _ ht
        · exact h.elim
      · cases hn
    obtain ⟨av, hk, hr⟩ := binA_sound h
    exact ⟨av, hk, fun E g o ho H hv hcst => (hr E x y _ _ (hv x (by simp [Op.operands])) (hv y (by simp [Op.operands]))).lift (by simp [execOp, ho])⟩
  case unOp op t x =>
    obtain ⟨av, hk, hr⟩ := unA_sound (P := P) h
    exact ⟨av, hk, fun E g o ho H hv hcst => (hr E _ (hv x (by simp [Op.operands]))).lift (by simp [execOp, ho])⟩
  case convert src dst x =>
    obtain ⟨av, hk, hr⟩ := convB_sound h
    exact ⟨av, hk, fun E g o ho H hv hcst => (hr E _ H (hv x (by simp [Op.operands]))).lift (by simp [execOp, ho])⟩
  case makeFunc fn first captured =>
    cases fn <;> simp only [quietA] at h
    case func fid =>
      obtain ⟨h0, h⟩ := h
      refine ⟨_, h, fun E g o ho H hv hcst => ⟨.func (.func fid) #[] (captured.map g), E.w, ?_, Same.refl _, .fn _ _ _ (by simp) fun i a v h1 h2 => ?_⟩⟩
      · have : first = #[] := by apply Array.ext'; simpa using h0
        simp [execOp, ho, Instr.makeFunc, this, Result.andThen]
      · obtain ⟨x, e0, rfl, hm⟩ := mem_map_get h1
        have h2' : (captured.toList.map g)[i]? = some v := by simpa using h2
        obtain ⟨y, e1, rfl, _⟩ := mem_map_get h2'
        rw [e0] at e1; cases e1
        exact hv _ (by simp only [Op.operands, Array.mem_append]; exact .inr (by simpa using hm))
    all_goals exact h.elim
  case slice t x lo hi mx =>
    cases mx <;> simp only [quietA] at h
    case none =>
      obtain ⟨av, hk, hr⟩ := sliceA_sound h
      refine ⟨av, hk, fun E g o ho H hv hcst => (hr E (g x) (lo.map g) (hi.map g) H (hv x (by simp [Op.operands])) (fun a ha => ?_) (fun hn => by cases lo <;> simp_all) (fun a ha => ?_) (fun hn => by cases hi <;> simp_all)).lift (by simp [execOp, ho])⟩
      · cases lo with
        | none => cases ha
        | some l => cases ha; exact ⟨_, rfl, hv l (by simp [Op.operands])⟩
      · cases hi with
        | none => cases ha
        | some l => cases ha; exact ⟨_, rfl, hv l (by simp [Op.operands])⟩
    all_goals exact h.elim
  case fieldAddr s x i =>
    obtain ⟨av, hk, hr⟩ := fieldA_sound h
    exact ⟨av, hk, fun E g o ho H hv hcst => (hr E _ (hv x (by simp [Op.operands]))).lift (by simp [execOp, ho])⟩
  case field t x i =>
    obtain ⟨av, hk, hr⟩ := partA_sound h
    exact ⟨av, hk, fun E g o ho H hv hcst => (hr E _ (hv x (by simp [Op.operands]))).lift (by simp [execOp, ho])⟩
  case indexAddr t x ix =>
    obtain ⟨av, hk, hr⟩ := indexA_sound h
    exact ⟨av, hk, fun E g o ho H hv hcst => (hr E _ _ H (hv x (by simp [Op.operands])) (hv ix (by simp [Op.operands]))).lift (by simp [execOp, ho])⟩
  case index t x ix =>
    obtain ⟨av, hk, hr⟩ := indexS_sound h
    exact ⟨av, hk, fun E g o ho H hv hcst => (hr E _ _ (hv x (by simp [Op.operands])) (hv ix (by simp [Op.operands]))).lift (by simp [execOp, ho])⟩
  case extract x i =>
    split at h
    · rename_i l hx
      obtain ⟨hi, h⟩ := h
      refine ⟨_, h, fun E g o ho H hv hcst => ?_⟩
      have h1 := hv x (by simp [Op.operands]); rw [hx] at h1
      generalize hgc : g x = gc at h1
      cases h1 with
      | tup _ vs hl hc =>
        have hi' : i < vs.size := by omega
        exact ⟨vs[i], E.w, by simp [execOp, ho, hgc, Instr.extract, hi', Result.andThen], Same.refl _, hc i _ _ (List.getElem?_eq_getElem hi) (by simp [hi'])⟩
    · exact h.elim
  case call c =>
    split at h
    · rename_i b hb
      obtain ⟨av, hk, hr⟩ := quietB_sound h
      refine ⟨av, hk, fun E g o ho H hv hcst => ?_⟩
      obtain ⟨v, w', h1, h2, h3⟩ := hr E o.type (c.args.map fun | .const _ => true | _ => false) (c.args.toList.map g) (by simp) (fun i a u h1 h2 => by
        obtain ⟨x, e0, rfl, hm⟩ := mem_map_get h1
        obtain ⟨y, e1, rfl, _⟩ := mem_map_get h2
        rw [e0] at e1; cases e1
        exact hv _ (by simp only [Op.operands, Call.operands, Array.mem_append]; exact .inr (by simpa using hm))) E.w rfl
      refine ⟨v, w', ?_, h2, h3⟩
      have e1 : c.argTypes.toList.toArray = c.argTypes := by simp
      have e2 : (c.args.toList.map g).toArray = c.args.map g := by apply Array.ext'; simp
      rw [e1, e2] at h1
      simp only [execOp, ho, resolve, hb, Sem.run_bind, Sem.run_pure, Result.andThen_ok, invoke]
      exact h1
    · exact h.elim
  all_goals exact h.elim
end
end Go.Abs
