/- The abstract layer: parts A B C D E F G. -/
import Derived.Calls
import Derived.Orders
import Derived.WalkKit
import Derived.Lib.ItoaNum
import Derived.Laws.BytesArg
namespace Go.Abs
open Go
variable {P : Program}
def nanOf : FloatKind → Nat
  | .f32 => 2143289344
  | .f64 => 9221120237041090560
def canon (k : FloatKind) (b : Nat) : Nat := if (k.decode b).isNaN then nanOf k else b
inductive AV where
  | any
  | bool (b : Bool)
  | int (k : IntKind) (n : Int)
  | flt (k : FloatKind) (x : Nat)
  | cpx (k : FloatKind) (re im : Nat)
  | str (s : List UInt8)
  | agg (l : List AV)
  | tup (l : List AV)
  | nils
  | ro (l : List AV)
  | sl (b i n : Nat)
  | ptr (b i j : Nat)
  | rop (l : List AV)
  | nilp
  | fn (f : FuncId) (caps : List AV)
  | nilf
  | nili
  | mp (b : Nat)
  | rom (l : List AV)
  | mv (f : FuncId) (first : List AV)
  deriving Inhabited
def AV.cells : AV → List AV
  | .agg l => l
  | v => [v]
structure Env (P : Program) where
  w : World
  F : Nat → Prop
  N : Nat
  ρ : Nat → Nat
  wd : Nat → Nat
def Env.bare (E : Env P) : Env P := { E with N := 0 }
def csz (w : World) (c : Nat) : Nat :=
  match w.heap[c]? with
  | some (.cells cs _ _) => cs.size
  | _ => 0
def MapAt (o : Option Obj) (els : List AV) : Prop :=
  ∃ es : Array MapEntry, o = some (.map es es.size) ∧ es.size = els.length ∧
    ∀ (i : Nat) e m, els[i]? = some e → es[i]? = some m → ∃ n b, e = .agg [.int .i64 n, .bool b] ∧ m = { key := .int .i64 n, val := .bool b, born := i }
inductive RV : Env P → AV → Value → Prop
  | any {E : Env P} (v : Value) : RV E .any v
  | bool {E : Env P} (b : Bool) : RV E (.bool b) (.bool b)
  | int {E : Env P} (k : IntKind) (n : Int) : RV E (.int k n) (.int k n)
  | flt {E : Env P} (k : FloatKind) (x b : Nat) (h : canon k b = x) : RV E (.flt k x) (.float k b)
  | cpx {E : Env P} (k : FloatKind) (x y a b : Nat) (h : canon k a = x) (h' : canon k b = y) : RV E (.cpx k x y) (.complex k a b)
  | str {E : Env P} (s : List UInt8) : RV E (.str s) (.string ⟨s.toArray⟩)
  | agg {E : Env P} (l : List AV) (vs : Array Value) (hl : l.length = vs.size) (h : ∀ (i : Nat) a v, l[i]? = some a → vs[i]? = some v → RV E a v) : RV E (.agg l) (.agg vs)
  | tup {E : Env P} (l : List AV) (vs : Array Value) (hl : l.length = vs.size) (h : ∀ (i : Nat) a v, l[i]? = some a → vs[i]? = some v → RV E a v) : RV E (.tup l) (.tuple vs)
  | nils {E : Env P} (a : Option Addr) : RV E .nils (.slice a 0 0)
  | roNil {E : Env P} (a : Option Addr) (cap : Nat) : RV E (.ro []) (.slice a 0 cap)
  | ro {E : Env P} (l : List AV) (b off cap wd : Nat) (val : Nat → Nat → Value) (hF : E.F b) (hcap : l.length ≤ cap) (hmax : cap ≤ maxLen)
      (hw : ∀ (i : Nat) e, l[i]? = some e → e.cells.length = wd)
      (hc : ∀ (i : Nat) e, l[i]? = some e → ∀ (j : Nat) c, e.cells[j]? = some c → E.w.cell? ⟨b, off + i * wd + j, none⟩ = some (val i j))
      (hv : ∀ (i : Nat) e, l[i]? = some e → ∀ (j : Nat) c, e.cells[j]? = some c → RV E.bare c (val i j)) :
      RV E (.ro l) (.slice (some ⟨b, off, none⟩) l.length cap)
  | sl {E : Env P} (b i n off cap : Nat) (hb : b < E.N) (ho : 0 < cap → off = i * E.wd b) (hcap : n ≤ cap) (hmax : cap ≤ maxLen) (hroom : 0 < cap → (i + cap) * E.wd b ≤ csz E.w (E.ρ b)) (hw : 0 < E.wd b) : RV E (.sl b i n) (.slice (some ⟨E.ρ b, off, none⟩) n cap)
  | ptr {E : Env P} (b i j : Nat) (hb : b < E.N) (hw : 0 < E.wd b) : RV E (.ptr b i j) (.pointer (some ⟨E.ρ b, i * E.wd b + j, none⟩))
  | rop {E : Env P} (l : List AV) (b off : Nat) (val : Nat → Value) (hF : E.F b)
      (hc : ∀ (j : Nat) c, l[j]? = some c → E.w.cell? ⟨b, off + j, none⟩ = some (val j))
      (hv : ∀ (j : Nat) c, l[j]? = some c → RV E.bare c (val j)) : RV E (.rop l) (.pointer (some ⟨b, off, none⟩))
  | nilp {E : Env P} : RV E .nilp (.pointer none)
  | fn {E : Env P} (f : FuncId) (l : List AV) (vs : Array Value) (hl : l.length = vs.size) (h : ∀ (i : Nat) a v, l[i]? = some a → vs[i]? = some v → RV E a v) : RV E (.fn f l) (.func (.func f) #[] vs)
  | nilf {E : Env P} : RV E .nilf .nilFunc
  | nili {E : Env P} : RV E .nili .nilIface
  | mv {E : Env P} (f : FuncId) (l : List AV) (vs : Array Value) (hl : l.length = vs.size) (h : ∀ (i : Nat) a v, l[i]? = some a → vs[i]? = some v → RV E a v) : RV E (.mv f l) (.func (.func f) vs #[])
  | mp {E : Env P} (b : Nat) (hb : b < E.N) : RV E (.mp b) (.map (some (E.ρ b)))
  | romNil {E : Env P} : RV E (.rom []) (.map none)
  | rom {E : Env P} (l : List AV) (r : Nat) (hF : E.F r) (hm : MapAt E.w.heap[r]? l) : RV E (.rom l) (.map (some r))
structure Env.le (E E' : Env P) : Prop where
  F : ∀ c, E.F c → E'.F c
  cell : ∀ c, E.F c → E'.w.heap[c]? = E.w.heap[c]?
  N : E.N ≤ E'.N
  ρ : ∀ b, b < E.N → E'.ρ b = E.ρ b
  wd : ∀ b, b < E.N → E'.wd b = E.wd b
  csz : ∀ c, csz E.w c ≤ csz E'.w c
theorem Env.le.bare {E E' : Env P} (h : E.le E') : E.bare.le E'.bare :=
  ⟨h.F, h.cell, Nat.le_refl _, fun _ hb => absurd hb (Nat.not_lt_zero _), fun _ hb => absurd hb (Nat.not_lt_zero _), h.csz⟩
theorem Env.le.of_bare (E : Env P) : E.bare.le E :=
  ⟨fun _ h => h, fun _ _ => rfl, Nat.zero_le _, fun _ hb => absurd hb (Nat.not_lt_zero _), fun _ hb => absurd hb (Nat.not_lt_zero _), fun _ => Nat.le_refl _⟩
theorem cell_of_heap {w w' : World} {c : Nat} (h : w'.heap[c]? = w.heap[c]?) (o : Nat) : w'.cell? ⟨c, o, none⟩ = w.cell? ⟨c, o, none⟩ := by
  simp only [World.cell?, h]
theorem RV.mono {E : Env P} {a : AV} {v : Value} (h : RV E a v) : ∀ {E' : Env P}, E.le E' → RV E' a v := by
  induction h with
  | any v => intro E' _; exact .any v
  | bool b => intro E' _; exact .bool b
  | int k n => intro E' _; exact .int k n
  | flt k x b h => intro E' _; exact .flt k x b h
  | cpx k x y a b h h' => intro E' _; exact .cpx k x y a b h h'
  | str s => intro E' _; exact .str s
  | agg l vs hl h ih => intro E' le; exact .agg l vs hl fun i a v h1 h2 => ih i a v h1 h2 le
  | tup l vs hl h ih => intro E' le; exact .tup l vs hl fun i a v h1 h2 => ih i a v h1 h2 le
  | nils a => intro E' _; exact .nils a
  | roNil a cap => intro E' _; exact .roNil a cap
  | ro l b off cap wd val hF hcap hmax hw hc hv ih =>
    intro E' le
    refine .ro l b off cap wd val (le.F _ hF) hcap hmax hw (fun i e hi j c hj => ?_) (fun i e hi j c hj => ih i e hi j c hj le.bare)
    rw [cell_of_heap (le.cell _ hF)]; exact hc i e hi j c hj
  | @sl E b i n off cap hb ho hcap hmax hroom hw =>
    intro E' le
    rw [← le.ρ b hb]
    exact .sl b i n off cap (Nat.lt_of_lt_of_le hb le.N) (by rw [le.wd b hb]; exact ho) hcap hmax (fun h => by rw [le.wd b hb, le.ρ b hb]; exact Nat.le_trans (hroom h) (le.csz _)) (by rw [le.wd b hb]; exact hw)
  | @ptr E b i j hb hw =>
    intro E' le
    rw [← le.ρ b hb, ← le.wd b hb]
    exact .ptr b i j (Nat.lt_of_lt_of_le hb le.N) (by rw [le.wd b hb]; exact hw)
  | @mp E b hb =>
    intro E' le
    rw [← le.ρ b hb]
    exact .mp b (Nat.lt_of_lt_of_le hb le.N)
  | romNil => intro E' _; exact .romNil
  | rom l r hF hm =>
    intro E' le
    exact .rom l r (le.F _ hF) (by rw [le.cell _ hF]; exact hm)
  | rop l b off val hF hc hv ih =>
    intro E' le
    refine .rop l b off val (le.F _ hF) (fun j c hj => ?_) (fun j c hj => ih j c hj le.bare)
    rw [cell_of_heap (le.cell _ hF)]; exact hc j c hj
  | nilp => intro E' _; exact .nilp
  | fn f l vs hl h ih => intro E' le; exact .fn f l vs hl fun i a v h1 h2 => ih i a v h1 h2 le
  | mv f l vs hl h ih => intro E' le; exact .mv f l vs hl fun i a v h1 h2 => ih i a v h1 h2 le
  | nilf => intro E' _; exact .nilf
  | nili => intro E' _; exact .nili
structure Blk where
  ty : TypeId
  w : Nat
  els : List AV
  live : Bool := true
  deriving Inhabited
def OkFr (fr : Nat × Nat) (n : Nat) : Prop := fr.1 = fr.2 ∨ n ≤ fr.1
theorem OkFr.zero (n : Nat) : OkFr (0, 0) n := .inl rfl
theorem OkFr.no {fr : Nat × Nat} {n : Nat} (h : OkFr fr n) (i : Nat) (hi : i < n) : ¬ (fr.1 ≤ i ∧ i < fr.2) := by
  rcases h with h | h <;> omega
def Row (o : Option Obj) (cs : Array Value) (t : TypeId) : Prop := ∃ fr, o = some (.cells cs t fr) ∧ OkFr fr cs.size
theorem Row.mk {o : Option Obj} {cs : Array Value} {t : TypeId} (h : o = some (.cells cs t (0, 0))) : Row o cs t := ⟨_, h, OkFr.zero _⟩
theorem Row.lt {w : World} {c : Nat} {cs : Array Value} {t : TypeId} (h : Row w.heap[c]? cs t) : c < w.heap.size := by
  obtain ⟨fr, h, _⟩ := h
  exact (Array.getElem?_eq_some_iff.1 h).1
theorem Row.cell {w : World} {c : Nat} {cs : Array Value} {t : TypeId} (h : Row w.heap[c]? cs t) (o : Nat) : w.cell? ⟨c, o, none⟩ = cs[o]? := by
  obtain ⟨fr, h, _⟩ := h
  simp [World.cell?, h]
theorem row_csz {w : World} {c : Nat} {cs : Array Value} {t : TypeId} (h : Row w.heap[c]? cs t) : csz w c = cs.size := by
  obtain ⟨fr, h, _⟩ := h
  unfold csz
  rw [h]
theorem Row.shape {w : World} {c : Nat} {cs : Array Value} {t : TypeId} (h : Row w.heap[c]? cs t) : w.shape? c = some (t, cs.size) := by
  obtain ⟨fr, h, _⟩ := h
  simp [World.shape?, h]
theorem Row.frozen {w : World} {c : Nat} {cs : Array Value} {t : TypeId} (h : Row w.heap[c]? cs t) (o : Nat) (ho : o < cs.size) : w.frozen? ⟨c, o, none⟩ = false := by
  obtain ⟨fr, h, hf⟩ := h
  have := hf.no o ho
  simp only [World.frozen?, h]
  simpa using this
structure Holds (E : Env P) (blk : Blk) (c : Nat) : Prop where
  cells : 0 < blk.w → ∃ (cs : Array Value), Row E.w.heap[c]? cs blk.ty ∧
    ∀ (i : Nat) e, blk.els[i]? = some e → e.cells.length = blk.w ∧ ∀ (j : Nat) x, e.cells[j]? = some x → ∃ v, cs[i * blk.w + j]? = some v ∧ RV E x v
  map : blk.w = 0 → MapAt E.w.heap[c]? blk.els
theorem Holds.of {E : Env P} {blk : Blk} {c : Nat} (hw : 0 < blk.w) (h : ∃ (cs : Array Value), Row E.w.heap[c]? cs blk.ty ∧
    ∀ (i : Nat) e, blk.els[i]? = some e → e.cells.length = blk.w ∧ ∀ (j : Nat) x, e.cells[j]? = some x → ∃ v, cs[i * blk.w + j]? = some v ∧ RV E x v) : Holds E blk c :=
  ⟨fun _ => h, fun h0 => by omega⟩
theorem MapAt.lt {w : World} {c : Nat} {els : List AV} (h : MapAt w.heap[c]? els) : c < w.heap.size := by
  obtain ⟨es, h, _⟩ := h
  exact (Array.getElem?_eq_some_iff.1 h).1
theorem Holds.lt {E : Env P} {blk : Blk} {c : Nat} (h : Holds E blk c) : c < E.w.heap.size := by
  rcases Nat.eq_zero_or_pos blk.w with h0 | h0
  · exact (h.map h0).lt
  · obtain ⟨cs, h1, _⟩ := h.cells h0
    exact h1.lt
def Still (φ : AV → AV) : Prop := ∀ n b, φ (.agg [.int .i64 n, .bool b]) = .agg [.int .i64 n, .bool b]
theorem MapAt.map {o : Option Obj} {els : List AV} (h : MapAt o els) {φ : AV → AV} (hφ : Still φ) : MapAt o (els.map φ) := by
  obtain ⟨es, h1, h2, h3⟩ := h
  refine ⟨es, h1, by simpa using h2, fun i e m he hm => ?_⟩
  rw [List.getElem?_map] at he
  cases hq : els[i]? with
  | none => rw [hq] at he; cases he
  | some q =>
    rw [hq] at he
    obtain ⟨n, b, rfl, rfl⟩ := h3 i q m hq hm
    simp only [Option.map_some, Option.some.injEq, hφ n b] at he
    exact ⟨n, b, he.symm, rfl⟩
theorem Holds.turn {E E' : Env P} {blk : Blk} {c c' : Nat} (h : Holds E blk c) (hh : E'.w.heap[c']? = E.w.heap[c]?) {φ : AV → AV} (hφ : Still φ)
    (hr : ∀ e ∈ blk.els, (φ e).cells.length = e.cells.length ∧ ∀ (j : Nat) x, (φ e).cells[j]? = some x → ∃ x0, e.cells[j]? = some x0 ∧ ∀ u, RV E x0 u → RV E' x u) : Holds E' { blk with els := blk.els.map φ } c' := by
  refine ⟨fun h0 => ?_, fun h0 => ?_⟩
  · obtain ⟨cs, h1, h2⟩ := h.cells h0
    refine ⟨cs, by rw [hh]; exact h1, fun i e he => ?_⟩
    have he' : (blk.els.map φ)[i]? = some e := he
    rw [List.getElem?_map] at he'
    cases hq : blk.els[i]? with
    | none => rw [hq] at he'; cases he'
    | some q =>
      rw [hq] at he'
      simp only [Option.map_some, Option.some.injEq] at he'
      subst he'
      obtain ⟨h5, h6⟩ := h2 i q hq
      obtain ⟨h7, h8⟩ := hr q (List.mem_of_getElem? hq)
      refine ⟨h7.trans h5, fun j x hx => ?_⟩
      obtain ⟨x0, g1, g2⟩ := h8 j x hx
      obtain ⟨v, g3, g4⟩ := h6 j x0 g1
      exact ⟨v, g3, g2 v g4⟩
  · show MapAt E'.w.heap[c']? (blk.els.map φ)
    rw [hh]
    exact (h.map h0).map hφ
theorem Holds.keep {E E' : Env P} {blk : Blk} {c c' : Nat} (h : Holds E blk c) (hh : E'.w.heap[c']? = E.w.heap[c]?) (hr : ∀ x u, RV E x u → RV E' x u) : Holds E' blk c' := by
  have := h.turn (E' := E') (c' := c') hh (φ := fun e => e) (fun _ _ => rfl) (fun e _ => ⟨rfl, fun j x hx => ⟨x, hx, fun u hu => hr x u hu⟩⟩)
  simpa using this
theorem Holds.keepE {E E' : Env P} {blk : Blk} {c c' : Nat} (h : Holds E blk c) (hh : E'.w.heap[c']? = E.w.heap[c]?) (hr : ∀ e ∈ blk.els, ∀ (j : Nat) x, e.cells[j]? = some x → ∀ u, RV E x u → RV E' x u) : Holds E' blk c' := by
  have := h.turn (E' := E') (c' := c') hh (φ := fun e => e) (fun _ _ => rfl) (fun e he => ⟨rfl, fun j x hx => ⟨x, hx, fun u hu => hr e he j x hx u hu⟩⟩)
  simpa using this
def bits64 : List Int := [0, 1, 56, 2, 57, 49, 28, 3, 61, 58, 42, 50, 38, 29, 17, 4, 62, 47, 59, 36, 45, 43, 51, 22, 53, 39, 33, 30, 24, 18, 12, 5, 63, 55, 48, 27, 60, 41, 37, 16, 46, 35, 44, 21, 52, 32, 23, 11, 54, 26, 40, 15, 34, 20, 31, 10, 25, 14, 19, 9, 13, 8, 7, 6]
def tables : List (String × IntKind × List Int) := [("internal/strconv.uint64pow10", .u64, Lib.pow10Tab), ("math/bits.deBruijn64tab", .u8, bits64)]
def errs : List String := ["strconv.ErrSyntax", "strconv.ErrRange"]
def isErr (v : Value) : Prop := v = .nilIface ∨ ∃ te pe, v = .iface te pe
def intVars : List String := ["internal/bytealg.MaxLen"]
def Laid (P : Program) (w : World) (F : Nat → Prop) : Prop :=
  (∀ t ∈ tables, ∀ g, P.globalNamed t.1 = some g → F g ∧ ∃ ty fr, w.heap[g]? = some (.cells (t.2.2.map fun z => Value.int t.2.1 z).toArray ty fr)) ∧
  (∀ n ∈ errs, ∀ g, P.globalNamed n = some g → F g ∧ ∃ v ty fr, w.heap[g]? = some (.cells #[v] ty fr) ∧ isErr v) ∧
  ∀ n ∈ intVars, ∀ g, P.globalNamed n = some g → F g ∧ ∃ m cs ty fr, w.heap[g]? = some (.cells cs ty fr) ∧ cs[0]? = some (.int .i64 m)
theorem Laid.keep {w w' : World} {F F' : Nat → Prop} (h : Laid P w F) (hF : ∀ c, F c → F' c) (hc : ∀ c, F c → w'.heap[c]? = w.heap[c]?) : Laid P w' F' := by
  refine ⟨fun t ht g hg => ?_, fun n hn g hg => ?_, fun n hn g hg => ?_⟩
  · obtain ⟨h1, ty, fr, h2⟩ := h.1 t ht g hg
    exact ⟨hF _ h1, ty, fr, by rw [hc _ h1]; exact h2⟩
  · obtain ⟨h1, v, ty, fr, h2, h3⟩ := h.2.1 n hn g hg
    exact ⟨hF _ h1, v, ty, fr, by rw [hc _ h1]; exact h2, h3⟩
  · obtain ⟨h1, m, cs, ty, fr, h2, h3⟩ := h.2.2 n hn g hg
    exact ⟨hF _ h1, m, cs, ty, fr, by rw [hc _ h1]; exact h2, h3⟩
structure HRel (E : Env P) (hp : List Blk) : Prop where
  N : E.N = hp.length
  wd : ∀ (b : Nat) blk, hp[b]? = some blk → E.wd b = blk.w
  holds : ∀ (b : Nat) blk, hp[b]? = some blk → blk.live = true → Holds E blk (E.ρ b)
  inj : ∀ (b b' : Nat) blk blk', hp[b]? = some blk → blk.live = true → hp[b']? = some blk' → blk'.live = true → E.ρ b = E.ρ b' → b = b'
  apart : ∀ (b : Nat) blk, hp[b]? = some blk → blk.live = true → ¬ E.F (E.ρ b)
  old : ∀ c, E.F c → c < E.w.heap.size
  laid : Laid P E.w E.F
theorem HRel.laidLe {E E' : Env P} {hp : List Blk} (H : HRel E hp) (le : E.le E') : Laid P E'.w E'.F := H.laid.keep le.F le.cell
def Live (hp : List Blk) (b : Nat) : Prop := ∃ blk, hp[b]? = some blk ∧ blk.live = true
def Place (E : Env P) (hp : List Blk) (c : Nat) : Prop := E.w.heap.size ≤ c ∨ ∃ b, Live hp b ∧ E.ρ b = c
structure Fr (E : Env P) (hp : List Blk) (E' : Env P) (hp' : List Blk) : Prop where
  size : E.w.heap.size ≤ E'.w.heap.size
  os : E'.w.os = E.w.os
  tape : E'.w.tape = E.w.tape
  output : E'.w.output = E.w.output
  block : ∀ c, c < E.w.heap.size → (∀ b, Live hp b → E.ρ b ≠ c) → E'.w.heap[c]? = E.w.heap[c]?
  len : hp.length ≤ hp'.length
  ρ : ∀ b, b < hp.length → E'.ρ b = E.ρ b
  wd : ∀ b, b < hp.length → E'.wd b = E.wd b
  F : ∀ c, E.F c → E'.F c
  F' : ∀ c, E'.F c → E.F c ∨ E.w.heap.size ≤ c ∨ ∃ b, Live hp b ∧ E.ρ b = c
  live : ∀ b, Live hp' b → (b < hp.length ∧ Live hp b) ∨ (hp.length ≤ b ∧ Place E hp (E'.ρ b))
  csz : ∀ c, csz E.w c ≤ csz E'.w c
theorem Fr.refl (E : Env P) (hp : List Blk) : Fr E hp E hp where
  size := Nat.le_refl _
  os := rfl
  tape := rfl
  output := rfl
  block := fun _ _ _ => rfl
  len := Nat.le_refl _
  ρ := fun _ _ => rfl
  wd := fun _ _ => rfl
  F := fun _ h => h
  F' := fun _ h => .inl h
  live := fun b h => .inl ⟨by obtain ⟨blk, h1, _⟩ := h; exact (List.getElem?_eq_some_iff.1 h1).1, h⟩
  csz := fun _ => Nat.le_refl _
theorem Fr.trans {E E' E'' : Env P} {hp hp' hp'' : List Blk} (h : Fr E hp E' hp') (g : Fr E' hp' E'' hp'') : Fr E hp E'' hp'' where
  size := Nat.le_trans h.size g.size
  os := g.os.trans h.os
  tape := g.tape.trans h.tape
  output := g.output.trans h.output
  block := fun c hc hn => (g.block c (Nat.lt_of_lt_of_le hc h.size) fun b hb he => by
    rcases h.live b hb with ⟨hlt, hl⟩ | ⟨_, hl⟩
    · exact hn b hl (by rw [← h.ρ b hlt]; exact he)
    · rcases hl with hl | ⟨b0, h0, e0⟩
      · omega
      · exact hn b0 h0 (e0.trans he)).trans (h.block c hc hn)
  len := Nat.le_trans h.len g.len
  ρ := fun b hb => (g.ρ b (Nat.lt_of_lt_of_le hb h.len)).trans (h.ρ b hb)
  wd := fun b hb => (g.wd b (Nat.lt_of_lt_of_le hb h.len)).trans (h.wd b hb)
  F := fun c hc => g.F c (h.F c hc)
  F' := fun c hc => by
    rcases g.F' c hc with h1 | h1 | ⟨b, hb, he⟩
    · exact h.F' c h1
    · exact .inr (.inl (Nat.le_trans h.size h1))
    · rcases h.live b hb with ⟨hlt, hl⟩ | ⟨_, hl⟩
      · exact .inr (.inr ⟨b, hl, by rw [← h.ρ b hlt]; exact he⟩)
      · exact .inr (he ▸ hl)
  live := fun b hb => by
    rcases g.live b hb with ⟨hlt, hl⟩ | ⟨hge, hl⟩
    · rcases h.live b hl with h1 | ⟨h1, h2⟩
      · exact .inl h1
      · exact .inr ⟨h1, by rw [g.ρ b hlt]; exact h2⟩
    · rcases hl with hl | ⟨b0, h0, e0⟩
      · exact .inr ⟨Nat.le_trans h.len hge, .inl (Nat.le_trans h.size hl)⟩
      · rcases h.live b0 h0 with ⟨lt, l⟩ | ⟨_, pl⟩
        · exact .inr ⟨Nat.le_trans h.len hge, .inr ⟨b0, l, by rw [← h.ρ b0 lt]; exact e0⟩⟩
        · exact .inr ⟨Nat.le_trans h.len hge, e0 ▸ pl⟩
  csz := fun c => Nat.le_trans (h.csz c) (g.csz c)
theorem Fr.kept {E E' : Env P} {hp hp' : List Blk} (h : Fr E hp E' hp') (H : HRel E hp) {c : Nat} (hc : E.F c) : E'.w.heap[c]? = E.w.heap[c]? :=
  h.block c (H.old c hc) fun b ⟨blk, hb, hl⟩ he => H.apart b blk hb hl (he ▸ hc)
theorem Fr.le {E E' : Env P} {hp hp' : List Blk} (h : Fr E hp E' hp') (H : HRel E hp) (H' : HRel E' hp') : E.le E' where
  F := h.F
  cell := fun _ hc => h.kept H hc
  N := by rw [H.N, H'.N]; exact h.len
  ρ := fun b hb => h.ρ b (by rw [← H.N]; exact hb)
  wd := fun b hb => h.wd b (by rw [← H.N]; exact hb)
  csz := h.csz
end Go.Abs
namespace Go.Abs
open Go
variable {P : Program}
def ofL : Value → AV
  | .bool b => .bool b
  | .int k n => .int k n
  | .float k b => .flt k (canon k b)
  | .complex k a b => .cpx k (canon k a) (canon k b)
  | .string s => .str s.data.toList
  | .pointer none => .nilp
  | .slice none 0 0 => .nils
  | .nilFunc => .nilf
  | .nilIface => .nili
  | .map none => .rom []
  | _ => .any
def ofV : Value → AV
  | .agg cs => .agg (cs.toList.map ofL)
  | v => ofL v
def AV.one : AV → Bool
  | .any | .agg _ | .tup _ => false
  | _ => true
def AV.solid : AV → Bool
  | .agg l => l.all AV.one
  | v => v.one
def killL (b : Nat) : AV → AV
  | .sl b' i n => if b' = b then .any else .sl b' i n
  | .ptr b' i j => if b' = b then .any else .ptr b' i j
  | .mp b' => if b' = b then .any else .mp b'
  | .agg _ | .tup _ | .fn _ _ | .mv _ _ => .any
  | v => v
def killM (b : Nat) : AV → AV
  | .agg l => .agg (l.map (killL b))
  | .fn f l => .fn f (l.map (killL b))
  | .mv f l => .mv f (l.map (killL b))
  | v => killL b v
def kill (b : Nat) : AV → AV
  | .tup l => .tup (l.map (killM b))
  | v => killM b v
def killO : Option Nat → AV → AV
  | none, a => a
  | some b, a => kill b a
def AV.isBool : AV → Option Bool
  | .bool b => some b
  | _ => none
def pickV (c : Bool) : AV → AV → AV
  | .bool x, .bool y => .bool (bif c then x else y)
  | a, b => bif c then a else b
def brk (b : Bool) (x y : Prop) : Prop := (b = true → x) ∧ (b = false → y)
section
variable (P : Program)
def loadC (t : TypeId) (cs : List AV) (j : Nat) (k : AV → Prop) : Prop :=
  match P.underlying t with
  | some (.struct _) | some (.array _ _) => j + P.cellsOf t ≤ cs.length ∧ k (.agg ((cs.drop j).take (P.cellsOf t)))
  | some _ => ∃ h : j < cs.length, k cs[j]
  | none => False
def byts (l : List UInt8) : List AV := l.map fun c => .int .u8 (c.toNat : Int)
def readSl (hp : List Blk) : AV → (List AV → Prop) → Prop
  | .nils, k => k []
  | .ro l, k => k l
  | .sl b i n, k => match hp[b]? with
    | some blk => blk.live = true ∧ i + n ≤ blk.els.length ∧ k ((blk.els.drop i).take n)
    | none => False
  | .str s, k => k (byts s)
  | _, _ => False
def intBin (op : BinOp) (kd : IntKind) (a b : Int) (k : AV → Prop) : Prop :=
  match op with
  | .add => k (.int kd (kd.wrap (a + b)))
  | .sub => k (.int kd (kd.wrap (a - b)))
  | .mul => k (.int kd (kd.wrap (a * b)))
  | .quo => b ≠ 0 ∧ k (.int kd (kd.wrap (a.tdiv b)))
  | .rem => b ≠ 0 ∧ k (.int kd (a.tmod b))
  | .and => k (.int kd (kd.wrap (BitVec.ofInt kd.bits a &&& BitVec.ofInt kd.bits b).toNat))
  | .or => k (.int kd (kd.wrap (BitVec.ofInt kd.bits a ||| BitVec.ofInt kd.bits b).toNat))
  | .xor => k (.int kd (kd.wrap (BitVec.ofInt kd.bits a ^^^ BitVec.ofInt kd.bits b).toNat))
  | .andNot => k (.int kd (kd.wrap (BitVec.ofInt kd.bits a &&& ~~~ BitVec.ofInt kd.bits b).toNat))
  | .eql => k (.bool (a == b))
  | .neq => k (.bool (a != b))
  | .lss => k (.bool (a < b))
  | .leq => k (.bool (a ≤ b))
  | .gtr => k (.bool (a > b))
  | .geq => k (.bool (a ≥ b))
  | _ => False
def fnum (k : FloatKind) : Option Nat → Nat
  | some r => canon k r
  | none => nanOf k
def fadd (k : FloatKind) (x y : Nat) : Nat := fnum k (k.format.add x y)
def fsub (k : FloatKind) (x y : Nat) : Nat := fnum k (k.format.sub x y)
def fmul (k : FloatKind) (x y : Nat) : Nat := fnum k (k.format.mul x y)
def fdiv (k : FloatKind) (x y : Nat) : Nat := fnum k (k.format.div x y)
def feq (k : FloatKind) (x y : Nat) : Bool := k.format.order x y == some .eq
def flt (k : FloatKind) (x y : Nat) : Bool := k.format.order x y == some .lt
def fle (k : FloatKind) (x y : Nat) : Bool := k.format.order x y == some .lt || k.format.order x y == some .eq
def fgt (k : FloatKind) (x y : Nat) : Bool := k.format.order x y == some .gt
def fge (k : FloatKind) (x y : Nat) : Bool := k.format.order x y == some .gt || k.format.order x y == some .eq
def fneg (k : FloatKind) (x : Nat) : Nat := canon k (Op.negFloat k x)
def fltBin (op : BinOp) (kd : FloatKind) (a b : Nat) (k : AV → Prop) : Prop :=
  match op with
  | .add => k (.flt kd (fadd kd a b))
  | .sub => k (.flt kd (fsub kd a b))
  | .mul => k (.flt kd (fmul kd a b))
  | .quo => k (.flt kd (fdiv kd a b))
  | .eql => k (.bool (feq kd a b))
  | .neq => k (.bool (!feq kd a b))
  | .lss => k (.bool (flt kd a b))
  | .leq => k (.bool (fle kd a b))
  | .gtr => k (.bool (fgt kd a b))
  | .geq => k (.bool (fge kd a b))
  | _ => False
def strBin (op : BinOp) (a b : List UInt8) (k : AV → Prop) : Prop :=
  match op with
  | .add => a.length + b.length ≤ 9223372036854775807 ∧ k (.str (a ++ b))
  | .eql => k (.bool (a == b))
  | .neq => k (.bool (!(a == b)))
  | _ => False
def cpxBin (op : BinOp) (kd : FloatKind) (a b c d : Nat) (k : AV → Prop) : Prop :=
  match op with
  | .add => k (.cpx kd (fadd kd a c) (fadd kd b d))
  | .sub => k (.cpx kd (fsub kd a c) (fsub kd b d))
  | .eql => k (.bool (feq kd a c && feq kd b d))
  | .neq => k (.bool (!(feq kd a c && feq kd b d)))
  | _ => False
def binA (op : BinOp) (t : TypeId) (x y : AV) (k : AV → Prop) : Prop :=
  match op, x, y with
  | .shl, .int kd a, .int _ b => 0 ≤ b ∧ k (.int kd (kd.wrap (a * 2 ^ (min b.toNat kd.bits))))
  | .shr, .int kd a, .int _ b => 0 ≤ b ∧ k (.int kd (a.fdiv (2 ^ (min b.toNat kd.bits))))
  | op, .int kd a, .int kd' b => kd = kd' ∧ intBin op kd a b k
  | op, .flt kd a, .flt kd' b => kd = kd' ∧ fltBin op kd a b k
  | op, .cpx kd a b, .cpx kd' c d => kd = kd' ∧ cpxBin op kd a b c d k
  | op, .str a, .str b => strBin op a b k
  | .eql, .bool a, .bool b => P.underlying t = some .bool ∧ k (.bool (a == b))
  | .neq, .bool a, .bool b => P.underlying t = some .bool ∧ k (.bool (!(a == b)))
  | _, _, _ => False
def unA (op : UnOp) (x : AV) (k : AV → Prop) : Prop :=
  match op, x with
  | .not, .bool b => k (.bool (!b))
  | .neg, .int kd n => k (.int kd (kd.wrap (0 - n)))
  | .neg, .flt kd b => k (.flt kd (fneg kd b))
  | .neg, .cpx kd a b => k (.cpx kd (fneg kd a) (fneg kd b))
  | _, _ => False
def fconv (dst : FloatKind) (s : FloatKind) (x : Nat) : Nat :=
  if s = dst then x else
  match s.decode x with
  | .nan _ _ => nanOf dst
  | .infinity n => canon dst (dst.encode (.infinity n))
  | .number n m e => canon dst (dst.encode (.number n m e))
def fconvOk (dst : FloatKind) (s : FloatKind) (x : Nat) : Prop :=
  s = dst ∨ match s.decode x with
  | .number n m e => (dst.decode (dst.encode (.number n m e))).isInfinity = false
  | _ => True
def convA (dst : TypeId) (x : AV) (k : AV → Prop) : Prop :=
  match P.underlying dst, x with
  | some (.int kd), .int _ n => k (.int kd (kd.wrap n))
  | some (.float kd), .int _ n => k (.flt kd (canon kd (kd.nearest n)))
  | some (.float kd), .flt s b => fconvOk kd s b ∧ k (.flt kd (fconv kd s b))
  | some (.int kd), .flt s b => ∃ n, (s.decode b).toInt .zero = some n ∧ kd.min ≤ n ∧ n ≤ kd.max ∧ k (.int kd n)
  | some .string, .str s => k (.str s)
  | _, _ => False
def convB (src dst : TypeId) (hp : List Blk) (x : AV) (k : AV → Prop) : Prop :=
  match P.underlying dst, x with
  | some .string, .sl b i n => (∃ e, P.underlying src = some (.slice e) ∧ P.underlying e = some (.int .u8)) ∧ (match hp[b]? with
    | some blk => blk.live = true ∧ blk.w = 1 ∧ ∃ l : List UInt8, (blk.els.drop i).take n = byts l ∧ l.length = n ∧ k (.str l)
    | none => False)
  | some .string, .nils => (∃ e, P.underlying src = some (.slice e) ∧ P.underlying e = some (.int .u8)) ∧ k (.str [])
  | some .string, .ro s => (∃ e, P.underlying src = some (.slice e) ∧ P.underlying e = some (.int .u8)) ∧ ∃ l : List UInt8, s = byts l ∧ k (.str l)
  | _, _ => (∃ d, P.underlying src = some d) ∧ convA P dst x k
def convO (src dst : TypeId) (hp : List Blk) (x : AV) (k : AV → List Blk → Option Nat → Prop) : Prop :=
  match P.underlying dst, x with
  | some (.slice e), .str s => P.underlying e = some (.int .u8) ∧ P.underlying src = some .string ∧ P.cellsOf e = 1 ∧ s.length ≤ 70368744177664 ∧
      k (.sl hp.length 0 s.length) (hp ++ [{ ty := e, w := 1, els := byts s }]) none
  | some (.slice e), .sl b i n => P.underlying e = some (.int .u8) ∧ P.underlying src = some (.slice e) ∧ src = dst ∧ (hp[b]?).map (·.live) = some true ∧ k (.sl b i n) hp none
  | _, _ => convB P src dst hp x fun v => k v hp none
def boundA (x : Option AV) (d : Int) (k : Int → Prop) : Prop :=
  match x with
  | none => k d
  | some (.int _ n) => k n
  | some _ => False
def sliceA (t : TypeId) (hp : List Blk) (x : AV) (lo hi : Option AV) (k : AV → Prop) : Prop :=
  match P.underlying t, x with
  | some .string, .str s => boundA lo 0 fun l => boundA hi s.length fun h => 0 ≤ l ∧ l ≤ h ∧ h ≤ s.length ∧ k (.str ((s.take h.toNat).drop l.toNat))
  | some (.slice e), .nils => boundA lo 0 fun l => boundA hi 0 fun h => 0 ≤ l ∧ l ≤ h ∧ h ≤ 0 ∧ 0 < P.cellsOf e ∧ k .nils
  | some (.slice e), .ro s => boundA lo 0 fun l => boundA hi s.length fun h => 0 ≤ l ∧ l ≤ h ∧ h ≤ s.length ∧ 0 < P.cellsOf e ∧ (∀ a ∈ s, a.cells.length = P.cellsOf e) ∧ k (.ro ((s.take h.toNat).drop l.toNat))
  | some (.slice e), .sl b i n => boundA lo 0 fun l => boundA hi n fun h => 0 ≤ l ∧ l ≤ h ∧ h ≤ n ∧ 0 < P.cellsOf e ∧ (hp[b]?).map (·.w) = some (P.cellsOf e) ∧ k (.sl b (i + l.toNat) (h.toNat - l.toNat))
  | some (.array m e), .ptr b i j => boundA lo 0 fun l => boundA hi m fun h => 0 ≤ l ∧ l ≤ h ∧ h ≤ m ∧ P.cellsOf e = 1 ∧ j = 0 ∧ m ≤ maxLen ∧ (∃ blk, hp[b]? = some blk ∧ blk.live = true ∧ blk.w = 1 ∧ i + m ≤ blk.els.length) ∧ k (.sl b (i + l.toNat) (h.toNat - l.toNat))
  | _, _ => False
def fieldOf (s : TypeId) (f : Nat) : Option Field :=
  match P.underlying s with
  | some (.struct fs) => fs[f]?
  | _ => none
def zeroOf (t : TypeId) : AV :=
  match (P.info? t).bind (·.zero) with
  | some z => ofV z
  | none => .any
def placeA (cs : List AV) (off : Nat) (v : List AV) : List AV := cs.take off ++ v ++ cs.drop (off + v.length)
def buildA (s : TypeId) (parts : List (Nat × AV)) (cs : List AV) (k : AV → Prop) : Prop :=
  match parts with
  | [] => k (.agg cs)
  | (i, v) :: rest => match fieldOf P s i with
    | some f => v.solid = true ∧ v.cells.length = P.cellsOf f.type ∧ f.offset + v.cells.length ≤ cs.length ∧ buildA s rest (placeA cs f.offset v.cells) k
    | none => False
def setAll (n : Nat) (w : Nat) (parts : List (Nat × AV)) (els : List AV) (k : List AV → Prop) : Prop :=
  match parts with
  | [] => k els
  | (i, v) :: rest => i < n ∧ v.solid = true ∧ v.cells.length = w ∧ setAll n w rest (els.set i v) k
def fits (n bytes : Nat) : Prop := n * bytes ≤ 70368744177664 ∧ 0 < bytes ∧ bytes ≤ 1048576
def AllW (w : Nat) (l : List AV) : Prop := ∀ a ∈ l, a.solid = true ∧ a.cells.length = w
def appendA (n0 : Nat) (t : TypeId) (hp : List Blk) (s x : AV) (k : AV → List Blk → Option Nat → Prop) : Prop :=
  match P.underlying t with
  | some (.slice e) => (zeroOf P e).solid = true ∧ (zeroOf P e).cells.length = P.cellsOf e ∧
    match s with
    | .nils => readSl hp x fun ys => AllW (P.cellsOf e) ys ∧ 0 < P.cellsOf e ∧ fits ys.length (P.bytesOf e) ∧
        brk ys.isEmpty (k .nils hp none) (k (.sl hp.length 0 ys.length) (hp ++ [{ ty := e, w := P.cellsOf e, els := ys }]) none)
    | .sl b i n => match hp[b]? with
      | some blk => n0 ≤ b ∧ blk.live = true ∧ blk.ty = e ∧ i = 0 ∧ n = blk.els.length ∧ blk.w = P.cellsOf e ∧ 0 < P.cellsOf e ∧
          readSl hp x fun ys => AllW (P.cellsOf e) ys ∧ fits (n + ys.length) (P.bytesOf e) ∧
            k (.sl b 0 (n + ys.length)) ((hp.set b { blk with els := blk.els ++ ys }).map fun q => { q with els := q.els.map (kill b) }) (some b)
      | none => False
    | _ => False
  | _ => False
def isGo (f : FuncId) : Prop :=
  match P.funcs[f]? with
  | some fn => fn.body.isNone = false ∧ (fn.name == "runtime.NumGoroutine") = false
  | none => False
def Gets (f : FuncId) (args : Array Value) (w : World) (R : Value → World → Prop) : Prop :=
  (isGo P f ∧ Calls P f args w fun e w' => ∃ v, e = .returned v ∧ R v w') ∨ (∃ v w', (callFunc f args).run P w = .ok (.value v) w' ∧ R v w')
def CallA (f : FuncId) (args : List AV) (hp : List Blk) (Q : AV → List Blk → Prop) : Prop :=
  ∀ (E : Env P) (vs : List Value), HRel E hp → vs.length = args.length → (∀ (i : Nat) a v, args[i]? = some a → vs[i]? = some v → RV E a v) →
    Gets P f vs.toArray E.w fun v w' => ∃ r hp' E', E'.w = w' ∧ Q r hp' ∧ RV E' r v ∧ HRel E' hp' ∧ Fr E hp E' hp'
def newEl (w : Nat) (e : AV) (j : Nat) (v : AV) : AV := if v.cells.length = w then v else .agg (placeA e.cells j v.cells)
def storeA (t : TypeId) (hp : List Blk) (a x : AV) (k : List Blk → Prop) : Prop :=
  match a with
  | .ptr b i j => match hp[b]? with
    | some blk => blk.live = true ∧ x.solid = true ∧ 0 < P.cellsOf t ∧ x.cells.length = P.cellsOf t ∧ j + x.cells.length ≤ blk.w ∧
        ∃ h : i < blk.els.length, k (hp.set b { blk with els := blk.els.set i (newEl blk.w blk.els[i] j x) })
    | none => False
  | _ => False
def loadA (t : TypeId) (hp : List Blk) (a : AV) (k : AV → Prop) : Prop :=
  match a with
  | .rop l => loadC P t l 0 k
  | .ptr b i j => match hp[b]? with
    | some blk => blk.live = true ∧ ∃ h : i < blk.els.length, loadC P t blk.els[i].cells j k
    | none => False
  | _ => False
def flatP (hp : List Blk) (b i j : Nat) : AV :=
  match hp[b]? with
  | some q => match q.w with
    | 1 => .ptr b (i + j) 0
    | _ => .ptr b i j
  | none => .ptr b i j
def indexA (t : TypeId) (hp : List Blk) (x ix : AV) (k : AV → Prop) : Prop :=
  match P.underlying t, ix with
  | some (.slice e), .int _ n =>
    match x with
    | .ro l => 0 ≤ n ∧ 0 < P.cellsOf e ∧ ∃ h : n.toNat < l.length, l[n.toNat].cells.length = P.cellsOf e ∧ k (.rop l[n.toNat].cells)
    | .sl b i len => 0 ≤ n ∧ n < len ∧ 0 < P.cellsOf e ∧ (hp[b]?).map (·.w) = some (P.cellsOf e) ∧ k (.ptr b (i + n.toNat) 0)
    | _ => False
  | some (.array len e), .int _ n =>
    match x with
    | .ptr b i j => 0 ≤ n ∧ n < len ∧ 0 < P.cellsOf e ∧ k (flatP hp b i (j + n.toNat * P.cellsOf e))
    | .rop l => 0 ≤ n ∧ n < len ∧ 0 < P.cellsOf e ∧ k (.rop (l.drop (n.toNat * P.cellsOf e)))
    | _ => False
  | _, _ => False
def indexS (t : TypeId) (x ix : AV) (k : AV → Prop) : Prop :=
  match P.underlying t, x, ix with
  | some .string, .str s, .int _ n => 0 ≤ n ∧ ∃ h : n.toNat < s.length, k (.int .u8 (s[n.toNat]).toNat)
  | _, _, _ => False
def fieldA (s : TypeId) (x : AV) (i : Nat) (k : AV → Prop) : Prop :=
  match fieldOf P s i with
  | some fd => 0 < P.cellsOf fd.type ∧ match x with
    | .rop l => k (.rop (l.drop fd.offset))
    | .ptr b i' j => k (.ptr b i' (j + fd.offset))
    | _ => False
  | none => False
def partA (s : TypeId) (x : AV) (i : Nat) (k : AV → Prop) : Prop :=
  match fieldOf P s i, x with
  | some fd, .agg l => loadC P fd.type l fd.offset k
  | _, _ => False
def lenA (t : TypeId) (x : AV) (k : AV → Prop) : Prop :=
  match P.underlying t, x with
  | some .string, .str s => k (.int .i64 s.length)
  | some (.slice _), .nils => k (.int .i64 (0 : Nat))
  | some (.slice _), .ro l => k (.int .i64 l.length)
  | some (.slice _), .sl _ _ n => k (.int .i64 n)
  | _, _ => False
def fmax (k : FloatKind) (x y : Nat) : Nat := match k.format.order x y with
  | some .lt => y
  | some .gt => x
  | some .eq => if (k.decode x).neg then y else x
  | none => x
def fmin (k : FloatKind) (x y : Nat) : Nat := match k.format.order x y with
  | some .lt => x
  | some .gt => y
  | some .eq => if (k.decode x).neg then x else y
  | none => x
def minA : AV → List AV → (AV → Prop) → Prop
  | x, [], k => k x
  | .int kd a, .int kd' b :: r, k => kd = kd' ∧ minA (.int kd (if b < a then b else a)) r k
  | .flt kd a, .flt kd' b :: r, k => kd = kd' ∧ (kd.format.order a b).isSome = true ∧ minA (.flt kd (fmin kd a b)) r k
  | _, _, _ => False
def maxA : AV → List AV → (AV → Prop) → Prop
  | x, [], k => k x
  | .int kd a, .int kd' b :: r, k => kd = kd' ∧ maxA (.int kd (if b > a then b else a)) r k
  | .flt kd a, .flt kd' b :: r, k => kd = kd' ∧ (kd.format.order a b).isSome = true ∧ maxA (.flt kd (fmax kd a b)) r k
  | _, _, _ => False
def quietB (b : Builtin) (ts : List TypeId) (xs : List AV) (k : AV → Prop) : Prop :=
  match b, ts, xs with
  | .len, [t], [x] => lenA P t x k
  | .min, _, x :: r => minA x r k
  | .max, _, x :: r => maxA x r k
  | .real, _, [.cpx kd a _] => k (.flt kd a)
  | .imag, _, [.cpx kd _ b] => k (.flt kd b)
  | .complex, _, [.flt kd a, .flt kd' b] => kd = kd' ∧ k (.cpx kd a b)
  | .cap, [t], [.nils] => (match P.underlying t with
    | some (.slice _) => k (.int .i64 0)
    | _ => False)
  | _, _, _ => False
def nilC (op : BinOp) (y : Operand) : Bool :=
  match op, y with
  | .eql, .const (.slice none 0 0) => true
  | _, _ => false
def nilA (t : TypeId) (x : AV) (k : AV → Prop) : Prop :=
  match P.underlying t, x with
  | some (.slice _), .ro (_ :: _) => k (.bool false)
  | some (.slice _), .sl _ _ _ => k (.bool false)
  | _, _ => False
def nilI (op : BinOp) (y : Operand) : Option Bool :=
  match op, y with
  | .eql, .const .nilIface => some true
  | .neq, .const .nilIface => some false
  | _, _ => none
def ifaA (t : TypeId) (x : AV) (b : Bool) (k : AV → Prop) : Prop :=
  match P.underlying t, x with
  | some (.interface _), .nili => k (.bool b)
  | _, _ => False
def lookE (n : Int) : List AV → Bool
  | .agg [.int _ a, .bool b] :: l => if n == a then b else lookE n l
  | _ => false
def updE (n : Int) (x : Bool) : List AV → List AV
  | .agg [.int kd a, .bool b] :: l => if n == a then .agg [.int kd a, .bool x] :: l else .agg [.int kd a, .bool b] :: updE n x l
  | _ => [.agg [.int .i64 n, .bool x]]
def findE (n : Int) : List AV → Nat
  | .agg [.int _ a, .bool _] :: l => if n == a then 0 else findE n l + 1
  | _ => 0
def mapTy (t : TypeId) : Prop :=
  match P.underlying t with
  | some (.map kt et) => P.underlying kt = some (.int .i64) ∧ P.underlying et = some .bool ∧ zeroOf P et = .bool false
  | _ => False
def lookA (t : TypeId) (hp : List Blk) (x ix : AV) (k : AV → Prop) : Prop :=
  match x, ix with
  | .rom l, .int .i64 n => mapTy P t ∧ k (.bool (lookE n l))
  | .mp b, .int .i64 n => (match hp[b]? with
    | some blk => blk.live = true ∧ blk.w = 0 ∧ mapTy P t ∧ k (.bool (lookE n blk.els))
    | none => False)
  | _, _ => False
def quietA (op : Op) (f : Operand → AV) (hp : List Blk) (k : AV → Prop) : Prop :=
  match op with
  | .move x | .assign x => k (f x)
  | .pick c a b => match f c with
    | .bool cb => k (pickV cb (f a) (f b))
    | _ => False
  | .build t parts => (match P.underlying t with | some (.struct fs) => ∀ f ∈ fs.toList, 0 < P.cellsOf f.type | some (.array _ e) => 0 < P.cellsOf e ∧ parts.toList = [] | _ => False) ∧ (zeroOf P t).solid = true ∧ buildA P t (parts.toList.map fun p => (p.1, f p.2)) (zeroOf P t).cells k
  | .load t a => loadA P t hp (f a) k
  | .nilCheck x => match f x with
    | .ptr b i j => k (.ptr b i j)
    | .rop l => k (.rop l)
    | .fn g l => k (.fn g l)
    | .mv g l => k (.mv g l)
    | _ => False
  | .binOp op t x y _ => match nilC op y with
    | true => nilA P t (f x) k
    | false => match nilI op y with
      | some b => ifaA P t (f x) b k
      | none => binA P op t (f x) (f y) k
  | .unOp op _ x => unA op (f x) k
  | .convert src dst x => convB P src dst hp (f x) k
  | .makeFunc (.func g) first captured => (match first.toList with
    | [] => k (.fn g (captured.toList.map f))
    | l => captured.toList = [] ∧ k (.mv g (l.map f)))
  | .slice t x lo hi none => sliceA P t hp (f x) (lo.map f) (hi.map f) k
  | .fieldAddr s x i => fieldA P s (f x) i k
  | .field t x i => partA P t (f x) i k
  | .indexAddr t x ix => indexA P t hp (f x) (f ix) k
  | .index t x ix => indexS P t (f x) (f ix) k
  | .lookup t x ix false => lookA P t hp (f x) (f ix) k
  | .extract x i => match f x with
    | .tup l => ∃ h : i < l.length, k l[i]
    | _ => False
  | .call c => match c.callee with
    | .builtin b => quietB P b c.argTypes.toList (c.args.toList.map f) k
    | _ => False
  | _ => False
def notInt (t : Option TypeId) : Prop :=
  match t.bind P.underlying with
  | some (.int _) | none => False
  | some _ => True
def isQuiet : Op → Bool
  | .alloc _ | .box .. | .buildSlice .. | .store .. | .makeSlice .. | .makeMap .. | .mapUpdate .. | .mapEntry .. | .entryStore .. => false
  | .call c => match c.callee with
    | .builtin .append => false
    | .builtin .clear => false
    | .builtin _ => true
    | _ => false
  | _ => true
def clearA (t : TypeId) (hp : List Blk) (x : AV) (k : List Blk → Prop) : Prop :=
  match P.underlying t, x with
  | some (.slice e), .sl b i n => match hp[b]? with
    | some blk => blk.live = true ∧ 0 < n ∧ 0 < P.cellsOf e ∧ (zeroOf P e).solid = true ∧ (zeroOf P e).cells.length = P.cellsOf e ∧ blk.w = P.cellsOf e ∧ i + n ≤ blk.els.length ∧
        k (hp.set b { blk with els := blk.els.take i ++ List.replicate n (zeroOf P e) ++ blk.els.drop (i + n) })
    | none => False
  | _, _ => False
def growA (t0 t1 : Option TypeId) (hp : List Blk) (s : AV) (n : Int) (k : AV → List Blk → Option Nat → Prop) : Prop :=
  match t0.bind P.underlying, t1.bind P.underlying, s with
  | some (.slice e), some (.int _), .nils => 0 < n ∧ fits n.toNat (P.bytesOf e) ∧ 0 < P.cellsOf e ∧ (zeroOf P e).solid = true ∧ (zeroOf P e).cells.length = P.cellsOf e ∧
      k (.sl hp.length 0 n.toNat) (hp ++ [{ ty := e, w := P.cellsOf e, els := List.replicate n.toNat (zeroOf P e) }]) none
  | _, _, _ => False
def putA (t : TypeId) (hp : List Blk) (m ix x : AV) (k : List Blk → Prop) : Prop :=
  match m, ix, x with
  | .mp b, .int .i64 n, .bool v => (match hp[b]? with
    | some blk => blk.live = true ∧ blk.w = 0 ∧ mapTy P t ∧ k (hp.set b { blk with els := updE n v blk.els })
    | none => False)
  | _, _, _ => False
def entryA (t : TypeId) (hp : List Blk) (m ix : AV) (k : AV → List Blk → Prop) : Prop :=
  match m, ix with
  | .mp b, .int .i64 n => (match hp[b]? with
    | some blk => blk.live = true ∧ blk.w = 0 ∧ mapTy P t ∧ k (.tup [.bool (lookE n blk.els), .int .i64 (findE n blk.els : Nat)]) (hp.set b { blk with els := updE n (lookE n blk.els) blk.els })
    | none => False)
  | _, _ => False
def setE (i : Nat) (x : Bool) (l : List AV) : Option (List AV) :=
  match l[i]? with
  | some (.agg [.int kd a, .bool _]) => some (l.set i (.agg [.int kd a, .bool x]))
  | _ => none
def entrySetA (hp : List Blk) (m s x : AV) (k : List Blk → Prop) : Prop :=
  match m, s, x with
  | .mp b, .int .i64 i, .bool v => (match hp[b]? with
    | some blk => blk.live = true ∧ blk.w = 0 ∧ 0 ≤ i ∧ (match setE i.toNat v blk.els with
      | some els => k (hp.set b { blk with els := els })
      | none => False)
    | none => False)
  | _, _, _ => False
def opA (n0 : Nat) (op : Op) (f : Operand → AV) (hp : List Blk) (k : AV → List Blk → Option Nat → Prop) : Prop :=
  match op with
  | .alloc t => (zeroOf P t).solid = true ∧ 0 < (zeroOf P t).cells.length ∧ k (.ptr hp.length 0 0) (hp ++ [{ ty := t, w := (zeroOf P t).cells.length, els := [zeroOf P t] }]) none
  | .box t x => (f x).solid = true ∧ 0 < (f x).cells.length ∧ k (.ptr hp.length 0 0) (hp ++ [{ ty := t, w := (f x).cells.length, els := [f x] }]) none
  | .buildSlice t len parts => match P.underlying t with
    | some (.slice e) => 0 < P.cellsOf e ∧ len * P.cellsOf e ≤ 16777216 ∧ (zeroOf P e).solid = true ∧ (zeroOf P e).cells.length = P.cellsOf e ∧
        setAll len (P.cellsOf e) (parts.toList.map fun p => (p.1, f p.2)) (List.replicate len (zeroOf P e)) fun els =>
          k (.sl hp.length 0 len) (hp ++ [{ ty := e, w := P.cellsOf e, els := els }]) none
    | _ => False
  | .store t a x => storeA P t hp (f a) (f x) fun hp' => k .any hp' none
  | .makeMap t none => k (.mp hp.length) (hp ++ [{ ty := t, w := 0, els := [] }]) none
  | .mapUpdate t m n x => putA P t hp (f m) (f n) (f x) fun hp' => k .any hp' none
  | .mapEntry t m n => entryA P t hp (f m) (f n) fun v hp' => k v hp' none
  | .entryStore _ m s x => entrySetA hp (f m) (f s) (f x) fun hp' => k .any hp' none
  | .convert src dst x => convO P src dst hp (f x) k
  | .makeSlice t l c => match P.underlying t, f l, f c with
    | some (.slice e), .int _ n, .int _ m => n = m ∧ 0 ≤ n ∧ n ≤ 281474976710656 ∧ P.bytesOf e * n ≤ 281474976710656 ∧ 0 < P.cellsOf e ∧
        (zeroOf P e).solid = true ∧ (zeroOf P e).cells.length = P.cellsOf e ∧
        k (.sl hp.length 0 n.toNat) (hp ++ [{ ty := e, w := P.cellsOf e, els := List.replicate n.toNat (zeroOf P e) }]) none
    | _, _, _ => False
  | .call c => match c.callee with
    | .value g => match f g with
      | .fn fid caps => CallA P fid (c.args.toList.map f ++ caps) hp fun r hp' => k r hp' none
      | .mv fid first => CallA P fid (first ++ c.args.toList.map f) hp fun r hp' => k r hp' none
      | _ => False
    | .builtin .append => match c.args.toList with
      | [s, x] => (match f x with
        | .int _ n => growA P (c.argTypes[0]?) (c.argTypes[1]?) hp (f s) n k
        | y => notInt P (c.argTypes[1]?) ∧ (match c.argTypes[0]? with
          | some t => appendA P n0 t hp (f s) y k
          | none => False))
      | _ => False
    | .builtin .clear => match c.args.toList with
      | [x] => (match c.argTypes[0]? with
        | some t => clearA P t hp (f x) fun hp' => k (.tup []) hp' none
        | none => False)
      | _ => False
    | .builtin b => quietB P b c.argTypes.toList (c.args.toList.map f) fun v => k v hp none
    | _ => False
  | op => quietA P op f hp fun v => k v hp none
end
structure St where
  tm : List AV
  hp : List Blk
def St.ev (st : St) : Operand → AV
  | .tmp t => st.tm.getD t .any
  | .const v => ofV v
  | .global _ => .any
  | .func f => .fn f []
def St.put (st : St) (dst : Option Tmp) (v : AV) : St :=
  match dst with
  | some d => { st with tm := st.tm.set d v }
  | none => st
def St.after (st : St) (hp : List Blk) : Option Nat → St
  | none => { tm := st.tm, hp := hp }
  | some b => { tm := st.tm.map (kill b), hp := hp }
inductive Ex where
  | normal
  | exit (id : Nat)
  | ret
section
variable (P : Program)
def guardSlot (ops : List Oper) (j : Nat) : Option Tmp := (ops[j]?).bind (·.dst)
def runOps (n0 : Nat) (ops : List Oper) : List Oper → St → (St → Prop) → Prop
  | [], st, K => K st
  | o :: rest, st, K =>
    match o.guard with
    | none => opA P n0 o.op st.ev st.hp fun v hp' kb => runOps n0 ops rest ((st.after hp' kb).put o.dst v) K
    | some (j, b) =>
      match guardSlot ops j with
      | some d =>
        match st.tm.getD d .any with
        | .bool c => brk (c == b)
            (opA P n0 o.op (st.put (some d) (.bool b)).ev st.hp fun v hp' kb => runOps n0 ops rest (((st.put (some d) (.bool b)).after hp' kb).put o.dst v) K)
            (runOps n0 ops rest ((st.put (some d) (.bool (!b))).put o.dst (.tup [])) K)
        | .tup [] => runOps n0 ops rest (st.put o.dst (.tup [])) K
        | _ => False
      | none => False
def isQ (o : Oper) : Bool :=
  match o.op with
  | .call { callee := .value _, args := _, argTypes := _ } => true
  | op => isQuiet op
def runQ (n0 : Nat) (ops : List Oper) : List Bool → List Oper → St → (St → Prop) → Prop
  | _, [], st, K => K st
  | true :: ms, o :: rest, st, K =>
    match o.guard with
    | none => opA P n0 o.op st.ev st.hp fun v hp' kb => runQ n0 ops ms rest ((st.after hp' kb).put o.dst v) K
    | some (j, b) =>
      match guardSlot ops j with
      | some d =>
        match st.tm.getD d .any with
        | .bool c => brk (c == b)
            (opA P n0 o.op (st.put (some d) (.bool b)).ev st.hp fun v hp' kb => runQ n0 ops ms rest (((st.put (some d) (.bool b)).after hp' kb).put o.dst v) K)
            (runQ n0 ops ms rest ((st.put (some d) (.bool (!b))).put o.dst (.tup [])) K)
        | .tup [] => runQ n0 ops ms rest (st.put o.dst (.tup [])) K
        | _ => False
      | none => False
  | false :: ms, o :: rest, st, K =>
    let step (st : St) : Prop := match o.op with
      | .call { callee := .value g, args := args, argTypes := _ } => match st.ev g with
        | .fn fid caps => ∃ r, CallA P fid (args.toList.map st.ev ++ caps) st.hp (fun r' hp' => r' = r ∧ hp' = st.hp) ∧ runQ n0 ops ms rest (st.put o.dst r) K
        | .mv fid first => ∃ r, CallA P fid (first ++ args.toList.map st.ev) st.hp (fun r' hp' => r' = r ∧ hp' = st.hp) ∧ runQ n0 ops ms rest (st.put o.dst r) K
        | _ => False
      | op => isQuiet op = true ∧ quietA P op st.ev st.hp fun v => runQ n0 ops ms rest (st.put o.dst v) K
    match o.guard with
    | none => step st
    | some (j, b) =>
      match guardSlot ops j with
      | some d =>
        match st.tm.getD d .any with
        | .bool c => brk (c == b) (step (st.put (some d) (.bool b))) (runQ n0 ops ms rest ((st.put (some d) (.bool (!b))).put o.dst (.tup [])) K)
        | .tup [] => runQ n0 ops ms rest (st.put o.dst (.tup [])) K
        | _ => False
      | none => False
  | [], _ :: _, _, _ => False
end
def lateOf (ops : Array Oper) (listed : Array Bool) (k : Nat) : List Nat :=
  (List.range ops.size).foldl (fun D j =>
    if listed.getD j true then D else
    match ops[j]? with
    | none => D
    | some oj => if oj.after.any fun e => Region.binds .any e && (e.on == k || D.contains e.on) then D ++ [j] else D) []
def lateOk (ops : Array Oper) (listed : Array Bool) (k : Nat) (D : List Nat) : Bool :=
  D.all fun j => !(listed.getD j true) && (match ops[j]? with
    | none => false
    | some oj => oj.after.any fun e => Region.binds .any e && (e.on == k || D.contains e.on))
def freeQ (ops : Array Oper) (ms : List Bool) (listed : Array Bool) (k : Nat) : Bool :=
  match ops[k]? with
  | none => false
  | some o => lateOk ops listed k (lateOf ops listed k) && (List.range ops.size).all fun j =>
    j == k || listed.getD j true || (lateOf ops listed k).contains j ||
    match ops[j]? with
    | none => true
    | some oj => (oj.after.any fun e => Region.binds .any e && e.on == k) || (o.apart ops oj && isQ oj && !(ms.getD j true))
def drawOk (ops : Array Oper) (ms : List Bool) : Nat → Nat → Array Bool → Bool
  | 0, _, listed => (Region.ready .any ops listed).isEmpty
  | n + 1, k, listed =>
    (if ms.getD k true then Region.ready .any ops listed == [k]
     else (Region.ready .any ops listed).contains k && freeQ ops ms listed k && ((ops[k]?).map isQ).getD false) && drawOk ops ms n (k + 1) (listed.setIfInBounds k true)
def noSelect (ops : List Oper) : Bool := ops.all fun o => match o.op with | .select _ _ => false | _ => true
def modesOk (md : Nat → List Bool) : Code → Bool
  | .region id ops true => (md id).isEmpty || (noSelect ops.toList && (md id).length == ops.size && drawOk ops (md id) ops.size 0 (Array.replicate ops.size false))
  | .seq a b => modesOk md a && modesOk md b
  | .cond _ a b => modesOk md a && modesOk md b
  | .block _ c => modesOk md c
  | .loop c => modesOk md c
  | _ => true
def renL (π : Nat → Nat) : AV → AV
  | .sl b i n => .sl (π b) i n
  | .ptr b i j => .ptr (π b) i j
  | .mp b => .mp (π b)
  | .agg _ | .tup _ | .fn _ _ | .mv _ _ => .any
  | v => v
def renM (π : Nat → Nat) : AV → AV
  | .agg l => .agg (l.map (renL π))
  | .fn f l => .fn f (l.map (renL π))
  | .mv f l => .mv f (l.map (renL π))
  | v => renL π v
def ren (π : Nat → Nat) : AV → AV
  | .tup l => .tup (l.map (renM π))
  | v => renM π v
def belowL (N : Nat) : AV → Bool
  | .sl b _ _ => b < N
  | .ptr b _ _ => b < N
  | .mp b => b < N
  | .agg _ | .tup _ | .fn _ _ | .mv _ _ => false
  | _ => true
def belowM (N : Nat) : AV → Bool
  | .agg l => l.all (belowL N)
  | .fn _ l => l.all (belowL N)
  | .mv _ l => l.all (belowL N)
  | v => belowL N v
def below (N : Nat) : AV → Bool
  | .tup l => l.all (belowM N)
  | v => belowM N v
def view : Nat → List Blk → AV → AV
  | 0, _, a => match a with
    | .sl _ _ _ | .ptr _ _ _ | .tup _ | .fn _ _ | .mv _ _ | .mp _ => .any
    | .agg l => .agg (l.map fun _ => .any)
    | a => a
  | d + 1, hp, a => match a with
    | .sl b i n => match hp[b]? with
      | some blk => if blk.live && decide (i + n ≤ blk.els.length) then .ro (((blk.els.drop i).take n).map (view d hp)) else .any
      | none => .any
    | .ptr b i j => match hp[b]? with
      | some blk => if blk.live then (match blk.els[i]? with
        | some e => .rop ((e.cells.drop j).map (view d hp))
        | none => .any) else .any
      | none => .any
    | .mp b => match hp[b]? with
      | some blk => if blk.live && blk.w == 0 then .rom blk.els else .any
      | none => .any
    | .agg l => .agg (l.map (view d hp))
    | .tup l => .tup (l.map (view d hp))
    | .fn f l => .fn f (l.map (view d hp))
    | .mv f l => .mv f (l.map (view d hp))
    | a => a
def cleanL : AV → Bool
  | .ro _ | .rop _ | .rom _ | .agg _ | .tup _ | .fn _ _ | .mv _ _ => false
  | _ => true
def cleanM : AV → Bool
  | .agg l => l.all cleanL
  | .fn _ l => l.all cleanL
  | .mv _ l => l.all cleanL
  | v => cleanL v
def clean : AV → Bool
  | .tup l => l.all cleanM
  | v => cleanM v
section
variable (P : Program)
def Ex.up : Ex → Exit
  | .normal => .normal
  | .exit id => .exit id
  | .ret => .ret
def oneA : List AV → AV
  | [x] => x
  | l => .tup l
def resL : List ResultVar → St → (List AV → Prop) → Prop
  | [], _, k => k []
  | .tmp t :: r, st, k => resL r st fun l => k (st.ev (.tmp t) :: l)
  | .cell x t :: r, st, k => loadA P t st.hp (st.ev (.tmp x)) fun v => resL r st fun l => k (v :: l)
end
def renB (π : Nat → Nat) (q : Blk) : Blk := { q with els := q.els.map (ren π) }
def joinHp (hp new : List Blk) : List Blk := hp ++ new.map (renB fun b => b + hp.length)
def cleanB (q : Blk) : Bool := q.els.all clean
end Go.Abs
namespace Go.Abs
open Go
variable {P : Program}
theorem isNaN_iff (k : FloatKind) (b : Nat) : (k.decode b).isNaN = true ↔ k.format.infRung < b % k.format.signWeight := by
  unfold FloatKind.decode Ieee.Format.read
  have hi : k.format.binade ≤ k.format.infRung := by cases k <;> decide
  simp only []
  split
  · simp only [Ieee.Datum.isNaN]; constructor <;> intro h <;> first | (cases h) | omega
  · split
    · simp only [Ieee.Datum.isNaN]; constructor <;> intro h <;> first | (cases h) | omega
    · split
      · simp only [Ieee.Datum.isNaN]; constructor <;> intro h <;> first | (cases h) | omega
      · simp only [Ieee.Datum.isNaN, true_iff]; omega
theorem nanOf_isNaN (k : FloatKind) : (k.decode (nanOf k)).isNaN = true := by
  rw [isNaN_iff]; cases k <;> decide
theorem canon_of_nan {k : FloatKind} {b : Nat} (h : (k.decode b).isNaN = true) : canon k b = nanOf k := by simp [canon, h]
theorem canon_of_not {k : FloatKind} {b : Nat} (h : (k.decode b).isNaN = false) : canon k b = b := by simp [canon, h]
theorem canon_isNaN (k : FloatKind) (b : Nat) : (k.decode (canon k b)).isNaN = (k.decode b).isNaN := by
  cases h : (k.decode b).isNaN with
  | true => rw [canon_of_nan h]; exact nanOf_isNaN k
  | false => rw [canon_of_not h]; exact h
theorem canon_canon (k : FloatKind) (b : Nat) : canon k (canon k b) = canon k b := by
  cases h : (k.decode b).isNaN with
  | true => rw [canon_of_nan h, canon_of_nan (nanOf_isNaN k)]
  | false => rw [canon_of_not h, canon_of_not h]
theorem nan_of {d : Ieee.Datum} (h : d.isNaN = true) : ∃ s t, d = .nan s t := by
  cases d with
  | nan s t => exact ⟨s, t, rfl⟩
  | number s m e => cases h
  | infinity s => cases h
theorem canon_two {α : Type} (k : FloatKind) (φ : Ieee.Datum → Ieee.Datum → Option α) (hl : ∀ s t d, φ (.nan s t) d = none) (hr : ∀ s t d, φ d (.nan s t) = none) (a b : Nat) :
    φ (k.decode (canon k a)) (k.decode (canon k b)) = φ (k.decode a) (k.decode b) := by
  cases ha : (k.decode a).isNaN with
  | true =>
    obtain ⟨s, t, e⟩ := nan_of ha
    obtain ⟨s', t', e'⟩ := nan_of ((canon_isNaN k a).trans ha)
    rw [e, e', hl, hl]
  | false =>
    rw [canon_of_not ha]
    cases hb : (k.decode b).isNaN with
    | true =>
      obtain ⟨s, t, e⟩ := nan_of hb
      obtain ⟨s', t', e'⟩ := nan_of ((canon_isNaN k b).trans hb)
      rw [e, e', hr, hr]
    | false => rw [canon_of_not hb]
theorem canon_add (k : FloatKind) (a b : Nat) : k.format.add (canon k a) (canon k b) = k.format.add a b :=
  canon_two k (fun x y => (x.sum y).map k.format.write) (fun _ _ d => by cases d <;> rfl) (fun _ _ d => by cases d <;> rfl) a b
theorem canon_sub (k : FloatKind) (a b : Nat) : k.format.sub (canon k a) (canon k b) = k.format.sub a b :=
  canon_two k (fun x y => (x.sum y.opposite).map k.format.write) (fun _ _ d => by cases d <;> rfl) (fun _ _ d => by cases d <;> rfl) a b
theorem canon_mul (k : FloatKind) (a b : Nat) : k.format.mul (canon k a) (canon k b) = k.format.mul a b :=
  canon_two k (fun x y => (x.product y).map k.format.write) (fun _ _ d => by cases d <;> rfl) (fun _ _ d => by cases d <;> rfl) a b
theorem canon_div (k : FloatKind) (a b : Nat) : k.format.div (canon k a) (canon k b) = k.format.div a b :=
  canon_two k (fun x y => (x.quotient (k.format.fractionBits + 2) y).map k.format.write) (fun _ _ d => by cases d <;> rfl) (fun _ _ d => by cases d <;> rfl) a b
theorem canon_order (k : FloatKind) (a b : Nat) : k.format.order (canon k a) (canon k b) = k.format.order a b :=
  canon_two k (fun x y => x.order y) (fun _ _ d => by cases d <;> rfl) (fun _ _ d => by cases d <;> rfl) a b
theorem neg_mod (k : FloatKind) (b : Nat) : Op.negFloat k b % k.format.signWeight = b % k.format.signWeight := by
  have h : Op.negFloat k b = b ^^^ k.format.signWeight := rfl
  rw [h]
  have e : ∃ n, k.format.signWeight = 2 ^ n := ⟨_, rfl⟩
  obtain ⟨n, e⟩ := e
  rw [e, Nat.xor_mod_two_pow, Nat.mod_self, Nat.xor_zero]
theorem canon_neg (k : FloatKind) (b : Nat) : canon k (Op.negFloat k (canon k b)) = canon k (Op.negFloat k b) := by
  cases h : (k.decode b).isNaN with
  | false => rw [canon_of_not h]
  | true =>
    have h1 : (k.decode (Op.negFloat k b)).isNaN = true := by rw [isNaN_iff, neg_mod]; exact (isNaN_iff k b).1 h
    have h2 : (k.decode (Op.negFloat k (canon k b))).isNaN = true := by
      rw [isNaN_iff, neg_mod]; exact (isNaN_iff k _).1 ((canon_isNaN k b).trans h)
    rw [canon_of_nan h1, canon_of_nan h2]
theorem cut_mod (S I u a : Nat) (h : I + 1 + u < S) : I < (a * S + I + 1 + u) % S := by
  have e : a * S + I + 1 + u = S * a + (I + 1 + u) := by rw [Nat.mul_comm a S]; omega
  rw [e, Nat.mul_add_mod, Nat.mod_eq_of_lt h]
  omega
theorem cut_nanBits (k : FloatKind) (x y t : Nat) : canon k ((Question.nanBits k x y).cut t) = nanOf k := by
  apply canon_of_nan
  rw [isNaN_iff]
  cases k
  · exact cut_mod 2147483648 2139095040 _ _ (by have := Nat.mod_lt (t / 2) (show 0 < 2 ^ 23 - 1 by decide); omega)
  · exact cut_mod 9223372036854775808 9218868437227405312 _ _ (by have := Nat.mod_lt (t / 2) (show 0 < 2 ^ 52 - 1 by decide); omega)
theorem cut_nanConv (k : FloatKind) (x t : Nat) : canon k ((Question.nanConv k x).cut t) = nanOf k := by
  apply canon_of_nan
  rw [isNaN_iff]
  cases k
  · exact cut_mod 2147483648 2139095040 _ _ (by have := Nat.mod_lt (t / 2) (show 0 < 2 ^ 23 - 1 by decide); omega)
  · exact cut_mod 9223372036854775808 9218868437227405312 _ _ (by have := Nat.mod_lt (t / 2) (show 0 < 2 ^ 52 - 1 by decide); omega)
theorem decode_canon_not {k : FloatKind} {b : Nat} (h : (k.decode (canon k b)).isNaN = false) : canon k b = b := canon_of_not ((canon_isNaN k b).symm.trans h)
end Go.Abs
set_option linter.unusedSimpArgs false
set_option linter.unusedVariables false
namespace Go.Abs
open Go
variable {P : Program}
def Same (w w' : World) : Prop := w'.heap = w.heap ∧ w'.os = w.os ∧ w'.tape = w.tape ∧ w'.output = w.output
theorem Same.refl (w : World) : Same w w := ⟨rfl, rfl, rfl, rfl⟩
theorem Same.drew (w : World) (n : Nat) : Same w { w with drawn := n } := ⟨rfl, rfl, rfl, rfl⟩
theorem Same.trans {w w' w'' : World} (h : Same w w') (g : Same w' w'') : Same w w'' :=
  ⟨g.1.trans h.1, g.2.1.trans h.2.1, g.2.2.1.trans h.2.2.1, g.2.2.2.trans h.2.2.2⟩
def Env.with (E : Env P) (w : World) : Env P := { E with w := w }
theorem Env.le_with {E : Env P} {w : World} (h : Same E.w w) : E.le (E.with w) :=
  ⟨fun _ h => h, fun c _ => by show w.heap[c]? = _; rw [h.1], Nat.le_refl _, fun _ _ => rfl, fun _ _ => rfl, fun c => by show csz E.w c ≤ csz w c; unfold csz; rw [h.1]; exact Nat.le_refl _⟩
theorem HRel.with {E : Env P} {hp : List Blk} (H : HRel E hp) {w : World} (h : Same E.w w) : HRel (E.with w) hp where
  N := H.N
  wd := H.wd
  holds := fun b blk hb hl => (H.holds b blk hb hl).keep (by show w.heap[E.ρ b]? = _; rw [h.1]) fun x u hu => hu.mono (Env.le_with h)
  inj := H.inj
  apart := H.apart
  old := fun c hc => by show c < w.heap.size; rw [h.1]; exact H.old c hc
  laid := H.laidLe (Env.le_with h)
theorem Fr.with {E E' : Env P} {hp hp' : List Blk} (F : Fr E hp E' hp') {w : World} (h : Same E'.w w) : Fr E hp (E'.with w) hp' where
  size := by show _ ≤ w.heap.size; rw [h.1]; exact F.size
  os := h.2.1.trans F.os
  tape := h.2.2.1.trans F.tape
  output := h.2.2.2.trans F.output
  block := fun c hc hn => by show w.heap[c]? = _; rw [h.1]; exact F.block c hc hn
  len := F.len
  ρ := F.ρ
  wd := F.wd
  F := F.F
  F' := F.F'
  live := F.live
  csz := fun c => Nat.le_trans (F.csz c) ((Env.le_with h).csz c)
theorem info_of {P : Program} {t : TypeId} {d : TypeDesc} (h : P.underlying t = some d) : ∃ i, P.info? t = some i ∧ P.cellsOf t = i.size ∧ P.bytesOf t = i.bytes := by
  unfold Program.underlying at h
  cases hi : P.info? t with
  | none => simp [hi] at h
  | some i => exact ⟨i, rfl, by simp [Program.cellsOf, hi], by simp [Program.bytesOf, hi]⟩
theorem run_sizeOf' {P : Program} {t : TypeId} {d : TypeDesc} (h : P.underlying t = some d) (w : World) : (sizeOf t).run P w = .ok (P.cellsOf t) w := by
  obtain ⟨i, hi, hs, _⟩ := info_of h
  simp [sizeOf, typeInfo, hi, hs, Result.andThen]
theorem run_underlying' {P : Program} {t : TypeId} {d : TypeDesc} (h : P.underlying t = some d) (w : World) : (underlying t).run P w = .ok d w := by
  simp [underlying, h, Result.andThen]
theorem RV_ofL (E : Env P) (v : Value) : RV E (ofL v) v := by
  unfold ofL
  split
  · exact .bool _
  · exact .int _ _
  · exact .flt _ _ _ rfl
  · exact .cpx _ _ _ _ _ rfl rfl
  · exact .str _
  · exact .nilp
  · exact .nils _
  · exact .nilf
  · exact .nili
  · exact .romNil
  · exact .any _
theorem RV_ofV (E : Env P) (v : Value) : RV E (ofV v) v := by
  unfold ofV
  split
  · rename_i cs
    refine .agg _ _ (by simp) fun i a v h1 h2 => ?_
    have h2' : cs.toList[i]? = some v := by simpa using h2
    simp only [List.getElem?_map, h2', Option.map_some, Option.some.injEq] at h1
    exact h1 ▸ RV_ofL E v
  · exact RV_ofL E _
theorem RV.one_cells {E : Env P} {a : AV} {v : Value} (h : RV E a v) (ho : a.one = true) : v.oneCell' = true ∧ v.cells = #[v] := by
  cases h <;> first | (cases ho; done) | exact ⟨rfl, rfl⟩
theorem RV.not_agg {E : Env P} {a : AV} {v : Value} (h : RV E a v) (ho : a.solid = true) : a.cells.length = v.cells.size ∧ (∀ (i : Nat) c x, a.cells[i]? = some c → v.cells[i]? = some x → RV E c x ∧ c.one = true ∧ x.oneCell' = true) := by
  cases h with
  | agg l vs hl h =>
    refine ⟨hl, fun i c x h1 h2 => ?_⟩
    have hc : c.one = true := by
      simp only [AV.solid, List.all_eq_true] at ho
      exact ho c (List.mem_of_getElem? h1)
    have hr := h i c x h1 h2
    exact ⟨hr, hc, (hr.one_cells hc).1⟩
  | any v => cases ho
  | tup l vs hl h => cases ho
  | bool | int | flt | cpx | str | nils | roNil | ro | sl | ptr | rop | nilp | fn | nilf | nili | mp | rom | romNil | mv =>
    refine ⟨rfl, fun i c x h1 h2 => ?_⟩
    cases i with
    | zero =>
      simp only [AV.cells, Value.cells, List.getElem?_cons_zero, Option.some.injEq, List.getElem?_toArray] at h1 h2
      subst h1; subst h2
      exact ⟨by constructor <;> assumption, rfl, rfl⟩
    | succ i => simp [AV.cells] at h1
section
variable {P : Program}
def QRun (P : Program) (E : Env P) (s : Sem Value) (av : AV) : Prop := ∃ v w', s.run P E.w = .ok v w' ∧ Same E.w w' ∧ RV E av v
theorem add_none (b off i : Nat) : (⟨b, off, none⟩ : Addr).add i = ⟨b, off + i, none⟩ := by
  unfold Addr.add; split <;> simp_all
theorem info_pos {t : TypeId} (h : 0 < P.cellsOf t) : ∃ i, P.info? t = some i ∧ P.cellsOf t = i.size ∧ P.bytesOf t = i.bytes := by
  cases hi : P.info? t with
  | none => simp [Program.cellsOf, hi] at h
  | some i => exact ⟨i, rfl, by simp [Program.cellsOf, hi], by simp [Program.bytesOf, hi]⟩
theorem run_sizeOf_pos {t : TypeId} (h : 0 < P.cellsOf t) (w : World) : (sizeOf t).run P w = .ok (P.cellsOf t) w := by
  obtain ⟨i, hi, hs, _⟩ := info_pos h
  simp [sizeOf, typeInfo, hi, hs, Result.andThen]
def QLoad (P : Program) (E : Env P) (s : Sem Value) (av : AV) : Prop := ∃ v, s.run P E.w = .ok v E.w ∧ RV E av v
theorem QLoad.run {E : Env P} {s : Sem Value} {av : AV} (h : QLoad P E s av) : QRun P E s av := by
  obtain ⟨v, h1, h2⟩ := h
  exact ⟨v, E.w, h1, Same.refl _, h2⟩
theorem loadC_sound {t : TypeId} {cs : List AV} {j : Nat} {k : AV → Prop} (h : loadC P t cs j k) :
    ∃ av, k av ∧ ∀ (E : Env P) (a : Addr) (val : Nat → Value), (∀ (i : Nat) c, cs[j + i]? = some c → E.w.cell? (a.add i) = some (val i) ∧ RV E c (val i)) → QLoad P E (loadVar t a) av := by
  have aggCase : ∀ d, P.underlying t = some d → (match d with | .struct _ | .array _ _ => True | _ => False) → j + P.cellsOf t ≤ cs.length → ∀ (E : Env P) (a : Addr) (val : Nat → Value), (∀ (i : Nat) c, cs[j + i]? = some c → E.w.cell? (a.add i) = some (val i) ∧ RV E c (val i)) →
      QLoad P E (loadVar t a) (.agg ((cs.drop j).take (P.cellsOf t))) := by
    intro d hd hm hle E a val hc
    have hi : (isAgg t).run P E.w = .ok true E.w := by
      unfold isAgg
      simp only [Sem.run_bind, run_underlying' hd, Result.andThen_ok]
      cases d <;> first | rfl | exact hm.elim
    refine ⟨.agg ((List.range (P.cellsOf t)).map val).toArray, ?_, ?_⟩
    · simp only [loadVar, Sem.run_bind, hi, Result.andThen_ok, if_true, run_sizeOf' hd]
      rw [run_loadCells E.w a _ val (fun i hi' => by
        have : j + i < cs.length := by omega
        exact (hc i _ (List.getElem?_eq_getElem this)).1)]
      rfl
    · refine .agg _ _ (by simp; omega) fun i c v h1 h2 => ?_
      have hi' : i < P.cellsOf t := by
        have := (List.getElem?_eq_some_iff.1 h1).1
        simp at this; omega
      have e1 : cs[j + i]? = some c := by
        rw [List.getElem?_take_of_lt hi', List.getElem?_drop] at h1
        exact h1
      have e2 : v = val i := by
        simp [hi'] at h2
        exact h2.symm
      rw [e2]
      exact (hc i c e1).2
  unfold loadC at h
  split at h
  · rename_i fs hd
    exact ⟨_, h.2, aggCase _ hd trivial h.1⟩
  · rename_i n e hd
    exact ⟨_, h.2, aggCase _ hd trivial h.1⟩
  · rename_i d hn1 hn2 hd
    obtain ⟨hj, hk⟩ := h
    refine ⟨_, hk, fun E a val hc => ?_⟩
    have hi : (isAgg t).run P E.w = .ok false E.w := by
      unfold isAgg
      simp only [Sem.run_bind, run_underlying' hd, Result.andThen_ok]
      cases d <;> first | rfl | exact absurd rfl (hn1 _) | exact absurd rfl (hn2 _ _)
    obtain ⟨h1, h2⟩ := hc 0 cs[j] (by simp [hj])
    have e : a.add 0 = a := by simp [Addr.add]
    rw [e] at h1
    refine ⟨val 0, ?_, h2⟩
    simp [loadVar, hi, Result.andThen, h1]
  · exact h.elim
theorem HRel.cell {E : Env P} {hp : List Blk} (H : HRel E hp) {b i : Nat} {blk : Blk} (hb : hp[b]? = some blk) (hl : blk.live = true) (hw : 0 < E.wd b) {e : AV} (he : blk.els[i]? = some e) {j : Nat} {c : AV} (hc : e.cells[j]? = some c) :
    ∃ v, E.w.cell? ⟨E.ρ b, i * E.wd b + j, none⟩ = some v ∧ RV E c v := by
  obtain ⟨cs, h1, h2⟩ := (H.holds b blk hb hl).cells (H.wd b blk hb ▸ hw)
  obtain ⟨v, h3, h4⟩ := (h2 i e he).2 j c hc
  refine ⟨v, ?_, h4⟩
  rw [H.wd b blk hb, h1.cell]
  exact h3
theorem loadA_sound {t : TypeId} {hp : List Blk} {a : AV} {k : AV → Prop} (h : loadA P t hp a k) :
    ∃ av, k av ∧ ∀ (E : Env P) v, HRel E hp → RV E a v → QLoad P E (Instr.loadAt t v) av := by
  unfold loadA at h
  split at h
  · rename_i l
    obtain ⟨av, hk, hr⟩ := loadC_sound h
    refine ⟨av, hk, fun E v H hv => ?_⟩
    cases hv with
    | rop l b off val hF hc hv =>
      have := hr E ⟨b, off, none⟩ val (fun i c hi => ⟨by rw [add_none]; exact hc i c (by simpa using hi), (hv i c (by simpa using hi)).mono (Env.le.of_bare E)⟩)
      obtain ⟨v, h1, h3⟩ := this
      exact ⟨v, by simp [Instr.loadAt, Instr.sureAddr, Result.andThen, h1], h3⟩
  · rename_i b i j
    split at h
    · rename_i blk hb
      obtain ⟨hl, hi, h⟩ := h
      obtain ⟨av, hk, hr⟩ := loadC_sound h
      refine ⟨av, hk, fun E v H hv => ?_⟩
      cases hv with
      | ptr b i j hbN hw =>
        have hcell : ∀ (m : Nat) c, blk.els[i].cells[j + m]? = some c → ∃ v, E.w.cell? ⟨E.ρ b, i * E.wd b + (j + m), none⟩ = some v ∧ RV E c v :=
          fun m c hc => H.cell hb hl hw (by simp [hi]) hc
        have := hr E ⟨E.ρ b, i * E.wd b + j, none⟩ (fun m => (E.w.cell? ⟨E.ρ b, i * E.wd b + (j + m), none⟩).getD undef) (fun m c hc => by
          obtain ⟨v, h1, h2⟩ := hcell m c hc
          have e : (⟨E.ρ b, i * E.wd b + j, none⟩ : Addr).add m = ⟨E.ρ b, i * E.wd b + (j + m), none⟩ := by rw [add_none, Nat.add_assoc]
          rw [e, h1]
          exact ⟨rfl, by simpa using h2⟩)
        obtain ⟨v, h1, h3⟩ := this
        exact ⟨v, by simp [Instr.loadAt, Instr.sureAddr, Result.andThen, h1], h3⟩
    · exact h.elim
  · exact h.elim
theorem flatP_rv {E : Env P} {hp : List Blk} (H : HRel E hp) {b i j : Nat} (hb : b < E.N) (hw : 0 < E.wd b) : RV E (flatP hp b i j) (.pointer (some ⟨E.ρ b, i * E.wd b + j, none⟩)) := by
  unfold flatP
  split
  · rename_i q hq
    split
    · rename_i h1
      have hwd : E.wd b = 1 := by rw [H.wd b q hq]; exact h1
      have := RV.ptr (E := E) b (i + j) 0 hb hw
      rw [hwd] at this ⊢
      simpa using this
    · exact .ptr _ _ _ hb hw
  · exact .ptr _ _ _ hb hw
theorem indexA_sound {t : TypeId} {hp : List Blk} {x ix : AV} {k : AV → Prop} (h : indexA P t hp x ix k) :
    ∃ av, k av ∧ ∀ (E : Env P) v u, HRel E hp → RV E x v → RV E ix u → QRun P E (Instr.indexAt t v u) av := by
  unfold indexA at h
  split at h
  · rename_i e kd n hd
    have tiny : ∀ w : World, (underlying t).run P w = .ok (.slice e) w := run_underlying' hd
    split at h
    · rename_i l
      obtain ⟨h0, hp0, hn, hw, hk⟩ := h
      refine ⟨_, hk, fun E v u H hv hu => ?_⟩
      cases hu
      cases hv with
      | roNil a cap => exact absurd hn (by simp)
      | ro l b off cap wd val hF hcap hmax hws hc hvs =>
        have hwd : wd = P.cellsOf e := by rw [← hws n.toNat _ (List.getElem?_eq_getElem hn)]; exact hw
        have hlt : 0 ≤ n ∧ n < (l.length : Int) := by omega
        refine ⟨.pointer (some ⟨b, off + n.toNat * P.cellsOf e, none⟩), E.w, ?_, Same.refl _, ?_⟩
        · simp [Instr.indexAt, asIntOf, tiny, Result.andThen, hlt, run_sizeOf_pos hp0, add_none]
        · refine .rop _ _ _ (val n.toNat) hF (fun j c hj => ?_) (fun j c hj => hvs _ _ (List.getElem?_eq_getElem hn) j c hj)
          rw [← hwd]
          exact hc _ _ (List.getElem?_eq_getElem hn) j c hj
    · rename_i b i len
      obtain ⟨h0, hn, hp0, hwb, hk⟩ := h
      refine ⟨_, hk, fun E v u H hv hu => ?_⟩
      cases hu
      cases hv with
      | sl b i len off cap hb ho hcap hmax hroom hw =>
        have hlt : 0 ≤ n ∧ n < (len : Int) := by omega
        cases hbk : hp[b]? with
        | none => simp [hbk] at hwb
        | some blk =>
          have hwd : E.wd b = P.cellsOf e := by rw [H.wd b blk hbk]; simpa [hbk] using hwb
          have hoff : off = i * P.cellsOf e := by rw [← hwd]; exact ho (by omega)
          refine ⟨.pointer (some ⟨E.ρ b, off + n.toNat * P.cellsOf e, none⟩), E.w, ?_, Same.refl _, ?_⟩
          · simp [Instr.indexAt, asIntOf, tiny, Result.andThen, hlt, run_sizeOf_pos hp0, add_none]
          · have := RV.ptr (E := E) b (i + n.toNat) 0 hb hw
            rw [hwd] at this
            rw [hoff, ← Nat.add_mul]
            simpa using this
    · exact h.elim
  · rename_i len e kd n hd
    have run : ∀ (w : World) (a : Addr), 0 ≤ n → n < (len : Int) → 0 < P.cellsOf e → (Instr.indexAt t (.pointer (some a)) (.int kd n)).run P w = .ok (.pointer (some (a.add (n.toNat * P.cellsOf e)))) w := by
      intro w a h0 hn hp
      have hlt : 0 ≤ n ∧ n < (len : Int) := ⟨h0, hn⟩
      simp [Instr.indexAt, asIntOf, run_underlying' hd, Instr.sureAddr, Result.andThen, hlt, run_sizeOf_pos hp]
    split at h
    · rename_i b i j
      obtain ⟨h0, hn, hp0, hk⟩ := h
      refine ⟨_, hk, fun E v u H hv hu => ?_⟩
      cases hu
      cases hv with
      | ptr b i j hb hw =>
        refine ⟨_, E.w, run _ _ h0 hn hp0, Same.refl _, ?_⟩
        rw [add_none, Nat.add_assoc]
        exact flatP_rv H hb hw
    · rename_i l
      obtain ⟨h0, hn, hp0, hk⟩ := h
      refine ⟨_, hk, fun E v u H hv hu => ?_⟩
      cases hu
      cases hv with
      | rop l b off val hF hc hvs =>
        refine ⟨_, E.w, run _ _ h0 hn hp0, Same.refl _, ?_⟩
        rw [add_none]
        refine .rop _ _ _ (fun j => val (n.toNat * P.cellsOf e + j)) hF (fun j c hj => ?_) (fun j c hj => hvs _ c (by simpa using hj))
        rw [Nat.add_assoc]
        exact hc _ c (by simpa using hj)
    · exact h.elim
  · exact h.elim
theorem indexS_sound {t : TypeId} {x ix : AV} {k : AV → Prop} (h : indexS P t x ix k) :
    ∃ av, k av ∧ ∀ (E : Env P) v u, RV E x v → RV E ix u → QRun P E (Instr.index t v u) av := by
  unfold indexS at h
  split at h
  · rename_i s kd n hd
    obtain ⟨h0, hn, hk⟩ := h
    refine ⟨_, hk, fun E v u hv hu => ?_⟩
    cases hu
    cases hv
    refine ⟨_, E.w, ?_, Same.refl _, .int _ _⟩
    simp only [Instr.index, asIntOf, Sem.run_bind, Sem.run_pure, Result.andThen_ok, run_underlying' hd, h0, if_true]
    have e : (⟨s.toArray⟩ : ByteArray)[n.toNat]? = some s[n.toNat] := by
      show (if h : n.toNat < (⟨s.toArray⟩ : ByteArray).size then _ else _) = _
      rw [dif_pos (by simpa [ByteArray.size] using hn)]
      rfl
    rw [e]
    rfl
  · exact h.elim
theorem field_of {s : TypeId} {i : Nat} {fd : Field} (h : fieldOf P s i = some fd) : ∃ fs, P.underlying s = some (.struct fs) ∧ fs[i]? = some fd := by
  unfold fieldOf at h
  split at h
  · rename_i fs hd; exact ⟨fs, hd, h⟩
  · cases h
theorem fieldA_sound {s : TypeId} {x : AV} {i : Nat} {k : AV → Prop} (h : fieldA P s x i k) :
    ∃ av, k av ∧ ∀ (E : Env P) v, RV E x v → QRun P E (Instr.fieldAt s v i) av := by
  unfold fieldA at h
  split at h
  · rename_i fd hf
    obtain ⟨fs, hd, hfi⟩ := field_of hf
    obtain ⟨hpos, h⟩ := h
    have run : ∀ (w : World) b off, (Instr.fieldAt s (.pointer (some ⟨b, off, none⟩)) i).run P w = .ok (.pointer (some ⟨b, off + fd.offset, none⟩)) w := by
      intro w b off
      have h0 : ¬ P.cellsOf fd.type = 0 := by omega
      simp [Instr.fieldAt, run_underlying' hd, Result.andThen, hfi, Instr.sureAddr, fieldPlace, run_sizeOf_pos hpos, h0, add_none]
    split at h
    · rename_i l
      refine ⟨_, h, fun E v hv => ?_⟩
      cases hv with
      | rop l b off val hF hc hvs =>
        refine ⟨_, E.w, run _ _ _, Same.refl _, .rop _ _ _ (fun j => val (fd.offset + j)) hF (fun j c hj => ?_) (fun j c hj => hvs _ c (by simpa using hj))⟩
        rw [Nat.add_assoc]
        exact hc _ c (by simpa using hj)
    · rename_i b i' j
      refine ⟨_, h, fun E v hv => ?_⟩
      cases hv with
      | ptr b i j hb hw =>
        refine ⟨_, E.w, run _ _ _, Same.refl _, ?_⟩
        rw [Nat.add_assoc]
        exact .ptr _ _ _ hb hw
    · exact h.elim
  · exact h.elim
theorem partA_sound {s : TypeId} {x : AV} {i : Nat} {k : AV → Prop} (h : partA P s x i k) :
    ∃ av, k av ∧ ∀ (E : Env P) v, RV E x v → QRun P E (Instr.field s v i) av := by
  unfold partA at h
  split at h
  · rename_i fd l hf
    obtain ⟨fs, hd, hfi⟩ := field_of hf
    have agg : ∀ d, P.underlying fd.type = some d → (match d with | .struct _ | .array _ _ => True | _ => False) → fd.offset + P.cellsOf fd.type ≤ l.length → ∀ (E : Env P) v, RV E (.agg l) v → QRun P E (Instr.field s v i) (.agg ((l.drop fd.offset).take (P.cellsOf fd.type))) := by
      intro d hdt hm hle E v hv
      cases hv with
      | agg l vs hl h =>
        have hi : (isAgg fd.type).run P E.w = .ok true E.w := by
          unfold isAgg
          simp only [Sem.run_bind, run_underlying' hdt, Result.andThen_ok]
          cases d <;> first | rfl | exact hm.elim
        refine ⟨.agg (vs.extract fd.offset (fd.offset + P.cellsOf fd.type)), E.w, ?_, Same.refl _, ?_⟩
        · simp [Instr.field, run_underlying' hd, Result.andThen, hfi, asAgg, part, hi, run_sizeOf' hdt]
        · refine .agg _ _ (by simp; omega) fun m c x h1 h2 => ?_
          have hm' : m < P.cellsOf fd.type := by
            have := (List.getElem?_eq_some_iff.1 h1).1
            simp at this; omega
          rw [List.getElem?_take_of_lt hm', List.getElem?_drop] at h1
          rw [Array.getElem?_extract] at h2
          split at h2
          · exact h _ _ _ h1 h2
          · cases h2
    unfold loadC at h
    split at h
    · rename_i fs' hdt
      exact ⟨_, h.2, agg _ hdt trivial h.1⟩
    · rename_i n e hdt
      exact ⟨_, h.2, agg _ hdt trivial h.1⟩
    · rename_i d hn1 hn2 hdt
      obtain ⟨hj, hk⟩ := h
      refine ⟨_, hk, fun E v hv => ?_⟩
      cases hv with
      | agg l vs hl h =>
        have hi : (isAgg fd.type).run P E.w = .ok false E.w := by
          unfold isAgg
          simp only [Sem.run_bind, run_underlying' hdt, Result.andThen_ok]
          cases d <;> first | rfl | exact absurd rfl (hn1 _) | exact absurd rfl (hn2 _ _)
        have hsz : fd.offset < vs.size := by omega
        refine ⟨vs[fd.offset], E.w, ?_, Same.refl _, h _ _ _ (List.getElem?_eq_getElem hj) (by simp [hsz])⟩
        simp [Instr.field, run_underlying' hd, Result.andThen, hfi, asAgg, part, hi, hsz]
    · exact h.elim
  · exact h.elim
theorem lenA_sound {t : TypeId} {x : AV} {k : AV → Prop} (h : lenA P t x k) :
    ∃ av, k av ∧ ∀ (E : Env P) v ty, RV E x v → QRun P E (Builtin.len_ #[t] ty #[v]) av := by
  unfold lenA at h
  split at h
  · rename_i s hd
    refine ⟨_, h, fun E v ty hv => ?_⟩
    cases hv
    exact ⟨_, E.w, by simp [Builtin.len_, run_underlying' hd, Result.andThen]; rfl, Same.refl _, .int _ _⟩
  · rename_i e hd
    refine ⟨_, h, fun E v ty hv => ?_⟩
    cases hv
    exact ⟨_, E.w, by simp [Builtin.len_, run_underlying' hd, Result.andThen]; rfl, Same.refl _, .int _ _⟩
  · rename_i e l hd
    refine ⟨_, h, fun E v ty hv => ?_⟩
    cases hv with
    | roNil a cap => exact ⟨_, E.w, by simp [Builtin.len_, run_underlying' hd, Result.andThen]; rfl, Same.refl _, .int _ _⟩
    | ro => exact ⟨_, E.w, by simp [Builtin.len_, run_underlying' hd, Result.andThen]; rfl, Same.refl _, .int _ _⟩
  · rename_i e b i n hd
    refine ⟨_, h, fun E v ty hv => ?_⟩
    cases hv
    exact ⟨_, E.w, by simp [Builtin.len_, run_underlying' hd, Result.andThen]; rfl, Same.refl _, .int _ _⟩
  · exact h.elim
def entA (p : Int × Bool) : AV := .agg [.int .i64 p.1, .bool p.2]
def entM (p : (Int × Bool) × Nat) : MapEntry := { key := .int .i64 p.1.1, val := .bool p.1.2, born := p.2 }
def entsM (ps : List (Int × Bool)) (k : Nat) : List MapEntry := (ps.zipIdx k).map entM
theorem MapAt.pairs {o : Option Obj} {els : List AV} (h : MapAt o els) : ∃ ps, els = ps.map entA ∧ o = some (.map (entsM ps 0).toArray ps.length) := by
  obtain ⟨es, h1, h2, h3⟩ := h
  have key : ∀ (els : List AV) (l : List MapEntry) (k : Nat), l.length = els.length → (∀ (i : Nat) e m, els[i]? = some e → l[i]? = some m → ∃ n b, e = .agg [.int .i64 n, .bool b] ∧ m = { key := .int .i64 n, val := .bool b, born := k + i }) →
      ∃ ps, els = ps.map entA ∧ l = entsM ps k := by
    intro els
    induction els with
    | nil => intro l k hl _; exact ⟨[], rfl, by simpa [entsM] using hl⟩
    | cons e els ih =>
      intro l k hl hh
      cases l with
      | nil => simp at hl
      | cons m l =>
        obtain ⟨n, b, rfl, rfl⟩ := hh 0 e m rfl rfl
        obtain ⟨ps, rfl, rfl⟩ := ih l (k + 1) (by simpa using hl) (fun i e m he hm => by
          obtain ⟨n, b, h1, h2⟩ := hh (i + 1) e m (by simpa using he) (by simpa using hm)
          exact ⟨n, b, h1, by rw [h2]; congr 1; omega⟩)
        exact ⟨(n, b) :: ps, rfl, by simp [entsM, entM]⟩
  obtain ⟨ps, hp1, hp2⟩ := key els es.toList 0 (by simpa using h2) (fun i e m he hm => by
    obtain ⟨n, b, g1, g2⟩ := h3 i e m he (by simpa using hm)
    exact ⟨n, b, g1, by rw [g2]; congr 1; omega⟩)
  refine ⟨ps, hp1, ?_⟩
  have hs : es.size = ps.length := by rw [h2, hp1]; simp
  rw [h1, hs, ← hp2]
theorem entsM_get (ps : List (Int × Bool)) (k i : Nat) : (entsM ps k)[i]? = (ps[i]?).map fun p => entM (p, k + i) := by
  simp only [entsM, List.getElem?_map, List.getElem?_zipIdx]
  cases ps[i]? <;> rfl
theorem entsM_len (ps : List (Int × Bool)) (k : Nat) : (entsM ps k).length = ps.length := by simp [entsM]
theorem MapAt.of_pairs {o : Option Obj} {ps : List (Int × Bool)} (h : o = some (.map (entsM ps 0).toArray ps.length)) : MapAt o (ps.map entA) := by
  refine ⟨(entsM ps 0).toArray, by rw [h]; simp [entsM_len], by simp [entsM_len], fun i e m he hm => ?_⟩
  rw [List.getElem?_map] at he
  rw [List.getElem?_toArray, entsM_get] at hm
  cases hq : ps[i]? with
  | none => rw [hq] at he; cases he
  | some q =>
    rw [hq] at he hm
    simp only [Option.map_some, Option.some.injEq] at he hm
    subst he; subst hm
    exact ⟨q.1, q.2, rfl, by simp [entM]⟩
theorem lookE_cons (n : Int) (p : Int × Bool) (ps : List (Int × Bool)) : lookE n ((p :: ps).map entA) = if n == p.1 then p.2 else lookE n (ps.map entA) := rfl
theorem findE_cons (n : Int) (p : Int × Bool) (ps : List (Int × Bool)) : findE n ((p :: ps).map entA) = if n == p.1 then 0 else findE n (ps.map entA) + 1 := rfl
theorem findE_le (n : Int) : ∀ ps : List (Int × Bool), findE n (ps.map entA) ≤ ps.length
  | [] => Nat.le_refl _
  | p :: ps => by
    rw [findE_cons]
    have := findE_le n ps
    split
    · omega
    · simp; omega
theorem findNow_ents (n : Int) : ∀ (ps : List (Int × Bool)) (k j : Nat), Instr.findNow (.int .i64) (.int .i64 n) (entsM ps k) j =
    some (if findE n (ps.map entA) < ps.length then some (j + findE n (ps.map entA), .bool (lookE n (ps.map entA))) else none)
  | [], _, _ => rfl
  | p :: ps, k, j => by
    have e : entsM (p :: ps) k = entM (p, k) :: entsM ps (k + 1) := by simp [entsM]
    rw [e, findE_cons, lookE_cons]
    have e2 : Instr.sameNow (.int .i64) (.int .i64 n) (entM (p, k)).key = some (n == p.1) := by simp [Instr.sameNow, entM]
    unfold Instr.findNow
    rw [e2]
    cases h : (n == p.1) with
    | true => simp [entM]
    | false =>
      simp only [Bool.false_eq_true, if_false, findNow_ents n ps (k + 1) (j + 1), List.length_cons, Nat.add_lt_add_iff_right]
      congr 2
      rw [Nat.add_right_comm, Nat.add_assoc]
theorem look_absent (n : Int) : ∀ ps : List (Int × Bool), ¬ findE n (ps.map entA) < ps.length → lookE n (ps.map entA) = false
  | [], _ => rfl
  | p :: ps, h => by
    rw [findE_cons] at h
    rw [lookE_cons]
    cases hp : (n == p.1) with
    | true => simp [hp] at h
    | false =>
      simp only [hp, Bool.false_eq_true, if_false, List.length_cons, Nat.add_lt_add_iff_right] at h ⊢
      exact look_absent n ps h
structure MapTy (P : Program) (t kt et : TypeId) : Prop where
  ht : P.underlying t = some (.map kt et)
  hk : P.underlying kt = some (.int .i64)
  he : P.underlying et = some .bool
  zero : zeroOf P et = .bool false
theorem mapTy_of {t : TypeId} (h : mapTy P t) : ∃ kt et, MapTy P t kt et := by
  unfold mapTy at h
  split at h
  · rename_i kt et ht
    exact ⟨kt, et, ht, h.1, h.2.1, h.2.2⟩
  · exact h.elim
theorem MapTy.zero_run {t kt et : TypeId} (h : MapTy P t kt et) (w : World) : (zeroValue et).run P w = .ok (.bool false) w := by
  obtain ⟨i, hi, _⟩ := info_of h.he
  have hz := h.zero
  unfold zeroOf at hz
  rw [hi] at hz
  simp only [Option.bind_some] at hz
  split at hz
  · rename_i z hz2
    have e : z = .bool false := by
      cases z with
      | bool b => simpa [ofV, ofL] using hz
      | agg l => simp [ofV] at hz
      | _ => unfold ofV ofL at hz; split at hz <;> first | (cases hz; done) | (split at hz <;> first | (cases hz; done) | (rename_i hq; cases hq; done))
    rw [e] at hz2
    simp [zeroValue, typeInfo, hi, hz2, Result.andThen]
  · cases hz
theorem run_checkKey_int {kt : TypeId} (h : P.underlying kt = some (.int .i64)) (b : Bool) (n : Int) (m : Nat) (w : World) : (Instr.checkKey b (m + 1) kt (.int .i64 n)).run P w = .ok () w := by
  unfold Instr.checkKey
  simp [run_underlying' h, Result.andThen]
theorem run_findKey_ents {kt : TypeId} (h : P.underlying kt = some (.int .i64)) (n : Int) (ps : List (Int × Bool)) (w : World) :
    (Instr.findKey kt (.int .i64 n) (entsM ps 0)).run P w = .ok (if findE n (ps.map entA) < ps.length then some (findE n (ps.map entA), .bool (lookE n (ps.map entA))) else none) w := by
  unfold Instr.findKey
  simp only [Sem.run_bind, run_underlying' h, Result.andThen_ok, findNow_ents, Sem.run_pure, Nat.zero_add]
theorem lookup_ents {t : TypeId} (ht : mapTy P t) {w : World} {r : Nat} {ps : List (Int × Bool)} (h : w.heap[r]? = some (.map (entsM ps 0).toArray ps.length)) (n : Int) :
    (Instr.lookup t (.map (some r)) (.int .i64 n) false).run P w = .ok (.bool (lookE n (ps.map entA))) w := by
  obtain ⟨kt, et, T⟩ := mapTy_of ht
  have hg : (getObj r).run P w = .ok (.map (entsM ps 0).toArray ps.length) w := by simp [getObj, Sem.run, h]
  unfold Instr.lookup
  simp only [Sem.run_bind, run_underlying' T.ht, Result.andThen_ok, hg, Sem.run_pure, run_checkKey_int T.hk, run_findKey_ents T.hk]
  by_cases hc : findE n (ps.map entA) < ps.length
  · simp [hc]
  · simp [hc, T.zero_run, Result.andThen, look_absent n ps hc]
theorem lookA_sound {t : TypeId} {hp : List Blk} {x ix : AV} {k : AV → Prop} (h : lookA P t hp x ix k) :
    ∃ av, k av ∧ ∀ (E : Env P) u v, HRel E hp → RV E x u → RV E ix v → QRun P E (Instr.lookup t u v false) av := by
  unfold lookA at h
  split at h
  · rename_i l n
    refine ⟨_, h.2, fun E u v H hu hv => ?_⟩
    cases hv
    cases hu with
    | romNil =>
      obtain ⟨kt, et, T⟩ := mapTy_of h.1
      refine ⟨.bool false, E.w, ?_, Same.refl _, .bool _⟩
      unfold Instr.lookup
      have hk := run_findKey_ents (P := P) T.hk n [] E.w
      simp only [Sem.run_bind, run_underlying' T.ht, Result.andThen_ok, Sem.run_pure, run_checkKey_int T.hk]
      rw [show ([] : List MapEntry) = entsM [] 0 from rfl, hk]
      simp [T.zero_run, Result.andThen]
    | rom l r hF hm =>
      obtain ⟨ps, rfl, h2⟩ := hm.pairs
      exact ⟨_, E.w, lookup_ents h.1 h2 n, Same.refl _, .bool _⟩
  · rename_i b n
    split at h
    · rename_i blk hb
      obtain ⟨hl, hw, ht, hk⟩ := h
      refine ⟨_, hk, fun E u v H hu hv => ?_⟩
      cases hv
      cases hu with
      | mp b hbN =>
        obtain ⟨ps, h1, h2⟩ := ((H.holds b blk hb hl).map hw).pairs
        rw [h1]
        exact ⟨_, E.w, lookup_ents ht h2 n, Same.refl _, .bool _⟩
    · exact h.elim
  · exact h.elim
end
end Go.Abs
namespace Go.Abs
open Go
variable {P : Program}
section
variable {P : Program}
theorem QRun.of {E : Env P} {s : Sem Value} {v : Value} {av : AV} (h : s.run P E.w = .ok v E.w) (hr : RV E av v) : QRun P E s av := ⟨v, E.w, h, Same.refl _, hr⟩
theorem intBin_sound {op : BinOp} {kd : IntKind} {a b : Int} {k : AV → Prop} (hs : op ≠ .shl) (hs' : op ≠ .shr) (h : intBin op kd a b k) :
    ∃ av, k av ∧ ∀ (E : Env P) t, QRun P E (Go.binOp op t (.int kd a) (.int kd b)) av := by
  cases op <;> simp only [intBin] at h
  case quo => exact ⟨_, h.2, fun E t => .of (v := .int kd (kd.wrap (a.tdiv b))) (by simp [Go.binOp, Op.intDiv, h.1]) (.int _ _)⟩
  case rem => exact ⟨_, h.2, fun E t => .of (v := .int kd (a.tmod b)) (by simp [Go.binOp, Op.intDiv, h.1]) (.int _ _)⟩
  case andNot => exact ⟨_, h, fun E t => .of (v := .int kd (kd.wrap (BitVec.ofInt kd.bits a &&& ~~~BitVec.ofInt kd.bits b).toNat)) (by simp only [Go.binOp, ne_eq, not_true_eq_false, if_false, Op.intBits, Sem.run_pure]) (.int _ _)⟩
  all_goals first | exact h.elim | exact ⟨_, h, fun E t => .of (by simp [Go.binOp, Op.intArith, Op.intBits, Op.intCmp]; rfl) (by constructor)⟩
theorem fnum_run {E : Env P} {k : FloatKind} {x y : Nat} {r : Option Nat} {s : Sem Value}
    (h : s.run P E.w = (match r with | some r => (pure (.float k r) : Sem Value) | none => do pure (.float k (← choose (.nanBits k x y)))).run P E.w) : QRun P E s (.flt k (fnum k r)) := by
  cases r with
  | some r => exact ⟨.float k r, E.w, by rw [h]; rfl, Same.refl _, .flt _ _ _ rfl⟩
  | none =>
    refine ⟨.float k ((Question.nanBits k x y).cut (E.w.tape E.w.drawn (.nanBits k x y))), { E.w with drawn := E.w.drawn + 1 }, ?_, Same.drew _ _, .flt _ _ _ (cut_nanBits k x y _)⟩
    have e : (choose (.nanBits k x y)).run P E.w = .ok ((Question.nanBits k x y).cut (E.w.tape E.w.drawn (.nanBits k x y))) { E.w with drawn := E.w.drawn + 1 } := by
      rw [run_choose]; rfl
    rw [h]
    simp only [Sem.run_bind, e, Result.andThen_ok, Sem.run_pure]
theorem fltBin_sound {op : BinOp} {kd : FloatKind} {a b : Nat} {k : AV → Prop} (h : fltBin op kd a b k) :
    ∃ av, k av ∧ ∀ (E : Env P) t u v, canon kd u = a → canon kd v = b → QRun P E (Go.binOp op t (.float kd u) (.float kd v)) av := by
  cases op <;> simp only [fltBin] at h
  case add => exact ⟨_, h, fun E t u v hu hv => by subst hu; subst hv; unfold fadd; rw [canon_add]; exact fnum_run (x := u) (y := v) (by simp [Go.binOp, Op.floatArith]; cases kd.format.add u v <;> rfl)⟩
  case sub => exact ⟨_, h, fun E t u v hu hv => by subst hu; subst hv; unfold fsub; rw [canon_sub]; exact fnum_run (x := u) (y := v) (by simp [Go.binOp, Op.floatArith]; cases kd.format.sub u v <;> rfl)⟩
  case mul => exact ⟨_, h, fun E t u v hu hv => by subst hu; subst hv; unfold fmul; rw [canon_mul]; exact fnum_run (x := u) (y := v) (by simp [Go.binOp, Op.floatArith]; cases kd.format.mul u v <;> rfl)⟩
  case quo => exact ⟨_, h, fun E t u v hu hv => by subst hu; subst hv; unfold fdiv; rw [canon_div]; exact fnum_run (x := u) (y := v) (by simp [Go.binOp, Op.floatArith]; cases kd.format.div u v <;> rfl)⟩
  all_goals first
    | exact h.elim
    | exact ⟨_, h, fun E t u v hu hv => by
        subst hu; subst hv
        refine .of ?_ (.bool _)
        simp [Go.binOp, Op.floatCmp, feq, Abs.flt, fle, fgt, fge, canon_order, bne]⟩
theorem strBin_sound {op : BinOp} {a b : List UInt8} {k : AV → Prop} (h : strBin op a b k) :
    ∃ av, k av ∧ ∀ (E : Env P) t, QRun P E (Go.binOp op t (.string ⟨a.toArray⟩) (.string ⟨b.toArray⟩)) av := by
  have tl : ∀ l : List UInt8, (⟨l.toArray⟩ : ByteArray).toList = l := fun l => by rw [ByteArray.toList_eq]
  cases op <;> simp only [strBin] at h
  case add =>
    refine ⟨_, h.2, fun E t => .of (v := .string (⟨a.toArray⟩ ++ ⟨b.toArray⟩)) ?_ ?_⟩
    · have : ¬ ((a.length + b.length : Nat) : Int) > IntKind.i64.max := by
        have e : IntKind.i64.max = 9223372036854775807 := rfl
        rw [e]; omega
      have e1 : (⟨a.toArray⟩ : ByteArray).size = a.length := by simp [ByteArray.size]
      have e2 : (⟨b.toArray⟩ : ByteArray).size = b.length := by simp [ByteArray.size]
      simp only [Go.binOp, Op.stringOp, e1, e2, this, if_false, Sem.run_pure]
    · have e : ((⟨a.toArray⟩ : ByteArray) ++ ⟨b.toArray⟩) = ⟨(a ++ b).toArray⟩ := by
        apply ByteArray.ext; simp
      rw [e]; exact .str _
  case eql => exact ⟨_, h, fun E t => .of (by simp [Go.binOp, Op.stringOp, tl]) (.bool _)⟩
  case neq => exact ⟨_, h, fun E t => .of (by simp [Go.binOp, Op.stringOp, tl]) (.bool _)⟩
  all_goals exact h.elim
theorem cpxBin_sound {op : BinOp} {kd : FloatKind} {a b c d : Nat} {k : AV → Prop} (h : cpxBin op kd a b c d k) :
    ∃ av, k av ∧ ∀ (E : Env P) t u v x y, canon kd u = a → canon kd v = b → canon kd x = c → canon kd y = d → QRun P E (Go.binOp op t (.complex kd u v) (.complex kd x y)) av := by
  have ar : ∀ (bo : BinOp) (r : Nat → Nat → Option Nat), (bo = .add ∧ r = kd.format.add) ∨ (bo = .sub ∧ r = kd.format.sub) → ∀ (w : World) u v, ∃ z w', (Op.Complex.arith bo kd u v).run P w = .ok z w' ∧ Same w w' ∧ canon kd z = fnum kd (r u v) := by
    intro bo r hbo w u v
    have e : (Op.floatArith bo kd u v).run P w = (match r u v with | some r => (pure (.float kd r) : Sem Value) | none => do pure (.float kd (← choose (.nanBits kd u v)))).run P w := by
      rcases hbo with ⟨rfl, rfl⟩ | ⟨rfl, rfl⟩
      · simp [Op.floatArith]; cases kd.format.add u v <;> rfl
      · simp [Op.floatArith]; cases kd.format.sub u v <;> rfl
    cases hr : r u v with
    | some z => exact ⟨z, w, by simp [Op.Complex.arith, e, hr, Result.andThen], Same.refl _, rfl⟩
    | none =>
      refine ⟨(Question.nanBits kd u v).cut (w.tape w.drawn (.nanBits kd u v)), { w with drawn := w.drawn + 1 }, ?_, Same.drew _ _, cut_nanBits _ _ _ _⟩
      have e' : (choose (.nanBits kd u v)).run P w = .ok ((Question.nanBits kd u v).cut (w.tape w.drawn (.nanBits kd u v))) { w with drawn := w.drawn + 1 } := by rw [run_choose]; rfl
      simp only [Op.Complex.arith, Sem.run_bind, e, hr, e', Result.andThen_ok, Sem.run_pure]
  have two : ∀ (bo : BinOp) (r : Nat → Nat → Option Nat), (bo = .add ∧ r = kd.format.add) ∨ (bo = .sub ∧ r = kd.format.sub) → ∀ (E : Env P) t u v x y, QRun P E (Go.binOp bo t (.complex kd u v) (.complex kd x y)) (.cpx kd (fnum kd (r u x)) (fnum kd (r v y))) := by
    intro bo r hbo E t u v x y
    obtain ⟨z, w1, h1, s1, c1⟩ := ar bo r hbo E.w u x
    obtain ⟨z', w2, h2, s2, c2⟩ := ar bo r hbo w1 v y
    refine ⟨.complex kd z z', w2, ?_, s1.trans s2, .cpx _ _ _ _ _ c1 c2⟩
    rcases hbo with ⟨rfl, rfl⟩ | ⟨rfl, rfl⟩ <;> simp [Go.binOp, Op.complexOp, h1, h2, Result.andThen]
  cases op <;> simp only [cpxBin] at h
  case add => exact ⟨_, h, fun E t u v x y hu hv hx hy => by subst hu hv hx hy; have := two .add _ (.inl ⟨rfl, rfl⟩) E t u v x y; unfold fadd; rw [canon_add, canon_add]; exact this⟩
  case sub => exact ⟨_, h, fun E t u v x y hu hv hx hy => by subst hu hv hx hy; have := two .sub _ (.inr ⟨rfl, rfl⟩) E t u v x y; unfold fsub; rw [canon_sub, canon_sub]; exact this⟩
  case eql => exact ⟨_, h, fun E t u v x y hu hv hx hy => by
      subst hu hv hx hy
      refine .of ?_ (.bool _)
      cases h1 : kd.format.order u x == some .eq <;> simp [Go.binOp, Op.complexOp, Op.Complex.cmp, Op.floatCmp, asBool, feq, canon_order, Result.andThen, h1]⟩
  case neq => exact ⟨_, h, fun E t u v x y hu hv hx hy => by
      subst hu hv hx hy
      refine .of ?_ (.bool _)
      cases h1 : kd.format.order u x == some .eq <;> simp [Go.binOp, Op.complexOp, Op.Complex.cmp, Op.floatCmp, asBool, feq, canon_order, Result.andThen, h1]⟩
  all_goals exact h.elim
theorem eqGuard_plain (op : BinOp) (t : TypeId) (x y : Operand) (a b : Value) (w : World) (ha : a.oneCell' = true) (hn : a ≠ .nilIface) : (eqGuard op t x y a b).run P w = .ok () w := by
  cases op <;> cases a <;> first | rfl | exact absurd rfl hn | cases ha
theorem equal_bool (t : TypeId) (h : P.underlying t = some .bool) (a b : Bool) (w : World) : (Op.equal t (.bool a) (.bool b)).run P w = .ok (a == b) w := by
  have e : ∀ d, (Op.equalIn (d + 1) t (.bool a) (.bool b)).run P w = .ok (a == b) w := by
    intro d
    simp [Op.equalIn, run_underlying' h, Result.andThen]
  exact e 9999
theorem binA_sound {op : BinOp} {t : TypeId} {x y : AV} {k : AV → Prop} (h : binA P op t x y k) :
    ∃ av, k av ∧ ∀ (E : Env P) (ox oy : Operand) u v, RV E x u → RV E y v → QRun P E (do eqGuard op t ox oy u v; Go.binOp op t u v) av := by
  have lift : ∀ {E : Env P} {ox oy : Operand} {u v : Value} {av : AV}, u.oneCell' = true → u ≠ .nilIface → QRun P E (Go.binOp op t u v) av → QRun P E (do eqGuard op t ox oy u v; Go.binOp op t u v) av := by
    intro E ox oy u v av hu hn ⟨z, w', h1, h2, h3⟩
    exact ⟨z, w', by simp only [Sem.run_bind, eqGuard_plain op t ox oy u v E.w hu hn, Result.andThen_ok]; exact h1, h2, h3⟩
  unfold binA at h
  split at h
  · rename_i kd a kd' b
    refine ⟨_, h.2, fun E ox oy u v hu hv => ?_⟩
    cases hu; cases hv
    refine lift rfl (by simp) (.of ?_ (.int _ _))
    have : ¬ b < 0 := by omega
    simp [Go.binOp, Op.shift, this]
  · rename_i kd a kd' b
    refine ⟨_, h.2, fun E ox oy u v hu hv => ?_⟩
    cases hu; cases hv
    refine lift rfl (by simp) (.of ?_ (.int _ _))
    have : ¬ b < 0 := by omega
    simp [Go.binOp, Op.shift, this]
  · rename_i kd a kd' b hs hs'
    obtain ⟨rfl, h⟩ := h
    obtain ⟨av, hk, hr⟩ := intBin_sound (P := P) (fun e => by simp_all) (fun e => by simp_all) h
    refine ⟨av, hk, fun E ox oy u v hu hv => ?_⟩
    cases hu; cases hv
    exact lift rfl (by simp) (hr E t)
  · rename_i kd a kd' b
    obtain ⟨rfl, h⟩ := h
    obtain ⟨av, hk, hr⟩ := fltBin_sound (P := P) h
    refine ⟨av, hk, fun E ox oy u v hu hv => ?_⟩
    cases hu with
    | flt _ _ u hu =>
      cases hv with
      | flt _ _ v hv => exact lift rfl (by simp) (hr E t u v hu hv)
  · rename_i kd a b kd' c d
    obtain ⟨rfl, h⟩ := h
    obtain ⟨av, hk, hr⟩ := cpxBin_sound (P := P) h
    refine ⟨av, hk, fun E ox oy u v hu hv => ?_⟩
    cases hu with
    | cpx _ _ _ u v hu hu' =>
      cases hv with
      | cpx _ _ _ x y hv hv' => exact lift rfl (by simp) (hr E t u v x y hu hu' hv hv')
  · rename_i a b
    obtain ⟨av, hk, hr⟩ := strBin_sound (P := P) h
    refine ⟨av, hk, fun E ox oy u v hu hv => ?_⟩
    cases hu; cases hv
    exact lift rfl (by simp) (hr E t)
  · rename_i a b
    refine ⟨_, h.2, fun E ox oy u v hu hv => ?_⟩
    cases hu; cases hv
    refine lift rfl (by simp) (.of ?_ (.bool _))
    simp [Go.binOp, equal_bool t h.1, Result.andThen]
  · rename_i a b
    refine ⟨_, h.2, fun E ox oy u v hu hv => ?_⟩
    cases hu; cases hv
    refine lift rfl (by simp) (.of ?_ (.bool _))
    simp [Go.binOp, equal_bool t h.1, Result.andThen]
  · exact h.elim
theorem unA_sound {op : UnOp} {x : AV} {k : AV → Prop} (h : unA op x k) :
    ∃ av, k av ∧ ∀ (E : Env P) u, RV E x u → QRun P E (Op.unary op u) av := by
  unfold unA at h
  split at h
  · exact ⟨_, h, fun E u hu => by cases hu; exact .of rfl (.bool _)⟩
  · exact ⟨_, h, fun E u hu => by cases hu; exact .of rfl (.int _ _)⟩
  · refine ⟨_, h, fun E u hu => ?_⟩
    cases hu with
    | flt _ _ u hu => exact .of rfl (.flt _ _ _ (by subst hu; exact (canon_neg _ _).symm))
  · refine ⟨_, h, fun E u hu => ?_⟩
    cases hu with
    | cpx _ _ _ a b ha hb => exact .of rfl (.cpx _ _ _ _ _ (by subst ha; exact (canon_neg _ _).symm) (by subst hb; exact (canon_neg _ _).symm))
  · exact h.elim
theorem fconv_sound {E : Env P} {dst s : FloatKind} {b : Nat} (h : fconvOk dst s (canon s b)) : QRun P E (Conv.floatToFloat s b dst) (.flt dst (fconv dst s (canon s b))) := by
  unfold Conv.floatToFloat fconv
  by_cases hsd : s = dst
  · subst hsd
    simp only [if_true]
    exact .of rfl (.flt _ _ _ rfl)
  · simp only [hsd, if_false]
    have h' := h.resolve_left hsd
    cases hn : (s.decode b).isNaN with
    | true =>
      obtain ⟨sg, t, e⟩ := nan_of hn
      obtain ⟨sg', t', e'⟩ := nan_of ((canon_isNaN s b).trans hn)
      rw [e, e']
      refine ⟨.float dst ((Question.nanConv dst b).cut (E.w.tape E.w.drawn (.nanConv dst b))), { E.w with drawn := E.w.drawn + 1 }, ?_, Same.drew _ _, .flt _ _ _ (cut_nanConv _ _ _)⟩
      have e'' : (choose (.nanConv dst b)).run P E.w = .ok ((Question.nanConv dst b).cut (E.w.tape E.w.drawn (.nanConv dst b))) { E.w with drawn := E.w.drawn + 1 } := by rw [run_choose]; rfl
      simp only [Sem.run_bind, e'', Result.andThen_ok, Sem.run_pure]
    | false =>
      rw [canon_of_not hn] at h' ⊢
      cases hd : s.decode b with
      | nan _ _ => rw [hd] at hn; cases hn
      | infinity n => exact .of rfl (.flt _ _ _ rfl)
      | number n m e =>
        rw [hd] at h'
        simp only [h']
        exact .of rfl (.flt _ _ _ rfl)
theorem toInt_nan {d : Ieee.Datum} (h : d.isNaN = true) : d.toInt .zero = none := by
  obtain ⟨s, t, rfl⟩ := nan_of h; rfl
theorem convA_sound {dst : TypeId} {x : AV} {k : AV → Prop} (h : convA P dst x k) :
    ∃ av, k av ∧ ∀ (E : Env P) src d u, P.underlying src = some d → RV E x u → QRun P E (Go.convert src dst u) av := by
  unfold convA at h
  split at h
  · rename_i kd k0 n hd
    refine ⟨_, h, fun E src d u hs hu => ?_⟩
    cases hu
    exact .of (by simp [Go.convert, run_underlying' hd, run_underlying' hs, Result.andThen, Conv.intToInt]) (.int _ _)
  · rename_i kd k0 n hd
    refine ⟨_, h, fun E src d u hs hu => ?_⟩
    cases hu
    exact .of (v := .float kd (kd.nearest n)) (by simp [Go.convert, run_underlying' hd, run_underlying' hs, Result.andThen, Conv.intToFloat]) (.flt _ _ _ rfl)
  · rename_i kd s b hd
    refine ⟨_, h.2, fun E src d u hs hu => ?_⟩
    cases hu with
    | flt _ _ u hu =>
      subst hu
      obtain ⟨v, w', h1, h2, h3⟩ := fconv_sound (P := P) (E := E) h.1
      exact ⟨v, w', by simp [Go.convert, run_underlying' hd, run_underlying' hs, Result.andThen, h1], h2, h3⟩
  · rename_i kd s b hd
    obtain ⟨n, h1, h2, h3, hk⟩ := h
    refine ⟨_, hk, fun E src d u hs hu => ?_⟩
    cases hu with
    | flt _ _ u hu =>
      have hnn : (s.decode u).isNaN = false := by
        cases hn : (s.decode u).isNaN with
        | false => rfl
        | true =>
          rw [← hu, toInt_nan ((canon_isNaN s u).trans hn)] at h1
          cases h1
      rw [← hu, canon_of_not hnn] at h1
      exact .of (by simp [Go.convert, run_underlying' hd, run_underlying' hs, Result.andThen, Conv.floatToInt, h1, h2, h3]) (.int _ _)
  · rename_i s hd
    refine ⟨_, h, fun E src d u hs hu => ?_⟩
    cases hu
    exact .of (by simp [Go.convert, run_underlying' hd, run_underlying' hs, Result.andThen]) (.str _)
  · exact h.elim
end
end Go.Abs
namespace Go.Abs
open Go
variable {P : Program}
section
variable {P : Program}
theorem boundA_of {x : Option AV} {d : Int} {k : Int → Prop} (h : boundA x d k) : ∃ n, k n ∧ ∀ (E : Env P) (v : Option Value), (∀ a, x = some a → ∃ u, v = some u ∧ RV E a u) → (x = none → v = none) →
    (v = none ∧ n = d) ∨ ∃ kd, v = some (.int kd n) := by
  unfold boundA at h
  split at h
  · exact ⟨_, h, fun E v _ hn => .inl ⟨hn rfl, rfl⟩⟩
  · refine ⟨_, h, fun E v hs _ => ?_⟩
    obtain ⟨u, hu, hr⟩ := hs _ rfl
    cases hr
    exact .inr ⟨_, hu⟩
  · exact h.elim
theorem run_bounds (isSlice : Bool) (len cap : Nat) (lo hi : Option Value) (l h : Int) (w : World) (hlo : (lo = none ∧ l = 0) ∨ ∃ kd, lo = some (.int kd l)) (hhi : (hi = none ∧ h = len) ∨ ∃ kd, hi = some (.int kd h))
    (h0 : 0 ≤ l) (h1 : l ≤ h) (h2 : h ≤ len) (hcap : len ≤ cap) : (Instr.sliceBounds isSlice len cap lo hi none).run P w = .ok (l.toNat, h.toNat, cap) w := by
  have hc : 0 ≤ h ∧ h ≤ (cap : Int) := by omega
  have hc2 : 0 ≤ l ∧ l ≤ ((h.toNat : Nat) : Int) := by omega
  rcases hhi with ⟨rfl, rfl⟩ | ⟨kd, rfl⟩
  · have hc3 : l ≤ (len : Int) := by omega
    rcases hlo with ⟨rfl, rfl⟩ | ⟨kd', rfl⟩
    · simp [Instr.sliceBounds, Result.andThen]
    · simp [Instr.sliceBounds, Instr.sliceBound, asIntOf, Result.andThen, h0, hc3]
  · rcases hlo with ⟨rfl, rfl⟩ | ⟨kd', rfl⟩
    · simp [Instr.sliceBounds, Instr.sliceBound, asIntOf, Result.andThen, hc]
    · have hc4 : l ≤ max h 0 := by omega
      simp [Instr.sliceBounds, Instr.sliceBound, asIntOf, Result.andThen, hc, hc2, hc4, h0]
theorem iface_guard {P : Program} {t : TypeId} {x : Operand} {w : World} : (eqGuard .eql t x (.const .nilIface) .nilIface .nilIface).run P w = .ok () w := by
  simp [eqGuard]
theorem iface_guardN {P : Program} {t : TypeId} {x : Operand} {w : World} : (eqGuard .neq t x (.const .nilIface) .nilIface .nilIface).run P w = .ok () w := by
  simp [eqGuard]
theorem iface_eq {P : Program} {t : TypeId} {ms : Array (String × TypeId)} (ht : P.underlying t = some (.interface ms)) (w : World) : (Go.binOp .eql t .nilIface .nilIface).run P w = .ok (.bool true) w := by
  have e1 : ∀ d, (Op.equalIn (d + 1) t .nilIface .nilIface).run P w = .ok true w := by
    intro d
    simp [Op.equalIn, run_underlying' ht, Result.andThen]
  have e2 : (Op.equal t .nilIface .nilIface).run P w = .ok true w := e1 9999
  simp [Go.binOp, e2, Result.andThen]
theorem iface_neq {P : Program} {t : TypeId} {ms : Array (String × TypeId)} (ht : P.underlying t = some (.interface ms)) (w : World) : (Go.binOp .neq t .nilIface .nilIface).run P w = .ok (.bool false) w := by
  have e1 : ∀ d, (Op.equalIn (d + 1) t .nilIface .nilIface).run P w = .ok true w := by
    intro d
    simp [Op.equalIn, run_underlying' ht, Result.andThen]
  have e2 : (Op.equal t .nilIface .nilIface).run P w = .ok true w := e1 9999
  simp [Go.binOp, e2, Result.andThen]
theorem sliceA_sound {t : TypeId} {hp : List Blk} {x : AV} {lo hi : Option AV} {k : AV → Prop} (h : sliceA P t hp x lo hi k) :
    ∃ av, k av ∧ ∀ (E : Env P) v vl vh, HRel E hp → RV E x v → (∀ a, lo = some a → ∃ u, vl = some u ∧ RV E a u) → (lo = none → vl = none) → (∀ a, hi = some a → ∃ u, vh = some u ∧ RV E a u) → (hi = none → vh = none) →
      QRun P E (Instr.sliceAt t v vl vh none) av := by
  unfold sliceA at h
  split at h
  · rename_i s hd
    obtain ⟨l, h, hl⟩ := boundA_of h
    obtain ⟨r, h, hr⟩ := boundA_of h
    obtain ⟨h0, h1, h2, hk⟩ := h
    refine ⟨_, hk, fun E v vl vh H hv a1 a2 a3 a4 => ?_⟩
    cases hv
    have hb := run_bounds (P := P) false s.length s.length vl vh l r E.w (hl E vl a1 a2) (hr E vh a3 a4) h0 h1 h2 (Nat.le_refl _)
    have e1 : (⟨s.toArray⟩ : ByteArray).size = s.length := by simp [ByteArray.size]
    refine .of (v := .string ((⟨s.toArray⟩ : ByteArray).extract l.toNat r.toNat)) ?_ ?_
    · simp [Instr.sliceAt, Instr.slice, run_underlying' hd, Result.andThen, e1, hb]
    · have : (⟨s.toArray⟩ : ByteArray).extract l.toNat r.toNat = ⟨((s.take r.toNat).drop l.toNat).toArray⟩ := by
        apply ByteArray.ext
        simp [ByteArray.data_extract, List.extract_eq_take_drop, List.drop_take]
      rw [this]; exact .str _
  · rename_i e hd
    obtain ⟨l, h, hl⟩ := boundA_of h
    obtain ⟨r, h, hr⟩ := boundA_of h
    obtain ⟨h0, h1, h2, hpos, hk⟩ := h
    refine ⟨_, hk, fun E v vl vh H hv a1 a2 a3 a4 => ?_⟩
    cases hv with
    | nils a =>
      have e0 : l = 0 := by omega
      have e1 : r = 0 := by omega
      subst e0; subst e1
      have hb := run_bounds (P := P) true 0 0 vl vh 0 0 E.w (hl E vl a1 a2) (hr E vh a3 a4) h0 h1 h2 (Nat.le_refl _)
      refine .of (v := .slice a 0 0) ?_ (.nils _)
      simp [Instr.sliceAt, Instr.slice, run_underlying' hd, Result.andThen, hb, run_sizeOf_pos hpos]
  · rename_i e s hd
    obtain ⟨l, h, hl⟩ := boundA_of h
    obtain ⟨r, h, hr⟩ := boundA_of h
    obtain ⟨h0, h1, h2, hpos, hall, hk⟩ := h
    refine ⟨_, hk, fun E v vl vh H hv a1 a2 a3 a4 => ?_⟩
    have key : ∀ (a : Option Addr) cap, s.length ≤ cap → (Instr.sliceAt t (.slice a s.length cap) vl vh none).run P E.w = .ok (.slice (if cap = l.toNat then a else a.map (·.add (l.toNat * P.cellsOf e))) (r.toNat - l.toNat) (cap - l.toNat)) E.w := by
      intro a cap hcap
      have hb := run_bounds (P := P) true s.length cap vl vh l r E.w (hl E vl a1 a2) (hr E vh a3 a4) h0 h1 h2 hcap
      simp [Instr.sliceAt, Instr.slice, run_underlying' hd, Result.andThen, hb, run_sizeOf_pos hpos]
    cases hv with
    | roNil a cap =>
      have e0 : l = 0 := by simp at h2; omega
      have e1 : r = 0 := by simp at h2; omega
      subst e0; subst e1
      refine .of (key a cap (Nat.zero_le _)) ?_
      simp
      exact .roNil _ _
    | ro l' b off cap wd val hF hcap hmax hws hc hvs =>
      refine .of (key _ cap hcap) ?_
      have hlen : ((s.take r.toNat).drop l.toNat).length = r.toNat - l.toNat := by simp; omega
      by_cases hemp : r.toNat - l.toNat = 0
      · have : (s.take r.toNat).drop l.toNat = [] := List.eq_nil_of_length_eq_zero (by omega)
        rw [this, hemp]
        exact .roNil _ _
      · have hne : cap ≠ l.toNat := by omega
        have hwd : wd = P.cellsOf e := by
          have hl0 : 0 < s.length := by omega
          rw [← hws 0 _ (List.getElem?_eq_getElem hl0)]
          exact hall _ (List.getElem_mem _)
        subst hwd
        rw [if_neg hne, ← hlen]
        simp only [Option.map_some, add_none]
        have tr : ∀ (i : Nat) e', ((s.take r.toNat).drop l.toNat)[i]? = some e' → s[l.toNat + i]? = some e' := by
          intro i e' h
          rw [List.getElem?_drop, List.getElem?_take] at h
          split at h
          · exact h
          · cases h
        refine .ro _ _ _ _ (P.cellsOf e) (fun i j => val (l.toNat + i) j) hF (by rw [hlen]; omega) (by omega) (fun i e' h => hws _ _ (tr i e' h)) (fun i e' h j c hj => ?_) (fun i e' h j c hj => hvs _ _ (tr i e' h) j c hj)
        have := hc _ _ (tr i e' h) j c hj
        rw [Nat.add_mul, ← Nat.add_assoc] at this
        exact this
  · rename_i e b i n hd
    obtain ⟨l, h, hl⟩ := boundA_of h
    obtain ⟨r, h, hr⟩ := boundA_of h
    obtain ⟨h0, h1, h2, hpos, hwb, hk⟩ := h
    refine ⟨_, hk, fun E v vl vh H hv a1 a2 a3 a4 => ?_⟩
    cases hv with
    | sl b i n off cap hbN ho hcap hmax hroom hw =>
      have hb := run_bounds (P := P) true n cap vl vh l r E.w (hl E vl a1 a2) (hr E vh a3 a4) h0 h1 h2 hcap
      have key : (Instr.sliceAt t (.slice (some ⟨E.ρ b, off, none⟩) n cap) vl vh none).run P E.w = .ok (.slice (if cap = l.toNat then some ⟨E.ρ b, off, none⟩ else some ⟨E.ρ b, off + l.toNat * P.cellsOf e, none⟩) (r.toNat - l.toNat) (cap - l.toNat)) E.w := by
        simp [Instr.sliceAt, Instr.slice, run_underlying' hd, Result.andThen, hb, run_sizeOf_pos hpos, add_none]
      refine .of key ?_
      cases hbk : hp[b]? with
      | none => simp [hbk] at hwb
      | some blk =>
        have hwd : E.wd b = P.cellsOf e := by rw [H.wd b blk hbk]; simpa [hbk] using hwb
        by_cases hc0 : cap = l.toNat
        · rw [if_pos hc0]
          exact .sl b (i + l.toNat) (r.toNat - l.toNat) off (cap - l.toNat) hbN (fun h => by omega) (by omega) (by omega) (fun h => by omega) hw
        · rw [if_neg hc0]
          refine .sl b (i + l.toNat) (r.toNat - l.toNat) _ (cap - l.toNat) hbN (fun _ => ?_) (by omega) (by omega) (fun h => ?_) hw
          · rw [ho (by omega), hwd, Nat.add_mul]
          · have := hroom (by omega)
            rwa [show i + l.toNat + (cap - l.toNat) = i + cap by omega]
  · rename_i m e b i j hd
    obtain ⟨l, h, hl⟩ := boundA_of h
    obtain ⟨r, h, hr⟩ := boundA_of h
    obtain ⟨h0, h1, h2, hc1, rfl, hmx, ⟨blk, hbk, hlv, hw1, hlen⟩, hk⟩ := h
    refine ⟨_, hk, fun E v vl vh H hv a1 a2 a3 a4 => ?_⟩
    cases hv with
    | ptr b i j hbN hw =>
      have hb := run_bounds (P := P) false m m vl vh l r E.w (hl E vl a1 a2) (hr E vh a3 a4) h0 h1 h2 (Nat.le_refl _)
      have hwd : E.wd b = 1 := by rw [H.wd b blk hbk]; exact hw1
      have hpos : 0 < P.cellsOf e := by rw [hc1]; exact Nat.one_pos
      have key : (Instr.sliceAt t (.pointer (some ⟨E.ρ b, i * E.wd b + 0, none⟩)) vl vh none).run P E.w = .ok (.slice (if m = l.toNat then some ⟨E.ρ b, i, none⟩ else some ⟨E.ρ b, i + l.toNat, none⟩) (r.toNat - l.toNat) (m - l.toNat)) E.w := by
        simp [Instr.sliceAt, Instr.sureAddr, run_underlying' hd, Result.andThen, hb, run_sizeOf_pos hpos, hc1, add_none, hwd]
        split <;> rfl
      refine .of key ?_
      obtain ⟨cs, hrow, hcs⟩ := (H.holds b blk hbk hlv).cells (by omega)
      have hsz : i + m ≤ csz E.w (E.ρ b) ∨ m = 0 := by
        by_cases hm0 : m = 0
        · exact .inr hm0
        · left
          have hlt : i + m - 1 < blk.els.length := by omega
          obtain ⟨hcl, hcc⟩ := hcs (i + m - 1) _ (List.getElem?_eq_getElem hlt)
          rw [hw1] at hcl
          cases hx : (blk.els[i + m - 1]).cells with
          | nil => rw [hx] at hcl; cases hcl
          | cons x xs =>
            obtain ⟨v, hv, _⟩ := hcc 0 x (by rw [hx]; rfl)
            rw [hw1] at hv
            have := (Array.getElem?_eq_some_iff.1 hv).1
            have hz : csz E.w (E.ρ b) = cs.size := row_csz hrow
            omega
      by_cases hc0 : m = l.toNat
      · rw [if_pos hc0]
        exact .sl b (i + l.toNat) (r.toNat - l.toNat) i (m - l.toNat) hbN (fun h => by omega) (by omega) (by omega) (fun h => by omega) hw
      · rw [if_neg hc0]
        refine .sl b (i + l.toNat) (r.toNat - l.toNat) _ (m - l.toNat) hbN (fun _ => ?_) (by omega) (by omega) (fun h => ?_) hw
        · rw [hwd, Nat.mul_one]
        · rw [hwd, Nat.mul_one]; omega
  · exact h.elim
def RA (E : Env P) (cs : List AV) (A : Array Value) : Prop := cs.length = A.size ∧ ∀ (i : Nat) c x, cs[i]? = some c → A[i]? = some x → RV E c x
theorem fold_set (off : Nat) : ∀ (vs : List Value) (n : Nat) (cs : Array Value),
    ((vs.zipIdx n).foldl (fun cs p => cs.setIfInBounds (off + p.2) p.1) cs).size = cs.size ∧
    ∀ m, off + n + vs.length ≤ cs.size → ((vs.zipIdx n).foldl (fun cs p => cs.setIfInBounds (off + p.2) p.1) cs)[m]? = if off + n ≤ m ∧ m < off + n + vs.length then vs[m - (off + n)]? else cs[m]?
  | [], n, cs => ⟨rfl, fun m h => by
      simp only [List.length_nil, Nat.add_zero]
      rw [if_neg (by omega)]; rfl⟩
  | v :: vs, n, cs => by
    obtain ⟨h1, h2⟩ := fold_set off vs (n + 1) (cs.setIfInBounds (off + n) v)
    refine ⟨by simp only [List.zipIdx_cons, List.foldl_cons, h1, Array.size_setIfInBounds], fun m h => ?_⟩
    simp only [List.length_cons] at h
    simp only [List.zipIdx_cons, List.foldl_cons]
    rw [h2 m (by simp; omega)]
    by_cases hm : m = off + n
    · subst hm
      rw [if_neg (by omega), if_pos (by simp)]
      have : off + n < cs.size := by omega
      simp [this]
    · by_cases hr : off + n + 1 ≤ m ∧ m < off + n + 1 + vs.length
      · rw [if_pos (by omega), if_pos (by simp; omega)]
        rw [show m - (off + n) = (m - (off + (n + 1))) + 1 by omega]
        rfl
      · rw [if_neg (by omega), if_neg (by simp; omega)]
        rw [Array.getElem?_setIfInBounds_ne (by omega)]
theorem placeA_get {cs v : List AV} {off : Nat} (h : off + v.length ≤ cs.length) (m : Nat) : (placeA cs off v)[m]? = if off ≤ m ∧ m < off + v.length then v[m - off]? else cs[m]? := by
  unfold placeA
  by_cases h1 : m < off
  · rw [if_neg (by omega), List.append_assoc, List.getElem?_append_left (by simp; omega), List.getElem?_take_of_lt h1]
  · by_cases h2 : m < off + v.length
    · rw [if_pos (by omega), List.getElem?_append_left (by simp; omega), List.getElem?_append_right (by simp; omega)]
      congr 1; simp; omega
    · rw [if_neg (by omega), List.getElem?_append_right (by simp; omega), List.getElem?_drop]
      congr 1; simp; omega
theorem placeA_len {cs v : List AV} {off : Nat} (h : off + v.length ≤ cs.length) : (placeA cs off v).length = cs.length := by
  unfold placeA; simp; omega
theorem RA.place {E : Env P} {cs : List AV} {A : Array Value} (h : RA E cs A) {a : AV} {v : Value} (hs : a.solid = true) (hv : RV E a v) {off : Nat} (ho : off + a.cells.length ≤ cs.length) :
    RA E (placeA cs off a.cells) (v.cells.zipIdx.foldl (fun cs (x : Value × Nat) => cs.setIfInBounds (off + x.2) x.1) A) := by
  obtain ⟨hl, hc⟩ := hv.not_agg hs
  have e : v.cells.zipIdx.foldl (fun cs (x : Value × Nat) => cs.setIfInBounds (off + x.2) x.1) A = (v.cells.toList.zipIdx 0).foldl (fun cs p => cs.setIfInBounds (off + p.2) p.1) A := by
    rw [← Array.foldl_toList, Array.toList_zipIdx]
  obtain ⟨f1, f2⟩ := fold_set off v.cells.toList 0 A
  rw [e]
  refine ⟨by rw [placeA_len ho, f1]; exact h.1, fun i c x h1 h2 => ?_⟩
  have hA : off + 0 + v.cells.toList.length ≤ A.size := by rw [← h.1]; simp; omega
  rw [f2 i hA] at h2
  rw [placeA_get ho] at h1
  simp only [Nat.add_zero, Array.length_toList] at h2
  rw [hl] at h1
  by_cases hr : off ≤ i ∧ i < off + v.cells.size
  · rw [if_pos hr] at h1 h2
    exact (hc _ c x h1 (by simpa using h2)).1
  · rw [if_neg hr] at h1 h2
    exact h.2 i c x h1 h2
theorem mapM_list {α β : Type} (f : α → Sem β) (g : α → β) (w : World) : ∀ l : List α, (∀ a ∈ l, (f a).run P w = .ok (g a) w) → (l.mapM f).run P w = .ok (l.map g) w
  | [], _ => by simp
  | a :: l, h => by
    simp only [List.mapM_cons, Sem.run_bind, h a (by simp), Result.andThen_ok, mapM_list f g w l (fun x hx => h x (by simp [hx])), Sem.run_pure, List.map_cons]
theorem mapM_array {α β : Type} (f : α → Sem β) (g : α → β) (w : World) (l : Array α) (h : ∀ a ∈ l.toList, (f a).run P w = .ok (g a) w) : (l.mapM f).run P w = .ok (l.map g) w := by
  rw [Array.mapM_eq_mapM_toList]
  simp only [Sem.run_map, mapM_list f g w l.toList h, Result.andThen_ok]
  congr 1
  apply Array.ext'
  simp
theorem buildA_sound {t : TypeId} {fs : Array Field} (hd : P.underlying t = some (.struct fs)) : ∀ (parts : List (Nat × AV)) (cs : List AV) (k : AV → Prop), buildA P t parts cs k →
    ∃ av, k av ∧ ∀ (E : Env P) (A : Array Value) (vs : List (Nat × Value)), RA E cs A → vs.length = parts.length → (∀ (i : Nat) p q, parts[i]? = some p → vs[i]? = some q → q.1 = p.1 ∧ RV E p.2 q.2) →
      ∃ B, Instr.fill ((fs.map fun f => (f.offset, P.cellsOf f.type))[·]?) A vs = some B ∧ RV E av (.agg B)
  | [], cs, k, h => ⟨_, h, fun E A vs ha hl _ => by
      have : vs = [] := List.eq_nil_of_length_eq_zero hl
      subst this
      exact ⟨A, rfl, .agg _ _ ha.1 ha.2⟩⟩
  | (i, a) :: rest, cs, k, h => by
    unfold buildA at h
    split at h
    · rename_i f hf
      obtain ⟨hs, hw, ho, h⟩ := h
      obtain ⟨av, hk, hr⟩ := buildA_sound hd rest _ k h
      refine ⟨av, hk, fun E A vs ha hl hv => ?_⟩
      cases vs with
      | nil => simp at hl
      | cons q vs =>
        obtain ⟨i', v⟩ := q
        obtain ⟨rfl, hv0⟩ := hv 0 (i, a) (i', v) rfl rfl
        obtain ⟨fs', hd', hfi⟩ := field_of hf
        rw [hd] at hd'
        cases hd'
        have hl0 : a.cells.length = v.cells.size := (hv0.not_agg hs).1
        obtain ⟨B, hB, hrB⟩ := hr E _ vs (ha.place hs hv0 ho) (by simpa using hl) (fun j p q hp hq => hv (j + 1) p q hp hq)
        refine ⟨B, ?_, hrB⟩
        have hpl : (fs.map fun f => (f.offset, P.cellsOf f.type))[i']? = some (f.offset, P.cellsOf f.type) := by
          rw [Array.getElem?_map, hfi]; rfl
        have c1 : ¬ v.cells.size ≠ P.cellsOf f.type := by rw [← hl0, hw]; simp
        have c2 : ¬ f.offset + v.cells.size > A.size := by rw [← hl0, ← ha.1]; omega
        simp only [Instr.fill, hpl, c1, c2, decide_false, Bool.or_self, Bool.false_eq_true, if_false]
        exact hB
    · exact h.elim
theorem order_not_nan {k : FloatKind} {x y : Nat} (h : (k.format.order x y).isSome = true) : (k.decode x).isNaN = false ∧ (k.decode y).isNaN = false := by
  have e : k.format.order x y = (k.decode x).order (k.decode y) := rfl
  rw [e] at h
  cases hx : k.decode x <;> cases hy : k.decode y <;> rw [hx, hy] at h <;> first | exact ⟨rfl, rfl⟩ | (simp [Ieee.Datum.order] at h)
theorem minA_sound : ∀ (l : List AV) (x : AV) (k : AV → Prop), minA x l k → ∃ av, k av ∧ ∀ (E : Env P) v (vs : List Value), RV E x v → vs.length = l.length → (∀ (i : Nat) a u, l[i]? = some a → vs[i]? = some u → RV E a u) → QRun P E (vs.foldlM Builtin.min2 v) av
  | [], x, k, h => by
    refine ⟨x, by cases x <;> simpa [minA] using h, fun E v vs hv hl _ => ?_⟩
    have : vs = [] := List.eq_nil_of_length_eq_zero hl
    subst this
    exact .of rfl hv
  | y :: l, x, k, h => by
    cases x <;> cases y <;> simp only [minA] at h
    case int.int kd a kd' b =>
      obtain ⟨rfl, h⟩ := h
      obtain ⟨av, hk, hr⟩ := minA_sound l _ k h
      refine ⟨av, hk, fun E v vs hv hl hvs => ?_⟩
      cases hv
      cases vs with
      | nil => simp at hl
      | cons u vs =>
        have hu := hvs 0 _ u rfl rfl
        cases hu
        obtain ⟨z, w', h1, h2, h3⟩ := hr E (.int kd (if b < a then b else a)) vs (.int _ _) (by simpa using hl) (fun i p q hp hq => hvs (i + 1) p q hp hq)
        exact ⟨z, w', by simp only [List.foldlM_cons, Builtin.min2, Sem.run_bind, Sem.run_pure, Result.andThen_ok]; exact h1, h2, h3⟩
    case flt.flt kd a kd' b =>
      obtain ⟨rfl, ho, h⟩ := h
      obtain ⟨av, hk, hr⟩ := minA_sound l _ k h
      refine ⟨av, hk, fun E v vs hv hl hvs => ?_⟩
      cases hv with
      | flt _ _ v hv =>
      cases vs with
      | nil => simp at hl
      | cons u vs =>
        have hu := hvs 0 _ u rfl rfl
        cases hu with
        | flt _ _ u hu =>
        subst hv
        subst hu
        rw [canon_order] at ho
        have ev : canon kd v = v := canon_of_not (order_not_nan ho).1
        have eu : canon kd u = u := canon_of_not (order_not_nan ho).2
        rw [ev, eu] at hr
        obtain ⟨z, w', h1, h2, h3⟩ := hr E (.float kd (fmin kd v u)) vs (.flt _ _ _ (by unfold fmin; split <;> (try split) <;> first | exact ev | exact eu)) (by simpa using hl) (fun i p q hp hq => hvs (i + 1) p q hp hq)
        refine ⟨z, w', ?_, h2, h3⟩
        rw [← h1]
        simp only [List.foldlM_cons, Builtin.min2, Sem.run_bind]
        cases hoo : kd.format.order v u with
        | none => rw [hoo] at ho; cases ho
        | some o => cases o <;> simp [fmin, hoo, Sem.run_pure, Result.andThen_ok]
theorem maxA_sound : ∀ (l : List AV) (x : AV) (k : AV → Prop), maxA x l k → ∃ av, k av ∧ ∀ (E : Env P) v (vs : List Value), RV E x v → vs.length = l.length → (∀ (i : Nat) a u, l[i]? = some a → vs[i]? = some u → RV E a u) → QRun P E (vs.foldlM Builtin.max2 v) av
  | [], x, k, h => by
    refine ⟨x, by cases x <;> simpa [maxA] using h, fun E v vs hv hl _ => ?_⟩
    have : vs = [] := List.eq_nil_of_length_eq_zero hl
    subst this
    exact .of rfl hv
  | y :: l, x, k, h => by
    cases x <;> cases y <;> simp only [maxA] at h
    case int.int kd a kd' b =>
      obtain ⟨rfl, h⟩ := h
      obtain ⟨av, hk, hr⟩ := maxA_sound l _ k h
      refine ⟨av, hk, fun E v vs hv hl hvs => ?_⟩
      cases hv
      cases vs with
      | nil => simp at hl
      | cons u vs =>
        have hu := hvs 0 _ u rfl rfl
        cases hu
        obtain ⟨z, w', h1, h2, h3⟩ := hr E (.int kd (if b > a then b else a)) vs (.int _ _) (by simpa using hl) (fun i p q hp hq => hvs (i + 1) p q hp hq)
        exact ⟨z, w', by simp only [List.foldlM_cons, Builtin.max2, Sem.run_bind, Sem.run_pure, Result.andThen_ok]; exact h1, h2, h3⟩
    case flt.flt kd a kd' b =>
      obtain ⟨rfl, ho, h⟩ := h
      obtain ⟨av, hk, hr⟩ := maxA_sound l _ k h
      refine ⟨av, hk, fun E v vs hv hl hvs => ?_⟩
      cases hv with
      | flt _ _ v hv =>
      cases vs with
      | nil => simp at hl
      | cons u vs =>
        have hu := hvs 0 _ u rfl rfl
        cases hu with
        | flt _ _ u hu =>
        subst hv
        subst hu
        rw [canon_order] at ho
        have ev : canon kd v = v := canon_of_not (order_not_nan ho).1
        have eu : canon kd u = u := canon_of_not (order_not_nan ho).2
        rw [ev, eu] at hr
        obtain ⟨z, w', h1, h2, h3⟩ := hr E (.float kd (fmax kd v u)) vs (.flt _ _ _ (by unfold fmax; split <;> (try split) <;> first | exact ev | exact eu)) (by simpa using hl) (fun i p q hp hq => hvs (i + 1) p q hp hq)
        refine ⟨z, w', ?_, h2, h3⟩
        rw [← h1]
        simp only [List.foldlM_cons, Builtin.max2, Sem.run_bind]
        cases hoo : kd.format.order v u with
        | none => rw [hoo] at ho; cases ho
        | some o => cases o <;> simp [fmax, hoo, Sem.run_pure, Result.andThen_ok]
def QOp (P : Program) (op : Op) (f : Operand → AV) (hp : List Blk) (av : AV) : Prop :=
  ∀ (E : Env P) (g : Operand → Value) (o : Oper), o.op = op → HRel E hp → (∀ x ∈ op.operands, RV E (f x) (g x)) → (∀ v, g (.const v) = v) →
    ∃ v w', (execOp g o).run P E.w = .ok (.value v) w' ∧ Same E.w w' ∧ RV E av v
theorem QRun.lift {E : Env P} {s : Sem Value} {av : AV} (h : QRun P E s av) {r : Sem Next} (hr : r = (do pure (Next.value (← s)) : Sem Next)) : ∃ v w', r.run P E.w = .ok (.value v) w' ∧ Same E.w w' ∧ RV E av v := by
  obtain ⟨v, w', h1, h2, h3⟩ := h
  exact ⟨v, w', by rw [hr]; simp [h1, Result.andThen], h2, h3⟩
theorem RV_pick {E : Env P} (c : Bool) {a b : AV} {u v : Value} (ha : RV E a u) (hb : RV E b v) : RV E (pickV c a b) (if c then u else v) := by
  unfold pickV
  split
  · cases ha; cases hb; cases c <;> exact .bool _
  · cases c
    · simpa using hb
    · simpa using ha
theorem mem_map_get {α β : Type} {l : List α} {f : α → β} {i : Nat} {b : β} (h : (l.map f)[i]? = some b) : ∃ a, l[i]? = some a ∧ f a = b ∧ a ∈ l := by
  rw [List.getElem?_map] at h
  cases hl : l[i]? with
  | none => simp [hl] at h
  | some a => exact ⟨a, rfl, by simpa [hl] using h, List.mem_of_getElem? hl⟩
theorem quietB_sound {b : Builtin} {ts : List TypeId} {xs : List AV} {k : AV → Prop} (h : quietB P b ts xs k) :
    ∃ av, k av ∧ ∀ (E : Env P) ty cs (vs : List Value), vs.length = xs.length → (∀ (i : Nat) a u, xs[i]? = some a → vs[i]? = some u → RV E a u) → ∀ w, w = E.w →
      ∃ v w', (Go.builtin b ts.toArray ty cs vs.toArray).run P w = .ok (.value v) w' ∧ Same E.w w' ∧ RV E av v := by
  have one : ∀ {E : Env P} {x : AV} {vs : List Value}, vs.length = [x].length → (∀ (i : Nat) a u, [x][i]? = some a → vs[i]? = some u → RV E a u) → ∃ v, vs = [v] ∧ RV E x v := by
    intro E x vs hl hv
    match vs, hl with
    | [v], _ => exact ⟨v, rfl, hv 0 x v rfl rfl⟩
  unfold quietB at h
  split at h
  · rename_i t x
    obtain ⟨av, hk, hr⟩ := lenA_sound h
    refine ⟨av, hk, fun E ty cs vs hl hv w hw => ?_⟩
    subst hw
    obtain ⟨v, rfl, hx⟩ := one hl hv
    exact (hr E v ty hx).lift rfl
  · rename_i x r
    obtain ⟨av, hk, hr⟩ := minA_sound _ _ _ h
    refine ⟨av, hk, fun E ty cs vs hl hv w hw => ?_⟩
    subst hw
    cases vs with
    | nil => simp at hl
    | cons v vs => exact (hr E v vs (hv 0 _ _ rfl rfl) (by simpa using hl) (fun i a u h1 h2 => hv (i + 1) a u h1 h2)).lift rfl
  · rename_i x r
    obtain ⟨av, hk, hr⟩ := maxA_sound _ _ _ h
    refine ⟨av, hk, fun E ty cs vs hl hv w hw => ?_⟩
    subst hw
    cases vs with
    | nil => simp at hl
    | cons v vs => exact (hr E v vs (hv 0 _ _ rfl rfl) (by simpa using hl) (fun i a u h1 h2 => hv (i + 1) a u h1 h2)).lift rfl
  · refine ⟨_, h, fun E ty cs vs hl hv w hw => ?_⟩
    subst hw
    obtain ⟨v, rfl, hx⟩ := one hl hv
    cases hx with
    | cpx _ _ _ a b ha hb => exact ⟨.float _ a, E.w, rfl, Same.refl _, .flt _ _ _ ha⟩
  · refine ⟨_, h, fun E ty cs vs hl hv w hw => ?_⟩
    subst hw
    obtain ⟨v, rfl, hx⟩ := one hl hv
    cases hx with
    | cpx _ _ _ a b ha hb => exact ⟨.float _ b, E.w, rfl, Same.refl _, .flt _ _ _ hb⟩
  · rename_i kd a kd' b
    obtain ⟨rfl, h⟩ := h
    refine ⟨_, h, fun E ty cs vs hl hv w hw => ?_⟩
    subst hw
    match vs, hl with
    | [u, v], _ =>
      have h1 := hv 0 _ u rfl rfl
      have h2 := hv 1 _ v rfl rfl
      cases h1 with
      | flt _ _ u hu =>
        cases h2 with
        | flt _ _ v hv' =>
          refine ⟨.complex kd u v, E.w, ?_, Same.refl _, .cpx _ _ _ _ _ hu hv'⟩
          cases kd <;> rfl
  · split at h
    · rename_i t e hd
      refine ⟨_, h, fun E ty cs vs hl hv w hw => ?_⟩
      subst hw
      obtain ⟨v, rfl, hx⟩ := one hl hv
      cases hx with
      | nils a => exact ⟨.int .i64 0, E.w, by simp [Go.builtin, Builtin.cap_, run_underlying' hd, Result.andThen, goInt], Same.refl _, .int _ _⟩
    · exact h.elim
  · exact h.elim
theorem zero_run {t : TypeId} (h : (zeroOf P t).solid = true) : ∃ z, (∀ w, (zeroValue t).run P w = .ok z w) ∧ zeroOf P t = ofV z := by
  unfold zeroOf at h ⊢
  cases hi : P.info? t with
  | none => simp [hi] at h; cases h
  | some i =>
    cases hz : i.zero with
    | none => simp [hi, hz] at h; cases h
    | some z => exact ⟨z, fun w => by simp [zeroValue, typeInfo, hi, hz, Result.andThen], by simp [hi, hz]⟩
theorem byts_get {l : List UInt8} {j : Nat} (h : j < l.length) : (byts l)[j]? = some (.int .u8 (l[j].toNat : Int)) := by simp [byts, h]
theorem nums_byts (l : List UInt8) : strOfNums (l.map fun c => (c.toNat : Int)) = ⟨l.toArray⟩ := by
  unfold strOfNums
  rw [List.map_map]
  have : ((fun n : Int => UInt8.ofNat n.toNat) ∘ fun c : UInt8 => (c.toNat : Int)) = id := by
    funext c; simp
  rw [this, List.map_id]
theorem convB_sound {src dst : TypeId} {hp : List Blk} {x : AV} {k : AV → Prop} (h : convB P src dst hp x k) :
    ∃ av, k av ∧ ∀ (E : Env P) u, HRel E hp → RV E x u → QRun P E (Go.convert src dst u) av := by
  unfold convB at h
  split at h
  · rename_i b i n hd
    obtain ⟨⟨e, hs, he⟩, h⟩ := h
    split at h
    · rename_i blk hb
      obtain ⟨hl, hw, l, h1, h2, hk⟩ := h
      refine ⟨_, hk, fun E u H hu => ?_⟩
      cases hu with
      | sl _ _ _ off cap hbN ho hcap hmax hroom hw0 =>
        have hwd : E.wd b = 1 := by rw [H.wd b blk hb, hw]
        have run := run_convert_bytes_arg (P := P) E.w src e hs he (E.ρ b) off n cap (l.map fun c => (c.toNat : Int)) (by simp [h2]) (fun j hj => by
          have hoff : off = i := by have := ho (by omega); rw [hwd] at this; omega
          have hj' : j < l.length := by omega
          have g1 : (byts l)[j]? = some (.int .u8 (l[j].toNat : Int)) := byts_get hj'
          rw [← h1, List.getElem?_take_of_lt hj, List.getElem?_drop] at g1
          obtain ⟨v, h3, h4⟩ := H.cell hb hl hw0 g1 (j := 0) (c := .int .u8 (l[j].toNat : Int)) rfl
          cases h4
          rw [hwd] at h3
          rw [hoff]
          simpa [hj'] using h3) dst hd
        rw [nums_byts] at run
        exact .of run (.str _)
    · exact h.elim
  · rename_i hd
    obtain ⟨⟨e, hs, he⟩, hk⟩ := h
    refine ⟨_, hk, fun E u H hu => ?_⟩
    cases hu with
    | nils a =>
      refine .of (v := .string ⟨#[]⟩) ?_ (.str [])
      cases a with
      | none => exact run_convert_bytes_nil E.w src e hs he 0 0 dst hd
      | some a =>
        rw [run_convert_bytes_string E.w src dst e _ 0 0 hs he hd, run_bytesToString E.w a 0 0 [] (by simpa using run_loadCells_list (P := P) E.w a [] (fun j v hj => by simp at hj))]
        rfl
  · rename_i s hd
    obtain ⟨⟨e, hs, he⟩, l, rfl, hk⟩ := h
    refine ⟨_, hk, fun E u H hu => ?_⟩
    generalize hbl : byts l = bl at hu
    cases hu with
    | roNil a cap =>
      have : l = [] := by cases l with | nil => rfl | cons _ _ => simp [byts] at hbl
      subst this
      refine .of (v := .string ⟨#[]⟩) ?_ (.str [])
      cases a with
      | none => exact run_convert_bytes_nil E.w src e hs he 0 cap dst hd
      | some a =>
        rw [run_convert_bytes_string E.w src dst e _ 0 cap hs he hd, run_bytesToString E.w a 0 cap [] (by simpa using run_loadCells_list (P := P) E.w a [] (fun j v hj => by simp at hj))]
        rfl
    | ro _ b off cap wd val hF hcap hmax hw hc hv =>
      subst hbl
      have hlen : (byts l).length = l.length := by simp [byts]
      have run := run_convert_bytes_arg (P := P) E.w src e hs he b off (byts l).length cap (l.map fun c => (c.toNat : Int)) (by simp [hlen]) (fun j hj => by
        have hj' : j < l.length := by omega
        have g1 := byts_get hj'
        have hwd : wd = 1 := by have := hw j _ g1; simpa [AV.cells] using this.symm
        have g2 := hc j _ g1 0 _ rfl
        have g3 := hv j _ g1 0 _ rfl
        rw [hwd] at g2
        generalize val j 0 = vv at g2 g3
        cases g3
        simpa [hj'] using g2) dst hd
      rw [nums_byts] at run
      exact .of run (.str _)
  · obtain ⟨⟨d, hs⟩, h⟩ := h
    obtain ⟨av, hk, hr⟩ := convA_sound h
    exact ⟨av, hk, fun E u _ hu => hr E src d u hs hu⟩
theorem quietA_sound {op : Op} {f : Operand → AV} {hp : List Blk} {k : AV → Prop} (h : quietA P op f hp k) : ∃ av, k av ∧ QOp P op f hp av := by
  cases op <;> simp only [quietA] at h
  case move x => exact ⟨_, h, fun E g o ho H hr hcst => ⟨g x, E.w, by simp [execOp, ho], Same.refl _, hr x (by simp [Op.operands])⟩⟩
  case assign x => exact ⟨_, h, fun E g o ho H hr hcst => ⟨g x, E.w, by simp [execOp, ho], Same.refl _, hr x (by simp [Op.operands])⟩⟩
  case pick c a b =>
    split at h
    · rename_i cb hc
      refine ⟨_, h, fun E g o ho H hr hcst => ?_⟩
      have h1 := hr c (by simp [Op.operands])
      rw [hc] at h1
      generalize hgc : g c = gc at h1
      cases h1
      exact ⟨if cb then g a else g b, E.w, by simp [execOp, ho, hgc, asBool, Result.andThen], Same.refl _, RV_pick cb (hr a (by simp [Op.operands])) (hr b (by simp [Op.operands]))⟩
    · exact h.elim
  case build t parts =>
    obtain ⟨h0, hz, h⟩ := h
    split at h0
    · rename_i fs hd
      obtain ⟨av, hk, hr⟩ := buildA_sound hd _ _ _ h
      obtain ⟨z, hz1, hz2⟩ := zero_run hz
      refine ⟨av, hk, fun E g o ho H hv hcst => ?_⟩
      have hzr : RV E (zeroOf P t) z := by rw [hz2]; exact RV_ofV E z
      obtain ⟨hzl, hzc⟩ := hzr.not_agg hz
      obtain ⟨B, hB, hrB⟩ := hr E z.cells (parts.toList.map fun p => (p.1, g p.2)) ⟨hzl, fun i c x h1 h2 => (hzc i c x h1 h2).1⟩ (by simp) (fun i p q hp hq => by
        obtain ⟨p0, e0, rfl, hm⟩ := mem_map_get hp
        obtain ⟨q0, e1, rfl, _⟩ := mem_map_get hq
        rw [e0] at e1; cases e1
        exact ⟨rfl, hv _ (by simp only [Op.operands, List.mem_toArray, List.mem_map]; exact ⟨p0, hm, rfl⟩)⟩)
      refine ⟨.agg B, E.w, ?_, Same.refl _, hrB⟩
      have hm := mapM_array (P := P) (fun f : Field => (do pure (f.offset, ← sizeOf f.type) : Sem (Nat × Nat))) (fun f => (f.offset, P.cellsOf f.type)) E.w fs (fun f hf => by
        simp [run_sizeOf_pos (h0 f hf), Result.andThen])
      have e : (parts.map fun x => (x.1, g x.2)).toList = parts.toList.map fun p => (p.1, g p.2) := by simp
      simp only [execOp, ho, Instr.build, Sem.run_bind, hz1, Result.andThen_ok, run_underlying' hd, hm, e, hB, Sem.run_pure]
    · rename_i n e hd
      obtain ⟨he, hp0⟩ := h0
      rw [hp0] at h
      have h : k (.agg (zeroOf P t).cells) := h
      obtain ⟨z, hz1, hz2⟩ := zero_run hz
      refine ⟨_, h, fun E g o ho H hv hcst => ?_⟩
      have hzr : RV E (zeroOf P t) z := by rw [hz2]; exact RV_ofV E z
      obtain ⟨hzl, hzc⟩ := hzr.not_agg hz
      refine ⟨.agg z.cells, E.w, ?_, Same.refl _, .agg _ _ hzl fun i c x h1 h2 => (hzc i c x h1 h2).1⟩
      have e2 : (parts.map fun x => (x.1, g x.2)).toList = [] := by simp [hp0]
      simp only [execOp, ho, Instr.build, Sem.run_bind, hz1, Result.andThen_ok, run_underlying' hd, run_sizeOf_pos he, e2, Instr.fill, Sem.run_pure]
    · exact h0.elim
  case load t a =>
    obtain ⟨av, hk, hr⟩ := loadA_sound h
    exact ⟨av, hk, fun E g o ho H hv hcst => (hr E _ H (hv a (by simp [Op.operands]))).run.lift (by simp [execOp, ho])⟩
  case nilCheck x =>
    split at h
    · rename_i b i j hx
      refine ⟨_, h, fun E g o ho H hv hcst => ?_⟩
      have h1 := hv x (by simp [Op.operands]); rw [hx] at h1
      generalize hgc : g x = gc at h1
      cases h1 with
      | ptr _ _ _ hb hw => exact ⟨_, E.w, by simp only [execOp, ho, hgc]; rfl, Same.refl _, .ptr _ _ _ hb hw⟩
    · rename_i l hx
      refine ⟨_, h, fun E g o ho H hv hcst => ?_⟩
      have h1 := hv x (by simp [Op.operands]); rw [hx] at h1
      generalize hgc : g x = gc at h1
      have h1' := h1
      cases h1 with
      | rop => exact ⟨_, E.w, by simp only [execOp, ho, hgc]; rfl, Same.refl _, h1'⟩
    · rename_i fid l hx
      refine ⟨_, h, fun E g o ho H hv hcst => ?_⟩
      have h1 := hv x (by simp [Op.operands]); rw [hx] at h1
      generalize hgc : g x = gc at h1
      have h1' := h1
      cases h1 with
      | fn => exact ⟨_, E.w, by simp only [execOp, ho, hgc]; rfl, Same.refl _, h1'⟩
    · rename_i fid l hx
      refine ⟨_, h, fun E g o ho H hv hcst => ?_⟩
      have h1 := hv x (by simp [Op.operands]); rw [hx] at h1
      generalize hgc : g x = gc at h1
      have h1' := h1
      cases h1 with
      | mv => exact ⟨_, E.w, by simp only [execOp, ho, hgc]; rfl, Same.refl _, h1'⟩
    · exact h.elim
  case binOp op t x y t' =>
    split at h
    · rename_i hn
      unfold nilC at hn
      split at hn
      · unfold nilA at h
        have key : ∀ (a : Addr) (n c : Nat) (e : TypeId) (w : World), P.underlying t = some (.slice e) → (Go.binOp .eql t (.slice (some a) n c) (.slice none 0 0)).run P w = .ok (.bool false) w := by
          intro a n c e w ht
          have e1 : ∀ d, (Op.equalIn (d + 1) t (.slice (some a) n c) (.slice none 0 0)).run P w = .ok false w := by
            intro d
            simp [Op.equalIn, run_underlying' ht, Result.andThen]
          have e2 : (Op.equal t (.slice (some a) n c) (.slice none 0 0)).run P w = .ok false w := e1 9999
          simp [Go.binOp, e2, Result.andThen]
        split at h
        · rename_i e a l ht hx
          refine ⟨_, h, fun E g o ho H hv hcst => ?_⟩
          have h1 := hv x (by simp [Op.operands])
          rw [hx] at h1
          generalize hu : g x = u at h1
          cases h1 with
          | ro _ b off cap wd val _ _ _ _ _ _ =>
            refine QRun.lift (s := (do eqGuard .eql t x (.const (.slice none 0 0)) (g x) (g (.const (.slice none 0 0))); Go.binOp .eql t (g x) (g (.const (.slice none 0 0))))) ⟨.bool false, E.w, ?_, Same.refl _, .bool _⟩ (by simp [execOp, ho])
            rw [hu, hcst]
            simp only [Sem.run_bind, eqGuard_plain .eql t x _ (.slice _ _ _) _ E.w rfl (by simp), Result.andThen_ok]
            exact key _ _ _ _ _ ht
        · rename_i e b i n ht hx
          refine ⟨_, h, fun E g o ho H hv hcst => ?_⟩
          have h1 := hv x (by simp [Op.operands])
          rw [hx] at h1
          generalize hu : g x = u at h1
          cases h1 with
          | sl _ _ _ off cap _ _ _ _ _ _ =>
            refine QRun.lift (s := (do eqGuard .eql t x (.const (.slice none 0 0)) (g x) (g (.const (.slice none 0 0))); Go.binOp .eql t (g x) (g (.const (.slice none 0 0))))) ⟨.bool false, E.w, ?_, Same.refl _, .bool _⟩ (by simp [execOp, ho])
            rw [hu, hcst]
            simp only [Sem.run_bind, eqGuard_plain .eql t x _ (.slice _ _ _) _ E.w rfl (by simp), Result.andThen_ok]
            exact key _ _ _ _ _ ht
        · exact h.elim
      · cases hn
    rename_i hn0
    split at h
    · rename_i b hn
      unfold ifaA at h
      split at h
      · rename_i ms ht hx
        refine ⟨_, h, fun E g o ho H hv hcst => ?_⟩
        have h1 := hv x (by simp [Op.operands])
        rw [hx] at h1
        generalize hu : g x = u at h1
        cases h1
        unfold nilI at hn
        split at hn
        · cases hn
          refine QRun.lift (s := (do eqGuard .eql t x (.const .nilIface) (g x) (g (.const .nilIface)); Go.binOp .eql t (g x) (g (.const .nilIface)))) ⟨.bool true, E.w, ?_, Same.refl _, .bool _⟩ (by simp [execOp, ho])
          rw [hu, hcst]
          simp only [Sem.run_bind, iface_guard, Result.andThen_ok]
          exact iface_eq ht E.w
        · cases hn
          refine QRun.lift (s := (do eqGuard .neq t x (.const .nilIface) (g x) (g (.const .nilIface)); Go.binOp .neq t (g x) (g (.const .nilIface)))) ⟨.bool false, E.w, ?_, Same.refl _, .bool _⟩ (by simp [execOp, ho])
          rw [hu, hcst]
          simp only [Sem.run_bind, iface_guardN, Result.andThen_ok]
          exact iface_neq ht E.w
        · cases hn
      · exact h.elim
    obtain ⟨av, hk, hr⟩ := binA_sound h
    exact ⟨av, hk, fun E g o ho H hv hcst => (hr E x y _ _ (hv x (by simp [Op.operands])) (hv y (by simp [Op.operands]))).lift (by simp [execOp, ho])⟩
  case unOp op t x =>
    obtain ⟨av, hk, hr⟩ := unA_sound (P := P) h
    exact ⟨av, hk, fun E g o ho H hv hcst => (hr E _ (hv x (by simp [Op.operands]))).lift (by simp [execOp, ho])⟩
  case convert src dst x =>
    obtain ⟨av, hk, hr⟩ := convB_sound h
    exact ⟨av, hk, fun E g o ho H hv hcst => (hr E _ H (hv x (by simp [Op.operands]))).lift (by simp [execOp, ho])⟩
  case makeFunc fn first captured =>
    cases fn <;> simp only [quietA] at h
    case func fid =>
      split at h
      rotate_left
      · rename_i hne
        obtain ⟨h0, h⟩ := h
        refine ⟨_, h, fun E g o ho H hv hcst => ⟨.func (.func fid) (first.map g) #[], E.w, ?_, Same.refl _, .mv _ _ _ (by simp) fun i a v h1 h2 => ?_⟩⟩
        · have : captured = #[] := by apply Array.ext'; simpa using h0
          simp [execOp, ho, Instr.makeFunc, this, Result.andThen]
        · obtain ⟨x, e0, rfl, hm⟩ := mem_map_get h1
          have h2' : (first.toList.map g)[i]? = some v := by simpa using h2
          obtain ⟨y, e1, rfl, _⟩ := mem_map_get h2'
          rw [e0] at e1; cases e1
          exact hv _ (by simp only [Op.operands, Array.mem_append]; exact .inl (by simpa using hm))
      rename_i h0
      refine ⟨_, h, fun E g o ho H hv hcst => ⟨.func (.func fid) #[] (captured.map g), E.w, ?_, Same.refl _, .fn _ _ _ (by simp) fun i a v h1 h2 => ?_⟩⟩
      · have : first = #[] := by apply Array.ext'; simpa using h0
        simp [execOp, ho, Instr.makeFunc, this, Result.andThen]
      · obtain ⟨x, e0, rfl, hm⟩ := mem_map_get h1
        have h2' : (captured.toList.map g)[i]? = some v := by simpa using h2
        obtain ⟨y, e1, rfl, _⟩ := mem_map_get h2'
        rw [e0] at e1; cases e1
        exact hv _ (by simp only [Op.operands, Array.mem_append]; exact .inr (by simpa using hm))
    all_goals exact h.elim
  case slice t x lo hi mx =>
    cases mx <;> simp only [quietA] at h
    case none =>
      obtain ⟨av, hk, hr⟩ := sliceA_sound h
      refine ⟨av, hk, fun E g o ho H hv hcst => (hr E (g x) (lo.map g) (hi.map g) H (hv x (by simp [Op.operands])) (fun a ha => ?_) (fun hn => by cases lo <;> simp_all) (fun a ha => ?_) (fun hn => by cases hi <;> simp_all)).lift (by simp [execOp, ho])⟩
      · cases lo with
        | none => cases ha
        | some l => cases ha; exact ⟨_, rfl, hv l (by simp [Op.operands])⟩
      · cases hi with
        | none => cases ha
        | some l => cases ha; exact ⟨_, rfl, hv l (by simp [Op.operands])⟩
    all_goals exact h.elim
  case fieldAddr s x i =>
    obtain ⟨av, hk, hr⟩ := fieldA_sound h
    exact ⟨av, hk, fun E g o ho H hv hcst => (hr E _ (hv x (by simp [Op.operands]))).lift (by simp [execOp, ho])⟩
  case field t x i =>
    obtain ⟨av, hk, hr⟩ := partA_sound h
    exact ⟨av, hk, fun E g o ho H hv hcst => (hr E _ (hv x (by simp [Op.operands]))).lift (by simp [execOp, ho])⟩
  case indexAddr t x ix =>
    obtain ⟨av, hk, hr⟩ := indexA_sound h
    exact ⟨av, hk, fun E g o ho H hv hcst => (hr E _ _ H (hv x (by simp [Op.operands])) (hv ix (by simp [Op.operands]))).lift (by simp [execOp, ho])⟩
  case index t x ix =>
    obtain ⟨av, hk, hr⟩ := indexS_sound h
    exact ⟨av, hk, fun E g o ho H hv hcst => (hr E _ _ (hv x (by simp [Op.operands])) (hv ix (by simp [Op.operands]))).lift (by simp [execOp, ho])⟩
  case lookup t x ix ok =>
    cases ok <;> simp only [quietA] at h
    obtain ⟨av, hk, hr⟩ := lookA_sound h
    exact ⟨av, hk, fun E g o ho H hv hcst => (hr E _ _ H (hv x (by simp [Op.operands])) (hv ix (by simp [Op.operands]))).lift (by simp [execOp, ho])⟩
  case extract x i =>
    split at h
    · rename_i l hx
      obtain ⟨hi, h⟩ := h
      refine ⟨_, h, fun E g o ho H hv hcst => ?_⟩
      have h1 := hv x (by simp [Op.operands]); rw [hx] at h1
      generalize hgc : g x = gc at h1
      cases h1 with
      | tup _ vs hl hc =>
        have hi' : i < vs.size := by omega
        exact ⟨vs[i], E.w, by simp [execOp, ho, hgc, Instr.extract, hi', Result.andThen], Same.refl _, hc i _ _ (List.getElem?_eq_getElem hi) (by simp [hi'])⟩
    · exact h.elim
  case call c =>
    split at h
    · rename_i b hb
      obtain ⟨av, hk, hr⟩ := quietB_sound h
      refine ⟨av, hk, fun E g o ho H hv hcst => ?_⟩
      obtain ⟨v, w', h1, h2, h3⟩ := hr E o.type (c.args.map fun | .const _ => true | _ => false) (c.args.toList.map g) (by simp) (fun i a u h1 h2 => by
        obtain ⟨x, e0, rfl, hm⟩ := mem_map_get h1
        obtain ⟨y, e1, rfl, _⟩ := mem_map_get h2
        rw [e0] at e1; cases e1
        exact hv _ (by simp only [Op.operands, Call.operands, Array.mem_append]; exact .inr (by simpa using hm))) E.w rfl
      refine ⟨v, w', ?_, h2, h3⟩
      have e1 : c.argTypes.toList.toArray = c.argTypes := by simp
      have e2 : (c.args.toList.map g).toArray = c.args.map g := by apply Array.ext'; simp
      rw [e1, e2] at h1
      simp only [execOp, ho, resolve, hb, Sem.run_bind, Sem.run_pure, Result.andThen_ok, invoke]
      exact h1
    · exact h.elim
  all_goals exact h.elim
end
end Go.Abs
namespace Go.Abs
open Go
variable {P : Program}
section
variable {P : Program}
def Runs (P : Program) (o : Oper) (g : Operand → Value) (w : World) (post : Value → World → Prop) : Prop :=
  match (execOp g o).run P w with
  | .ok (.value v) w' => post v w'
  | .ok .skip w' => post undef w'
  | .ok (.enter f args) w' => Calls P f args w' fun e w'' => ∃ v, e = .returned v ∧ post v w''
  | _ => False
theorem Runs.wp {o : Oper} {a : Act} {w : World} {post : Value → World → Prop} {next : Act → World → Prop} {Q : Exit → Act → World → Prop} (h : Runs P o a.eval w post) (hn : ∀ v w', post v w' → next (a.put o.dst v) w') : o.wp P a w next Q := by
  unfold Runs at h
  unfold Oper.wp
  split at h
  · rename_i v w' hr; rw [hr]; exact hn _ _ h
  · rename_i w' hr; rw [hr]; exact hn _ _ h
  · rename_i f args w' hr
    rw [hr]
    exact h.mono fun e w'' ⟨v, he, hp⟩ => by subst he; exact hn _ _ hp
  · exact h.elim
structure Left (E : Env P) (E0 : Env P) (hp0 : List Blk) (k : AV → List Blk → Option Nat → Prop) (v : Value) (w' : World) (E' : Env P) (av : AV) (hp' : List Blk) (kb : Option Nat) : Prop where
  w : E'.w = w'
  k : k av hp' kb
  rv : RV E' av v
  hr : HRel E' hp'
  fr : Fr E0 hp0 E' hp'
  keep : ∀ a u, RV E a u → RV E' (killO kb a) u
def OpPost (E : Env P) (E0 : Env P) (hp0 : List Blk) (k : AV → List Blk → Option Nat → Prop) (v : Value) (w' : World) : Prop :=
  ∃ E' av hp' kb, Left E E0 hp0 k v w' E' av hp' kb
theorem csz_push (w : World) (o : Obj) (c : Nat) : csz w c ≤ csz { w with heap := w.heap.push o } c := by
  unfold csz
  by_cases h : c < w.heap.size
  · rw [Array.getElem?_push_lt h, Array.getElem?_eq_getElem h]; exact Nat.le_refl _
  · rw [Array.getElem?_eq_none (by omega)]; exact Nat.zero_le _
theorem new_obj {E E0 : Env P} {hp hp0 : List Blk} (H : HRel E hp) (F : Fr E0 hp0 E hp) (blk : Blk) (o : Obj)
    (w' : World) (hw : Same { E.w with heap := E.w.heap.push o } w')
    (hel : ∀ E' : Env P, E.le E' → E'.w.heap[E.w.heap.size]? = some o → Holds E' blk E.w.heap.size) :
    ∃ E', E'.w = w' ∧ HRel E' (hp ++ [blk]) ∧ Fr E0 hp0 E' (hp ++ [blk]) ∧ E.le E' ∧ E'.ρ hp.length = E.w.heap.size ∧ E'.wd hp.length = blk.w ∧ hp.length < E'.N ∧ w'.heap[E.w.heap.size]? = some o := by
  obtain ⟨hh, ho, ht, hu⟩ := hw
  have hget : ∀ c, c < E.w.heap.size → w'.heap[c]? = E.w.heap[c]? := fun c hc => by rw [hh]; show (E.w.heap.push _)[c]? = _; rw [Array.getElem?_push_lt hc, Array.getElem?_eq_getElem hc]
  have hnew : w'.heap[E.w.heap.size]? = some o := by rw [hh]; show (E.w.heap.push _)[_]? = _; simp
  let E' : Env P := { w := w', F := E.F, N := hp.length + 1, ρ := fun b => if b = hp.length then E.w.heap.size else E.ρ b, wd := fun b => if b = hp.length then blk.w else E.wd b }
  have hcsz : ∀ c, csz E.w c ≤ csz w' c := fun c => by
    have := csz_push E.w o c
    unfold csz at this ⊢
    rw [hh]; exact this
  have le : E.le E' := ⟨fun _ h => h, fun c hc => hget c (H.old c hc), by show E.N ≤ hp.length + 1; rw [H.N]; omega,
    fun b hb => by have : b ≠ hp.length := by rw [H.N] at hb; omega
                   simp [E', this], fun b hb => by have : b ≠ hp.length := by rw [H.N] at hb; omega
                                                   simp [E', this], hcsz⟩
  have hat : ∀ (b : Nat) bk, (hp ++ [blk])[b]? = some bk → (b < hp.length ∧ hp[b]? = some bk) ∨ (b = hp.length ∧ bk = blk) := by
    intro b bk h
    rw [List.getElem?_append] at h
    split at h
    · exact .inl ⟨by assumption, h⟩
    · rename_i hge
      cases hd : b - hp.length with
      | zero => rw [hd] at h; exact .inr ⟨by omega, by simpa using h.symm⟩
      | succ n => rw [hd] at h; simp at h
  have hbound : ∀ (b : Nat) bk, hp[b]? = some bk → bk.live = true → E.ρ b < E.w.heap.size := fun b bk hb hlv => by
    exact (H.holds b bk hb hlv).lt
  have HR : HRel E' (hp ++ [blk]) := by
    refine ⟨by simp [E'], ?_, ?_, ?_, ?_, ?_, H.laidLe le⟩
    · intro b bk hb
      rcases hat b bk hb with ⟨h1, h2⟩ | ⟨h1, h2⟩
      · have : b ≠ hp.length := by omega
        simp only [E', this, if_false]; exact H.wd b bk h2
      · subst h2; simp [E', h1]
    · intro b bk hb hlv
      rcases hat b bk hb with ⟨h1, h2⟩ | ⟨h1, h2⟩
      · have hne : b ≠ hp.length := by omega
        refine (H.holds b bk h2 hlv).keep ?_ fun x u hu => hu.mono le
        simp only [E', hne, if_false]
        exact hget _ (hbound b bk h2 hlv)
      · subst h2
        simp only [E', h1, if_true]
        exact hel E' le hnew
    · intro b b' bk bk' hb hlv hb' hlv' he
      rcases hat b bk hb with ⟨h1, h2⟩ | ⟨h1, h2⟩ <;> rcases hat b' bk' hb' with ⟨h3, h4⟩ | ⟨h3, h4⟩
      · have e1 : b ≠ hp.length := by omega
        have e2 : b' ≠ hp.length := by omega
        simp only [E', e1, e2, if_false] at he
        exact H.inj b b' bk bk' h2 hlv h4 hlv' he
      · have e1 : b ≠ hp.length := by omega
        simp only [E', e1, h3, if_false, if_true] at he
        have := hbound b bk h2 hlv
        omega
      · have e2 : b' ≠ hp.length := by omega
        simp only [E', e2, h1, if_false, if_true] at he
        have := hbound b' bk' h4 hlv'
        omega
      · omega
    · intro b bk hb hlv
      rcases hat b bk hb with ⟨h1, h2⟩ | ⟨h1, h2⟩
      · have : b ≠ hp.length := by omega
        simp only [E', this, if_false]; exact H.apart b bk h2 hlv
      · simp only [E', h1, if_true]
        exact fun hF => absurd (H.old _ hF) (Nat.lt_irrefl _)
    · intro c hc
      have := H.old c hc
      show c < w'.heap.size
      rw [hh]; simp; omega
  refine ⟨E', rfl, HR, ?_, le, by simp [E'], by simp [E'], by simp [E'], hnew⟩
  have hlen := F.len
  exact {
    size := by show _ ≤ w'.heap.size; rw [hh]; have := F.size; simp; omega
    os := ho.trans F.os
    tape := ht.trans F.tape
    output := hu.trans F.output
    block := fun c hc hn => (hget c (Nat.lt_of_lt_of_le hc F.size)).trans (F.block c hc hn)
    len := by simp; omega
    ρ := fun b hb => by
      have : b ≠ hp.length := by omega
      simp only [E', this, if_false]; exact F.ρ b hb
    wd := fun b hb => by
      have : b ≠ hp.length := by omega
      simp only [E', this, if_false]; exact F.wd b hb
    F := F.F
    F' := F.F'
    live := fun b hb => by
      obtain ⟨bk, hb, hlv⟩ := hb
      rcases hat b bk hb with ⟨h1, h2⟩ | ⟨h1, h2⟩
      · have : b ≠ hp.length := by omega
        simp only [E', this, if_false]
        exact F.live b ⟨bk, h2, hlv⟩
      · refine .inr ⟨by omega, ?_⟩
        simp only [E', h1, if_true]
        exact .inl F.size
    csz := fun c => Nat.le_trans (F.csz c) (hcsz c) }
theorem new_blockR {E E0 : Env P} {hp hp0 : List Blk} (H : HRel E hp) (F : Fr E0 hp0 E hp) (blk : Blk) (cs : Array Value) (hl : blk.live = true)
    (fr : Nat × Nat) (hfr : OkFr fr cs.size) (w' : World) (hw : Same { E.w with heap := E.w.heap.push (.cells cs blk.ty fr) } w') (hw0 : 0 < blk.w)
    (hel : ∀ (i : Nat) e, blk.els[i]? = some e → e.cells.length = blk.w ∧ ∀ (j : Nat) x, e.cells[j]? = some x → ∃ v, cs[i * blk.w + j]? = some v ∧ RV E x v) :
    ∃ E', E'.w = w' ∧ HRel E' (hp ++ [blk]) ∧ Fr E0 hp0 E' (hp ++ [blk]) ∧ E.le E' ∧ E'.ρ hp.length = E.w.heap.size ∧ E'.wd hp.length = blk.w ∧ hp.length < E'.N ∧ csz w' E.w.heap.size = cs.size := by
  obtain ⟨E', h1, h2, h3, h4, h5, h6, h7, h8⟩ := new_obj H F blk (.cells cs blk.ty fr) w' hw fun E' le hnew => .of hw0 ⟨cs, ⟨fr, hnew, hfr⟩, fun i e he => ⟨(hel i e he).1, fun j x hx => by
    obtain ⟨v, h5, h6⟩ := (hel i e he).2 j x hx
    exact ⟨v, h5, h6.mono le⟩⟩⟩
  exact ⟨E', h1, h2, h3, h4, h5, h6, h7, by simp [csz, h8]⟩
def EA (E : Env P) (w : Nat) (els : List AV) (A : Array Value) : Prop :=
  ∀ (i : Nat) e, els[i]? = some e → e.cells.length = w ∧ ∀ (j : Nat) x, e.cells[j]? = some x → ∃ v, A[i * w + j]? = some v ∧ RV E x v
theorem OpPost.blockR {E E0 : Env P} {hp hp0 : List Blk} (H : HRel E hp) (F : Fr E0 hp0 E hp) (blk : Blk) (cs : Array Value) (hl : blk.live = true) (fr : Nat × Nat) (hfr : OkFr fr cs.size) (w' : World) (hw : Same { E.w with heap := E.w.heap.push (.cells cs blk.ty fr) } w') (hw0 : 0 < blk.w)
    (hel : EA E blk.w blk.els cs) {k : AV → List Blk → Option Nat → Prop} {av : AV} {v : Value} (hk : k av (hp ++ [blk]) none)
    (hv : ∀ E' : Env P, E'.ρ hp.length = E.w.heap.size → E'.wd hp.length = blk.w → hp.length < E'.N → csz E'.w E.w.heap.size = cs.size → RV E' av v) : OpPost E E0 hp0 k v w' := by
  obtain ⟨E', h1, h2, h3, h4, h5, h6, h7, h8⟩ := new_blockR H F blk cs hl fr hfr w' hw hw0 hel
  exact ⟨E', av, _, none, h1, hk, hv E' h5 h6 h7 (by rw [h1]; exact h8), h2, h3, fun a u hr => hr.mono h4⟩
theorem EA.one {E : Env P} {a : AV} {u : Value} (hs : a.solid = true) (hr : RV E a u) : EA E a.cells.length [a] u.cells := by
  obtain ⟨hl, hc⟩ := hr.not_agg hs
  intro i e he
  cases i with
  | zero =>
    simp only [List.getElem?_cons_zero, Option.some.injEq] at he
    subst he
    refine ⟨rfl, fun j x hx => ?_⟩
    have hj : j < u.cells.size := by rw [← hl]; exact (List.getElem?_eq_some_iff.1 hx).1
    refine ⟨u.cells[j], by simp [hj], ?_⟩
    exact (hc j x _ hx (by simp [hj])).1
  | succ i => simp at he
theorem OpPost.block {E E0 : Env P} {hp hp0 : List Blk} (H : HRel E hp) (F : Fr E0 hp0 E hp) (blk : Blk) (cs : Array Value) (hl : blk.live = true) (w' : World) (hw : Same { E.w with heap := E.w.heap.push (.cells cs blk.ty) } w') (hw0 : 0 < blk.w)
    (hel : EA E blk.w blk.els cs) {k : AV → List Blk → Option Nat → Prop} {av : AV} {v : Value} (hk : k av (hp ++ [blk]) none)
    (hv : ∀ E' : Env P, E'.ρ hp.length = E.w.heap.size → E'.wd hp.length = blk.w → hp.length < E'.N → csz E'.w E.w.heap.size = cs.size → RV E' av v) : OpPost E E0 hp0 k v w' :=
  OpPost.blockR H F blk cs hl (0, 0) (OkFr.zero _) w' hw hw0 hel hk hv
theorem box_sound {E E0 : Env P} {hp hp0 : List Blk} (H : HRel E hp) (F : Fr E0 hp0 E hp) {t : TypeId} {a : AV} {u : Value} (hs : a.solid = true) (hw0 : 0 < a.cells.length) (hr : RV E a u)
    {k : AV → List Blk → Option Nat → Prop} (hk : k (.ptr hp.length 0 0) (hp ++ [{ ty := t, w := a.cells.length, els := [a] }]) none) :
    ∃ v w', (Instr.box t u).run P E.w = .ok v w' ∧ OpPost E E0 hp0 k v w' := by
  refine ⟨.pointer (some ⟨E.w.heap.size, 0, none⟩), { E.w with heap := E.w.heap.push (.cells u.cells t) }, rfl, ?_⟩
  refine OpPost.block H F { ty := t, w := a.cells.length, els := [a] } u.cells rfl _ (Same.refl _) hw0 (EA.one hs hr) hk fun E' h1 h2 h3 h4 => ?_
  have := RV.ptr (E := E') hp.length 0 0 h3 (by rw [h2]; exact hw0)
  rw [h1] at this
  simpa using this
theorem EA.set {E : Env P} {w : Nat} {els : List AV} {A : Array Value} (h : EA E w els A) (hsz : A.size = els.length * w) {i : Nat} (hi : i < els.length) {a : AV} {u : Value} (hs : a.solid = true) (hw : a.cells.length = w) (hr : RV E a u) :
    EA E w (els.set i a) (u.cells.zipIdx.foldl (fun cs (x : Value × Nat) => cs.setIfInBounds (i * w + x.2) x.1) A) ∧ (u.cells.zipIdx.foldl (fun cs (x : Value × Nat) => cs.setIfInBounds (i * w + x.2) x.1) A).size = A.size := by
  obtain ⟨hl, hc⟩ := hr.not_agg hs
  have e : u.cells.zipIdx.foldl (fun cs (x : Value × Nat) => cs.setIfInBounds (i * w + x.2) x.1) A = (u.cells.toList.zipIdx 0).foldl (fun cs p => cs.setIfInBounds (i * w + p.2) p.1) A := by
    rw [← Array.foldl_toList, Array.toList_zipIdx]
  obtain ⟨f1, f2⟩ := fold_set (i * w) u.cells.toList 0 A
  rw [e]
  have hiw : (i + 1) * w ≤ els.length * w := Nat.mul_le_mul_right w hi
  rw [Nat.add_mul, Nat.one_mul] at hiw
  have hul : u.cells.toList.length = w := by rw [Array.length_toList, ← hl, hw]
  have hA : i * w + 0 + u.cells.toList.length ≤ A.size := by rw [hul, hsz]; omega
  refine ⟨fun i' e' he' => ?_, f1⟩
  by_cases hii : i = i'
  · subst hii
    rw [List.getElem?_set_self hi] at he'
    cases he'
    refine ⟨hw, fun j x hx => ?_⟩
    have hj : j < a.cells.length := (List.getElem?_eq_some_iff.1 hx).1
    have hj' : j < u.cells.size := by omega
    refine ⟨u.cells[j], ?_, (hc j x _ hx (by simp [hj'])).1⟩
    rw [f2 _ hA, if_pos (by omega)]
    rw [show i * w + j - (i * w + 0) = j by omega]
    simp [hj']
  · rw [List.getElem?_set_ne hii] at he'
    obtain ⟨h1, h2⟩ := h i' e' he'
    refine ⟨h1, fun j x hx => ?_⟩
    obtain ⟨v, h3, h4⟩ := h2 j x hx
    refine ⟨v, ?_, h4⟩
    have hj : j < w := by rw [← h1]; exact (List.getElem?_eq_some_iff.1 hx).1
    rw [f2 _ hA, if_neg ?_]
    · exact h3
    · rw [hul]
      rcases Nat.lt_or_gt_of_ne hii with hlt | hgt
      · have := Nat.mul_le_mul_right w hlt
        rw [Nat.succ_mul] at this
        omega
      · have := Nat.mul_le_mul_right w hgt
        rw [Nat.succ_mul] at this
        omega
theorem EA.zeros {E : Env P} {a : AV} {u : Value} (hs : a.solid = true) (hr : RV E a u) (hpos : 0 < a.cells.length) (n : Nat) :
    EA E a.cells.length (List.replicate n a) ((Array.range (n * a.cells.length)).map (u.cells[· % u.cells.size]!)) ∧ ((Array.range (n * a.cells.length)).map (u.cells[· % u.cells.size]!)).size = n * a.cells.length := by
  obtain ⟨hl, hc⟩ := hr.not_agg hs
  refine ⟨fun i e he => ?_, by simp⟩
  have hi : i < n := by have := (List.getElem?_eq_some_iff.1 he).1; simpa using this
  have he' : e = a := by simp [List.getElem?_replicate, hi] at he; exact he.symm
  subst he'
  refine ⟨rfl, fun j x hx => ?_⟩
  have hj : j < e.cells.length := (List.getElem?_eq_some_iff.1 hx).1
  have hj' : j < u.cells.size := by omega
  have hlt : i * e.cells.length + j < n * e.cells.length := by
    have := Nat.mul_le_mul_right e.cells.length hi
    rw [Nat.succ_mul] at this
    omega
  refine ⟨u.cells[j], ?_, (hc j x _ hx (by simp [hj'])).1⟩
  have hmod : (i * e.cells.length + j) % u.cells.size = j := by
    rw [← hl, Nat.mul_comm, Nat.mul_add_mod, Nat.mod_eq_of_lt hj]
  simp [hlt, hmod, hj']
theorem fill_sound {E : Env P} {n w : Nat} : ∀ (parts : List (Nat × AV)) (els : List AV) (k : List AV → Prop), setAll n w parts els k → els.length = n →
    ∃ els', k els' ∧ els'.length = n ∧ ∀ (A : Array Value) (vs : List (Nat × Value)), EA E w els A → A.size = n * w → vs.length = parts.length → (∀ (i : Nat) p q, parts[i]? = some p → vs[i]? = some q → q.1 = p.1 ∧ RV E p.2 q.2) →
      ∃ B, Instr.fill (fun i => some (i * w, w)) A vs = some B ∧ EA E w els' B ∧ B.size = n * w
  | [], els, k, h, hl => ⟨els, h, hl, fun A vs ha hs hvl _ => by
      have : vs = [] := List.eq_nil_of_length_eq_zero hvl
      subst this
      exact ⟨A, rfl, ha, hs⟩⟩
  | (i, a) :: rest, els, k, h, hl => by
    obtain ⟨hi, hs, hw, h⟩ := h
    obtain ⟨els', hk, hl', hr⟩ := fill_sound rest _ k h (by simpa using hl)
    refine ⟨els', hk, hl', fun A vs ha hA hvl hv => ?_⟩
    cases vs with
    | nil => simp at hvl
    | cons q vs =>
      obtain ⟨i', v⟩ := q
      obtain ⟨rfl, hv0⟩ := hv 0 (i, a) (i', v) rfl rfl
      obtain ⟨h1, h2⟩ := ha.set (by rw [hl]; exact hA) (by rw [hl]; exact hi) hs hw hv0
      obtain ⟨B, hB, hrB, hBs⟩ := hr _ vs h1 (h2.trans hA) (by simpa using hvl) (fun j p q hp hq => hv (j + 1) p q hp hq)
      refine ⟨B, ?_, hrB, hBs⟩
      have hl0 : a.cells.length = v.cells.size := (hv0.not_agg hs).1
      have c1 : ¬ v.cells.size ≠ w := by rw [← hl0, hw]; simp
      have hiw : (i' + 1) * w ≤ n * w := Nat.mul_le_mul_right w hi
      rw [Nat.add_mul, Nat.one_mul] at hiw
      have c2 : ¬ i' * w + v.cells.size > A.size := by rw [← hl0, hw, hA]; omega
      simp only [Instr.fill, c1, c2, decide_false, Bool.or_self, Bool.false_eq_true, if_false]
      exact hB
theorem buildSlice_sound {E E0 : Env P} {hp hp0 : List Blk} (H : HRel E hp) (F : Fr E0 hp0 E hp) {t e : TypeId} (hd : P.underlying t = some (.slice e)) {len : Nat} (hpos : 0 < P.cellsOf e) (hlen : len * P.cellsOf e ≤ 16777216)
    (hz : (zeroOf P e).solid = true) (hzw : (zeroOf P e).cells.length = P.cellsOf e) {parts : List (Nat × AV)} {vs : Array (Nat × Value)} (hvl : vs.toList.length = parts.length) (hv : ∀ (i : Nat) p q, parts[i]? = some p → vs.toList[i]? = some q → q.1 = p.1 ∧ RV E p.2 q.2)
    {k : AV → List Blk → Option Nat → Prop} (h : setAll len (P.cellsOf e) parts (List.replicate len (zeroOf P e)) fun els => k (.sl hp.length 0 len) (hp ++ [{ ty := e, w := P.cellsOf e, els := els }]) none) :
    ∃ v w', (Instr.buildSlice t len vs).run P E.w = .ok v w' ∧ OpPost E E0 hp0 k v w' := by
  obtain ⟨z, hz1, hz2⟩ := zero_run hz
  have hzr : RV E (zeroOf P e) z := by rw [hz2]; exact RV_ofV E z
  obtain ⟨els, hk, hl, hr⟩ := fill_sound (E := E) _ _ _ h (by simp)
  have hza := EA.zeros hz hzr (by omega) len
  rw [hzw] at hza
  obtain ⟨B, hB, hrB, hBs⟩ := hr _ vs.toList hza.1 hza.2 hvl hv
  have run : (Instr.buildSlice t len vs).run P E.w = .ok (.slice (some ⟨E.w.heap.size, 0, none⟩) len len) { E.w with heap := E.w.heap.push (.cells B e) } := by
    have hc : ¬ len * P.cellsOf e > 2 ^ 24 := by omega
    have fin : ∀ zc : Array Value, ((Array.range (len * P.cellsOf e)).map fun x => zc[x % zc.size]!) = ((Array.range (len * P.cellsOf e)).map fun x => z.cells[x % z.cells.size]!) →
        (match Instr.fill (fun i => some (i * P.cellsOf e, P.cellsOf e)) ((Array.range (len * P.cellsOf e)).map (zc[· % zc.size]!)) vs.toList with
          | some cells => (do pure (.slice (some (← newRow e cells)) len len) : Sem Value)
          | _ => stuck "buildSlice: a part of the wrong size").run P E.w = .ok (.slice (some ⟨E.w.heap.size, 0, none⟩) len len) { E.w with heap := E.w.heap.push (.cells B e) } := by
      intro zc hzc
      rw [hzc, hB]
      rfl
    by_cases h0 : len * P.cellsOf e = 0
    · simp only [Instr.buildSlice, Sem.run_bind, run_underlying' hd, Result.andThen_ok, run_sizeOf_pos hpos, hc, if_false, h0, if_true, Sem.run_pure]
      have := fin #[] (by rw [h0]; simp)
      rw [h0] at this
      exact this
    · simp only [Instr.buildSlice, Sem.run_bind, run_underlying' hd, Result.andThen_ok, run_sizeOf_pos hpos, hc, if_false, h0, hz1, Sem.run_pure]
      exact fin z.cells rfl
  refine ⟨_, _, run, ?_⟩
  refine OpPost.block H F { ty := e, w := P.cellsOf e, els := els } B rfl _ (Same.refl _) hpos hrB hk fun E' h1 h2 h3 h4 => ?_
  rw [← h1]
  refine .sl hp.length 0 len 0 len h3 (fun _ => by simp) (Nat.le_refl _) ?_ (fun _ => ?_) (by rw [h2]; exact hpos)
  · have : len * 1 ≤ len * P.cellsOf e := Nat.mul_le_mul_left _ hpos
    unfold maxLen; omega
  · rw [h1, h2, h4, hBs]; simp
theorem makeSlice_sound {E E0 : Env P} {hp hp0 : List Blk} (H : HRel E hp) (F : Fr E0 hp0 E hp) {t e : TypeId} (hd : P.underlying t = some (.slice e)) {n : Int} {kd kd' : IntKind} (h0 : 0 ≤ n) (hmax : n ≤ 281474976710656) (hb : (P.bytesOf e : Int) * n ≤ 281474976710656) (hpos : 0 < P.cellsOf e)
    (hz : (zeroOf P e).solid = true) (hzw : (zeroOf P e).cells.length = P.cellsOf e)
    {k : AV → List Blk → Option Nat → Prop} (hk : k (.sl hp.length 0 n.toNat) (hp ++ [{ ty := e, w := P.cellsOf e, els := List.replicate n.toNat (zeroOf P e) }]) none) :
    ∃ v w', (Instr.makeSlice t (.int kd n) (.int kd' n)).run P E.w = .ok v w' ∧ OpPost E E0 hp0 k v w' := by
  obtain ⟨z, hz1, hz2⟩ := zero_run hz
  have hzr : RV E (zeroOf P e) z := by rw [hz2]; exact RV_ofV E z
  have hza := EA.zeros hz hzr (by omega) n.toNat
  rw [hzw] at hza
  obtain ⟨i, hi, his, hib⟩ := info_pos hpos
  have hti : ∀ w : World, (typeInfo e).run P w = .ok i w := fun w => by simp [typeInfo, hi, Result.andThen]
  have hwr : IntKind.i64.wrap n = n := IntWalk.i64_in n (by omega)
  have run : (Instr.makeSlice t (.int kd n) (.int kd' n)).run P E.w = .ok (.slice (some ⟨E.w.heap.size, 0, none⟩) n.toNat n.toNat) { E.w with heap := E.w.heap.push (.cells ((Array.range (n.toNat * P.cellsOf e)).map (z.cells[· % z.cells.size]!)) e) } := by
    have c1 : ((decide (n < 0) || decide ((i.bytes : Int) * n > 2 ^ 48)) || decide (n < 0) || decide (n > n)) = false := by
      rw [← hib]
      have a1 : decide (n < 0) = false := by simp; omega
      have a2 : decide ((P.bytesOf e : Int) * n > 2 ^ 48) = false := by simp; omega
      have a3 : decide (n > n) = false := by simp
      rw [a1, a2, a3]; rfl
    simp only [Instr.makeSlice, Sem.run_bind, run_underlying' hd, Result.andThen_ok, asInt, asIntOf, Sem.run_pure, hti, hwr, c1, Bool.false_eq_true, if_false, run_askRoom, run_sizeOf_pos hpos]
    by_cases hn : n.toNat * P.cellsOf e = 0
    · simp only [hn, if_true, Sem.run_pure, Result.andThen_ok, newRow, Sem.run_bind, run_newObj]
      simp [show Array.range 0 = #[] from rfl]
    · simp only [hn, if_false, Sem.run_bind, hz1, Sem.run_pure, Result.andThen_ok, newRow, run_newObj]
  refine ⟨_, _, run, ?_⟩
  refine OpPost.block H F { ty := e, w := P.cellsOf e, els := List.replicate n.toNat (zeroOf P e) } _ rfl _ (Same.refl _) hpos hza.1 hk fun E' h1 h2 h3 h4 => ?_
  rw [← h1]
  refine .sl hp.length 0 n.toNat 0 n.toNat h3 (fun _ => by simp) (Nat.le_refl _) ?_ (fun _ => ?_) (by rw [h2]; exact hpos)
  · unfold maxLen; omega
  · rw [h1, h2, h4, hza.2]; simp
theorem setRow_get (w : World) (g c : Nat) (cur new : Array Value) (t : TypeId) (fr : Nat × Nat) (hg : w.heap[g]? = some (.cells cur t fr)) : (w.setRow g new).heap[c]? = if c = g then some (.cells new t fr) else w.heap[c]? := by
  by_cases h : c = g
  · subst h; simp only [if_true]; exact setRow_heap w c cur new t fr hg
  · simp only [h, if_false]
    unfold World.setRow
    simp only [Array.getElem?_modify]
    rw [if_neg (fun e => h e.symm)]
theorem run_storeCells_row (P : Program) (g o : Nat) (t : TypeId) : ∀ (vs : List Value) (i : Nat) (cur : Array Value) (w : World), Row w.heap[g]? cur t → o + i + vs.length ≤ cur.size → (∀ v ∈ vs, v.oneCell' = true) →
    (storeCells ⟨g, o, none⟩ vs i).run P w = .ok () (w.setRow g (cur.toList.take (o + i) ++ vs ++ cur.toList.drop (o + i + vs.length)).toArray)
  | [], i, cur, w, hg, _, _ => by
    obtain ⟨fr, hg, _⟩ := hg
    simp only [storeCells, List.append_nil, List.length_nil, Nat.add_zero, List.take_append_drop, Array.toArray_toList]
    rw [setRow_self w g cur t fr hg]
    rfl
  | v :: vs, i, cur, w, hg, hl, h1 => by
    rw [List.length_cons] at hl
    have hi : o + i < cur.size := by omega
    have hadd : (⟨g, o, none⟩ : Addr).add i = ⟨g, o + i, none⟩ := add_none g o i
    have hcell : w.cell? ⟨g, o + i, none⟩ = some cur[o + i] := by rw [hg.cell]; simp [hi]
    have hfro := hg.frozen (o + i) hi
    obtain ⟨fr, hg, hf⟩ := hg
    have hst : (store ((⟨g, o, none⟩ : Addr).add i) v).run P w = .ok () (w.setRow g (cur.setIfInBounds (o + i) v)) := by
      rw [hadd, run_store P w _ v _ (h1 v (by simp)), hcell]
      simp [hfro, setCell_eq_setRow w g (o + i) cur t fr v hg]
    have ih := run_storeCells_row P g o t vs (i + 1) (cur.setIfInBounds (o + i) v) (w.setRow g (cur.setIfInBounds (o + i) v)) ⟨fr, setRow_heap w g cur _ t _ hg, by simpa using hf⟩ (by simp; omega) (fun x hx => h1 x (by simp [hx]))
    simp only [storeCells, Sem.run_bind, hst, Result.andThen_ok, ih, setRow_setRow]
    congr 3
    have e := list_seg_step cur.toList (o + i) v vs (by simp; omega)
    simpa [Array.toList_setIfInBounds, Nat.add_assoc] using e
theorem write_obj {E E0 : Env P} {hp hp0 : List Blk} (H : HRel E hp) (F : Fr E0 hp0 E hp) {b : Nat} {blk : Blk} (hb : hp[b]? = some blk) (hl : blk.live = true) (els' : List AV) (o : Obj) (w' : World) (hget : ∀ c, w'.heap[c]? = if c = E.ρ b then some o else E.w.heap[c]?) (hcs : csz E.w (E.ρ b) ≤ csz w' (E.ρ b)) (hsize : w'.heap.size = E.w.heap.size) (hos : w'.os = E.w.os) (htape : w'.tape = E.w.tape) (hout : w'.output = E.w.output)
    (hel : ∀ E' : Env P, E.le E' → E'.w.heap[E.ρ b]? = some o → Holds E' { blk with els := els' } (E.ρ b)) :
    HRel (E.with w') (hp.set b { blk with els := els' }) ∧ Fr E0 hp0 (E.with w') (hp.set b { blk with els := els' }) ∧ E.le (E.with w') := by
  have hbl : b < hp.length := (List.getElem?_eq_some_iff.1 hb).1
  have hcsz : ∀ c, csz E.w c ≤ csz w' c := fun c => by
    by_cases h : c = E.ρ b
    · subst h; exact hcs
    · unfold csz
      rw [hget]
      simp [h]
  have hnF : ¬ E.F (E.ρ b) := H.apart b blk hb hl
  have le : E.le (E.with w') := ⟨fun _ h => h, fun c hc => by
      show w'.heap[c]? = _
      rw [hget]; exact if_neg (fun e : c = E.ρ b => hnF (e ▸ hc)), Nat.le_refl _, fun _ _ => rfl, fun _ _ => rfl, hcsz⟩
  have hat : ∀ (b' : Nat) bk, (hp.set b { blk with els := els' })[b']? = some bk → (b' ≠ b ∧ hp[b']? = some bk) ∨ (b' = b ∧ bk = { blk with els := els' }) := by
    intro b' bk h
    by_cases hbb : b' = b
    · subst hbb
      rw [List.getElem?_set_self hbl] at h
      exact .inr ⟨rfl, by simpa using h.symm⟩
    · rw [List.getElem?_set_ne (fun e => hbb e.symm)] at h
      exact .inl ⟨hbb, h⟩
  have lv : ∀ (b' : Nat) bk, (hp.set b { blk with els := els' })[b']? = some bk → bk.live = true → ∃ bk0, hp[b']? = some bk0 ∧ bk0.live = true := by
    intro b' bk h1 h2
    rcases hat b' bk h1 with ⟨_, h3⟩ | ⟨h3, _⟩
    · exact ⟨bk, h3, h2⟩
    · subst h3; exact ⟨blk, hb, hl⟩
  refine ⟨⟨by simpa [Env.with] using H.N, ?_, ?_, ?_, ?_, ?_, H.laidLe le⟩, ?_, le⟩
  · intro b' bk h
    rcases hat b' bk h with ⟨_, h3⟩ | ⟨h3, h4⟩
    · exact H.wd b' bk h3
    · subst h3; subst h4; exact H.wd b' blk hb
  · intro b' bk h hlv
    rcases hat b' bk h with ⟨h2, h3⟩ | ⟨h3, h4⟩
    · refine (H.holds b' bk h3 hlv).keep ?_ fun x u hu => hu.mono le
      show w'.heap[E.ρ b']? = _
      rw [hget, if_neg (fun e => h2 (H.inj b' b bk blk h3 hlv hb hl e))]
    · subst h3; subst h4
      exact hel _ le (by show w'.heap[E.ρ b']? = _; rw [hget, if_pos rfl])
  · intro b1 b2 bk1 bk2 h1 hl1 h2 hl2 he
    obtain ⟨q1, hq1, hq1l⟩ := lv b1 bk1 h1 hl1
    obtain ⟨q2, hq2, hq2l⟩ := lv b2 bk2 h2 hl2
    exact H.inj b1 b2 q1 q2 hq1 hq1l hq2 hq2l he
  · intro b1 bk1 h1 hl1
    obtain ⟨q1, hq1, hq1l⟩ := lv b1 bk1 h1 hl1
    exact H.apart b1 q1 hq1 hq1l
  · intro c hc
    show c < w'.heap.size
    rw [hsize]; exact H.old c hc
  · exact {
      size := by show _ ≤ w'.heap.size; rw [hsize]; exact F.size
      os := hos.trans F.os
      tape := htape.trans F.tape
      output := hout.trans F.output
      block := fun c hc hn => by
        show w'.heap[c]? = _
        rw [hget, if_neg ?_]
        · exact F.block c hc hn
        · intro e
          rcases F.live b ⟨blk, hb, hl⟩ with ⟨h1, h2⟩ | ⟨_, h2⟩
          · exact hn b h2 (by rw [← F.ρ b h1, e])
          · rcases h2 with h2 | ⟨b0, h0, e0⟩
            · omega
            · exact hn b0 h0 (e0.trans e.symm)
      len := by simpa using F.len
      ρ := F.ρ
      wd := F.wd
      F := F.F
      F' := F.F'
      live := fun b' ⟨bk, h1, h2⟩ => by
        obtain ⟨q, hq, hql⟩ := lv b' bk h1 h2
        exact F.live b' ⟨q, hq, hql⟩
      csz := fun c => Nat.le_trans (F.csz c) (hcsz c) }
theorem write_blockW {E E0 : Env P} {hp hp0 : List Blk} (H : HRel E hp) (F : Fr E0 hp0 E hp) {b : Nat} {blk : Blk} (hb : hp[b]? = some blk) (hl : blk.live = true) (els' : List AV) (cur new : Array Value) (hcur : Row E.w.heap[E.ρ b]? cur blk.ty) (hsz : new.size = cur.size) (w' : World) (fr' : Nat × Nat) (hget : ∀ c, w'.heap[c]? = if c = E.ρ b then some (.cells new blk.ty fr') else E.w.heap[c]?) (hfr' : OkFr fr' new.size) (hsize : w'.heap.size = E.w.heap.size) (hos : w'.os = E.w.os) (htape : w'.tape = E.w.tape) (hout : w'.output = E.w.output) (hw0 : 0 < blk.w)
    (hel : EA E blk.w els' new) :
    HRel (E.with w') (hp.set b { blk with els := els' }) ∧ Fr E0 hp0 (E.with w') (hp.set b { blk with els := els' }) ∧ E.le (E.with w') := by
  obtain ⟨fr, hcur, hfr⟩ := hcur
  refine write_obj H F hb hl els' _ w' hget ?_ hsize hos htape hout fun E' le hnew => .of hw0 ⟨new, ⟨fr', hnew, hfr'⟩, fun i e he => ⟨(hel i e he).1, fun j x hx => ?_⟩⟩
  · unfold csz
    rw [hget]
    simp [hcur, hsz]
  · obtain ⟨v, h7, h8⟩ := (hel i e he).2 j x hx
    exact ⟨v, h7, h8.mono le⟩
theorem write_block {E E0 : Env P} {hp hp0 : List Blk} (H : HRel E hp) (F : Fr E0 hp0 E hp) {b : Nat} {blk : Blk} (hb : hp[b]? = some blk) (hl : blk.live = true) (els' : List AV) (cur new : Array Value) (hcur : Row E.w.heap[E.ρ b]? cur blk.ty) (hsz : new.size = cur.size) (hw0 : 0 < blk.w)
    (hel : EA E blk.w els' new) :
    HRel (E.with (E.w.setRow (E.ρ b) new)) (hp.set b { blk with els := els' }) ∧ Fr E0 hp0 (E.with (E.w.setRow (E.ρ b) new)) (hp.set b { blk with els := els' }) ∧ E.le (E.with (E.w.setRow (E.ρ b) new)) := by
  have hcurR := hcur
  obtain ⟨fr, hcur, hfr⟩ := hcur
  exact write_blockW H F hb hl els' cur new hcurR hsz _ fr (fun c => setRow_get _ _ _ _ _ _ _ hcur) (hsz ▸ hfr) (by simp [World.setRow]) rfl rfl rfl hw0 hel
theorem splice_get (cur : Array Value) (off : Nat) (vs : List Value) (h : off + vs.length ≤ cur.size) (m : Nat) :
    ((cur.toList.take off ++ vs ++ cur.toList.drop (off + vs.length)).toArray)[m]? = if off ≤ m ∧ m < off + vs.length then vs[m - off]? else cur[m]? := by
  rw [List.getElem?_toArray]
  by_cases h1 : m < off
  · rw [if_neg (by omega), List.append_assoc, List.getElem?_append_left (by simp; omega), List.getElem?_take_of_lt h1]; simp
  · by_cases h2 : m < off + vs.length
    · rw [if_pos (by omega), List.getElem?_append_left (by simp; omega), List.getElem?_append_right (by simp; omega)]
      congr 1; simp; omega
    · rw [if_neg (by omega), List.getElem?_append_right (by simp; omega), List.getElem?_drop]
      simp; congr 1; omega
theorem splice_size (cur : Array Value) (off : Nat) (vs : List Value) (h : off + vs.length ≤ cur.size) : ((cur.toList.take off ++ vs ++ cur.toList.drop (off + vs.length)).toArray).size = cur.size := by
  simp; omega
theorem store_sound {E E0 : Env P} {hp hp0 : List Blk} (H : HRel E hp) (F : Fr E0 hp0 E hp) {t : TypeId} {a x : AV} {u v : Value} (hu : RV E a u) (hv : RV E x v) {k : AV → List Blk → Option Nat → Prop}
    (h : storeA P t hp a x fun hp' => k .any hp' none) :
    ∃ w', (Instr.storeAt t u v).run P E.w = .ok () w' ∧ OpPost E E0 hp0 k undef w' := by
  unfold storeA at h
  split at h
  · rename_i b i j
    split at h
    · rename_i blk hb
      obtain ⟨hl, hs, htp, hw, hj, hi, hk⟩ := h
      cases hu with
      | ptr b i j hbN hw0 =>
        obtain ⟨cur, h1, h2⟩ := (H.holds b blk hb hl).cells (H.wd b blk hb ▸ hw0)
        obtain ⟨hcl, hcv⟩ := hv.not_agg hs
        obtain ⟨hel, hec⟩ := h2 i blk.els[i] (List.getElem?_eq_getElem hi)
        have hwd := H.wd b blk hb
        have hfit : i * blk.w + blk.w ≤ cur.size := by
          by_cases h0 : blk.w = 0
          · rw [h0]; simp
          · have hlast : blk.w - 1 < blk.els[i].cells.length := by omega
            obtain ⟨v0, hv0, _⟩ := hec (blk.w - 1) _ (List.getElem?_eq_getElem hlast)
            have := (Array.getElem?_eq_some_iff.1 hv0).1
            omega
        have hone : ∀ c ∈ v.cells.toList, c.oneCell' = true := by
          intro c hc
          obtain ⟨m, hm⟩ := List.getElem?_of_mem hc
          have hm' : v.cells[m]? = some c := by simpa using hm
          have hmlt : m < x.cells.length := by rw [hcl]; exact (Array.getElem?_eq_some_iff.1 hm').1
          exact (hcv m _ c (List.getElem?_eq_getElem hmlt) hm').2.2
        have hoff : i * blk.w + j + v.cells.toList.length ≤ cur.size := by rw [Array.length_toList, ← hcl]; omega
        have hst := run_storeCells_row P (E.ρ b) (i * blk.w + j) blk.ty v.cells.toList 0 cur E.w h1 (by simpa using hoff) hone
        simp only [Nat.add_zero] at hst
        have hsz : (sizeOf t).run P E.w = .ok (P.cellsOf t) E.w := run_sizeOf_pos htp E.w
        have hc : ¬ v.cells.size ≠ P.cellsOf t := by rw [← hcl, hw]; simp
        refine ⟨_, by rw [hwd]; simp only [Instr.storeAt, Instr.sureAddr, Sem.run_bind, Sem.run_pure, Result.andThen_ok, storeVar, hsz, hc, if_false]; exact hst, ?_⟩
        have key := write_block H F hb hl (blk.els.set i (newEl blk.w blk.els[i] j x)) cur _ h1 (splice_size cur _ v.cells.toList hoff) (H.wd b blk hb ▸ hw0) (by
          intro i' e he
          by_cases hii : i = i'
          · subst hii
            rw [List.getElem?_set_self hi] at he
            cases he
            have hnl : (newEl blk.w blk.els[i] j x).cells.length = blk.w := by
              unfold newEl
              split
              · assumption
              · show (placeA _ _ _).length = _
                rw [placeA_len (by omega)]; exact hel
            refine ⟨hnl, fun m c hc => ?_⟩
            have hm : m < blk.w := by rw [← hnl]; exact (List.getElem?_eq_some_iff.1 hc).1
            have hc' : (if j ≤ m ∧ m < j + x.cells.length then x.cells[m - j]? else blk.els[i].cells[m]?) = some c := by
              unfold newEl at hc
              split at hc
              · have hj0 : j = 0 := by omega
                subst hj0
                rw [if_pos (by omega)]; simpa using hc
              · rw [← placeA_get (by omega)]; exact hc
            rw [splice_get _ _ _ hoff]
            simp only [Array.length_toList]
            rw [hcl] at hc'
            by_cases hr : j ≤ m ∧ m < j + v.cells.size
            · rw [if_pos hr] at hc'
              rw [if_pos (by omega)]
              have hmv : m - j < v.cells.size := by omega
              refine ⟨v.cells[m - j], ?_, (hcv _ c _ hc' (by simp [hmv])).1⟩
              rw [show i * blk.w + m - (i * blk.w + j) = m - j by omega]
              simp [hmv]
            · rw [if_neg hr] at hc'
              rw [if_neg (by omega)]
              exact hec m c hc'
          · rw [List.getElem?_set_ne hii] at he
            obtain ⟨h3, h4⟩ := h2 i' e he
            refine ⟨h3, fun m c hc => ?_⟩
            obtain ⟨v0, h5, h6⟩ := h4 m c hc
            refine ⟨v0, ?_, h6⟩
            have hm : m < blk.w := by rw [← h3]; exact (List.getElem?_eq_some_iff.1 hc).1
            rw [splice_get _ _ _ hoff, if_neg ?_]
            · exact h5
            · rw [Array.length_toList, ← hcl]
              rcases Nat.lt_or_gt_of_ne hii with hlt | hgt
              · have := Nat.mul_le_mul_right blk.w hlt
                rw [Nat.succ_mul] at this
                omega
              · have := Nat.mul_le_mul_right blk.w hgt
                rw [Nat.succ_mul] at this
                omega)
        obtain ⟨k1, k2, k3⟩ := key
        exact ⟨_, .any, _, none, rfl, hk, .any _, k1, k2, fun a u hr => hr.mono k3⟩
    · exact h.elim
  · exact h.elim
theorem src_sound {hp : List Blk} {x : AV} {K : List AV → Prop} (h : readSl hp x K) {w : Nat} (hw : 0 < w) :
    ∃ ys, K ys ∧ (AllW w ys → ∀ (E : Env P) u, HRel E hp → RV E x u → Builtin.lenOf u = pure ys.length ∧
      ∃ A : Array Value, (∀ w', Same E.w w' → (Builtin.firstCells w ys.length u).run P w' = .ok A w') ∧ EA E w ys A ∧ A.size = ys.length * w ∧ ∀ c ∈ A.toList, c.oneCell' = true) := by
  have gen : ∀ (E : Env P) (ys : List AV) (b off : Nat) (cap : Nat), AllW w ys → (∀ (i : Nat) e, ys[i]? = some e → ∀ (j : Nat) c, e.cells[j]? = some c → ∃ v, E.w.cell? ⟨b, off + (i * w + j), none⟩ = some v ∧ RV E c v) →
      ∃ A : Array Value, (∀ w', Same E.w w' → (Builtin.firstCells w ys.length (.slice (some ⟨b, off, none⟩) ys.length cap)).run P w' = .ok A w') ∧ EA E w ys A ∧ A.size = ys.length * w ∧ ∀ c ∈ A.toList, c.oneCell' = true := by
    intro E ys b off cap hall hc
    have hcell : ∀ w', Same E.w w' → ∀ o, w'.cell? ⟨b, o, none⟩ = E.w.cell? ⟨b, o, none⟩ := fun w' hs o => by simp only [World.cell?, hs.1]
    have at_ : ∀ m, m < ys.length * w → ∃ e c v, ys[m / w]? = some e ∧ e.cells[m % w]? = some c ∧ E.w.cell? ⟨b, off + m, none⟩ = some v ∧ RV E c v ∧ c.one = true := by
      intro m hm
      have h1 : m / w < ys.length := by rw [Nat.div_lt_iff_lt_mul hw]; exact hm
      have h2 : m % w < w := Nat.mod_lt _ hw
      obtain ⟨hsol, hlen⟩ := hall _ (List.getElem_mem h1)
      have h3 : m % w < ys[m / w].cells.length := by rw [hlen]; exact h2
      obtain ⟨v, hv1, hv2⟩ := hc (m / w) _ (List.getElem?_eq_getElem h1) (m % w) _ (List.getElem?_eq_getElem h3)
      have hdm : m / w * w + m % w = m := Nat.div_add_mod' m w
      rw [hdm] at hv1
      refine ⟨_, _, v, List.getElem?_eq_getElem h1, List.getElem?_eq_getElem h3, hv1, hv2, ?_⟩
      have : ∀ a : AV, a.solid = true → ∀ c ∈ a.cells, c.one = true := by
        intro a ha c hcm
        cases a <;> first
          | (simp only [AV.solid, List.all_eq_true] at ha; exact ha c hcm)
          | (simp only [AV.cells, List.mem_singleton] at hcm; subst hcm; exact ha)
      exact this _ hsol _ (List.getElem_mem h3)
    let f : Nat → Value := fun m => (E.w.cell? ⟨b, off + m, none⟩).getD undef
    have hf : ∀ m, m < ys.length * w → E.w.cell? ⟨b, off + m, none⟩ = some (f m) := fun m hm => by
      obtain ⟨_, _, v, _, _, h3, _⟩ := at_ m hm
      simp [f, h3]
    refine ⟨((List.range (ys.length * w)).map f).toArray, ?_, ?_, by simp, ?_⟩
    · intro w' hs
      simp only [Builtin.firstCells]
      exact run_loadCells w' _ _ f (fun m hm => by rw [add_none, hcell w' hs]; exact hf m hm)
    · intro i e he
      have hi : i < ys.length := (List.getElem?_eq_some_iff.1 he).1
      refine ⟨(hall _ (List.mem_of_getElem? he)).2, fun j c hj => ?_⟩
      have hjw : j < w := by rw [← (hall _ (List.mem_of_getElem? he)).2]; exact (List.getElem?_eq_some_iff.1 hj).1
      have hlt : i * w + j < ys.length * w := by
        have := Nat.mul_le_mul_right w hi
        rw [Nat.succ_mul] at this
        omega
      obtain ⟨v, h1, h2⟩ := hc i e he j c hj
      refine ⟨f (i * w + j), by simp [hlt], ?_⟩
      simp only [f, h1, Option.getD_some]
      exact h2
    · intro c hc'
      simp only [List.mem_map, List.mem_range] at hc'
      obtain ⟨m, hm, rfl⟩ := hc'
      obtain ⟨_, c0, v, _, _, h3, h4, h5⟩ := at_ m hm
      simp only [f, h3, Option.getD_some]
      exact (h4.one_cells h5).1
  have empty : ∀ (E : Env P) (a : Option Addr) cap, ∃ A : Array Value, (∀ w', Same E.w w' → (Builtin.firstCells w 0 (.slice a 0 cap)).run P w' = .ok A w') ∧ EA E w [] A ∧ A.size = 0 * w ∧ ∀ c ∈ A.toList, c.oneCell' = true := by
    intro E a cap
    refine ⟨#[], ?_, fun i e he => by simp at he, by simp, by simp⟩
    intro w' _
    cases a with
    | none => rfl
    | some a => simp [Builtin.firstCells, loadCells, loadCellsFrom]
  unfold readSl at h
  split at h
  · exact ⟨[], h, fun _ E u H hu => by cases hu with | nils a => exact ⟨rfl, empty E a 0⟩⟩
  · rename_i l
    refine ⟨l, h, fun hall E u H hu => ?_⟩
    cases hu with
    | roNil a cap => exact ⟨rfl, empty E a cap⟩
    | ro l b off cap wd val hF hcap hmax hws hc hvs =>
      refine ⟨rfl, ?_⟩
      refine gen E l b off cap hall (fun i e he j c hj => ?_)
      have hwd : wd = w := by rw [← hws i e he]; exact (hall _ (List.mem_of_getElem? he)).2
      subst hwd
      refine ⟨val i j, ?_, (hvs i e he j c hj).mono (Env.le.of_bare E)⟩
      rw [← Nat.add_assoc]
      exact hc i e he j c hj
  · rename_i b i n
    split at h
    · rename_i blk hb
      obtain ⟨hl, hin, hk⟩ := h
      refine ⟨_, hk, fun hall E u H hu => ?_⟩
      have hlen : ((blk.els.drop i).take n).length = n := by simp; omega
      rw [hlen]
      cases hu with
      | sl b i n off cap hbN ho hcap hmax hroom hw0 =>
        refine ⟨rfl, ?_⟩
        by_cases hn : n = 0
        · subst hn
          simp only [List.take_zero]
          exact empty E _ cap
        · have := gen E _ (E.ρ b) off cap hall (fun m e he j c hj => by
            have he' : blk.els[i + m]? = some e := by
              rw [List.getElem?_take] at he
              split at he
              · rwa [List.getElem?_drop] at he
              · cases he
            obtain ⟨v, h1, h2⟩ := H.cell hb hl hw0 he' hj
            refine ⟨v, ?_, h2⟩
            have hwd : E.wd b = w := by
              rw [H.wd b blk hb]
              obtain ⟨cs, h3, h4⟩ := (H.holds b blk hb hl).cells (H.wd b blk hb ▸ hw0)
              rw [← (h4 _ _ he').1]
              exact (hall _ (List.mem_of_getElem? he)).2
            rw [hwd] at h1
            rw [ho (by omega), hwd, ← Nat.add_assoc, ← Nat.add_mul]
            exact h1)
          rw [hlen] at this
          exact this
    · exact h.elim
  · rename_i s
    refine ⟨_, h, fun hall E u H hu => ?_⟩
    cases hu
    have hlen : (byts s).length = s.length := by simp [byts]
    have hdata : ((⟨s.toArray⟩ : ByteArray).extract 0 s.length).data = s.toArray := by
      rw [ByteArray.data_extract]
      simp
    refine ⟨by rw [hlen]; simp [Builtin.lenOf, ByteArray.size], (s.map fun b => Value.int .u8 (b.toNat : Int)).toArray, fun w' _ => ?_, fun i e he => ?_, ?_, fun c hc => ?_⟩
    · rw [hlen]
      simp only [Builtin.firstCells, hdata, Sem.run_pure]
      simp
    · have hi : i < s.length := by rw [← hlen]; exact (List.getElem?_eq_some_iff.1 he).1
      have he' : e = .int .u8 (s[i].toNat : Int) := by
        have : (byts s)[i]? = some (.int .u8 (s[i].toNat : Int)) := by simp [byts, hi]
        rw [this] at he
        exact (Option.some.inj he).symm
      subst he'
      have hw1 : w = 1 := by have := (hall _ (List.mem_of_getElem? he)).2; simpa [AV.cells] using this.symm
      refine ⟨by rw [hw1]; rfl, fun j x hx => ?_⟩
      have hj : j = 0 := by
        have := (List.getElem?_eq_some_iff.1 hx).1
        simp [AV.cells] at this
        exact this
      subst hj
      have hx' : x = .int .u8 (s[i].toNat : Int) := by simpa [AV.cells] using hx.symm
      subst hx'
      exact ⟨.int .u8 (s[i].toNat : Int), by rw [hw1]; simp [hi], .int .u8 _⟩
    · rw [hlen]
      cases s with
      | nil => simp
      | cons b s =>
        have hw1 : w = 1 := by have := (hall (.int .u8 (b.toNat : Int)) (by simp [byts])).2; simpa [AV.cells] using this.symm
        rw [hw1]; simp
    · simp only [List.mem_map] at hc
      obtain ⟨b, _, rfl⟩ := hc
      rfl
  · exact h.elim
end
end Go.Abs
