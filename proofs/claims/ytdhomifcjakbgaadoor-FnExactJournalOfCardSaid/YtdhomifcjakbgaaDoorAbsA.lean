/- The abstract layer, part A: abstract values, the relation of abstract values to the machine's values, the abstract heap, and how both stay true when the world grows. Over any program. -/
import Derived.Calls
import Derived.Orders
import Derived.WalkKit
import Derived.Lib.ItoaNum
namespace Go.Abs
open Go
variable {P : Program}

/-- The one NaN of each kind. -/
def nanOf : FloatKind → Nat
  | .f32 => 2143289344
  | .f64 => 9221120237041090560
/-- The word of a float with all NaNs made one. -/
def canon (k : FloatKind) (b : Nat) : Nat := if (k.decode b).isNaN then nanOf k else b

inductive AV where
  | any
  | bool (b : Bool)
  | int (k : IntKind) (n : Int)
  | flt (k : FloatKind) (x : Nat)
  | cpx (k : FloatKind) (re im : Nat)
  | str (s : List UInt8)
  | agg (l : List AV)
  | tup (l : List AV)
  | nils
  | ro (l : List AV)
  | sl (b i n : Nat)
  | ptr (b i j : Nat)
  | rop (l : List AV)
  | nilp
  | fn (f : FuncId) (caps : List AV)
  | nilf
  deriving Inhabited

def AV.cells : AV → List AV
  | .agg l => l
  | v => [v]

/-- What abstract values are held against: the world, the blocks that nobody writes, and where the known blocks lie (and how many cells an element of each has). -/
structure Env (P : Program) where
  w : World
  F : Nat → Prop
  N : Nat
  ρ : Nat → Nat
  wd : Nat → Nat

/-- The same, without known blocks. -/
def Env.bare (E : Env P) : Env P := { E with N := 0 }

/-- How many cells a block has. -/
def csz (w : World) (c : Nat) : Nat :=
  match w.heap[c]? with
  | some (.cells cs _ _) => cs.size
  | _ => 0

inductive RV : Env P → AV → Value → Prop
  | any {E : Env P} (v : Value) : RV E .any v
  | bool {E : Env P} (b : Bool) : RV E (.bool b) (.bool b)
  | int {E : Env P} (k : IntKind) (n : Int) : RV E (.int k n) (.int k n)
  | flt {E : Env P} (k : FloatKind) (x b : Nat) (h : canon k b = x) : RV E (.flt k x) (.float k b)
  | cpx {E : Env P} (k : FloatKind) (x y a b : Nat) (h : canon k a = x) (h' : canon k b = y) : RV E (.cpx k x y) (.complex k a b)
  | str {E : Env P} (s : List UInt8) : RV E (.str s) (.string ⟨s.toArray⟩)
  | agg {E : Env P} (l : List AV) (vs : Array Value) (hl : l.length = vs.size) (h : ∀ (i : Nat) a v, l[i]? = some a → vs[i]? = some v → RV E a v) : RV E (.agg l) (.agg vs)
  | tup {E : Env P} (l : List AV) (vs : Array Value) (hl : l.length = vs.size) (h : ∀ (i : Nat) a v, l[i]? = some a → vs[i]? = some v → RV E a v) : RV E (.tup l) (.tuple vs)
  | nils {E : Env P} (a : Option Addr) : RV E .nils (.slice a 0 0)
  | roNil {E : Env P} (a : Option Addr) (cap : Nat) : RV E (.ro []) (.slice a 0 cap)
  | ro {E : Env P} (l : List AV) (b off cap wd : Nat) (val : Nat → Nat → Value) (hF : E.F b) (hcap : l.length ≤ cap) (hmax : cap ≤ maxLen)
      (hw : ∀ (i : Nat) e, l[i]? = some e → e.cells.length = wd)
      (hc : ∀ (i : Nat) e, l[i]? = some e → ∀ (j : Nat) c, e.cells[j]? = some c → E.w.cell? ⟨b, off + i * wd + j, none⟩ = some (val i j))
      (hv : ∀ (i : Nat) e, l[i]? = some e → ∀ (j : Nat) c, e.cells[j]? = some c → RV E.bare c (val i j)) :
      RV E (.ro l) (.slice (some ⟨b, off, none⟩) l.length cap)
  | sl {E : Env P} (b i n off cap : Nat) (hb : b < E.N) (ho : 0 < cap → off = i * E.wd b) (hcap : n ≤ cap) (hmax : cap ≤ maxLen) (hroom : 0 < cap → (i + cap) * E.wd b ≤ csz E.w (E.ρ b)) : RV E (.sl b i n) (.slice (some ⟨E.ρ b, off, none⟩) n cap)
  | ptr {E : Env P} (b i j : Nat) (hb : b < E.N) : RV E (.ptr b i j) (.pointer (some ⟨E.ρ b, i * E.wd b + j, none⟩))
  | rop {E : Env P} (l : List AV) (b off : Nat) (val : Nat → Value) (hF : E.F b)
      (hc : ∀ (j : Nat) c, l[j]? = some c → E.w.cell? ⟨b, off + j, none⟩ = some (val j))
      (hv : ∀ (j : Nat) c, l[j]? = some c → RV E.bare c (val j)) : RV E (.rop l) (.pointer (some ⟨b, off, none⟩))
  | nilp {E : Env P} : RV E .nilp (.pointer none)
  | fn {E : Env P} (f : FuncId) (l : List AV) (vs : Array Value) (hl : l.length = vs.size) (h : ∀ (i : Nat) a v, l[i]? = some a → vs[i]? = some v → RV E a v) : RV E (.fn f l) (.func (.func f) #[] vs)
  | nilf {E : Env P} : RV E .nilf .nilFunc

/-- One thing holds more than the other: what was known stays known. -/
structure Env.le (E E' : Env P) : Prop where
  F : ∀ c, E.F c → E'.F c
  cell : ∀ c, E.F c → E'.w.heap[c]? = E.w.heap[c]?
  N : E.N ≤ E'.N
  ρ : ∀ b, b < E.N → E'.ρ b = E.ρ b
  wd : ∀ b, b < E.N → E'.wd b = E.wd b
  csz : ∀ c, csz E.w c ≤ csz E'.w c

theorem Env.le.refl (E : Env P) : E.le E := ⟨fun _ h => h, fun _ _ => rfl, Nat.le_refl _, fun _ _ => rfl, fun _ _ => rfl, fun _ => Nat.le_refl _⟩
theorem Env.le.bare {E E' : Env P} (h : E.le E') : E.bare.le E'.bare :=
  ⟨h.F, h.cell, Nat.le_refl _, fun _ hb => absurd hb (Nat.not_lt_zero _), fun _ hb => absurd hb (Nat.not_lt_zero _), h.csz⟩
theorem Env.le.of_bare (E : Env P) : E.bare.le E :=
  ⟨fun _ h => h, fun _ _ => rfl, Nat.zero_le _, fun _ hb => absurd hb (Nat.not_lt_zero _), fun _ hb => absurd hb (Nat.not_lt_zero _), fun _ => Nat.le_refl _⟩

theorem cell_of_heap {w w' : World} {c : Nat} (h : w'.heap[c]? = w.heap[c]?) (o : Nat) : w'.cell? ⟨c, o, none⟩ = w.cell? ⟨c, o, none⟩ := by
  simp only [World.cell?, h]

theorem RV.mono {E : Env P} {a : AV} {v : Value} (h : RV E a v) : ∀ {E' : Env P}, E.le E' → RV E' a v := by
  induction h with
  | any v => intro E' _; exact .any v
  | bool b => intro E' _; exact .bool b
  | int k n => intro E' _; exact .int k n
  | flt k x b h => intro E' _; exact .flt k x b h
  | cpx k x y a b h h' => intro E' _; exact .cpx k x y a b h h'
  | str s => intro E' _; exact .str s
  | agg l vs hl h ih => intro E' le; exact .agg l vs hl fun i a v h1 h2 => ih i a v h1 h2 le
  | tup l vs hl h ih => intro E' le; exact .tup l vs hl fun i a v h1 h2 => ih i a v h1 h2 le
  | nils a => intro E' _; exact .nils a
  | roNil a cap => intro E' _; exact .roNil a cap
  | ro l b off cap wd val hF hcap hmax hw hc hv ih =>
    intro E' le
    refine .ro l b off cap wd val (le.F _ hF) hcap hmax hw (fun i e hi j c hj => ?_) (fun i e hi j c hj => ih i e hi j c hj le.bare)
    rw [cell_of_heap (le.cell _ hF)]; exact hc i e hi j c hj
  | @sl E b i n off cap hb ho hcap hmax hroom =>
    intro E' le
    rw [← le.ρ b hb]
    exact .sl b i n off cap (Nat.lt_of_lt_of_le hb le.N) (by rw [le.wd b hb]; exact ho) hcap hmax (fun h => by rw [le.wd b hb, le.ρ b hb]; exact Nat.le_trans (hroom h) (le.csz _))
  | @ptr E b i j hb =>
    intro E' le
    rw [← le.ρ b hb, ← le.wd b hb]
    exact .ptr b i j (Nat.lt_of_lt_of_le hb le.N)
  | rop l b off val hF hc hv ih =>
    intro E' le
    refine .rop l b off val (le.F _ hF) (fun j c hj => ?_) (fun j c hj => ih j c hj le.bare)
    rw [cell_of_heap (le.cell _ hF)]; exact hc j c hj
  | nilp => intro E' _; exact .nilp
  | fn f l vs hl h ih => intro E' le; exact .fn f l vs hl fun i a v h1 h2 => ih i a v h1 h2 le
  | nilf => intro E' _; exact .nilf

/-- A known block: its elements' type, the number of cells of each, the elements. -/
structure Blk where
  ty : TypeId
  w : Nat
  els : List AV
  live : Bool := true
  deriving Inhabited

/-- A block of the machine holds (at least) these elements. -/
structure Holds (E : Env P) (blk : Blk) (c : Nat) : Prop where
  cells : ∃ (cs : Array Value), E.w.heap[c]? = some (.cells cs blk.ty (0, 0)) ∧
    ∀ (i : Nat) e, blk.els[i]? = some e → e.cells.length = blk.w ∧ ∀ (j : Nat) x, e.cells[j]? = some x → ∃ v, cs[i * blk.w + j]? = some v ∧ RV E x v

/-- The library's tables that functions may read: a variable's name, and its cells. -/
def tables : List (String × IntKind × List Int) := [("internal/strconv.uint64pow10", .u64, Lib.pow10Tab)]
/-- The tables that the program has lie where nobody writes. -/
def Laid (P : Program) (w : World) (F : Nat → Prop) : Prop :=
  ∀ t ∈ tables, ∀ g, P.globalNamed t.1 = some g → F g ∧ ∃ ty fr, w.heap[g]? = some (.cells (t.2.2.map fun z => Value.int t.2.1 z).toArray ty fr)
theorem Laid.keep {w w' : World} {F F' : Nat → Prop} (h : Laid P w F) (hF : ∀ c, F c → F' c) (hc : ∀ c, F c → w'.heap[c]? = w.heap[c]?) : Laid P w' F' := fun t ht g hg => by
  obtain ⟨h1, ty, fr, h2⟩ := h t ht g hg
  exact ⟨hF _ h1, ty, fr, by rw [hc _ h1]; exact h2⟩

structure HRel (E : Env P) (hp : List Blk) : Prop where
  N : E.N = hp.length
  wd : ∀ (b : Nat) blk, hp[b]? = some blk → E.wd b = blk.w
  holds : ∀ (b : Nat) blk, hp[b]? = some blk → blk.live = true → Holds E blk (E.ρ b)
  inj : ∀ (b b' : Nat) blk blk', hp[b]? = some blk → blk.live = true → hp[b']? = some blk' → blk'.live = true → E.ρ b = E.ρ b' → b = b'
  apart : ∀ (b : Nat) blk, hp[b]? = some blk → blk.live = true → ¬ E.F (E.ρ b)
  old : ∀ c, E.F c → c < E.w.heap.size
  laid : Laid P E.w E.F

theorem HRel.laidLe {E E' : Env P} {hp : List Blk} (H : HRel E hp) (le : E.le E') : Laid P E'.w E'.F := H.laid.keep le.F le.cell

def Live (hp : List Blk) (b : Nat) : Prop := ∃ blk, hp[b]? = some blk ∧ blk.live = true

/-- Fresh memory, or where a live block of the caller's lay. -/
def Place (E : Env P) (hp : List Blk) (c : Nat) : Prop := E.w.heap.size ≤ c ∨ ∃ b, Live hp b ∧ E.ρ b = c
/-- From where a function's run began (E, hp) to where it stands (E', hp'); 'n' blocks are the caller's. -/
structure Fr (E : Env P) (hp : List Blk) (E' : Env P) (hp' : List Blk) : Prop where
  size : E.w.heap.size ≤ E'.w.heap.size
  os : E'.w.os = E.w.os
  tape : E'.w.tape = E.w.tape
  output : E'.w.output = E.w.output
  block : ∀ c, c < E.w.heap.size → (∀ b, Live hp b → E.ρ b ≠ c) → E'.w.heap[c]? = E.w.heap[c]?
  len : hp.length ≤ hp'.length
  ρ : ∀ b, b < hp.length → E'.ρ b = E.ρ b
  wd : ∀ b, b < hp.length → E'.wd b = E.wd b
  F : ∀ c, E.F c → E'.F c
  F' : ∀ c, E'.F c → E.F c ∨ E.w.heap.size ≤ c ∨ ∃ b, Live hp b ∧ E.ρ b = c
  live : ∀ b, Live hp' b → (b < hp.length ∧ Live hp b) ∨ (hp.length ≤ b ∧ Place E hp (E'.ρ b))
  csz : ∀ c, csz E.w c ≤ csz E'.w c

theorem Fr.refl (E : Env P) (hp : List Blk) : Fr E hp E hp where
  size := Nat.le_refl _
  os := rfl
  tape := rfl
  output := rfl
  block := fun _ _ _ => rfl
  len := Nat.le_refl _
  ρ := fun _ _ => rfl
  wd := fun _ _ => rfl
  F := fun _ h => h
  F' := fun _ h => .inl h
  live := fun b h => .inl ⟨by obtain ⟨blk, h1, _⟩ := h; exact (List.getElem?_eq_some_iff.1 h1).1, h⟩
  csz := fun _ => Nat.le_refl _

theorem Fr.trans {E E' E'' : Env P} {hp hp' hp'' : List Blk} (h : Fr E hp E' hp') (g : Fr E' hp' E'' hp'') : Fr E hp E'' hp'' where
  size := Nat.le_trans h.size g.size
  os := g.os.trans h.os
  tape := g.tape.trans h.tape
  output := g.output.trans h.output
  block := fun c hc hn => (g.block c (Nat.lt_of_lt_of_le hc h.size) fun b hb he => by
    rcases h.live b hb with ⟨hlt, hl⟩ | ⟨_, hl⟩
    · exact hn b hl (by rw [← h.ρ b hlt]; exact he)
    · rcases hl with hl | ⟨b0, h0, e0⟩
      · omega
      · exact hn b0 h0 (e0.trans he)).trans (h.block c hc hn)
  len := Nat.le_trans h.len g.len
  ρ := fun b hb => (g.ρ b (Nat.lt_of_lt_of_le hb h.len)).trans (h.ρ b hb)
  wd := fun b hb => (g.wd b (Nat.lt_of_lt_of_le hb h.len)).trans (h.wd b hb)
  F := fun c hc => g.F c (h.F c hc)
  F' := fun c hc => by
    rcases g.F' c hc with h1 | h1 | ⟨b, hb, he⟩
    · exact h.F' c h1
    · exact .inr (.inl (Nat.le_trans h.size h1))
    · rcases h.live b hb with ⟨hlt, hl⟩ | ⟨_, hl⟩
      · exact .inr (.inr ⟨b, hl, by rw [← h.ρ b hlt]; exact he⟩)
      · exact .inr (he ▸ hl)
  live := fun b hb => by
    rcases g.live b hb with ⟨hlt, hl⟩ | ⟨hge, hl⟩
    · rcases h.live b hl with h1 | ⟨h1, h2⟩
      · exact .inl h1
      · exact .inr ⟨h1, by rw [g.ρ b hlt]; exact h2⟩
    · rcases hl with hl | ⟨b0, h0, e0⟩
      · exact .inr ⟨Nat.le_trans h.len hge, .inl (Nat.le_trans h.size hl)⟩
      · rcases h.live b0 h0 with ⟨lt, l⟩ | ⟨_, pl⟩
        · exact .inr ⟨Nat.le_trans h.len hge, .inr ⟨b0, l, by rw [← h.ρ b0 lt]; exact e0⟩⟩
        · exact .inr ⟨Nat.le_trans h.len hge, e0 ▸ pl⟩
  csz := fun c => Nat.le_trans (h.csz c) (g.csz c)

/-- A frame's blocks, F, are untouched by what a function does. -/
theorem Fr.kept {E E' : Env P} {hp hp' : List Blk} (h : Fr E hp E' hp') (H : HRel E hp) {c : Nat} (hc : E.F c) : E'.w.heap[c]? = E.w.heap[c]? :=
  h.block c (H.old c hc) fun b ⟨blk, hb, hl⟩ he => H.apart b blk hb hl (he ▸ hc)

theorem Fr.le {E E' : Env P} {hp hp' : List Blk} (h : Fr E hp E' hp') (H : HRel E hp) (H' : HRel E' hp') : E.le E' where
  F := h.F
  cell := fun _ hc => h.kept H hc
  N := by rw [H.N, H'.N]; exact h.len
  ρ := fun b hb => h.ρ b (by rw [← H.N]; exact hb)
  wd := fun b hb => h.wd b (by rw [← H.N]; exact hb)
  csz := h.csz

end Go.Abs
