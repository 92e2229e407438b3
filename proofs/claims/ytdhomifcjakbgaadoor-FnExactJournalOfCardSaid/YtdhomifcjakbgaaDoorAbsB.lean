/- The abstract layer, part B: what one operation does to abstract values and the abstract heap; what a piece of code owes ('vc'). Over any program. -/
import Derived.Test.YtdhomifcjakbgaaDoorAbsA
namespace Go.Abs
open Go
variable {P : Program}

/-- A constant's abstract value. -/
def ofL : Value → AV
  | .bool b => .bool b
  | .int k n => .int k n
  | .float k b => .flt k (canon k b)
  | .complex k a b => .cpx k (canon k a) (canon k b)
  | .string s => .str s.data.toList
  | .pointer none => .nilp
  | .slice none 0 0 => .nils
  | .nilFunc => .nilf
  | _ => .any
def ofV : Value → AV
  | .agg cs => .agg (cs.toList.map ofL)
  | v => ofL v

/-- A value of one cell whose kind is known. -/
def AV.one : AV → Bool
  | .any | .agg _ | .tup _ => false
  | _ => true
/-- A value whose cells are known one by one. -/
def AV.solid : AV → Bool
  | .agg l => l.all AV.one
  | v => v.one

def killL (b : Nat) : AV → AV
  | .sl b' i n => if b' = b then .any else .sl b' i n
  | .ptr b' i j => if b' = b then .any else .ptr b' i j
  | .agg _ | .tup _ | .fn _ _ => .any
  | v => v
def killM (b : Nat) : AV → AV
  | .agg l => .agg (l.map (killL b))
  | .fn f l => .fn f (l.map (killL b))
  | v => killL b v
def kill (b : Nat) : AV → AV
  | .tup l => .tup (l.map (killM b))
  | v => killM b v
def killO : Option Nat → AV → AV
  | none, a => a
  | some b, a => kill b a

def AV.isBool : AV → Option Bool
  | .bool b => some b
  | _ => none

/-- One of two values by a bool. -/
def pickV (c : Bool) : AV → AV → AV
  | .bool x, .bool y => .bool (bif c then x else y)
  | a, b => bif c then a else b

/-- Two ways. -/
def brk (b : Bool) (x y : Prop) : Prop := (b = true → x) ∧ (b = false → y)

section
variable (P : Program)

/-- A variable of type t, read out of the cells 'cs' from cell j on. -/
def loadC (t : TypeId) (cs : List AV) (j : Nat) (k : AV → Prop) : Prop :=
  match P.underlying t with
  | some (.struct _) | some (.array _ _) => j + P.cellsOf t ≤ cs.length ∧ k (.agg ((cs.drop j).take (P.cellsOf t)))
  | some _ => ∃ h : j < cs.length, k cs[j]
  | none => False

/-- Bytes as elements. -/
def byts (l : List UInt8) : List AV := l.map fun c => .int .u8 (c.toNat : Int)
/-- What a slice's elements are. -/
def readSl (hp : List Blk) : AV → (List AV → Prop) → Prop
  | .nils, k => k []
  | .ro l, k => k l
  | .sl b i n, k => match hp[b]? with
    | some blk => blk.live = true ∧ i + n ≤ blk.els.length ∧ k ((blk.els.drop i).take n)
    | none => False
  | .str s, k => k (byts s)
  | _, _ => False

def intBin (op : BinOp) (kd : IntKind) (a b : Int) (k : AV → Prop) : Prop :=
  match op with
  | .add => k (.int kd (kd.wrap (a + b)))
  | .sub => k (.int kd (kd.wrap (a - b)))
  | .mul => k (.int kd (kd.wrap (a * b)))
  | .quo => b ≠ 0 ∧ k (.int kd (kd.wrap (a.tdiv b)))
  | .rem => b ≠ 0 ∧ k (.int kd (a.tmod b))
  | .and => k (.int kd (kd.wrap (BitVec.ofInt kd.bits a &&& BitVec.ofInt kd.bits b).toNat))
  | .or => k (.int kd (kd.wrap (BitVec.ofInt kd.bits a ||| BitVec.ofInt kd.bits b).toNat))
  | .xor => k (.int kd (kd.wrap (BitVec.ofInt kd.bits a ^^^ BitVec.ofInt kd.bits b).toNat))
  | .andNot => k (.int kd (kd.wrap (BitVec.ofInt kd.bits a &&& ~~~ BitVec.ofInt kd.bits b).toNat))
  | .eql => k (.bool (a == b))
  | .neq => k (.bool (a != b))
  | .lss => k (.bool (a < b))
  | .leq => k (.bool (a ≤ b))
  | .gtr => k (.bool (a > b))
  | .geq => k (.bool (a ≥ b))
  | _ => False

/-- Arithmetic of floats with one NaN. -/
def fnum (k : FloatKind) : Option Nat → Nat
  | some r => canon k r
  | none => nanOf k
def fadd (k : FloatKind) (x y : Nat) : Nat := fnum k (k.format.add x y)
def fsub (k : FloatKind) (x y : Nat) : Nat := fnum k (k.format.sub x y)
def fmul (k : FloatKind) (x y : Nat) : Nat := fnum k (k.format.mul x y)
def fdiv (k : FloatKind) (x y : Nat) : Nat := fnum k (k.format.div x y)
def feq (k : FloatKind) (x y : Nat) : Bool := k.format.order x y == some .eq
def flt (k : FloatKind) (x y : Nat) : Bool := k.format.order x y == some .lt
def fle (k : FloatKind) (x y : Nat) : Bool := k.format.order x y == some .lt || k.format.order x y == some .eq
def fgt (k : FloatKind) (x y : Nat) : Bool := k.format.order x y == some .gt
def fge (k : FloatKind) (x y : Nat) : Bool := k.format.order x y == some .gt || k.format.order x y == some .eq
def fneg (k : FloatKind) (x : Nat) : Nat := canon k (Op.negFloat k x)

def fltBin (op : BinOp) (kd : FloatKind) (a b : Nat) (k : AV → Prop) : Prop :=
  match op with
  | .add => k (.flt kd (fadd kd a b))
  | .sub => k (.flt kd (fsub kd a b))
  | .mul => k (.flt kd (fmul kd a b))
  | .quo => k (.flt kd (fdiv kd a b))
  | .eql => k (.bool (feq kd a b))
  | .neq => k (.bool (!feq kd a b))
  | .lss => k (.bool (flt kd a b))
  | .leq => k (.bool (fle kd a b))
  | .gtr => k (.bool (fgt kd a b))
  | .geq => k (.bool (fge kd a b))
  | _ => False

def strBin (op : BinOp) (a b : List UInt8) (k : AV → Prop) : Prop :=
  match op with
  | .add => a.length + b.length ≤ 9223372036854775807 ∧ k (.str (a ++ b))
  | .eql => k (.bool (a == b))
  | .neq => k (.bool (!(a == b)))
  | _ => False

def cpxBin (op : BinOp) (kd : FloatKind) (a b c d : Nat) (k : AV → Prop) : Prop :=
  match op with
  | .add => k (.cpx kd (fadd kd a c) (fadd kd b d))
  | .sub => k (.cpx kd (fsub kd a c) (fsub kd b d))
  | .eql => k (.bool (feq kd a c && feq kd b d))
  | .neq => k (.bool (!(feq kd a c && feq kd b d)))
  | _ => False

def binA (op : BinOp) (t : TypeId) (x y : AV) (k : AV → Prop) : Prop :=
  match op, x, y with
  | .shl, .int kd a, .int _ b => 0 ≤ b ∧ k (.int kd (kd.wrap (a * 2 ^ (min b.toNat kd.bits))))
  | .shr, .int kd a, .int _ b => 0 ≤ b ∧ k (.int kd (a.fdiv (2 ^ (min b.toNat kd.bits))))
  | op, .int kd a, .int kd' b => kd = kd' ∧ intBin op kd a b k
  | op, .flt kd a, .flt kd' b => kd = kd' ∧ fltBin op kd a b k
  | op, .cpx kd a b, .cpx kd' c d => kd = kd' ∧ cpxBin op kd a b c d k
  | op, .str a, .str b => strBin op a b k
  | .eql, .bool a, .bool b => P.underlying t = some .bool ∧ k (.bool (a == b))
  | .neq, .bool a, .bool b => P.underlying t = some .bool ∧ k (.bool (!(a == b)))
  | _, _, _ => False

def unA (op : UnOp) (x : AV) (k : AV → Prop) : Prop :=
  match op, x with
  | .not, .bool b => k (.bool (!b))
  | .neg, .int kd n => k (.int kd (kd.wrap (0 - n)))
  | .neg, .flt kd b => k (.flt kd (fneg kd b))
  | .neg, .cpx kd a b => k (.cpx kd (fneg kd a) (fneg kd b))
  | _, _ => False

/-- A float as another kind: within the kind's reach. -/
def fconv (dst : FloatKind) (s : FloatKind) (x : Nat) : Nat :=
  if s = dst then x else
  match s.decode x with
  | .nan _ _ => nanOf dst
  | .infinity n => canon dst (dst.encode (.infinity n))
  | .number n m e => canon dst (dst.encode (.number n m e))
/-- It is not too great for the other kind. -/
def fconvOk (dst : FloatKind) (s : FloatKind) (x : Nat) : Prop :=
  s = dst ∨ match s.decode x with
  | .number n m e => (dst.decode (dst.encode (.number n m e))).isInfinity = false
  | _ => True

def convA (dst : TypeId) (x : AV) (k : AV → Prop) : Prop :=
  match P.underlying dst, x with
  | some (.int kd), .int _ n => k (.int kd (kd.wrap n))
  | some (.float kd), .int _ n => k (.flt kd (canon kd (kd.nearest n)))
  | some (.float kd), .flt s b => fconvOk kd s b ∧ k (.flt kd (fconv kd s b))
  | some (.int kd), .flt s b => ∃ n, (s.decode b).toInt .zero = some n ∧ kd.min ≤ n ∧ n ≤ kd.max ∧ k (.int kd n)
  | some .string, .str s => k (.str s)
  | _, _ => False

/-- A conversion, of bytes to a string too. -/
def convB (src dst : TypeId) (hp : List Blk) (x : AV) (k : AV → Prop) : Prop :=
  match P.underlying dst, x with
  | some .string, .sl b i n => (∃ e, P.underlying src = some (.slice e) ∧ P.underlying e = some (.int .u8)) ∧ (match hp[b]? with
    | some blk => blk.live = true ∧ blk.w = 1 ∧ ∃ l : List UInt8, (blk.els.drop i).take n = byts l ∧ l.length = n ∧ k (.str l)
    | none => False)
  | some .string, .nils => (∃ e, P.underlying src = some (.slice e) ∧ P.underlying e = some (.int .u8)) ∧ k (.str [])
  | some .string, .ro s => (∃ e, P.underlying src = some (.slice e) ∧ P.underlying e = some (.int .u8)) ∧ ∃ l : List UInt8, s = byts l ∧ k (.str l)
  | _, _ => (∃ d, P.underlying src = some d) ∧ convA P dst x k

/-- A bound of a slice expression. -/
def boundA (x : Option AV) (d : Int) (k : Int → Prop) : Prop :=
  match x with
  | none => k d
  | some (.int _ n) => k n
  | some _ => False

def sliceA (t : TypeId) (hp : List Blk) (x : AV) (lo hi : Option AV) (k : AV → Prop) : Prop :=
  match P.underlying t, x with
  | some .string, .str s => boundA lo 0 fun l => boundA hi s.length fun h => 0 ≤ l ∧ l ≤ h ∧ h ≤ s.length ∧ k (.str ((s.take h.toNat).drop l.toNat))
  | some (.slice e), .nils => boundA lo 0 fun l => boundA hi 0 fun h => 0 ≤ l ∧ l ≤ h ∧ h ≤ 0 ∧ 0 < P.cellsOf e ∧ k .nils
  | some (.slice e), .ro s => boundA lo 0 fun l => boundA hi s.length fun h => 0 ≤ l ∧ l ≤ h ∧ h ≤ s.length ∧ 0 < P.cellsOf e ∧ (∀ a ∈ s, a.cells.length = P.cellsOf e) ∧ k (.ro ((s.take h.toNat).drop l.toNat))
  | some (.slice e), .sl b i n => boundA lo 0 fun l => boundA hi n fun h => 0 ≤ l ∧ l ≤ h ∧ h ≤ n ∧ 0 < P.cellsOf e ∧ (hp[b]?).map (·.w) = some (P.cellsOf e) ∧ k (.sl b (i + l.toNat) (h.toNat - l.toNat))
  | _, _ => False

def fieldOf (s : TypeId) (f : Nat) : Option Field :=
  match P.underlying s with
  | some (.struct fs) => fs[f]?
  | _ => none

/-- The zero value of a type. -/
def zeroOf (t : TypeId) : AV :=
  match (P.info? t).bind (·.zero) with
  | some z => ofV z
  | none => .any

def placeA (cs : List AV) (off : Nat) (v : List AV) : List AV := cs.take off ++ v ++ cs.drop (off + v.length)

def buildA (s : TypeId) (parts : List (Nat × AV)) (cs : List AV) (k : AV → Prop) : Prop :=
  match parts with
  | [] => k (.agg cs)
  | (i, v) :: rest => match fieldOf P s i with
    | some f => v.solid = true ∧ v.cells.length = P.cellsOf f.type ∧ f.offset + v.cells.length ≤ cs.length ∧ buildA s rest (placeA cs f.offset v.cells) k
    | none => False

def setAll (n : Nat) (w : Nat) (parts : List (Nat × AV)) (els : List AV) (k : List AV → Prop) : Prop :=
  match parts with
  | [] => k els
  | (i, v) :: rest => i < n ∧ v.solid = true ∧ v.cells.length = w ∧ setAll n w rest (els.set i v) k

/-- The size that an append may have. -/
def fits (n bytes : Nat) : Prop := n * bytes ≤ 70368744177664 ∧ 0 < bytes ∧ bytes ≤ 1048576

/-- All elements are of 'w' cells, each known. -/
def AllW (w : Nat) (l : List AV) : Prop := ∀ a ∈ l, a.solid = true ∧ a.cells.length = w

def appendA (n0 : Nat) (t : TypeId) (hp : List Blk) (s x : AV) (k : AV → List Blk → Option Nat → Prop) : Prop :=
  match P.underlying t with
  | some (.slice e) => (zeroOf P e).solid = true ∧ (zeroOf P e).cells.length = P.cellsOf e ∧
    match s with
    | .nils => readSl hp x fun ys => AllW (P.cellsOf e) ys ∧ 0 < P.cellsOf e ∧ fits ys.length (P.bytesOf e) ∧
        brk ys.isEmpty (k .nils hp none) (k (.sl hp.length 0 ys.length) (hp ++ [{ ty := e, w := P.cellsOf e, els := ys }]) none)
    | .sl b i n => match hp[b]? with
      | some blk => n0 ≤ b ∧ blk.live = true ∧ blk.ty = e ∧ i = 0 ∧ n = blk.els.length ∧ blk.w = P.cellsOf e ∧ 0 < P.cellsOf e ∧
          readSl hp x fun ys => AllW (P.cellsOf e) ys ∧ fits (n + ys.length) (P.bytesOf e) ∧
            k (.sl b 0 (n + ys.length)) ((hp.set b { blk with els := blk.els ++ ys }).map fun q => { q with els := q.els.map (kill b) }) (some b)
      | none => False
    | _ => False
  | _ => False

/-- A function of the Go text. -/
def isGo (f : FuncId) : Prop :=
  match P.funcs[f]? with
  | some fn => fn.body.isNone = false ∧ (fn.name == "runtime.NumGoroutine") = false
  | none => False

/-- What a call gives: the Go text's run returns it, or, where there is no text, it is answered at once. -/
def Gets (f : FuncId) (args : Array Value) (w : World) (R : Value → World → Prop) : Prop :=
  (isGo P f ∧ Calls P f args w fun e w' => ∃ v, e = .returned v ∧ R v w') ∨ (∃ v w', (callFunc f args).run P w = .ok (.value v) w' ∧ R v w')

/-- A call: in whatever memory that fits, it returns, and what it returns and leaves is of 'Q'. -/
def CallA (f : FuncId) (args : List AV) (hp : List Blk) (Q : AV → List Blk → Prop) : Prop :=
  ∀ (E : Env P) (vs : List Value), HRel E hp → vs.length = args.length → (∀ (i : Nat) a v, args[i]? = some a → vs[i]? = some v → RV E a v) →
    Gets P f vs.toArray E.w fun v w' => ∃ r hp' E', E'.w = w' ∧ Q r hp' ∧ RV E' r v ∧ HRel E' hp' ∧ Fr E hp E' hp'

def newEl (w : Nat) (e : AV) (j : Nat) (v : AV) : AV := if v.cells.length = w then v else .agg (placeA e.cells j v.cells)

def storeA (t : TypeId) (hp : List Blk) (a x : AV) (k : List Blk → Prop) : Prop :=
  match a with
  | .ptr b i j => match hp[b]? with
    | some blk => blk.live = true ∧ x.solid = true ∧ 0 < P.cellsOf t ∧ x.cells.length = P.cellsOf t ∧ j + x.cells.length ≤ blk.w ∧
        ∃ h : i < blk.els.length, k (hp.set b { blk with els := blk.els.set i (newEl blk.w blk.els[i] j x) })
    | none => False
  | _ => False

def loadA (t : TypeId) (hp : List Blk) (a : AV) (k : AV → Prop) : Prop :=
  match a with
  | .rop l => loadC P t l 0 k
  | .ptr b i j => match hp[b]? with
    | some blk => blk.live = true ∧ ∃ h : i < blk.els.length, loadC P t blk.els[i].cells j k
    | none => False
  | _ => False

def indexA (t : TypeId) (hp : List Blk) (x ix : AV) (k : AV → Prop) : Prop :=
  match P.underlying t, ix with
  | some (.slice e), .int _ n =>
    match x with
    | .ro l => 0 ≤ n ∧ 0 < P.cellsOf e ∧ ∃ h : n.toNat < l.length, l[n.toNat].cells.length = P.cellsOf e ∧ k (.rop l[n.toNat].cells)
    | .sl b i len => 0 ≤ n ∧ n < len ∧ 0 < P.cellsOf e ∧ (hp[b]?).map (·.w) = some (P.cellsOf e) ∧ k (.ptr b (i + n.toNat) 0)
    | _ => False
  | _, _ => False

def indexS (t : TypeId) (x ix : AV) (k : AV → Prop) : Prop :=
  match P.underlying t, x, ix with
  | some .string, .str s, .int _ n => 0 ≤ n ∧ ∃ h : n.toNat < s.length, k (.int .u8 (s[n.toNat]).toNat)
  | _, _, _ => False

def fieldA (s : TypeId) (x : AV) (i : Nat) (k : AV → Prop) : Prop :=
  match fieldOf P s i with
  | some fd => 0 < P.cellsOf fd.type ∧ match x with
    | .rop l => k (.rop (l.drop fd.offset))
    | .ptr b i' j => k (.ptr b i' (j + fd.offset))
    | _ => False
  | none => False

def partA (s : TypeId) (x : AV) (i : Nat) (k : AV → Prop) : Prop :=
  match fieldOf P s i, x with
  | some fd, .agg l => loadC P fd.type l fd.offset k
  | _, _ => False

def lenA (t : TypeId) (x : AV) (k : AV → Prop) : Prop :=
  match P.underlying t, x with
  | some .string, .str s => k (.int .i64 s.length)
  | some (.slice _), .nils => k (.int .i64 (0 : Nat))
  | some (.slice _), .ro l => k (.int .i64 l.length)
  | some (.slice _), .sl _ _ n => k (.int .i64 n)
  | _, _ => False

/-- The greater of two numbers; of two zeros, the one without a sign. -/
def fmax (k : FloatKind) (x y : Nat) : Nat := match k.format.order x y with
  | some .lt => y
  | some .gt => x
  | some .eq => if (k.decode x).neg then y else x
  | none => x
def minA : AV → List AV → (AV → Prop) → Prop
  | x, [], k => k x
  | .int kd a, .int kd' b :: r, k => kd = kd' ∧ minA (.int kd (if b < a then b else a)) r k
  | _, _, _ => False
def maxA : AV → List AV → (AV → Prop) → Prop
  | x, [], k => k x
  | .int kd a, .int kd' b :: r, k => kd = kd' ∧ maxA (.int kd (if b > a then b else a)) r k
  | .flt kd a, .flt kd' b :: r, k => kd = kd' ∧ (kd.format.order a b).isSome = true ∧ maxA (.flt kd (fmax kd a b)) r k
  | _, _, _ => False

/-- The builtin functions that make no memory. -/
def quietB (b : Builtin) (ts : List TypeId) (xs : List AV) (k : AV → Prop) : Prop :=
  match b, ts, xs with
  | .len, [t], [x] => lenA P t x k
  | .min, _, x :: r => minA x r k
  | .max, _, x :: r => maxA x r k
  | .real, _, [.cpx kd a _] => k (.flt kd a)
  | .imag, _, [.cpx kd _ b] => k (.flt kd b)
  | .complex, _, [.flt kd a, .flt kd' b] => kd = kd' ∧ k (.cpx kd a b)
  | _, _, _ => False

/-- A comparison with nil. -/
def nilC (op : BinOp) (y : Operand) : Bool :=
  match op, y with
  | .eql, .const (.slice none 0 0) => true
  | _, _ => false
/-- Whether a slice is nil. -/
def nilA (t : TypeId) (x : AV) (k : AV → Prop) : Prop :=
  match P.underlying t, x with
  | some (.slice _), .ro (_ :: _) => k (.bool false)
  | some (.slice _), .sl _ _ _ => k (.bool false)
  | _, _ => False

/-- The operations that make and write no memory. -/
def quietA (op : Op) (f : Operand → AV) (hp : List Blk) (k : AV → Prop) : Prop :=
  match op with
  | .move x | .assign x => k (f x)
  | .pick c a b => match f c with
    | .bool cb => k (pickV cb (f a) (f b))
    | _ => False
  | .build t parts => (match P.underlying t with | some (.struct fs) => ∀ f ∈ fs.toList, 0 < P.cellsOf f.type | _ => False) ∧ (zeroOf P t).solid = true ∧ buildA P t (parts.toList.map fun p => (p.1, f p.2)) (zeroOf P t).cells k
  | .load t a => loadA P t hp (f a) k
  | .nilCheck x => match f x with
    | .ptr b i j => k (.ptr b i j)
    | .rop l => k (.rop l)
    | .fn g l => k (.fn g l)
    | _ => False
  | .binOp op t x y _ => match nilC op y with
    | true => nilA P t (f x) k
    | false => binA P op t (f x) (f y) k
  | .unOp op _ x => unA op (f x) k
  | .convert src dst x => convB P src dst hp (f x) k
  | .makeFunc (.func g) first captured => first.toList = [] ∧ k (.fn g (captured.toList.map f))
  | .slice t x lo hi none => sliceA P t hp (f x) (lo.map f) (hi.map f) k
  | .fieldAddr s x i => fieldA P s (f x) i k
  | .field t x i => partA P t (f x) i k
  | .indexAddr t x ix => indexA P t hp (f x) (f ix) k
  | .index t x ix => indexS P t (f x) (f ix) k
  | .extract x i => match f x with
    | .tup l => ∃ h : i < l.length, k l[i]
    | _ => False
  | .call c => match c.callee with
    | .builtin b => quietB P b c.argTypes.toList (c.args.toList.map f) k
    | _ => False
  | _ => False

def notInt (t : Option TypeId) : Prop :=
  match t.bind P.underlying with
  | some (.int _) | none => False
  | some _ => True

def isQuiet : Op → Bool
  | .alloc _ | .box .. | .buildSlice .. | .store .. | .makeSlice .. => false
  | .call c => match c.callee with
    | .builtin .append => false
    | .builtin _ => true
    | _ => false
  | _ => true

/-- One operation. -/
def opA (n0 : Nat) (op : Op) (f : Operand → AV) (hp : List Blk) (k : AV → List Blk → Option Nat → Prop) : Prop :=
  match op with
  | .alloc t => (zeroOf P t).solid = true ∧ k (.ptr hp.length 0 0) (hp ++ [{ ty := t, w := (zeroOf P t).cells.length, els := [zeroOf P t] }]) none
  | .box t x => (f x).solid = true ∧ k (.ptr hp.length 0 0) (hp ++ [{ ty := t, w := (f x).cells.length, els := [f x] }]) none
  | .buildSlice t len parts => match P.underlying t with
    | some (.slice e) => 0 < P.cellsOf e ∧ len * P.cellsOf e ≤ 16777216 ∧ (zeroOf P e).solid = true ∧ (zeroOf P e).cells.length = P.cellsOf e ∧
        setAll len (P.cellsOf e) (parts.toList.map fun p => (p.1, f p.2)) (List.replicate len (zeroOf P e)) fun els =>
          k (.sl hp.length 0 len) (hp ++ [{ ty := e, w := P.cellsOf e, els := els }]) none
    | _ => False
  | .store t a x => storeA P t hp (f a) (f x) fun hp' => k .any hp' none
  | .makeSlice t l c => match P.underlying t, f l, f c with
    | some (.slice e), .int _ n, .int _ m => n = m ∧ 0 ≤ n ∧ n ≤ 281474976710656 ∧ P.bytesOf e * n ≤ 281474976710656 ∧ 0 < P.cellsOf e ∧
        (zeroOf P e).solid = true ∧ (zeroOf P e).cells.length = P.cellsOf e ∧
        k (.sl hp.length 0 n.toNat) (hp ++ [{ ty := e, w := P.cellsOf e, els := List.replicate n.toNat (zeroOf P e) }]) none
    | _, _, _ => False
  | .call c => match c.callee with
    | .value g => match f g with
      | .fn fid caps => CallA P fid (c.args.toList.map f ++ caps) hp fun r hp' => k r hp' none
      | _ => False
    | .builtin .append => match c.args.toList with
      | [s, x] => notInt P (c.argTypes[1]?) ∧ (match c.argTypes[0]? with
        | some t => appendA P n0 t hp (f s) (f x) k
        | none => False)
      | _ => False
    | .builtin b => quietB P b c.argTypes.toList (c.args.toList.map f) fun v => k v hp none
    | _ => False
  | op => quietA P op f hp fun v => k v hp none
end

/-- Where a function's run stands: the frame's slots, the known blocks. -/
structure St where
  tm : List AV
  hp : List Blk

def St.ev (st : St) : Operand → AV
  | .tmp t => st.tm.getD t .any
  | .const v => ofV v
  | .global _ => .any
  | .func f => .fn f []
def St.put (st : St) (dst : Option Tmp) (v : AV) : St :=
  match dst with
  | some d => { st with tm := st.tm.set d v }
  | none => st
def St.after (st : St) (hp : List Blk) : Option Nat → St
  | none => { tm := st.tm, hp := hp }
  | some b => { tm := st.tm.map (kill b), hp := hp }

inductive Ex where
  | normal
  | exit (id : Nat)
  | ret

section
variable (P : Program)

/-- A guard's slot. -/
def guardSlot (ops : List Oper) (j : Nat) : Option Tmp := (ops[j]?).bind (·.dst)

/-- The operations of a region, one after another. -/
def runOps (n0 : Nat) (ops : List Oper) : List Oper → St → (St → Prop) → Prop
  | [], st, K => K st
  | o :: rest, st, K =>
    match o.guard with
    | none => opA P n0 o.op st.ev st.hp fun v hp' kb => runOps n0 ops rest ((st.after hp' kb).put o.dst v) K
    | some (j, b) =>
      match guardSlot ops j with
      | some d =>
        match st.tm.getD d .any with
        | .bool c => brk (c == b)
            (opA P n0 o.op (st.put (some d) (.bool b)).ev st.hp fun v hp' kb => runOps n0 ops rest (((st.put (some d) (.bool b)).after hp' kb).put o.dst v) K)
            (runOps n0 ops rest ((st.put (some d) (.bool (!b))).put o.dst (.tup [])) K)
        | .tup [] => runOps n0 ops rest (st.put o.dst (.tup [])) K
        | _ => False
      | none => False

/-- An operation that may be taken in any order: it makes and writes no memory, or it is a call whose result is named. -/
def isQ (o : Oper) : Bool :=
  match o.op with
  | .call { callee := .value _, args := _, argTypes := _ } => true
  | op => isQuiet op

/-- The operations of a region that draws its order: where several may come next, the one that is taken is quiet and a call's result is named; where only one may come next ('true' in 'ms'), it is any. -/
def runQ (n0 : Nat) (ops : List Oper) : List Bool → List Oper → St → (St → Prop) → Prop
  | _, [], st, K => K st
  | true :: ms, o :: rest, st, K =>
    match o.guard with
    | none => opA P n0 o.op st.ev st.hp fun v hp' kb => runQ n0 ops ms rest ((st.after hp' kb).put o.dst v) K
    | some (j, b) =>
      match guardSlot ops j with
      | some d =>
        match st.tm.getD d .any with
        | .bool c => brk (c == b)
            (opA P n0 o.op (st.put (some d) (.bool b)).ev st.hp fun v hp' kb => runQ n0 ops ms rest (((st.put (some d) (.bool b)).after hp' kb).put o.dst v) K)
            (runQ n0 ops ms rest ((st.put (some d) (.bool (!b))).put o.dst (.tup [])) K)
        | .tup [] => runQ n0 ops ms rest (st.put o.dst (.tup [])) K
        | _ => False
      | none => False
  | false :: ms, o :: rest, st, K =>
    let step (st : St) : Prop := match o.op with
      | .call { callee := .value g, args := args, argTypes := _ } => match st.ev g with
        | .fn fid caps => ∃ r, CallA P fid (args.toList.map st.ev ++ caps) st.hp (fun r' hp' => r' = r ∧ hp' = st.hp) ∧ runQ n0 ops ms rest (st.put o.dst r) K
        | _ => False
      | op => isQuiet op = true ∧ quietA P op st.ev st.hp fun v => runQ n0 ops ms rest (st.put o.dst v) K
    match o.guard with
    | none => step st
    | some (j, b) =>
      match guardSlot ops j with
      | some d =>
        match st.tm.getD d .any with
        | .bool c => brk (c == b) (step (st.put (some d) (.bool b))) (runQ n0 ops ms rest ((st.put (some d) (.bool (!b))).put o.dst (.tup [])) K)
        | .tup [] => runQ n0 ops ms rest (st.put o.dst (.tup [])) K
        | _ => False
      | none => False
  | [], _ :: _, _, _ => False
end

/-- Operations that cannot come ahead of one: they wait for it, or for one that does. -/
def lateOf (ops : Array Oper) (listed : Array Bool) (k : Nat) : List Nat :=
  (List.range ops.size).foldl (fun D j =>
    if listed.getD j true then D else
    match ops[j]? with
    | none => D
    | some oj => if oj.after.any fun e => Region.binds .any e && (e.on == k || D.contains e.on) then D ++ [j] else D) []
def lateOk (ops : Array Oper) (listed : Array Bool) (k : Nat) (D : List Nat) : Bool :=
  D.all fun j => !(listed.getD j true) && (match ops[j]? with
    | none => false
    | some oj => oj.after.any fun e => Region.binds .any e && (e.on == k || D.contains e.on))
/-- The next operation is apart from all that may come up before it, and these are quiet. -/
def freeQ (ops : Array Oper) (ms : List Bool) (listed : Array Bool) (k : Nat) : Bool :=
  match ops[k]? with
  | none => false
  | some o => lateOk ops listed k (lateOf ops listed k) && (List.range ops.size).all fun j =>
    j == k || listed.getD j true || (lateOf ops listed k).contains j ||
    match ops[j]? with
    | none => true
    | some oj => (oj.after.any fun e => Region.binds .any e && e.on == k) || (o.apart ops oj && isQ oj && !(ms.getD j true))
/-- The text's order serves for all: each operation is the only one that may come next ('true'), or it is quiet and apart from all that may come before it ('false'). -/
def drawOk (ops : Array Oper) (ms : List Bool) : Nat → Nat → Array Bool → Bool
  | 0, _, listed => (Region.ready .any ops listed).isEmpty
  | n + 1, k, listed =>
    (if ms.getD k true then Region.ready .any ops listed == [k]
     else (Region.ready .any ops listed).contains k && freeQ ops ms listed k && ((ops[k]?).map isQ).getD false) && drawOk ops ms n (k + 1) (listed.setIfInBounds k true)
def noSelect (ops : List Oper) : Bool := ops.all fun o => match o.op with | .select _ _ => false | _ => true
/-- The same of all regions of a piece of code. -/
def modesOk (md : Nat → List Bool) : Code → Bool
  | .region id ops true => (md id).isEmpty || (noSelect ops.toList && (md id).length == ops.size && drawOk ops (md id) ops.size 0 (Array.replicate ops.size false))
  | .seq a b => modesOk md a && modesOk md b
  | .cond _ a b => modesOk md a && modesOk md b
  | .block _ c => modesOk md c
  | .loop c => modesOk md c
  | _ => true

/-- The same value with the known blocks renamed. -/
def renL (π : Nat → Nat) : AV → AV
  | .sl b i n => .sl (π b) i n
  | .ptr b i j => .ptr (π b) i j
  | .agg _ | .tup _ | .fn _ _ => .any
  | v => v
def renM (π : Nat → Nat) : AV → AV
  | .agg l => .agg (l.map (renL π))
  | .fn f l => .fn f (l.map (renL π))
  | v => renL π v
def ren (π : Nat → Nat) : AV → AV
  | .tup l => .tup (l.map (renM π))
  | v => renM π v
/-- It names known blocks below N alone, and not too deep. -/
def belowL (N : Nat) : AV → Bool
  | .sl b _ _ => b < N
  | .ptr b _ _ => b < N
  | .agg _ | .tup _ | .fn _ _ => false
  | _ => true
def belowM (N : Nat) : AV → Bool
  | .agg l => l.all (belowL N)
  | .fn _ l => l.all (belowL N)
  | v => belowL N v
def below (N : Nat) : AV → Bool
  | .tup l => l.all (belowM N)
  | v => belowM N v

/-- The same value, seen as one that nobody writes. -/
def view : Nat → List Blk → AV → AV
  | 0, _, a => match a with
    | .sl _ _ _ | .ptr _ _ _ | .tup _ | .fn _ _ => .any
    | .agg l => .agg (l.map fun _ => .any)
    | a => a
  | d + 1, hp, a => match a with
    | .sl b i n => match hp[b]? with
      | some blk => if blk.live && decide (i + n ≤ blk.els.length) then .ro (((blk.els.drop i).take n).map (view d hp)) else .any
      | none => .any
    | .ptr b i j => match hp[b]? with
      | some blk => if blk.live then (match blk.els[i]? with
        | some e => .rop ((e.cells.drop j).map (view d hp))
        | none => .any) else .any
      | none => .any
    | .agg l => .agg (l.map (view d hp))
    | .tup l => .tup (l.map (view d hp))
    | .fn f l => .fn f (l.map (view d hp))
    | a => a

/-- It names no memory that nobody writes. -/
def cleanL : AV → Bool
  | .ro _ | .rop _ | .agg _ | .tup _ | .fn _ _ => false
  | _ => true
def cleanM : AV → Bool
  | .agg l => l.all cleanL
  | .fn _ l => l.all cleanL
  | v => cleanL v
def clean : AV → Bool
  | .tup l => l.all cleanM
  | v => cleanM v

section
variable (P : Program)

/-- Where a piece of code has ended, as the machine has it. -/
def Ex.up : Ex → Exit
  | .normal => .normal
  | .exit id => .exit id
  | .ret => .ret

/-- One value, or several. -/
def oneA : List AV → AV
  | [x] => x
  | l => .tup l
/-- What a function returns out of its slots. -/
def resL : List ResultVar → St → (List AV → Prop) → Prop
  | [], _, k => k []
  | .tmp t :: r, st, k => resL r st fun l => k (st.ev (.tmp t) :: l)
  | .cell x t :: r, st, k => loadA P t st.hp (st.ev (.tmp x)) fun v => resL r st fun l => k (v :: l)
end

def renB (π : Nat → Nat) (q : Blk) : Blk := { q with els := q.els.map (ren π) }
/-- The blocks that a call has made, behind the caller's. -/
def joinHp (hp new : List Blk) : List Blk := hp ++ new.map (renB fun b => b + hp.length)
def cleanB (q : Blk) : Bool := q.els.all clean
end Go.Abs
