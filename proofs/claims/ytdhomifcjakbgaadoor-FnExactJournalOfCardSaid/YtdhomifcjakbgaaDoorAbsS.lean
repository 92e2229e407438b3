/- The abstract layer, part S: the same rules in a form that is walked one operation after another: what comes later is not looked at before its state is known. -/
import Derived.Test.YtdhomifcjakbgaaDoorAbsR
set_option linter.unusedSimpArgs false
set_option linter.unusedVariables false
namespace Go.Abs
open Go
variable {P : Program}
universe u

/-- A mark that says what an argument is. It keeps that argument as it is. -/
inductive Tok {α : Sort u} (a : α) : Type where
  | mk

theorem rf {α : Sort u} {a b : α} (h : a = b) : a = b := h

section
variable (P : Program)
def Cn (g : AV → List Blk → Option Nat → Prop) (_t : Tok g) : AV → List Blk → Option Nat → Prop := g
def Br (c : Bool) (x y : Prop) (_t : Tok x) (_u : Tok y) : Prop := brk c x y
def guardB (v : AV) (b : Bool) (x y z : Prop) (_t : Tok x) (_u : Tok y) (_s : Tok z) : Prop :=
  match v with
  | .tup [] => z
  | .bool c => brk (c == b) x y
  | _ => False
def guardO (o : Option Tmp) (g : Tmp → Prop) (_t : Tok g) : Prop :=
  match o with
  | some d => g d
  | none => False
def condB (v : AV) (x y : Prop) (_t : Tok x) (_u : Tok y) : Prop :=
  match v with
  | .bool b => brk b x y
  | _ => False
def CallP (f : FuncId) (args : List AV) (hp : List Blk) (Q : AV → List Blk → Prop) (_t : Tok Q) : Prop := CallA P f args hp Q
def CallR (f : FuncId) (args : List AV) (hp : List Blk) (g : AV → Prop) (_t : Tok g) : Prop := ∃ r, CallA P f args hp (fun r' hp' => r' = r ∧ hp' = hp) ∧ g r
def R (n0 : Nat) (ops rest : List Oper) (K : St → Prop) (_t : Tok (ops, rest, K)) (st : St) : Prop := runOps P n0 ops rest st K
def RQ (n0 : Nat) (ops : List Oper) (ms : List Bool) (rest : List Oper) (K : St → Prop) (_t : Tok (ops, rest, K)) (st : St) : Prop := runQ P n0 ops ms rest st K
def V (md : Nat → List Bool) (n0 : Nat) (c : Code) (Q : Ex → St → Prop) (_t : Tok (c, Q)) (st : St) : Prop := vc P md n0 c st Q
/-- A region whose order is drawn: by its modes, or, where there are none, left. -/
def drawQ (ms : List Bool) (x y : Prop) (_t : Tok x) (_u : Tok y) : Prop := match ms with
  | [] => y
  | _ :: _ => x
def Lp (n0 : Nat) (c : Code) (Q : Ex → St → Prop) (_t : Tok (c, Q)) (st : St) : Prop := CodeA P n0 c st Q
end

section
variable {P : Program} {n0 : Nat} {hp : List Blk} {kb : Option Nat} {g : AV → List Blk → Option Nat → Prop} {t : Tok g} {f : Operand → AV} {k : AV → List Blk → Option Nat → Prop}

theorem Cn_any : Cn g t .any hp kb = g .any hp kb := rf rfl
theorem Cn_bool (b) : Cn g t (.bool b) hp kb = g (.bool b) hp kb := rf rfl
theorem Cn_int (kd n) : Cn g t (.int kd n) hp kb = g (.int kd n) hp kb := rf rfl
theorem Cn_flt (kd n) : Cn g t (.flt kd n) hp kb = g (.flt kd n) hp kb := rf rfl
theorem Cn_cpx (kd a b) : Cn g t (.cpx kd a b) hp kb = g (.cpx kd a b) hp kb := rf rfl
theorem Cn_str (s) : Cn g t (.str s) hp kb = g (.str s) hp kb := rf rfl
theorem Cn_agg (l) : Cn g t (.agg l) hp kb = g (.agg l) hp kb := rf rfl
theorem Cn_tup (l) : Cn g t (.tup l) hp kb = g (.tup l) hp kb := rf rfl
theorem Cn_nils : Cn g t .nils hp kb = g .nils hp kb := rf rfl
theorem Cn_ro (l) : Cn g t (.ro l) hp kb = g (.ro l) hp kb := rf rfl
theorem Cn_sl (b i n) : Cn g t (.sl b i n) hp kb = g (.sl b i n) hp kb := rf rfl
theorem Cn_ptr (b i n) : Cn g t (.ptr b i n) hp kb = g (.ptr b i n) hp kb := rf rfl
theorem Cn_rop (l) : Cn g t (.rop l) hp kb = g (.rop l) hp kb := rf rfl
theorem Cn_nilp : Cn g t .nilp hp kb = g .nilp hp kb := rf rfl
theorem Cn_fn (i l) : Cn g t (.fn i l) hp kb = g (.fn i l) hp kb := rf rfl
theorem Cn_nilf : Cn g t .nilf hp kb = g .nilf hp kb := rf rfl
theorem Cn_go (v) : Cn g t v hp kb = g v hp kb := rf rfl

theorem Br_true {x y : Prop} {t : Tok x} {u : Tok y} : Br true x y t u = x := brk_true x y
theorem Br_false {x y : Prop} {t : Tok x} {u : Tok y} : Br false x y t u = y := brk_false x y
theorem Br_not {c : Bool} {x y : Prop} {t : Tok x} {u : Tok y} : Br (!c) x y t u = Br c y x u t := by cases c <;> simp [Br, brk]
theorem br_intro {c : Bool} {x y : Prop} {t : Tok x} {u : Tok y} (hx : c = true → x) (hy : c = false → y) : Br c x y t u := ⟨hx, hy⟩
theorem guardB_skip {b : Bool} {x y z : Prop} {t : Tok x} {u : Tok y} {s : Tok z} : guardB (.tup []) b x y z t u s = z := rf rfl
theorem guardB_true {c : Bool} {x y z : Prop} {t : Tok x} {u : Tok y} {s : Tok z} : guardB (.bool c) true x y z t u s = Br c x y t u := by simp [guardB, Br]
theorem guardB_false {c : Bool} {x y z : Prop} {t : Tok x} {u : Tok y} {s : Tok z} : guardB (.bool c) false x y z t u s = Br c y x u t := by cases c <;> simp [guardB, Br, brk]
theorem guardO_some {d : Tmp} {g : Tmp → Prop} {t : Tok g} : guardO (some d) g t = g d := rf rfl
theorem condB_bool {c : Bool} {x y : Prop} {t : Tok x} {u : Tok y} : condB (.bool c) x y t u = Br c x y t u := rf rfl

theorem R_nil {ops : List Oper} {K : St → Prop} {t} {st : St} : R P n0 ops [] K t st = K st := rf rfl
theorem R_none {ops rest : List Oper} {K : St → Prop} {dst op ty pos aft t} {st : St} : R P n0 ops ({ dst := dst, op := op, type := ty, pos := pos, after := aft, guard := none } :: rest) K t st
    = opA P n0 op st.ev st.hp (Cn (fun v hp' kb => R P n0 ops rest K .mk ((st.after hp' kb).put dst v)) .mk) := rf rfl
theorem R_some {ops rest : List Oper} {K : St → Prop} {dst op ty pos aft j b t} {st : St} : R P n0 ops ({ dst := dst, op := op, type := ty, pos := pos, after := aft, guard := some (j, b) } :: rest) K t st
    = guardO (guardSlot ops j) (fun d => guardB (st.tm.getD d .any) b
        (opA P n0 op (st.put (some d) (.bool b)).ev st.hp (Cn (fun v hp' kb => R P n0 ops rest K .mk (((st.put (some d) (.bool b)).after hp' kb).put dst v)) .mk))
        (R P n0 ops rest K .mk ((st.put (some d) (.bool (!b))).put dst (.tup [])))
        (R P n0 ops rest K .mk (st.put dst (.tup []))) .mk .mk .mk) .mk := by
  simp only [R, runOps]
  cases guardSlot ops j with
  | none => rfl
  | some d =>
    simp only [guardO]
    cases st.tm.getD d .any with
    | tup l => cases l <;> rfl
    | _ => rfl

theorem RQ_nil {ops : List Oper} {ms : List Bool} {K : St → Prop} {t} {st : St} : RQ P n0 ops ms [] K t st = K st := by
  cases ms with
  | nil => rfl
  | cons m ms => cases m <;> rfl
theorem RQ_none {ops rest : List Oper} {ms : List Bool} {K : St → Prop} {dst op ty pos aft t} {st : St} : RQ P n0 ops (true :: ms) ({ dst := dst, op := op, type := ty, pos := pos, after := aft, guard := none } :: rest) K t st
    = opA P n0 op st.ev st.hp (Cn (fun v hp' kb => RQ P n0 ops ms rest K .mk ((st.after hp' kb).put dst v)) .mk) := rf rfl
theorem RQ_some {ops rest : List Oper} {ms : List Bool} {K : St → Prop} {dst op ty pos aft j b t} {st : St} : RQ P n0 ops (true :: ms) ({ dst := dst, op := op, type := ty, pos := pos, after := aft, guard := some (j, b) } :: rest) K t st
    = guardO (guardSlot ops j) (fun d => guardB (st.tm.getD d .any) b
        (opA P n0 op (st.put (some d) (.bool b)).ev st.hp (Cn (fun v hp' kb => RQ P n0 ops ms rest K .mk (((st.put (some d) (.bool b)).after hp' kb).put dst v)) .mk))
        (RQ P n0 ops ms rest K .mk ((st.put (some d) (.bool (!b))).put dst (.tup [])))
        (RQ P n0 ops ms rest K .mk (st.put dst (.tup []))) .mk .mk .mk) .mk := by
  simp only [RQ, runQ]
  cases guardSlot ops j with
  | none => rfl
  | some d =>
    simp only [guardO]
    cases st.tm.getD d .any with
    | tup l => cases l <;> rfl
    | _ => rfl

def callV (P : Program) (v : AV) (args : List AV) (hp : List Blk) (g : AV → List Blk → Option Nat → Prop) (_t : Tok g) : Prop := match v with
  | .fn fid caps => CallP P fid (args ++ caps) hp (fun r hp' => g r hp' none) .mk
  | _ => False
theorem callV_fn {fid : FuncId} {caps args : List AV} {g : AV → List Blk → Option Nat → Prop} {t : Tok g} {u : Tok (Cn g t)} : callV P (.fn fid caps) args hp (Cn g t) u = CallP P fid (args ++ caps) hp (fun r hp' => g r hp' none) .mk := rf rfl
/-- One operation of a drawn region, taken in the text's order. -/
def callQ (P : Program) (v : AV) (args : List AV) (hp : List Blk) (g : AV → Prop) (t : Tok g) : Prop := match v with
  | .fn fid caps => CallR P fid (args ++ caps) hp g t
  | _ => False
theorem callQ_fn {fid : FuncId} {caps args : List AV} {g : AV → Prop} {t : Tok g} : callQ P (.fn fid caps) args hp g t = CallR P fid (args ++ caps) hp g t := rf rfl
def stepQ (P : Program) (op : Op) (st : St) (g : AV → Prop) (_t : Tok g) : Prop :=
  match op with
  | .call { callee := .value h, args := args, argTypes := _ } => callQ P (st.ev h) (args.toList.map st.ev) st.hp g .mk
  | op => isQuiet op = true ∧ quietA P op st.ev st.hp g
theorem RQ_fnone {ops rest : List Oper} {ms : List Bool} {K : St → Prop} {dst op ty pos aft t} {st : St} : RQ P n0 ops (false :: ms) ({ dst := dst, op := op, type := ty, pos := pos, after := aft, guard := none } :: rest) K t st
    = stepQ P op st (fun v => RQ P n0 ops ms rest K .mk (st.put dst v)) .mk := by
  simp only [RQ, runQ]
  cases op with
  | call c =>
    obtain ⟨callee, args, ts⟩ := c
    cases callee with
    | value h => simp only [stepQ, callQ]; cases st.ev h <;> rfl
    | _ => rfl
  | _ => rfl
theorem RQ_fsome {ops rest : List Oper} {ms : List Bool} {K : St → Prop} {dst op ty pos aft j b t} {st : St} : RQ P n0 ops (false :: ms) ({ dst := dst, op := op, type := ty, pos := pos, after := aft, guard := some (j, b) } :: rest) K t st
    = guardO (guardSlot ops j) (fun d => guardB (st.tm.getD d .any) b
        (stepQ P op (st.put (some d) (.bool b)) (fun v => RQ P n0 ops ms rest K .mk ((st.put (some d) (.bool b)).put dst v)) .mk)
        (RQ P n0 ops ms rest K .mk ((st.put (some d) (.bool (!b))).put dst (.tup [])))
        (RQ P n0 ops ms rest K .mk (st.put dst (.tup []))) .mk .mk .mk) .mk := by
  simp only [RQ, runQ]
  cases guardSlot ops j with
  | none => rfl
  | some d =>
    simp only [guardO]
    cases st.tm.getD d .any with
    | bool c =>
      simp only [guardB]
      cases op with
      | call c =>
        obtain ⟨callee, args, ts⟩ := c
        cases callee with
        | value h => simp only [stepQ, callQ]; cases (st.put (some d) (.bool b)).ev h <;> rfl
        | _ => rfl
      | _ => rfl
    | tup l => cases l <;> rfl
    | _ => rfl

def Cv (g : AV → Prop) (v : AV) (hp : List Blk) : Prop := Cn (fun v _ _ => g v) .mk v hp none
section
variable {st : St} {g : AV → Prop} {t : Tok g}
theorem stepQ_call {h : Operand} {args : Array Operand} {ts : Array TypeId} : stepQ P (.call { callee := .value h, args := args, argTypes := ts }) st g t
    = callQ P (st.ev h) (args.toList.map st.ev) st.hp g .mk := rf rfl
theorem stepQ_builtin {b : Builtin} {args : Array Operand} {ts : Array TypeId} : stepQ P (.call { callee := .builtin b, args := args, argTypes := ts }) st g t
    = (isQuiet (.call { callee := .builtin b, args := args, argTypes := ts }) = true ∧ quietB P b ts.toList (args.toList.map st.ev) fun v => Cn (fun v _ _ => g v) .mk v st.hp none) := rf rfl
theorem stepQ_move {x} : stepQ P (.move x) st g t = quietA P (.move x) st.ev st.hp fun v => Cn (fun v _ _ => g v) .mk v st.hp none := by
  simp only [stepQ, isQuiet, true_and]; rfl
theorem stepQ_assign {x} : stepQ P (.assign x) st g t = quietA P (.assign x) st.ev st.hp fun v => Cn (fun v _ _ => g v) .mk v st.hp none := by
  simp only [stepQ, isQuiet, true_and]; rfl
theorem stepQ_pick {c a b} : stepQ P (.pick c a b) st g t = quietA P (.pick c a b) st.ev st.hp fun v => Cn (fun v _ _ => g v) .mk v st.hp none := by
  simp only [stepQ, isQuiet, true_and]; rfl
theorem stepQ_build {ty ps} : stepQ P (.build ty ps) st g t = quietA P (.build ty ps) st.ev st.hp fun v => Cn (fun v _ _ => g v) .mk v st.hp none := by
  simp only [stepQ, isQuiet, true_and]; rfl
theorem stepQ_load {ty a} : stepQ P (.load ty a) st g t = quietA P (.load ty a) st.ev st.hp fun v => Cn (fun v _ _ => g v) .mk v st.hp none := by
  simp only [stepQ, isQuiet, true_and]; rfl
theorem stepQ_nilCheck {x} : stepQ P (.nilCheck x) st g t = quietA P (.nilCheck x) st.ev st.hp fun v => Cn (fun v _ _ => g v) .mk v st.hp none := by
  simp only [stepQ, isQuiet, true_and]; rfl
theorem stepQ_binOp {bop ty x y ty2} : stepQ P (.binOp bop ty x y ty2) st g t = quietA P (.binOp bop ty x y ty2) st.ev st.hp fun v => Cn (fun v _ _ => g v) .mk v st.hp none := by
  simp only [stepQ, isQuiet, true_and]; rfl
theorem stepQ_unOp {uop ty x} : stepQ P (.unOp uop ty x) st g t = quietA P (.unOp uop ty x) st.ev st.hp fun v => Cn (fun v _ _ => g v) .mk v st.hp none := by
  simp only [stepQ, isQuiet, true_and]; rfl
theorem stepQ_convert {s d x} : stepQ P (.convert s d x) st g t = quietA P (.convert s d x) st.ev st.hp fun v => Cn (fun v _ _ => g v) .mk v st.hp none := by
  simp only [stepQ, isQuiet, true_and]; rfl
theorem stepQ_makeFunc {fn a b} : stepQ P (.makeFunc fn a b) st g t = quietA P (.makeFunc fn a b) st.ev st.hp fun v => Cn (fun v _ _ => g v) .mk v st.hp none := by
  simp only [stepQ, isQuiet, true_and]; rfl
theorem stepQ_slice {ty x lo hi mx} : stepQ P (.slice ty x lo hi mx) st g t = quietA P (.slice ty x lo hi mx) st.ev st.hp fun v => Cn (fun v _ _ => g v) .mk v st.hp none := by
  simp only [stepQ, isQuiet, true_and]; rfl
theorem stepQ_fieldAddr {ty x i} : stepQ P (.fieldAddr ty x i) st g t = quietA P (.fieldAddr ty x i) st.ev st.hp fun v => Cn (fun v _ _ => g v) .mk v st.hp none := by
  simp only [stepQ, isQuiet, true_and]; rfl
theorem stepQ_field {ty x i} : stepQ P (.field ty x i) st g t = quietA P (.field ty x i) st.ev st.hp fun v => Cn (fun v _ _ => g v) .mk v st.hp none := by
  simp only [stepQ, isQuiet, true_and]; rfl
theorem stepQ_indexAddr {ty x i} : stepQ P (.indexAddr ty x i) st g t = quietA P (.indexAddr ty x i) st.ev st.hp fun v => Cn (fun v _ _ => g v) .mk v st.hp none := by
  simp only [stepQ, isQuiet, true_and]; rfl
theorem stepQ_index {ty x i} : stepQ P (.index ty x i) st g t = quietA P (.index ty x i) st.ev st.hp fun v => Cn (fun v _ _ => g v) .mk v st.hp none := by
  simp only [stepQ, isQuiet, true_and]; rfl
theorem stepQ_extract {x i} : stepQ P (.extract x i) st g t = quietA P (.extract x i) st.ev st.hp fun v => Cn (fun v _ _ => g v) .mk v st.hp none := by
  simp only [stepQ, isQuiet, true_and]; rfl

end
theorem opA_move {x} : opA P n0 (.move x) f hp k = quietA P (.move x) f hp fun v => k v hp none := rf rfl
theorem opA_assign {x} : opA P n0 (.assign x) f hp k = quietA P (.assign x) f hp fun v => k v hp none := rf rfl
theorem opA_pick {c a b} : opA P n0 (.pick c a b) f hp k = quietA P (.pick c a b) f hp fun v => k v hp none := rf rfl
theorem opA_build {ty ps} : opA P n0 (.build ty ps) f hp k = quietA P (.build ty ps) f hp fun v => k v hp none := rf rfl
theorem opA_load {ty a} : opA P n0 (.load ty a) f hp k = quietA P (.load ty a) f hp fun v => k v hp none := rf rfl
theorem opA_nilCheck {x} : opA P n0 (.nilCheck x) f hp k = quietA P (.nilCheck x) f hp fun v => k v hp none := rf rfl
theorem opA_binOp {bop ty x y ty2} : opA P n0 (.binOp bop ty x y ty2) f hp k = quietA P (.binOp bop ty x y ty2) f hp fun v => k v hp none := rf rfl
theorem opA_unOp {uop ty x} : opA P n0 (.unOp uop ty x) f hp k = quietA P (.unOp uop ty x) f hp fun v => k v hp none := rf rfl
theorem opA_convert {s d x} : opA P n0 (.convert s d x) f hp k = quietA P (.convert s d x) f hp fun v => k v hp none := rf rfl
theorem opA_makeFunc {fn a b} : opA P n0 (.makeFunc fn a b) f hp k = quietA P (.makeFunc fn a b) f hp fun v => k v hp none := rf rfl
theorem opA_slice {ty x lo hi mx} : opA P n0 (.slice ty x lo hi mx) f hp k = quietA P (.slice ty x lo hi mx) f hp fun v => k v hp none := rf rfl
theorem opA_fieldAddr {ty x i} : opA P n0 (.fieldAddr ty x i) f hp k = quietA P (.fieldAddr ty x i) f hp fun v => k v hp none := rf rfl
theorem opA_field {ty x i} : opA P n0 (.field ty x i) f hp k = quietA P (.field ty x i) f hp fun v => k v hp none := rf rfl
theorem opA_indexAddr {ty x i} : opA P n0 (.indexAddr ty x i) f hp k = quietA P (.indexAddr ty x i) f hp fun v => k v hp none := rf rfl
theorem opA_index {ty x i} : opA P n0 (.index ty x i) f hp k = quietA P (.index ty x i) f hp fun v => k v hp none := rf rfl
theorem opA_extract {x i} : opA P n0 (.extract x i) f hp k = quietA P (.extract x i) f hp fun v => k v hp none := rf rfl

theorem opA_alloc {ty} : opA P n0 (.alloc ty) f hp k = ((zeroOf P ty).solid = true ∧ k (.ptr hp.length 0 0) (hp ++ [{ ty := ty, w := (zeroOf P ty).cells.length, els := [zeroOf P ty] }]) none) := rf rfl
theorem opA_box {ty x} : opA P n0 (.box ty x) f hp k = ((f x).solid = true ∧ k (.ptr hp.length 0 0) (hp ++ [{ ty := ty, w := (f x).cells.length, els := [f x] }]) none) := rf rfl
theorem opA_buildSlice {ty len parts} : opA P n0 (.buildSlice ty len parts) f hp k = (match P.underlying ty with
    | some (.slice e) => 0 < P.cellsOf e ∧ len * P.cellsOf e ≤ 16777216 ∧ (zeroOf P e).solid = true ∧ (zeroOf P e).cells.length = P.cellsOf e ∧
        setAll len (P.cellsOf e) (parts.toList.map fun p => (p.1, f p.2)) (List.replicate len (zeroOf P e)) fun els =>
          k (.sl hp.length 0 len) (hp ++ [{ ty := e, w := P.cellsOf e, els := els }]) none
    | _ => False) := rf rfl
theorem opA_store {ty a x} : opA P n0 (.store ty a x) f hp k = storeA P ty hp (f a) (f x) fun hp' => k .any hp' none := rf rfl
theorem opA_makeSlice {ty l c} : opA P n0 (.makeSlice ty l c) f hp k = (match P.underlying ty, f l, f c with
    | some (.slice e), .int _ n, .int _ m => n = m ∧ 0 ≤ n ∧ n ≤ 281474976710656 ∧ P.bytesOf e * n ≤ 281474976710656 ∧ 0 < P.cellsOf e ∧
        (zeroOf P e).solid = true ∧ (zeroOf P e).cells.length = P.cellsOf e ∧
        k (.sl hp.length 0 n.toNat) (hp ++ [{ ty := e, w := P.cellsOf e, els := List.replicate n.toNat (zeroOf P e) }]) none
    | _, _, _ => False) := rf rfl
theorem opA_append {args : Array Operand} {ts : Array TypeId} : opA P n0 (.call { callee := .builtin .append, args := args, argTypes := ts }) f hp k = (match args.toList with
      | [s, x] => notInt P (ts[1]?) ∧ (match ts[0]? with
        | some t => appendA P n0 t hp (f s) (f x) k
        | none => False)
      | _ => False) := rf rfl
theorem opA_len {args : Array Operand} {ts : Array TypeId} : opA P n0 (.call { callee := .builtin .len, args := args, argTypes := ts }) f hp k = quietB P .len ts.toList (args.toList.map f) fun v => k v hp none := rf rfl
theorem opA_min {args : Array Operand} {ts : Array TypeId} : opA P n0 (.call { callee := .builtin .min, args := args, argTypes := ts }) f hp k = quietB P .min ts.toList (args.toList.map f) fun v => k v hp none := rf rfl
theorem opA_max {args : Array Operand} {ts : Array TypeId} : opA P n0 (.call { callee := .builtin .max, args := args, argTypes := ts }) f hp k = quietB P .max ts.toList (args.toList.map f) fun v => k v hp none := rf rfl
theorem opA_real {args : Array Operand} {ts : Array TypeId} : opA P n0 (.call { callee := .builtin .real, args := args, argTypes := ts }) f hp k = quietB P .real ts.toList (args.toList.map f) fun v => k v hp none := rf rfl
theorem opA_imag {args : Array Operand} {ts : Array TypeId} : opA P n0 (.call { callee := .builtin .imag, args := args, argTypes := ts }) f hp k = quietB P .imag ts.toList (args.toList.map f) fun v => k v hp none := rf rfl
theorem opA_complex {args : Array Operand} {ts : Array TypeId} : opA P n0 (.call { callee := .builtin .complex, args := args, argTypes := ts }) f hp k = quietB P .complex ts.toList (args.toList.map f) fun v => k v hp none := rf rfl
theorem opA_call {h : Operand} {args : Array Operand} {ts : Array TypeId} : opA P n0 (.call { callee := .value h, args := args, argTypes := ts }) f hp (Cn g t)
    = callV P (f h) (args.toList.map f) hp (Cn g t) .mk := by
  cases hv : f h <;> simp only [opA, callV, hv]
  rfl
end

section
variable {P : Program} {md : Nat → List Bool} {n0 : Nat} {Q : Ex → St → Prop} {st : St}
theorem V_skip {t} : V P md n0 .skip Q t st = Q .normal st := rf rfl
theorem V_region {id ops t} : V P md n0 (.region id ops false) Q t st = R P n0 ops.toList ops.toList (Q .normal) .mk st := rf rfl
theorem V_draw {id ops t} : V P md n0 (.region id ops true) Q t st = drawQ (md id) (RQ P n0 ops.toList (md id) ops.toList (Q .normal) .mk st) (Lp P n0 (.region id ops true) Q .mk st) .mk .mk := by
  simp only [V, vc, drawQ, RQ, Lp]
  cases md id <;> rfl
theorem drawQ_cons {m : Bool} {ms : List Bool} {x y : Prop} {t : Tok x} {u : Tok y} : drawQ (m :: ms) x y t u = x := rf rfl
theorem drawQ_nil {x y : Prop} {t : Tok x} {u : Tok y} : drawQ [] x y t u = y := rf rfl
theorem V_seq {a b t} : V P md n0 (.seq a b) Q t st = V P md n0 a (fun e st' => match e with
    | .normal => V P md n0 b Q .mk st'
    | .exit i => Q (.exit i) st'
    | .ret => Q .ret st') .mk st := rf rfl
theorem V_cond {c x y t} : V P md n0 (.cond c x y) Q t st = condB (st.ev c) (V P md n0 x Q .mk st) (V P md n0 y Q .mk st) .mk .mk := by
  simp only [V, vc]
  cases st.ev c <;> rfl
theorem V_block {id c t} : V P md n0 (.block id c) Q t st = V P md n0 c (fun e st' => match e with
    | .normal => Q .normal st'
    | .exit i => if i = id then Q .normal st' else Q (.exit i) st'
    | .ret => Q .ret st') .mk st := rf rfl
theorem V_loop {c t} : V P md n0 (.loop c) Q t st = Lp P n0 (.loop c) Q .mk st := rf rfl
theorem V_exit {id t} : V P md n0 (.exit id) Q t st = Q (.exit id) st := rf rfl
theorem V_ret {t} : V P md n0 .ret Q t st = Q .ret st := rf rfl
theorem retQ_ret {fn : Func} {Q : AV → List Blk → Prop} : retQ P fn n0 Q .ret st = resL P fn.results.toList st fun l => PostR n0 (oneA l) st.hp Q := rf rfl
theorem retQ_normal {fn : Func} {Q : AV → List Blk → Prop} : retQ P fn n0 Q .normal st = resL P fn.results.toList st fun l => PostR n0 (oneA l) st.hp Q := rf rfl

theorem go_in {f : FuncId} {fn : Func} {c : Code} {args : List AV} {hp : List Blk} {Q : AV → List Blk → Prop} (hm : P.follows .mixedOrders = true) (hf : P.funcs[f]? = some fn) (hb : fn.body = some c) (hgo : isGo P f) (hok : modesOk md c = true)
    (h : V P md hp.length c (retQ P fn hp.length Q) .mk ⟨args ++ List.replicate (fn.ntmps - args.length) .any, hp⟩) : CallP P f args hp Q .mk := call_intro hm hf hb hgo hok h
theorem CallP.out {f : FuncId} {args : List AV} {hp : List Blk} {Q : AV → List Blk → Prop} {t} (h : CallP P f args hp Q t) : CallA P f args hp Q := h

/-- A loop, as the walk meets it. -/
theorem go_round {σ : Type} (hm : P.follows .mixedOrders = true) {c : Code} {t} (hok : modesOk md c = true) (I : σ → St) (μ : σ → Nat) (s0 : σ) (h0 : Weak n0 st (I s0))
    (round : ∀ s, V P md n0 c (fun e st' => match e with
      | .normal => ∃ s', μ s' < μ s ∧ Weak n0 st' (I s')
      | .exit i => Q (.exit i) st'
      | .ret => Q .ret st') .mk (I s)) : Lp P n0 (.loop c) Q t st := loop_rule hm hok I μ s0 h0 round

/-- A region whose order is drawn, order by order; its end told by names of one's choice. -/
theorem go_draw (hm : P.follows .mixedOrders = true) {id : Nat} {ops : Array Oper} {t}
    (h : anyA P n0 ops.toList [] (fun st' => ∃ st2, Weak n0 st' st2 ∧ Q .normal st2) ops.size (Array.replicate ops.size false) st) : Lp P n0 (.region id ops true) Q t st :=
  draw_sound hm (fun E0 hp0 E st a hn hs ⟨st2, hw, hq⟩ => by
    obtain ⟨E2, h1, h2⟩ := hw _ E0 hp0 E a hn hs
    exact ⟨E2, st2, h1, h2, hq⟩) h

/-- A call, by what is known of the callee. -/
theorem call_by {f : FuncId} {args : List AV} {hp : List Blk} {Q Q0 : AV → List Blk → Prop} {t} (h : CallA P f args hp Q0) (hq : ∀ r hp', Q0 r hp' → Q r hp') : CallP P f args hp Q t := h.mono hq
theorem call_at {f : FuncId} {args : List AV} {hp : List Blk} {Q : AV → List Blk → Prop} {t} (h : CallA P f args hp Q) : CallP P f args hp Q t := h
theorem callr_by {f : FuncId} {args : List AV} {hp : List Blk} {g : AV → Prop} {t} (r : AV) (h : CallA P f args hp (fun r' hp' => r' = r ∧ hp' = hp)) (hq : g r) : CallR P f args hp g t := ⟨r, h, hq⟩
end
theorem PostR.same {n0 : Nat} {r : AV} {hp : List Blk} {Q : AV → List Blk → Prop} (h : Q r hp) : PostR n0 r hp Q :=
  ⟨r, hp, fun _ _ _ E _ _ H F hv => ⟨E, rfl, H, F, hv⟩, h⟩
theorem PostR.drop {n0 : Nat} {r : AV} {hp : List Blk} {Q : AV → List Blk → Prop} (r2 : AV) (hp2 : List Blk) (hn : n0 ≤ hp2.length) (hh : DropHp hp2.length hp hp2) (hr : DropV hp2.length r r2) (h : Q r2 hp2) : PostR n0 r hp Q :=
  ⟨r2, hp2, weakR_drop hn hh hr, h⟩

/-- This result, these blocks. -/
abbrev Ret (r : AV) (hp : List Blk) : AV → List Blk → Prop := fun r' hp' => r' = r ∧ hp' = hp
theorem PostR.ret {r : AV} {hp : List Blk} {n0 : Nat} : PostR n0 r hp (Ret r hp) := PostR.same ⟨rfl, rfl⟩
theorem PostR.ret0 {r : AV} {hp : List Blk} (hb : below 0 r = true) : PostR 0 r hp (Ret r []) := PostR.pure ⟨rfl, rfl⟩ hb

/-- Blocks handed on that hold plain values. -/
def SubF (hp : List Blk) : List Nat → List Blk → Prop
  | [], [] => True
  | s :: σ, r :: l => (hp[s]? = some r ∧ allBelow 0 r.els = true) ∧ SubF hp σ l
  | _, _ => False
theorem SubF.len {hp : List Blk} : ∀ {σ : List Nat} {l : List Blk}, SubF hp σ l → l.length = σ.length
  | [], [], _ => rfl
  | s :: σ, r :: l, h => by simp [SubF.len h.2]
  | [], _ :: _, h => h.elim
  | _ :: _, [], h => h.elim
theorem SubF.get {hp : List Blk} : ∀ {σ : List Nat} {l : List Blk}, SubF hp σ l → ∀ (i : Nat) r, l[i]? = some r → hp[σ.getD i 0]? = some r ∧ allBelow 0 r.els = true
  | [], [], _, i, r, h => by simp at h
  | s :: σ, q :: l, h, 0, r, hr => by simp at hr; subst hr; simpa using h.1
  | s :: σ, q :: l, h, i + 1, r, hr => by simpa using SubF.get h.2 i r (by simpa using hr)
  | [], _ :: _, h, _, _, _ => h.elim
  | _ :: _, [], h, _, _, _ => h.elim
theorem below_mono0 {N : Nat} (π : Nat → Nat) : ∀ a, below 0 a = true → below N a = true ∧ ren π a = a := by
  have hL : ∀ a, belowL 0 a = true → belowL N a = true ∧ renL π a = a := by intro a h; cases a <;> first | exact ⟨rfl, rfl⟩ | (simp [belowL] at h)
  have hM : ∀ a, belowM 0 a = true → belowM N a = true ∧ renM π a = a := by
    intro a h
    cases a with
    | agg l =>
      simp only [belowM, List.all_eq_true] at h
      exact ⟨by simp only [belowM, List.all_eq_true]; exact fun x hx => (hL x (h x hx)).1, by show AV.agg (l.map _) = _; rw [map_id_of fun x hx => (hL x (h x hx)).2]⟩
    | fn f l =>
      simp only [belowM, List.all_eq_true] at h
      exact ⟨by simp only [belowM, List.all_eq_true]; exact fun x hx => (hL x (h x hx)).1, by show AV.fn f (l.map _) = _; rw [map_id_of fun x hx => (hL x (h x hx)).2]⟩
    | _ => first | exact ⟨rfl, rfl⟩ | (simp [belowM, belowL] at h)
  intro a h
  cases a with
  | tup l =>
    simp only [below, List.all_eq_true] at h
    exact ⟨by simp only [below, List.all_eq_true]; exact fun x hx => (hM x (h x hx)).1, by show AV.tup (l.map _) = _; rw [map_id_of fun x hx => (hM x (h x hx)).2]⟩
  | agg l => exact hM (.agg l) h
  | fn f l => exact hM (.fn f l) h
  | _ => first | exact ⟨rfl, rfl⟩ | (simp [below, belowM, belowL] at h)
theorem SubF.sub {hp : List Blk} {σ : List Nat} {l : List Blk} (hn : σ.Nodup) (h : SubF hp σ l) : Sub σ hp l where
  nodup := hn
  len := h.len
  blk := fun i r hr => by
    obtain ⟨h1, h2⟩ := h.get i r hr
    simp only [allBelow, List.all_eq_true] at h2
    exact ⟨r, h1, rfl, fun hl => ⟨hl, rfl, (map_id_of fun x hx => (below_mono0 (N := σ.length) _ x (h2 x hx)).2).symm, fun x hx => (below_mono0 (N := σ.length) (fun b => b) x (h2 x hx)).1⟩⟩
/-- The caller's blocks, after what was handed on has been put back. -/
def putF : List Nat → List Blk → List Blk → List Blk
  | s :: σ, r :: l, hp => putF σ l (hp.set s r)
  | _, _, hp => hp
theorem renB_flat {π : Nat → Nat} {r : Blk} (h : allBelow 0 r.els = true) : renB π r = r := by
  simp only [allBelow, List.all_eq_true] at h
  simp only [renB]
  rw [map_id_of fun x hx => (below_mono0 (N := 0) π x (h x hx)).2]
theorem putBack_flat (τ : Nat → Nat) : ∀ (σ : List Nat) (l hp : List Blk), (∀ r ∈ l, allBelow 0 r.els = true) → putBack τ σ l hp = putF σ l hp := by
  intro σ
  induction σ with
  | nil => intro l hp _; cases l <;> rfl
  | cons s σ ih =>
    intro l hp h
    cases l with
    | nil => rfl
    | cons r l =>
      simp only [putBack, putF]
      rw [renB_flat (h r (by simp)), ih l _ (fun x hx => h x (by simp [hx]))]
section
variable {P : Program}
/-- A call that is handed some of the caller's blocks, which hold plain values, and leaves plain values there. -/
theorem CallA.handed (σ : List Nat) {f : FuncId} {args args' : List AV} {hp hps hps' : List Blk} {r : AV} {Q : AV → List Blk → Prop} (hn : σ.Nodup) (S : SubF hp σ hps) (ha : args = args'.map (ren fun i => σ.getD i 0)) (hb : args'.all (below σ.length) = true)
    (h : CallA P f args' hps fun r' hp' => r' = r ∧ hp' = hps') (hl : hps'.length = σ.length) (hr : below 0 r = true) (hf : ∀ q ∈ hps', allBelow 0 q.els = true) (hQ : Q r (putF σ hps' hp)) : CallA P f args hp Q := by
  refine CallA.sub σ (S.sub hn) ha hb (h.mono ?_)
  rintro r' hp' ⟨rfl, rfl⟩
  have e : subHp σ hp hp' = putF σ hp' hp := by
    unfold subHp
    rw [putBack_flat _ _ _ _ hf, List.drop_of_length_le (by omega)]
    simp
  rw [e, (below_mono0 (N := 0) _ r' hr).2]
  exact hQ
end
section
variable {P : Program} {f : FuncId} {args : List AV} {hp : List Blk} {Q : AV → List Blk → Prop} {t : Tok Q} {g : AV → Prop} {u : Tok g}
/-- A call whose arguments name no known block and whose result names none. -/
theorem call_lift {r : AV} (ha : args.all (below 0) = true) (h : CallA P f args [] (Ret r [])) (hr : below 0 r = true) : CallA P f args hp (Ret r hp) := by
  refine CallA.lift ha (h.mono ?_)
  rintro r' hp' ⟨rfl, rfl⟩
  exact ⟨(below_mono0 (N := 0) _ r' hr).2, by simp [joinHp]⟩
theorem call_ret {r : AV} (h : CallA P f args [] (Ret r [])) (ha : args.all (below 0) = true) (hr : below 0 r = true) (hq : Q r hp) : CallP P f args hp Q t :=
  (call_lift ha h hr).mono (by rintro r' hp' ⟨rfl, rfl⟩; exact hq)
theorem callr_ret {r : AV} (h : CallA P f args [] (Ret r [])) (ha : args.all (below 0) = true) (hr : below 0 r = true) (hq : g r) : CallR P f args hp g u :=
  ⟨r, call_lift ha h hr, hq⟩
/-- A call that makes new blocks of plain values. -/
theorem call_new {r : AV} {new : List Blk} (h : CallA P f args [] (Ret r new)) (ha : args.all (below 0) = true) (hf : ∀ q ∈ new, allBelow 0 q.els = true) (hQ : Q (ren (fun b => b + hp.length) r) (hp ++ new)) : CallP P f args hp Q t := by
  refine CallA.lift ha (h.mono ?_)
  rintro r' hp' ⟨rfl, rfl⟩
  have e : joinHp hp hp' = hp ++ hp' := by
    unfold joinHp
    congr 1
    have : ∀ l : List Blk, (∀ q ∈ l, allBelow 0 q.els = true) → l.map (renB fun b => b + hp.length) = l := by
      intro l
      induction l with
      | nil => intro _; rfl
      | cons q l ih => intro hl; rw [List.map_cons, renB_flat (hl q (by simp)), ih fun x hx => hl x (by simp [hx])]
    exact this hp' hf
  rw [e]
  exact hQ
/-- A call that only reads known blocks, and whose result names none. -/
theorem call_view (d : Nat) {r : AV} (h : CallA P f (args.map (view d hp)) [] (Ret r [])) (hr : below 0 r = true) (hc : clean r = true) : CallA P f args hp (Ret r hp) := by
  refine CallA.borrow d (h.mono ?_)
  rintro r' hp' ⟨rfl, rfl⟩
  exact ⟨⟨hc, rfl⟩, (below_mono0 (N := 0) _ r' hr).2, by simp [joinHp]⟩
theorem call_lent (d : Nat) {r : AV} {args' : List AV} (hv : args.map (view d hp) = args') (h : CallA P f args' [] (Ret r [])) (hr : below 0 r = true) (hc : clean r = true) (hq : Q r hp) : CallP P f args hp Q t :=
  (call_view d (by rw [hv]; exact h) hr hc).mono (by rintro r' hp' ⟨rfl, rfl⟩; exact hq)
theorem callr_lent (d : Nat) {r : AV} {args' : List AV} (hv : args.map (view d hp) = args') (h : CallA P f args' [] (Ret r [])) (hr : below 0 r = true) (hc : clean r = true) (hq : g r) : CallR P f args hp g u :=
  ⟨r, call_view d (by rw [hv]; exact h) hr hc, hq⟩
/-- A call that is handed some blocks. -/
theorem call_handed (σ : List Nat) {args' : List AV} {hps hps' : List Blk} {r : AV} (h : CallA P f args' hps (Ret r hps')) (hn : σ.Nodup) (S : SubF hp σ hps) (ha : args = args'.map (ren fun i => σ.getD i 0)) (hb : args'.all (below σ.length) = true)
    (hl : hps'.length = σ.length) (hr : below 0 r = true) (hf : ∀ q ∈ hps', allBelow 0 q.els = true) (hQ : Q r (putF σ hps' hp)) : CallP P f args hp Q t :=
  CallA.handed σ hn S ha hb h hl hr hf hQ
end
/-- What is returned, told by names of one's choice: blocks of plain values. -/
theorem PostR.pick (σ : List Nat) {n0 : Nat} {r r2 : AV} {hp hp2 : List Blk} {Q : AV → List Blk → Prop} (hn : σ.Nodup) (h0 : n0 ≤ σ.length) (hlow : ∀ b, b < n0 → σ.getD b 0 = b) (S : SubF hp σ hp2) (hr : r = ren (fun i => σ.getD i 0) r2) (hb : below σ.length r2 = true) (h : Q r2 hp2) : PostR n0 r hp Q := by
  have hl := S.len
  refine PostR.names (fun i => σ.getD i 0) r2 hp2 (.inr ⟨hr, by rw [hl]; exact hb⟩) ⟨rfl, by omega, hlow, ?_, ?_⟩ h
  · intro b b' h1 h2 e
    rw [hl] at h1 h2
    simp only [List.getD_eq_getElem?_getD, List.getElem?_eq_getElem h1, List.getElem?_eq_getElem h2, Option.getD_some] at e
    have hne := List.pairwise_iff_getElem.1 hn
    rcases Nat.lt_trichotomy b b' with hlt | he | hlt
    · exact absurd e (hne b b' h1 h2 hlt)
    · exact he
    · exact absurd e.symm (hne b' b h2 h1 hlt)
  · intro b q hq
    obtain ⟨h1, h2⟩ := S.get b q hq
    simp only [allBelow, List.all_eq_true] at h2
    exact ⟨q, h1, rfl, fun hlv => ⟨hlv, rfl, (map_id_of fun x hx => (below_mono0 (N := 0) _ x (h2 x hx)).2).symm, fun x hx => (below_mono0 (N := hp2.length) (fun b => b) x (h2 x hx)).1⟩⟩
attribute [irreducible] V R RQ drawQ Lp CallP CallR Cn Br guardB guardO condB stepQ callQ callV
end Go.Abs
