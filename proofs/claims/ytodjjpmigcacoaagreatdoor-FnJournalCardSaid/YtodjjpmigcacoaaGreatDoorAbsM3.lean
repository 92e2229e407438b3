/- The abstract layer: parts S T U V W X Y Z Z1 Z2 Z3 Z4 Z5 Z6 Z7 Z8 Z9. -/
import Derived.Test.YtodjjpmigcacoaaGreatDoorAbsM2
import Derived.Below
import Derived.ChangeArms
import Derived.Laws.Externs
import Derived.Laws.FloatBits
import Derived.Lib.Bytealg
set_option linter.unusedSimpArgs false
set_option linter.unusedVariables false
namespace Go.Abs
open Go
variable {P : Program}
universe u
inductive Tok {α : Sort u} (a : α) : Type where
  | mk
theorem rf {α : Sort u} {a b : α} (h : a = b) : a = b := h
section
variable (P : Program)
def Cn (g : AV → List Blk → Option Nat → Prop) (_t : Tok g) : AV → List Blk → Option Nat → Prop := g
def Br (c : Bool) (x y : Prop) (_t : Tok x) (_u : Tok y) : Prop := brk c x y
def guardB (v : AV) (b : Bool) (x y z : Prop) (_t : Tok x) (_u : Tok y) (_s : Tok z) : Prop :=
  match v with
  | .tup [] => z
  | .bool c => brk (c == b) x y
  | _ => False
def guardO (o : Option Tmp) (g : Tmp → Prop) (_t : Tok g) : Prop :=
  match o with
  | some d => g d
  | none => False
def condB (v : AV) (x y : Prop) (_t : Tok x) (_u : Tok y) : Prop :=
  match v with
  | .bool b => brk b x y
  | _ => False
def CallP (f : FuncId) (args : List AV) (hp : List Blk) (Q : AV → List Blk → Prop) (_t : Tok Q) : Prop := CallA P f args hp Q
def CallR (f : FuncId) (args : List AV) (hp : List Blk) (g : AV → Prop) (_t : Tok g) : Prop := ∃ r, CallA P f args hp (fun r' hp' => r' = r ∧ hp' = hp) ∧ g r
def R (n0 : Nat) (ops rest : List Oper) (K : St → Prop) (_t : Tok (ops, rest, K)) (st : St) : Prop := runOps P n0 ops rest st K
def RQ (n0 : Nat) (ops : List Oper) (ms : List Bool) (rest : List Oper) (K : St → Prop) (_t : Tok (ops, rest, K)) (st : St) : Prop := runQ P n0 ops ms rest st K
def V (md : Nat → List Bool) (n0 : Nat) (c : Code) (Q : Ex → St → Prop) (_t : Tok (c, Q)) (st : St) : Prop := vc P md n0 c st Q
def drawQ (ms : List Bool) (x y : Prop) (_t : Tok x) (_u : Tok y) : Prop := match ms with
  | [] => y
  | _ :: _ => x
def Lp (n0 : Nat) (c : Code) (Q : Ex → St → Prop) (_t : Tok (c, Q)) (st : St) : Prop := CodeA P n0 c st Q
end
section
variable {P : Program} {n0 : Nat} {hp : List Blk} {kb : Option Nat} {g : AV → List Blk → Option Nat → Prop} {t : Tok g} {f : Operand → AV} {k : AV → List Blk → Option Nat → Prop}
theorem Cn_any : Cn g t .any hp kb = g .any hp kb := rf rfl
theorem Cn_bool (b) : Cn g t (.bool b) hp kb = g (.bool b) hp kb := rf rfl
theorem Cn_int (kd n) : Cn g t (.int kd n) hp kb = g (.int kd n) hp kb := rf rfl
theorem Cn_flt (kd n) : Cn g t (.flt kd n) hp kb = g (.flt kd n) hp kb := rf rfl
theorem Cn_cpx (kd a b) : Cn g t (.cpx kd a b) hp kb = g (.cpx kd a b) hp kb := rf rfl
theorem Cn_str (s) : Cn g t (.str s) hp kb = g (.str s) hp kb := rf rfl
theorem Cn_agg (l) : Cn g t (.agg l) hp kb = g (.agg l) hp kb := rf rfl
theorem Cn_tup (l) : Cn g t (.tup l) hp kb = g (.tup l) hp kb := rf rfl
theorem Cn_nils : Cn g t .nils hp kb = g .nils hp kb := rf rfl
theorem Cn_ro (l) : Cn g t (.ro l) hp kb = g (.ro l) hp kb := rf rfl
theorem Cn_sl (b i n) : Cn g t (.sl b i n) hp kb = g (.sl b i n) hp kb := rf rfl
theorem Cn_ptr (b i n) : Cn g t (.ptr b i n) hp kb = g (.ptr b i n) hp kb := rf rfl
theorem Cn_rop (l) : Cn g t (.rop l) hp kb = g (.rop l) hp kb := rf rfl
theorem Cn_nilp : Cn g t .nilp hp kb = g .nilp hp kb := rf rfl
theorem Cn_fn (i l) : Cn g t (.fn i l) hp kb = g (.fn i l) hp kb := rf rfl
theorem Cn_nilf : Cn g t .nilf hp kb = g .nilf hp kb := rf rfl
theorem Cn_nili : Cn g t .nili hp kb = g .nili hp kb := rf rfl
theorem Cn_mv (i l) : Cn g t (.mv i l) hp kb = g (.mv i l) hp kb := rf rfl
theorem Cn_mp (b) : Cn g t (.mp b) hp kb = g (.mp b) hp kb := rf rfl
theorem Cn_rom (l) : Cn g t (.rom l) hp kb = g (.rom l) hp kb := rf rfl
theorem Cn_go (v) : Cn g t v hp kb = g v hp kb := rf rfl
theorem Br_true {x y : Prop} {t : Tok x} {u : Tok y} : Br true x y t u = x := brk_true x y
theorem Br_false {x y : Prop} {t : Tok x} {u : Tok y} : Br false x y t u = y := brk_false x y
theorem Br_not {c : Bool} {x y : Prop} {t : Tok x} {u : Tok y} : Br (!c) x y t u = Br c y x u t := by cases c <;> simp [Br, brk]
theorem br_intro {c : Bool} {x y : Prop} {t : Tok x} {u : Tok y} (hx : c = true → x) (hy : c = false → y) : Br c x y t u := ⟨hx, hy⟩
theorem guardB_skip {b : Bool} {x y z : Prop} {t : Tok x} {u : Tok y} {s : Tok z} : guardB (.tup []) b x y z t u s = z := rf rfl
theorem guardB_true {c : Bool} {x y z : Prop} {t : Tok x} {u : Tok y} {s : Tok z} : guardB (.bool c) true x y z t u s = Br c x y t u := by simp [guardB, Br]
theorem guardB_false {c : Bool} {x y z : Prop} {t : Tok x} {u : Tok y} {s : Tok z} : guardB (.bool c) false x y z t u s = Br c y x u t := by cases c <;> simp [guardB, Br, brk]
theorem guardO_some {d : Tmp} {g : Tmp → Prop} {t : Tok g} : guardO (some d) g t = g d := rf rfl
theorem condB_bool {c : Bool} {x y : Prop} {t : Tok x} {u : Tok y} : condB (.bool c) x y t u = Br c x y t u := rf rfl
theorem R_nil {ops : List Oper} {K : St → Prop} {t} {st : St} : R P n0 ops [] K t st = K st := rf rfl
theorem R_none {ops rest : List Oper} {K : St → Prop} {dst op ty pos aft t} {st : St} : R P n0 ops ({ dst := dst, op := op, type := ty, pos := pos, after := aft, guard := none } :: rest) K t st
    = opA P n0 op st.ev st.hp (Cn (fun v hp' kb => R P n0 ops rest K .mk ((st.after hp' kb).put dst v)) .mk) := rf rfl
theorem R_some {ops rest : List Oper} {K : St → Prop} {dst op ty pos aft j b t} {st : St} : R P n0 ops ({ dst := dst, op := op, type := ty, pos := pos, after := aft, guard := some (j, b) } :: rest) K t st
    = guardO (guardSlot ops j) (fun d => guardB (st.tm.getD d .any) b
        (opA P n0 op (st.put (some d) (.bool b)).ev st.hp (Cn (fun v hp' kb => R P n0 ops rest K .mk (((st.put (some d) (.bool b)).after hp' kb).put dst v)) .mk))
        (R P n0 ops rest K .mk ((st.put (some d) (.bool (!b))).put dst (.tup [])))
        (R P n0 ops rest K .mk (st.put dst (.tup []))) .mk .mk .mk) .mk := by
  simp only [R, runOps]
  cases guardSlot ops j with
  | none => rfl
  | some d =>
    simp only [guardO]
    cases st.tm.getD d .any with
    | tup l => cases l <;> rfl
    | _ => rfl
theorem RQ_nil {ops : List Oper} {ms : List Bool} {K : St → Prop} {t} {st : St} : RQ P n0 ops ms [] K t st = K st := by
  cases ms with
  | nil => rfl
  | cons m ms => cases m <;> rfl
theorem RQ_none {ops rest : List Oper} {ms : List Bool} {K : St → Prop} {dst op ty pos aft t} {st : St} : RQ P n0 ops (true :: ms) ({ dst := dst, op := op, type := ty, pos := pos, after := aft, guard := none } :: rest) K t st
    = opA P n0 op st.ev st.hp (Cn (fun v hp' kb => RQ P n0 ops ms rest K .mk ((st.after hp' kb).put dst v)) .mk) := rf rfl
theorem RQ_some {ops rest : List Oper} {ms : List Bool} {K : St → Prop} {dst op ty pos aft j b t} {st : St} : RQ P n0 ops (true :: ms) ({ dst := dst, op := op, type := ty, pos := pos, after := aft, guard := some (j, b) } :: rest) K t st
    = guardO (guardSlot ops j) (fun d => guardB (st.tm.getD d .any) b
        (opA P n0 op (st.put (some d) (.bool b)).ev st.hp (Cn (fun v hp' kb => RQ P n0 ops ms rest K .mk (((st.put (some d) (.bool b)).after hp' kb).put dst v)) .mk))
        (RQ P n0 ops ms rest K .mk ((st.put (some d) (.bool (!b))).put dst (.tup [])))
        (RQ P n0 ops ms rest K .mk (st.put dst (.tup []))) .mk .mk .mk) .mk := by
  simp only [RQ, runQ]
  cases guardSlot ops j with
  | none => rfl
  | some d =>
    simp only [guardO]
    cases st.tm.getD d .any with
    | tup l => cases l <;> rfl
    | _ => rfl
def callV (P : Program) (v : AV) (args : List AV) (hp : List Blk) (g : AV → List Blk → Option Nat → Prop) (_t : Tok g) : Prop := match v with
  | .fn fid caps => CallP P fid (args ++ caps) hp (fun r hp' => g r hp' none) .mk
  | .mv fid first => CallP P fid (first ++ args) hp (fun r hp' => g r hp' none) .mk
  | _ => False
theorem callV_fn {fid : FuncId} {caps args : List AV} {g : AV → List Blk → Option Nat → Prop} {t : Tok g} {u : Tok (Cn g t)} : callV P (.fn fid caps) args hp (Cn g t) u = CallP P fid (args ++ caps) hp (fun r hp' => g r hp' none) .mk := rf rfl
theorem callV_mv {fid : FuncId} {caps args : List AV} {g : AV → List Blk → Option Nat → Prop} {t : Tok g} {u : Tok (Cn g t)} : callV P (.mv fid caps) args hp (Cn g t) u = CallP P fid (caps ++ args) hp (fun r hp' => g r hp' none) .mk := rf rfl
def callQ (P : Program) (v : AV) (args : List AV) (hp : List Blk) (g : AV → Prop) (t : Tok g) : Prop := match v with
  | .fn fid caps => CallR P fid (args ++ caps) hp g t
  | .mv fid first => CallR P fid (first ++ args) hp g t
  | _ => False
theorem callQ_fn {fid : FuncId} {caps args : List AV} {g : AV → Prop} {t : Tok g} : callQ P (.fn fid caps) args hp g t = CallR P fid (args ++ caps) hp g t := rf rfl
theorem callQ_mv {fid : FuncId} {caps args : List AV} {g : AV → Prop} {t : Tok g} : callQ P (.mv fid caps) args hp g t = CallR P fid (caps ++ args) hp g t := rf rfl
def stepQ (P : Program) (op : Op) (st : St) (g : AV → Prop) (_t : Tok g) : Prop :=
  match op with
  | .call { callee := .value h, args := args, argTypes := _ } => callQ P (st.ev h) (args.toList.map st.ev) st.hp g .mk
  | op => isQuiet op = true ∧ quietA P op st.ev st.hp g
theorem RQ_fnone {ops rest : List Oper} {ms : List Bool} {K : St → Prop} {dst op ty pos aft t} {st : St} : RQ P n0 ops (false :: ms) ({ dst := dst, op := op, type := ty, pos := pos, after := aft, guard := none } :: rest) K t st
    = stepQ P op st (fun v => RQ P n0 ops ms rest K .mk (st.put dst v)) .mk := by
  simp only [RQ, runQ]
  cases op with
  | call c =>
    obtain ⟨callee, args, ts⟩ := c
    cases callee with
    | value h => simp only [stepQ, callQ]; cases st.ev h <;> rfl
    | _ => rfl
  | _ => rfl
theorem RQ_fsome {ops rest : List Oper} {ms : List Bool} {K : St → Prop} {dst op ty pos aft j b t} {st : St} : RQ P n0 ops (false :: ms) ({ dst := dst, op := op, type := ty, pos := pos, after := aft, guard := some (j, b) } :: rest) K t st
    = guardO (guardSlot ops j) (fun d => guardB (st.tm.getD d .any) b
        (stepQ P op (st.put (some d) (.bool b)) (fun v => RQ P n0 ops ms rest K .mk ((st.put (some d) (.bool b)).put dst v)) .mk)
        (RQ P n0 ops ms rest K .mk ((st.put (some d) (.bool (!b))).put dst (.tup [])))
        (RQ P n0 ops ms rest K .mk (st.put dst (.tup []))) .mk .mk .mk) .mk := by
  simp only [RQ, runQ]
  cases guardSlot ops j with
  | none => rfl
  | some d =>
    simp only [guardO]
    cases st.tm.getD d .any with
    | bool c =>
      simp only [guardB]
      cases op with
      | call c =>
        obtain ⟨callee, args, ts⟩ := c
        cases callee with
        | value h => simp only [stepQ, callQ]; cases (st.put (some d) (.bool b)).ev h <;> rfl
        | _ => rfl
      | _ => rfl
    | tup l => cases l <;> rfl
    | _ => rfl
section
variable {st : St} {g : AV → Prop} {t : Tok g}
theorem stepQ_call {h : Operand} {args : Array Operand} {ts : Array TypeId} : stepQ P (.call { callee := .value h, args := args, argTypes := ts }) st g t
    = callQ P (st.ev h) (args.toList.map st.ev) st.hp g .mk := rf rfl
theorem stepQ_builtin {b : Builtin} {args : Array Operand} {ts : Array TypeId} : stepQ P (.call { callee := .builtin b, args := args, argTypes := ts }) st g t
    = (isQuiet (.call { callee := .builtin b, args := args, argTypes := ts }) = true ∧ quietB P b ts.toList (args.toList.map st.ev) fun v => Cn (fun v _ _ => g v) .mk v st.hp none) := rf rfl
theorem stepQ_move {x} : stepQ P (.move x) st g t = quietA P (.move x) st.ev st.hp fun v => Cn (fun v _ _ => g v) .mk v st.hp none := by
  simp only [stepQ, isQuiet, true_and]; rfl
theorem stepQ_assign {x} : stepQ P (.assign x) st g t = quietA P (.assign x) st.ev st.hp fun v => Cn (fun v _ _ => g v) .mk v st.hp none := by
  simp only [stepQ, isQuiet, true_and]; rfl
theorem stepQ_pick {c a b} : stepQ P (.pick c a b) st g t = quietA P (.pick c a b) st.ev st.hp fun v => Cn (fun v _ _ => g v) .mk v st.hp none := by
  simp only [stepQ, isQuiet, true_and]; rfl
theorem stepQ_build {ty ps} : stepQ P (.build ty ps) st g t = quietA P (.build ty ps) st.ev st.hp fun v => Cn (fun v _ _ => g v) .mk v st.hp none := by
  simp only [stepQ, isQuiet, true_and]; rfl
theorem stepQ_load {ty a} : stepQ P (.load ty a) st g t = quietA P (.load ty a) st.ev st.hp fun v => Cn (fun v _ _ => g v) .mk v st.hp none := by
  simp only [stepQ, isQuiet, true_and]; rfl
theorem stepQ_nilCheck {x} : stepQ P (.nilCheck x) st g t = quietA P (.nilCheck x) st.ev st.hp fun v => Cn (fun v _ _ => g v) .mk v st.hp none := by
  simp only [stepQ, isQuiet, true_and]; rfl
theorem stepQ_binOp {bop ty x y ty2} : stepQ P (.binOp bop ty x y ty2) st g t = quietA P (.binOp bop ty x y ty2) st.ev st.hp fun v => Cn (fun v _ _ => g v) .mk v st.hp none := by
  simp only [stepQ, isQuiet, true_and]; rfl
theorem stepQ_unOp {uop ty x} : stepQ P (.unOp uop ty x) st g t = quietA P (.unOp uop ty x) st.ev st.hp fun v => Cn (fun v _ _ => g v) .mk v st.hp none := by
  simp only [stepQ, isQuiet, true_and]; rfl
theorem stepQ_convert {s d x} : stepQ P (.convert s d x) st g t = quietA P (.convert s d x) st.ev st.hp fun v => Cn (fun v _ _ => g v) .mk v st.hp none := by
  simp only [stepQ, isQuiet, true_and]; rfl
theorem stepQ_makeFunc {fn a b} : stepQ P (.makeFunc fn a b) st g t = quietA P (.makeFunc fn a b) st.ev st.hp fun v => Cn (fun v _ _ => g v) .mk v st.hp none := by
  simp only [stepQ, isQuiet, true_and]; rfl
theorem stepQ_slice {ty x lo hi mx} : stepQ P (.slice ty x lo hi mx) st g t = quietA P (.slice ty x lo hi mx) st.ev st.hp fun v => Cn (fun v _ _ => g v) .mk v st.hp none := by
  simp only [stepQ, isQuiet, true_and]; rfl
theorem stepQ_fieldAddr {ty x i} : stepQ P (.fieldAddr ty x i) st g t = quietA P (.fieldAddr ty x i) st.ev st.hp fun v => Cn (fun v _ _ => g v) .mk v st.hp none := by
  simp only [stepQ, isQuiet, true_and]; rfl
theorem stepQ_field {ty x i} : stepQ P (.field ty x i) st g t = quietA P (.field ty x i) st.ev st.hp fun v => Cn (fun v _ _ => g v) .mk v st.hp none := by
  simp only [stepQ, isQuiet, true_and]; rfl
theorem stepQ_indexAddr {ty x i} : stepQ P (.indexAddr ty x i) st g t = quietA P (.indexAddr ty x i) st.ev st.hp fun v => Cn (fun v _ _ => g v) .mk v st.hp none := by
  simp only [stepQ, isQuiet, true_and]; rfl
theorem stepQ_index {ty x i} : stepQ P (.index ty x i) st g t = quietA P (.index ty x i) st.ev st.hp fun v => Cn (fun v _ _ => g v) .mk v st.hp none := by
  simp only [stepQ, isQuiet, true_and]; rfl
theorem stepQ_lookup {ty m x} : stepQ P (.lookup ty m x false) st g t = quietA P (.lookup ty m x false) st.ev st.hp fun v => Cn (fun v _ _ => g v) .mk v st.hp none := by
  simp only [stepQ, isQuiet, true_and]; rfl
theorem stepQ_extract {x i} : stepQ P (.extract x i) st g t = quietA P (.extract x i) st.ev st.hp fun v => Cn (fun v _ _ => g v) .mk v st.hp none := by
  simp only [stepQ, isQuiet, true_and]; rfl
end
theorem opA_move {x} : opA P n0 (.move x) f hp k = quietA P (.move x) f hp fun v => k v hp none := rf rfl
theorem opA_assign {x} : opA P n0 (.assign x) f hp k = quietA P (.assign x) f hp fun v => k v hp none := rf rfl
theorem opA_pick {c a b} : opA P n0 (.pick c a b) f hp k = quietA P (.pick c a b) f hp fun v => k v hp none := rf rfl
theorem opA_build {ty ps} : opA P n0 (.build ty ps) f hp k = quietA P (.build ty ps) f hp fun v => k v hp none := rf rfl
theorem opA_load {ty a} : opA P n0 (.load ty a) f hp k = quietA P (.load ty a) f hp fun v => k v hp none := rf rfl
theorem opA_nilCheck {x} : opA P n0 (.nilCheck x) f hp k = quietA P (.nilCheck x) f hp fun v => k v hp none := rf rfl
theorem opA_binOp {bop ty x y ty2} : opA P n0 (.binOp bop ty x y ty2) f hp k = quietA P (.binOp bop ty x y ty2) f hp fun v => k v hp none := rf rfl
theorem opA_unOp {uop ty x} : opA P n0 (.unOp uop ty x) f hp k = quietA P (.unOp uop ty x) f hp fun v => k v hp none := rf rfl
theorem opA_convert {s d x} : opA P n0 (.convert s d x) f hp k = convO P s d hp (f x) k := rf rfl
theorem opA_makeFunc {fn a b} : opA P n0 (.makeFunc fn a b) f hp k = quietA P (.makeFunc fn a b) f hp fun v => k v hp none := rf rfl
theorem opA_slice {ty x lo hi mx} : opA P n0 (.slice ty x lo hi mx) f hp k = quietA P (.slice ty x lo hi mx) f hp fun v => k v hp none := rf rfl
theorem opA_fieldAddr {ty x i} : opA P n0 (.fieldAddr ty x i) f hp k = quietA P (.fieldAddr ty x i) f hp fun v => k v hp none := rf rfl
theorem opA_field {ty x i} : opA P n0 (.field ty x i) f hp k = quietA P (.field ty x i) f hp fun v => k v hp none := rf rfl
theorem opA_indexAddr {ty x i} : opA P n0 (.indexAddr ty x i) f hp k = quietA P (.indexAddr ty x i) f hp fun v => k v hp none := rf rfl
theorem opA_index {ty x i} : opA P n0 (.index ty x i) f hp k = quietA P (.index ty x i) f hp fun v => k v hp none := rf rfl
theorem opA_lookup {ty m x} : opA P n0 (.lookup ty m x false) f hp k = quietA P (.lookup ty m x false) f hp fun v => k v hp none := rf rfl
theorem opA_makeMap {ty} : opA P n0 (.makeMap ty none) f hp k = k (.mp hp.length) (hp ++ [{ ty := ty, w := 0, els := [] }]) none := rf rfl
theorem opA_mapUpdate {ty m n x} : opA P n0 (.mapUpdate ty m n x) f hp k = putA P ty hp (f m) (f n) (f x) fun hp' => k .any hp' none := rf rfl
theorem opA_mapEntry {ty m n} : opA P n0 (.mapEntry ty m n) f hp k = entryA P ty hp (f m) (f n) fun v hp' => k v hp' none := rf rfl
theorem opA_entryStore {ty m s x} : opA P n0 (.entryStore ty m s x) f hp k = entrySetA hp (f m) (f s) (f x) fun hp' => k .any hp' none := rf rfl
theorem opA_extract {x i} : opA P n0 (.extract x i) f hp k = quietA P (.extract x i) f hp fun v => k v hp none := rf rfl
theorem opA_alloc {ty} : opA P n0 (.alloc ty) f hp k = ((zeroOf P ty).solid = true ∧ 0 < (zeroOf P ty).cells.length ∧ k (.ptr hp.length 0 0) (hp ++ [{ ty := ty, w := (zeroOf P ty).cells.length, els := [zeroOf P ty] }]) none) := rf rfl
theorem opA_box {ty x} : opA P n0 (.box ty x) f hp k = ((f x).solid = true ∧ 0 < (f x).cells.length ∧ k (.ptr hp.length 0 0) (hp ++ [{ ty := ty, w := (f x).cells.length, els := [f x] }]) none) := rf rfl
theorem opA_buildSlice {ty len parts} : opA P n0 (.buildSlice ty len parts) f hp k = (match P.underlying ty with
    | some (.slice e) => 0 < P.cellsOf e ∧ len * P.cellsOf e ≤ 16777216 ∧ (zeroOf P e).solid = true ∧ (zeroOf P e).cells.length = P.cellsOf e ∧
        setAll len (P.cellsOf e) (parts.toList.map fun p => (p.1, f p.2)) (List.replicate len (zeroOf P e)) fun els =>
          k (.sl hp.length 0 len) (hp ++ [{ ty := e, w := P.cellsOf e, els := els }]) none
    | _ => False) := rf rfl
theorem opA_store {ty a x} : opA P n0 (.store ty a x) f hp k = storeA P ty hp (f a) (f x) fun hp' => k .any hp' none := rf rfl
theorem opA_makeSlice {ty l c} : opA P n0 (.makeSlice ty l c) f hp k = (match P.underlying ty, f l, f c with
    | some (.slice e), .int _ n, .int _ m => n = m ∧ 0 ≤ n ∧ n ≤ 281474976710656 ∧ P.bytesOf e * n ≤ 281474976710656 ∧ 0 < P.cellsOf e ∧
        (zeroOf P e).solid = true ∧ (zeroOf P e).cells.length = P.cellsOf e ∧
        k (.sl hp.length 0 n.toNat) (hp ++ [{ ty := e, w := P.cellsOf e, els := List.replicate n.toNat (zeroOf P e) }]) none
    | _, _, _ => False) := rf rfl
theorem opA_append {args : Array Operand} {ts : Array TypeId} : opA P n0 (.call { callee := .builtin .append, args := args, argTypes := ts }) f hp k = (match args.toList with
      | [s, x] => (match f x with
        | .int _ n => growA P (ts[0]?) (ts[1]?) hp (f s) n k
        | y => notInt P (ts[1]?) ∧ (match ts[0]? with
          | some t => appendA P n0 t hp (f s) y k
          | none => False))
      | _ => False) := rf rfl
theorem opA_len {args : Array Operand} {ts : Array TypeId} : opA P n0 (.call { callee := .builtin .len, args := args, argTypes := ts }) f hp k = quietB P .len ts.toList (args.toList.map f) fun v => k v hp none := rf rfl
theorem opA_min {args : Array Operand} {ts : Array TypeId} : opA P n0 (.call { callee := .builtin .min, args := args, argTypes := ts }) f hp k = quietB P .min ts.toList (args.toList.map f) fun v => k v hp none := rf rfl
theorem opA_max {args : Array Operand} {ts : Array TypeId} : opA P n0 (.call { callee := .builtin .max, args := args, argTypes := ts }) f hp k = quietB P .max ts.toList (args.toList.map f) fun v => k v hp none := rf rfl
theorem opA_real {args : Array Operand} {ts : Array TypeId} : opA P n0 (.call { callee := .builtin .real, args := args, argTypes := ts }) f hp k = quietB P .real ts.toList (args.toList.map f) fun v => k v hp none := rf rfl
theorem opA_imag {args : Array Operand} {ts : Array TypeId} : opA P n0 (.call { callee := .builtin .imag, args := args, argTypes := ts }) f hp k = quietB P .imag ts.toList (args.toList.map f) fun v => k v hp none := rf rfl
theorem opA_complex {args : Array Operand} {ts : Array TypeId} : opA P n0 (.call { callee := .builtin .complex, args := args, argTypes := ts }) f hp k = quietB P .complex ts.toList (args.toList.map f) fun v => k v hp none := rf rfl
theorem opA_cap {args : Array Operand} {ts : Array TypeId} : opA P n0 (.call { callee := .builtin .cap, args := args, argTypes := ts }) f hp k = quietB P .cap ts.toList (args.toList.map f) fun v => k v hp none := rf rfl
theorem opA_clear {args : Array Operand} {ts : Array TypeId} : opA P n0 (.call { callee := .builtin .clear, args := args, argTypes := ts }) f hp k = (match args.toList with
      | [x] => (match ts[0]? with
        | some t => clearA P t hp (f x) fun hp' => k (.tup []) hp' none
        | none => False)
      | _ => False) := rf rfl
theorem opA_call {h : Operand} {args : Array Operand} {ts : Array TypeId} : opA P n0 (.call { callee := .value h, args := args, argTypes := ts }) f hp (Cn g t)
    = callV P (f h) (args.toList.map f) hp (Cn g t) .mk := by
  cases hv : f h <;> simp only [opA, callV, hv] <;> rfl
end
section
variable {P : Program} {md : Nat → List Bool} {n0 : Nat} {Q : Ex → St → Prop} {st : St}
theorem V_skip {t} : V P md n0 .skip Q t st = Q .normal st := rf rfl
theorem V_region {id ops t} : V P md n0 (.region id ops false) Q t st = R P n0 ops.toList ops.toList (Q .normal) .mk st := rf rfl
theorem V_draw {id ops t} : V P md n0 (.region id ops true) Q t st = drawQ (md id) (RQ P n0 ops.toList (md id) ops.toList (Q .normal) .mk st) (Lp P n0 (.region id ops true) Q .mk st) .mk .mk := by
  simp only [V, vc, drawQ, RQ, Lp]
  cases md id <;> rfl
theorem drawQ_cons {m : Bool} {ms : List Bool} {x y : Prop} {t : Tok x} {u : Tok y} : drawQ (m :: ms) x y t u = x := rf rfl
theorem drawQ_nil {x y : Prop} {t : Tok x} {u : Tok y} : drawQ [] x y t u = y := rf rfl
theorem V_seq {a b t} : V P md n0 (.seq a b) Q t st = V P md n0 a (fun e st' => match e with
    | .normal => V P md n0 b Q .mk st'
    | .exit i => Q (.exit i) st'
    | .ret => Q .ret st') .mk st := rf rfl
theorem V_cond {c x y t} : V P md n0 (.cond c x y) Q t st = condB (st.ev c) (V P md n0 x Q .mk st) (V P md n0 y Q .mk st) .mk .mk := by
  simp only [V, vc]
  cases st.ev c <;> rfl
theorem V_block {id c t} : V P md n0 (.block id c) Q t st = V P md n0 c (fun e st' => match e with
    | .normal => Q .normal st'
    | .exit i => if i = id then Q .normal st' else Q (.exit i) st'
    | .ret => Q .ret st') .mk st := rf rfl
theorem V_loop {c t} : V P md n0 (.loop c) Q t st = Lp P n0 (.loop c) Q .mk st := rf rfl
theorem V_exit {id t} : V P md n0 (.exit id) Q t st = Q (.exit id) st := rf rfl
theorem V_ret {t} : V P md n0 .ret Q t st = Q .ret st := rf rfl
theorem retQ_ret {fn : Func} {Q : AV → List Blk → Prop} : retQ P fn n0 Q .ret st = resL P fn.results.toList st fun l => PostR n0 (oneA l) st.hp Q := rf rfl
theorem retQ_normal {fn : Func} {Q : AV → List Blk → Prop} : retQ P fn n0 Q .normal st = resL P fn.results.toList st fun l => PostR n0 (oneA l) st.hp Q := rf rfl
theorem go_in {f : FuncId} {fn : Func} {c : Code} {args : List AV} {hp : List Blk} {Q : AV → List Blk → Prop} (hm : P.follows .mixedOrders = true) (hf : P.funcs[f]? = some fn) (hb : fn.body = some c) (hgo : isGo P f) (hok : modesOk md c = true)
    (h : V P md hp.length c (retQ P fn hp.length Q) .mk ⟨args ++ List.replicate (fn.ntmps - args.length) .any, hp⟩) : CallP P f args hp Q .mk := call_intro hm hf hb hgo hok h
theorem CallP.out {f : FuncId} {args : List AV} {hp : List Blk} {Q : AV → List Blk → Prop} {t} (h : CallP P f args hp Q t) : CallA P f args hp Q := h
theorem go_round {σ : Type} (hm : P.follows .mixedOrders = true) {c : Code} {t} (hok : modesOk md c = true) (I : σ → St) (μ : σ → Nat) (s0 : σ) (h0 : Weak n0 st (I s0))
    (round : ∀ s, V P md n0 c (fun e st' => match e with
      | .normal => ∃ s', μ s' < μ s ∧ Weak n0 st' (I s')
      | .exit i => Q (.exit i) st'
      | .ret => Q .ret st') .mk (I s)) : Lp P n0 (.loop c) Q t st := loop_rule hm hok I μ s0 h0 round
theorem call_by {f : FuncId} {args : List AV} {hp : List Blk} {Q Q0 : AV → List Blk → Prop} {t} (h : CallA P f args hp Q0) (hq : ∀ r hp', Q0 r hp' → Q r hp') : CallP P f args hp Q t := h.mono hq
theorem call_at {f : FuncId} {args : List AV} {hp : List Blk} {Q : AV → List Blk → Prop} {t} (h : CallA P f args hp Q) : CallP P f args hp Q t := h
theorem callr_by {f : FuncId} {args : List AV} {hp : List Blk} {g : AV → Prop} {t} (r : AV) (h : CallA P f args hp (fun r' hp' => r' = r ∧ hp' = hp)) (hq : g r) : CallR P f args hp g t := ⟨r, h, hq⟩
end
theorem PostR.same {n0 : Nat} {r : AV} {hp : List Blk} {Q : AV → List Blk → Prop} (h : Q r hp) : PostR n0 r hp Q :=
  ⟨r, hp, fun _ _ _ E _ _ H F hv => ⟨E, rfl, H, F, hv⟩, h⟩
theorem PostR.drop {n0 : Nat} {r : AV} {hp : List Blk} {Q : AV → List Blk → Prop} (r2 : AV) (hp2 : List Blk) (hn : n0 ≤ hp2.length) (hh : DropHp hp2.length hp hp2) (hr : DropV hp2.length r r2) (h : Q r2 hp2) : PostR n0 r hp Q :=
  ⟨r2, hp2, weakR_drop hn hh hr, h⟩
abbrev Ret (r : AV) (hp : List Blk) : AV → List Blk → Prop := fun r' hp' => r' = r ∧ hp' = hp
theorem PostR.ret {r : AV} {hp : List Blk} {n0 : Nat} : PostR n0 r hp (Ret r hp) := PostR.same ⟨rfl, rfl⟩
def SubF (hp : List Blk) : List Nat → List Blk → Prop
  | [], [] => True
  | s :: σ, r :: l => (hp[s]? = some r ∧ allBelow 0 r.els = true) ∧ SubF hp σ l
  | _, _ => False
theorem SubF.len {hp : List Blk} : ∀ {σ : List Nat} {l : List Blk}, SubF hp σ l → l.length = σ.length
  | [], [], _ => rfl
  | s :: σ, r :: l, h => by simp [SubF.len h.2]
  | [], _ :: _, h => h.elim
  | _ :: _, [], h => h.elim
theorem SubF.get {hp : List Blk} : ∀ {σ : List Nat} {l : List Blk}, SubF hp σ l → ∀ (i : Nat) r, l[i]? = some r → hp[σ.getD i 0]? = some r ∧ allBelow 0 r.els = true
  | [], [], _, i, r, h => by simp at h
  | s :: σ, q :: l, h, 0, r, hr => by simp at hr; subst hr; simpa using h.1
  | s :: σ, q :: l, h, i + 1, r, hr => by simpa using SubF.get h.2 i r (by simpa using hr)
  | [], _ :: _, h, _, _, _ => h.elim
  | _ :: _, [], h, _, _, _ => h.elim
theorem below_mono0 {N : Nat} (π : Nat → Nat) : ∀ a, below 0 a = true → below N a = true ∧ ren π a = a := by
  have hL : ∀ a, belowL 0 a = true → belowL N a = true ∧ renL π a = a := by intro a h; cases a <;> first | exact ⟨rfl, rfl⟩ | (simp [belowL] at h)
  have hM : ∀ a, belowM 0 a = true → belowM N a = true ∧ renM π a = a := by
    intro a h
    cases a with
    | agg l =>
      simp only [belowM, List.all_eq_true] at h
      exact ⟨by simp only [belowM, List.all_eq_true]; exact fun x hx => (hL x (h x hx)).1, by show AV.agg (l.map _) = _; rw [map_id_of fun x hx => (hL x (h x hx)).2]⟩
    | fn f l =>
      simp only [belowM, List.all_eq_true] at h
      exact ⟨by simp only [belowM, List.all_eq_true]; exact fun x hx => (hL x (h x hx)).1, by show AV.fn f (l.map _) = _; rw [map_id_of fun x hx => (hL x (h x hx)).2]⟩
    | mv f l =>
      simp only [belowM, List.all_eq_true] at h
      exact ⟨by simp only [belowM, List.all_eq_true]; exact fun x hx => (hL x (h x hx)).1, by show AV.mv f (l.map _) = _; rw [map_id_of fun x hx => (hL x (h x hx)).2]⟩
    | _ => first | exact ⟨rfl, rfl⟩ | (simp [belowM, belowL] at h)
  intro a h
  cases a with
  | tup l =>
    simp only [below, List.all_eq_true] at h
    exact ⟨by simp only [below, List.all_eq_true]; exact fun x hx => (hM x (h x hx)).1, by show AV.tup (l.map _) = _; rw [map_id_of fun x hx => (hM x (h x hx)).2]⟩
  | agg l => exact hM (.agg l) h
  | fn f l => exact hM (.fn f l) h
  | mv f l => exact hM (.mv f l) h
  | _ => first | exact ⟨rfl, rfl⟩ | (simp [below, belowM, belowL] at h)
theorem SubF.sub {hp : List Blk} {σ : List Nat} {l : List Blk} (hn : σ.Nodup) (h : SubF hp σ l) : Sub σ hp l where
  nodup := hn
  len := h.len
  blk := fun i r hr => by
    obtain ⟨h1, h2⟩ := h.get i r hr
    simp only [allBelow, List.all_eq_true] at h2
    exact ⟨r, h1, rfl, fun hl => ⟨hl, rfl, (map_id_of fun x hx => (below_mono0 (N := σ.length) _ x (h2 x hx)).2).symm, fun x hx => (below_mono0 (N := σ.length) (fun b => b) x (h2 x hx)).1⟩⟩
def putF : List Nat → List Blk → List Blk → List Blk
  | s :: σ, r :: l, hp => putF σ l (hp.set s r)
  | _, _, hp => hp
theorem renB_flat {π : Nat → Nat} {r : Blk} (h : allBelow 0 r.els = true) : renB π r = r := by
  simp only [allBelow, List.all_eq_true] at h
  simp only [renB]
  rw [map_id_of fun x hx => (below_mono0 (N := 0) π x (h x hx)).2]
theorem putBack_flat (τ : Nat → Nat) : ∀ (σ : List Nat) (l hp : List Blk), (∀ r ∈ l, allBelow 0 r.els = true) → putBack τ σ l hp = putF σ l hp := by
  intro σ
  induction σ with
  | nil => intro l hp _; cases l <;> rfl
  | cons s σ ih =>
    intro l hp h
    cases l with
    | nil => rfl
    | cons r l =>
      simp only [putBack, putF]
      rw [renB_flat (h r (by simp)), ih l _ (fun x hx => h x (by simp [hx]))]
section
variable {P : Program}
theorem CallA.handed (σ : List Nat) {f : FuncId} {args args' : List AV} {hp hps hps' : List Blk} {r : AV} {Q : AV → List Blk → Prop} (hn : σ.Nodup) (S : SubF hp σ hps) (ha : args = args'.map (ren fun i => σ.getD i 0)) (hb : args'.all (below σ.length) = true)
    (h : CallA P f args' hps fun r' hp' => r' = r ∧ hp' = hps') (hl : hps'.length = σ.length) (hr : below 0 r = true) (hf : ∀ q ∈ hps', allBelow 0 q.els = true) (hQ : Q r (putF σ hps' hp)) : CallA P f args hp Q := by
  refine CallA.sub σ (S.sub hn) ha hb (h.mono ?_)
  rintro r' hp' ⟨rfl, rfl⟩
  have e : subHp σ hp hp' = putF σ hp' hp := by
    unfold subHp
    rw [putBack_flat _ _ _ _ hf, List.drop_of_length_le (by omega)]
    simp
  rw [e, (below_mono0 (N := 0) _ r' hr).2]
  exact hQ
end
section
variable {P : Program} {f : FuncId} {args : List AV} {hp : List Blk} {Q : AV → List Blk → Prop} {t : Tok Q} {g : AV → Prop} {u : Tok g}
theorem call_lift {r : AV} (ha : args.all (below 0) = true) (h : CallA P f args [] (Ret r [])) (hr : below 0 r = true) : CallA P f args hp (Ret r hp) := by
  refine CallA.lift ha (h.mono ?_)
  rintro r' hp' ⟨rfl, rfl⟩
  exact ⟨(below_mono0 (N := 0) _ r' hr).2, by simp [joinHp]⟩
theorem call_ret {r : AV} (h : CallA P f args [] (Ret r [])) (ha : args.all (below 0) = true) (hr : below 0 r = true) (hq : Q r hp) : CallP P f args hp Q t :=
  (call_lift ha h hr).mono (by rintro r' hp' ⟨rfl, rfl⟩; exact hq)
theorem callr_ret {r : AV} (h : CallA P f args [] (Ret r [])) (ha : args.all (below 0) = true) (hr : below 0 r = true) (hq : g r) : CallR P f args hp g u :=
  ⟨r, call_lift ha h hr, hq⟩
theorem call_new {r : AV} {new : List Blk} (h : CallA P f args [] (Ret r new)) (ha : args.all (below 0) = true) (hf : ∀ q ∈ new, allBelow 0 q.els = true) (hQ : Q (ren (fun b => b + hp.length) r) (hp ++ new)) : CallP P f args hp Q t := by
  refine CallA.lift ha (h.mono ?_)
  rintro r' hp' ⟨rfl, rfl⟩
  have e : joinHp hp hp' = hp ++ hp' := by
    unfold joinHp
    congr 1
    have : ∀ l : List Blk, (∀ q ∈ l, allBelow 0 q.els = true) → l.map (renB fun b => b + hp.length) = l := by
      intro l
      induction l with
      | nil => intro _; rfl
      | cons q l ih => intro hl; rw [List.map_cons, renB_flat (hl q (by simp)), ih fun x hx => hl x (by simp [hx])]
    exact this hp' hf
  rw [e]
  exact hQ
theorem call_view (d : Nat) {r : AV} (h : CallA P f (args.map (view d hp)) [] (Ret r [])) (hr : below 0 r = true) (hc : clean r = true) : CallA P f args hp (Ret r hp) := by
  refine CallA.borrow d (h.mono ?_)
  rintro r' hp' ⟨rfl, rfl⟩
  exact ⟨⟨hc, rfl⟩, (below_mono0 (N := 0) _ r' hr).2, by simp [joinHp]⟩
theorem call_lent (d : Nat) {r : AV} {args' : List AV} (hv : args.map (view d hp) = args') (h : CallA P f args' [] (Ret r [])) (hr : below 0 r = true) (hc : clean r = true) (hq : Q r hp) : CallP P f args hp Q t :=
  (call_view d (by rw [hv]; exact h) hr hc).mono (by rintro r' hp' ⟨rfl, rfl⟩; exact hq)
theorem call_handed (σ : List Nat) {args' : List AV} {hps hps' : List Blk} {r : AV} (h : CallA P f args' hps (Ret r hps')) (hn : σ.Nodup) (S : SubF hp σ hps) (ha : args = args'.map (ren fun i => σ.getD i 0)) (hb : args'.all (below σ.length) = true)
    (hl : hps'.length = σ.length) (hr : below 0 r = true) (hf : ∀ q ∈ hps', allBelow 0 q.els = true) (hQ : Q r (putF σ hps' hp)) : CallP P f args hp Q t :=
  CallA.handed σ hn S ha hb h hl hr hf hQ
end
theorem PostR.pick (σ : List Nat) {n0 : Nat} {r r2 : AV} {hp hp2 : List Blk} {Q : AV → List Blk → Prop} (hn : σ.Nodup) (h0 : n0 ≤ σ.length) (hlow : ∀ b, b < n0 → σ.getD b 0 = b) (S : SubF hp σ hp2) (hr : r = ren (fun i => σ.getD i 0) r2) (hb : below σ.length r2 = true) (h : Q r2 hp2) : PostR n0 r hp Q := by
  have hl := S.len
  refine PostR.names (fun i => σ.getD i 0) r2 hp2 (.inr ⟨hr, by rw [hl]; exact hb⟩) ⟨rfl, by omega, hlow, ?_, ?_⟩ h
  · intro b b' h1 h2 e
    rw [hl] at h1 h2
    simp only [List.getD_eq_getElem?_getD, List.getElem?_eq_getElem h1, List.getElem?_eq_getElem h2, Option.getD_some] at e
    have hne := List.pairwise_iff_getElem.1 hn
    rcases Nat.lt_trichotomy b b' with hlt | he | hlt
    · exact absurd e (hne b b' h1 h2 hlt)
    · exact he
    · exact absurd e.symm (hne b' b h2 h1 hlt)
  · intro b q hq
    obtain ⟨h1, h2⟩ := S.get b q hq
    simp only [allBelow, List.all_eq_true] at h2
    exact ⟨q, h1, rfl, fun hlv => ⟨hlv, rfl, (map_id_of fun x hx => (below_mono0 (N := 0) _ x (h2 x hx)).2).symm, fun x hx => (below_mono0 (N := hp2.length) (fun b => b) x (h2 x hx)).1⟩⟩
attribute [irreducible] V R RQ drawQ Lp CallP CallR Cn Br guardB guardO condB stepQ callQ callV
end Go.Abs
namespace Go.Abs
open Go
variable {P : Program}
theorem word_mod (f : Ieee.Format) (s : Bool) (r : Nat) (h : r < f.signWeight) : f.word s r % f.signWeight = r := by
  unfold Ieee.Format.word
  cases s
  · simp only [Bool.false_eq_true, if_false]; exact Nat.mod_eq_of_lt h
  · simp only [if_true, Nat.add_mod_left]; exact Nat.mod_eq_of_lt h
theorem read_fin (f : Ieee.Format) (s : Bool) (r : Nat) (h : r < f.infRung) (hi : f.infRung < f.signWeight) : (f.read (f.word s r)).isInfinity = false := by
  unfold Ieee.Format.read
  simp only [word_mod f s r (by omega)]
  split
  · rfl
  · rfl
theorem cut_none (way : Ieee.Toward) (neg : Bool) (n : Nat) : Ieee.Toward.even.cut neg n 0 = n := by
  simp [Ieee.Toward.cut, Nat.mod_one]
theorem read_single (x : Nat) (s : Bool) (m : Nat) (e : Int) (h : FloatKind.f32.decode x = .number s m e) : m < 16777216 ∧ -149 ≤ e ∧ e ≤ 104 := by
  have hb : Ieee.single.binade = 8388608 := by decide
  have hl : Ieee.single.leastPlace = -149 := by decide
  have hi : Ieee.single.infRung = 2139095040 := by decide
  have h' : Ieee.single.read x = .number s m e := h
  unfold Ieee.Format.read at h'
  simp only [hb, hl, hi] at h'
  generalize x % Ieee.single.signWeight = r at h'
  split at h'
  · injection h' with h1 h2 h3; subst h2; subst h3; exact ⟨by omega, by omega, by omega⟩
  · split at h'
    · injection h' with h1 h2 h3
      subst h2; subst h3
      have : r / 8388608 ≤ 254 := by omega
      have hm := Nat.mod_lt r (y := 8388608) (by omega)
      exact ⟨by omega, by omega, by omega⟩
    · split at h' <;> cases h'
theorem small (y z : Nat) (h : y ≤ 1149) (hz : z < 9007199254740992) : min (y * 4503599627370496 + z) (2047 * 4503599627370496) < 2047 * 4503599627370496 := by omega
theorem near_wide (s : Bool) (m : Nat) (e : Int) (hm : m < 16777216) (h1 : -149 ≤ e) (h2 : e ≤ 104) : ∃ r, Ieee.double.nearest s m e = Ieee.double.word s r ∧ r < Ieee.double.infRung := by
  have hi : Ieee.double.infRung = 2047 * 4503599627370496 := by decide
  have hb : Ieee.double.binade = 4503599627370496 := by decide
  have hl : Ieee.double.leastPlace = -1074 := by decide
  unfold Ieee.Format.nearest
  by_cases h0 : m = 0
  · rw [if_pos h0]; exact ⟨0, rfl, by rw [hi]; omega⟩
  rw [if_neg h0]
  have hlog : m.log2 ≤ 23 := by
    have := (Nat.log2_lt h0 (k := 24)).2 (by omega)
    omega
  have hmlt : m < 2 ^ (m.log2 + 1) := Nat.lt_log2_self
  simp only [hl, hb]
  have hf : Ieee.double.fractionBits = 52 := rfl
  rw [hf]
  generalize hlast : max (e + (m.log2 : Int) - (52 : Nat)) (-1074) = last
  have l1 : last ≤ 75 := by omega
  have l2 : last < e := by omega
  have l3 : -1074 ≤ last := by omega
  have l4 : e - last ≤ 52 - (m.log2 : Int) := by omega
  rw [show (last - e).toNat = 0 from by omega, cut_none .even]
  refine ⟨_, rfl, ?_⟩
  have hk : m <<< (e - last).toNat < 9007199254740992 := by
    rw [Nat.shiftLeft_eq]
    have a1 : 2 ^ (e - last).toNat ≤ 2 ^ (52 - m.log2) := Nat.pow_le_pow_right (by omega) (by omega)
    calc m * 2 ^ (e - last).toNat ≤ m * 2 ^ (52 - m.log2) := Nat.mul_le_mul_left _ a1
      _ < 2 ^ (m.log2 + 1) * 2 ^ (52 - m.log2) := Nat.mul_lt_mul_of_pos_right hmlt (Nat.two_pow_pos _)
      _ = 2 ^ 53 := by rw [← Nat.pow_add]; congr 1; omega
      _ = 9007199254740992 := by decide
  rw [hi]
  have hn : (last - -1074).toNat ≤ 1149 := by omega
  generalize (last - -1074).toNat = y at hn ⊢
  generalize m <<< (e - last).toNat = z at hk ⊢
  exact small y z hn hk
theorem wide_ok (x : Nat) : fconvOk .f64 .f32 x := by
  unfold fconvOk
  right
  cases h : FloatKind.f32.decode x with
  | number n m e =>
    obtain ⟨hm, h1, h2⟩ := read_single x n m e h
    obtain ⟨r, e1, e2⟩ := near_wide n m e hm h1 h2
    have e3 : FloatKind.f64.encode (.number n m e) = Ieee.double.word n r := e1
    show (FloatKind.f64.decode (FloatKind.f64.encode (.number n m e))).isInfinity = false
    rw [e3]
    exact read_fin Ieee.double n r e2 (by decide)
  | _ => trivial
end Go.Abs
namespace Go.Abs
open Go Go.RowKit
variable {P : Program}
def lawEnv (w : World) (F : Nat → Prop) : Env P := { w := w, F := F, N := 0, ρ := fun b => b, wd := fun _ => 0 }
theorem law_walk {P : Program} {f : FuncId} {args : List AV} {vs : List Value} {w : World} {F : Nat → Prop} (hgo : isGo P f) (h : CallA P f args [] (Ret (.bool true) [])) (hF : ∀ c, F c → c < w.heap.size)
    (hl : vs.length = args.length) (hv : ∀ (i : Nat) a v, args[i]? = some a → vs[i]? = some v → RV (lawEnv (P := P) w F) a v) (hT : Laid P w F) :
    Calls P f vs.toArray w fun e w' => e = .returned (.bool true) ∧ Below w.heap.size w w' := by
  have H : HRel (lawEnv (P := P) w F) [] := ⟨rfl, by simp, by simp, by simp, by simp, hF, hT⟩
  rcases h (lawEnv w F) vs H hl hv with ⟨_, hc⟩ | ⟨v, w', hrun, _⟩
  case inr => rw [callFunc_go hgo] at hrun; cases hrun
  refine hc.mono ?_
  rintro e w' ⟨v, rfl, r, hp', E', hw, ⟨rfl, rfl⟩, hrv, H', F'⟩
  cases hrv
  subst hw
  exact ⟨rfl, F'.os, F'.tape, F'.output, F'.size, fun k hk => F'.block k hk fun b hb => by obtain ⟨q, hq, _⟩ := hb; simp at hq⟩
end Go.Abs
namespace Go.Abs
open Go
variable {P : Program}
section
variable (P : Program)
def PlainF (q : TypeId → Bool) : Nat → List Field → Option Nat
  | o, [] => some o
  | o, f :: fs => if f.offset = o ∧ q f.type = true then PlainF q (o + P.cellsOf f.type) fs else none
def PlainT : Nat → TypeId → Bool
  | 0, _ => false
  | n + 1, t => match P.underlying t with
    | some .bool | some (.int _) | some (.float _) | some .string => true
    | some (.slice e) => decide (0 < P.cellsOf e) && PlainT n e
    | some (.struct fs) => PlainF P (PlainT n) 0 fs.toList == some (P.cellsOf t)
    | _ => false
def OfT : Nat → TypeId → List AV → Prop
  | 0, _, _ => False
  | n + 1, t, l => match P.underlying t with
    | some .bool => ∃ b, l = [.bool b]
    | some (.int k) => ∃ z, l = [.int k z] ∧ (Lit.int k z).wf = true
    | some (.float k) => ∃ x, l = [.flt k x] ∧ canon k x = x ∧ (Lit.float k x).wf = true
    | some .string => ∃ s, l = [.str s] ∧ s.length ≤ maxLen
    | some (.slice e) => ∃ els, l = [.ro els] ∧ els.length ≤ maxLen ∧ ∀ a ∈ els, OfT n e a.cells ∧ ((∃ fs, P.underlying e = some (.struct fs)) → ∃ c, a = .agg c) ∧ ((∀ fs, P.underlying e ≠ some (.struct fs)) → a.one = true)
    | some (.struct fs) => l.length = P.cellsOf t ∧ ∀ f ∈ fs.toList, OfT n f.type ((l.drop f.offset).take (P.cellsOf f.type))
    | _ => False
end
section
variable {P : Program}
theorem plainF_le {q : TypeId → Bool} : ∀ (fs : List Field) (o tot : Nat), PlainF P q o fs = some tot → o ≤ tot
  | [], o, tot, h => by simp only [PlainF, Option.some.injEq] at h; omega
  | f :: fs, o, tot, h => by
    simp only [PlainF] at h
    split at h
    · have := plainF_le fs _ _ h; omega
    · cases h
theorem list_of {α : Type} {R : Nat → α → Prop} : ∀ (n : Nat), (∀ i, i < n → ∃ b, R i b) → ∃ L : List α, L.length = n ∧ ∀ (i : Nat) b, L[i]? = some b → R i b
  | 0, _ => ⟨[], rfl, fun i b h => by simp at h⟩
  | n + 1, h => by
    obtain ⟨L, h1, h2⟩ := list_of n fun i hi => h i (by omega)
    obtain ⟨b, hb⟩ := h n (by omega)
    refine ⟨L ++ [b], by simp [h1], fun i c hc => ?_⟩
    by_cases hi : i < L.length
    · rw [List.getElem?_append_left hi] at hc; exact h2 i c hc
    · rw [List.getElem?_append_right (by omega)] at hc
      have : i - L.length = 0 := by
        apply Decidable.byContradiction
        intro hne
        rw [List.getElem?_eq_none (by simp; omega)] at hc
        cases hc
      rw [this] at hc
      simp only [List.getElem?_cons_zero, Option.some.injEq] at hc
      have hi' : i = n := by omega
      subst hc; subst hi'; exact hb
def Pt (E : Env P) (l : List AV) (cs : List Value) : Prop := l.length = cs.length ∧ ∀ (j : Nat) c v, l[j]? = some c → cs[j]? = some v → RV E c v
theorem Pt.append {E : Env P} {l l' : List AV} {cs cs' : List Value} (h : Pt E l cs) (h' : Pt E l' cs') : Pt E (l ++ l') (cs ++ cs') := by
  refine ⟨by simp [h.1, h'.1], fun j c v h1 h2 => ?_⟩
  by_cases hj : j < l.length
  · rw [List.getElem?_append_left hj] at h1
    rw [List.getElem?_append_left (by rw [← h.1]; exact hj)] at h2
    exact h.2 j c v h1 h2
  · rw [List.getElem?_append_right (by omega)] at h1
    rw [List.getElem?_append_right (by rw [← h.1]; omega), ← h.1] at h2
    exact h'.2 _ c v h1 h2
theorem fields_of {H : Type} {enc : TypeId × Value → H} {w : World} {spare : Nat → Bool} {held : Bool} {m n : Nat} {cs : List Value} {E : Env P}
    (ih : ∀ (t : TypeId) (cs : List Value) x, PlainT P m t = true → DataW.trod enc P w 0 spare held n t cs = some x → ∃ l, Pt E l cs ∧ OfT P m t l) :
    ∀ (fs : List Field) (o tot : Nat), PlainF P (PlainT P m) o fs = some tot → cs.length = tot → (∀ f ∈ fs, ∃ y, DataW.trod enc P w 0 spare held n f.type ((cs.drop f.offset).take (P.cellsOf f.type)) = some y) →
      ∃ l, Pt E l (cs.drop o) ∧ ∀ f ∈ fs, o ≤ f.offset ∧ OfT P m f.type ((l.drop (f.offset - o)).take (P.cellsOf f.type))
  | [], o, tot, h, hc, _ => by
    simp only [PlainF, Option.some.injEq] at h
    refine ⟨[], ⟨by simp; omega, fun j c v h1 => by simp at h1⟩, fun f hf => by simp at hf⟩
  | f :: fs, o, tot, h, hc, hy => by
    simp only [PlainF] at h
    split at h
    · rename_i hf
      have hle := plainF_le fs _ _ h
      obtain ⟨y, hy0⟩ := hy f (by simp)
      obtain ⟨lf, hp, hof⟩ := ih _ _ _ hf.2 hy0
      obtain ⟨l', hp', hof'⟩ := fields_of ih fs _ _ h hc fun g hg => hy g (by simp [hg])
      have hlen : lf.length = P.cellsOf f.type := by rw [hp.1, hf.1]; simp; omega
      refine ⟨lf ++ l', ?_, fun g hg => ?_⟩
      · have e : cs.drop o = (cs.drop f.offset).take (P.cellsOf f.type) ++ cs.drop (o + P.cellsOf f.type) := by
          rw [hf.1, ← List.drop_drop, List.take_append_drop]
        rw [e]
        exact hp.append hp'
      · rcases List.mem_cons.1 hg with rfl | hg
        · refine ⟨by omega, ?_⟩
          rw [hf.1, Nat.sub_self, List.drop_zero, ← hlen, List.take_left' rfl]
          exact hof
        · obtain ⟨h1, h2⟩ := hof' g hg
          refine ⟨by omega, ?_⟩
          rw [List.drop_append, List.drop_of_length_le (by omega), List.nil_append, show g.offset - o - lf.length = g.offset - (o + P.cellsOf f.type) from by omega]
          exact h2
    · cases h
theorem canon_wf (k : FloatKind) (b : Nat) (h : (Lit.float k b).wf = true) : (Lit.float k (canon k b)).wf = true := by
  cases hn : (k.decode b).isNaN with
  | true => rw [canon_of_nan hn]; cases k <;> decide
  | false => rw [canon_of_not hn]; exact h
theorem ofT_one {m : Nat} {e : TypeId} {l : List AV} (hs : ¬ ∃ fs, P.underlying e = some (.struct fs)) (h : OfT P m e l) : ∃ c, l = [c] ∧ c.cells = [c] ∧ c.one = true := by
  cases m with
  | zero => exact h.elim
  | succ m =>
    unfold OfT at h
    split at h
    · obtain ⟨b, rfl⟩ := h; exact ⟨_, rfl, rfl, rfl⟩
    · obtain ⟨b, rfl, _⟩ := h; exact ⟨_, rfl, rfl, rfl⟩
    · obtain ⟨b, rfl, _⟩ := h; exact ⟨_, rfl, rfl, rfl⟩
    · obtain ⟨b, rfl, _⟩ := h; exact ⟨_, rfl, rfl, rfl⟩
    · obtain ⟨b, rfl, _⟩ := h; exact ⟨_, rfl, rfl, rfl⟩
    · rename_i fs hfs; exact absurd ⟨fs, hfs⟩ hs
    · exact h.elim
theorem trod_of {H : Type} {enc : TypeId × Value → H} {w : World} {spare : Nat → Bool} {held : Bool} : ∀ (m n : Nat) (t : TypeId) (cs : List Value) (x : DataW H × List MemPlace), PlainT P m t = true → DataW.trod enc P w 0 spare held n t cs = some x →
    ∃ l, Pt (lawEnv (P := P) w fun c => c < w.heap.size) l cs ∧ OfT P m t l := by
  intro m
  induction m with
  | zero => intro n t cs x hp; cases hp
  | succ m ih =>
    intro n t cs x hp h
    have one : ∀ {c : AV} {v : Value}, RV (lawEnv (P := P) w fun c => c < w.heap.size) c v → Pt (lawEnv (P := P) w fun c => c < w.heap.size) [c] [v] := by
      intro c v hr
      refine ⟨rfl, fun j c' v' h1 h2 => ?_⟩
      cases j with
      | zero => simp at h1 h2; subst h1; subst h2; exact hr
      | succ j => simp at h1
    unfold PlainT at hp
    unfold OfT
    cases ht : P.underlying t with
    | none => rw [ht] at hp; cases hp
    | some d =>
      rw [ht] at hp
      cases d with
      | bool =>
        cases n with
        | zero => simp [DataW.trod] at h
        | succ n =>
          unfold DataW.trod at h
          rw [ht] at h
          split at h <;> simp_all
          rename_i b
          exact ⟨_, one (.bool b), by cases b <;> simp⟩
      | int k =>
        obtain ⟨z, rfl, _, hw⟩ := DataW.trod_int ht h
        exact ⟨_, one (.int k z), z, rfl, hw⟩
      | float k =>
        cases n with
        | zero => simp [DataW.trod] at h
        | succ n =>
          unfold DataW.trod at h
          rw [ht] at h
          split at h <;> simp_all
          obtain ⟨⟨rfl, hw⟩, _⟩ := h
          exact ⟨_, one (.flt _ _ _ rfl), _, rfl, canon_canon _ _, canon_wf _ _ hw⟩
      | string =>
        obtain ⟨b, rfl, _, hs⟩ := DataW.trod_string ht h
        refine ⟨_, one (.str b.data.toList), _, rfl, by simpa using hs⟩
      | slice e =>
        simp only [Bool.and_eq_true, decide_eq_true_eq] at hp
        rcases DataW.trod_slice ht h with ⟨rfl, rfl⟩ | ⟨a, len, cap, elems, rest, n', rfl, rfl, rfl, hb, hl, hm, hlen, hel, hsp, hns⟩
        · exact ⟨_, one (.roNil none 0), [], rfl, by simp [maxLen], by simp⟩
        · have each : ∀ i, i < len → ∃ b : AV, b.cells.length = P.cellsOf e ∧ (OfT P m e b.cells ∧ ((∃ fs, P.underlying e = some (.struct fs)) → ∃ c, b = .agg c) ∧ ((∀ fs, P.underlying e ≠ some (.struct fs)) → b.one = true)) ∧
              ∃ csi, (∀ j, j < P.cellsOf e → w.cell? ((a.add (i * P.cellsOf e)).add j) = csi[j]?) ∧ Pt (lawEnv (P := P) w fun c => c < w.heap.size) b.cells csi := by
            intro i hi
            have h1 := hel i hi
            rw [List.getElem?_eq_getElem (by omega), Option.bind_eq_some_iff] at h1
            obtain ⟨csi, h2, h3⟩ := h1
            obtain ⟨_, h4, h5⟩ := World.cells?_some h2
            obtain ⟨li, h6, h7⟩ := ih n' e csi _ hp.2 h3
            by_cases hst : ∃ fs, P.underlying e = some (.struct fs)
            · exact ⟨.agg li, by show li.length = _; rw [h6.1, h4], ⟨h7, fun _ => ⟨li, rfl⟩, fun hn => by obtain ⟨fs, hfs⟩ := hst; exact absurd hfs (hn fs)⟩, csi, h5, h6⟩
            · obtain ⟨c, rfl, hc1, hc2⟩ := ofT_one hst h7
              exact ⟨c, by rw [hc1, ← h4, ← h6.1], ⟨by rw [hc1]; exact h7, fun hs => absurd hs hst, fun _ => hc2⟩, csi, h5, by rw [hc1]; exact h6⟩
          obtain ⟨els, hl1, hl2⟩ := list_of (R := fun i (b : AV) => b.cells.length = P.cellsOf e ∧ (OfT P m e b.cells ∧ ((∃ fs, P.underlying e = some (.struct fs)) → ∃ c, b = .agg c) ∧ ((∀ fs, P.underlying e ≠ some (.struct fs)) → b.one = true)) ∧
              ∃ csi, (∀ j, j < P.cellsOf e → w.cell? ((a.add (i * P.cellsOf e)).add j) = csi[j]?) ∧ Pt (lawEnv (P := P) w fun c => c < w.heap.size) b.cells csi) len each
          refine ⟨[.ro els], one ?_, els, rfl, by omega, fun b hb' => ?_⟩
          · by_cases h0 : els = []
            · subst h0
              have : len = 0 := by simpa using hl1.symm
              subst this
              exact .roNil _ _
            · have hpos : 0 < els.length := by cases els with
                | nil => exact absurd rfl h0
                | cons _ _ => simp
              obtain ⟨c1, _, csi, c2, c3⟩ := hl2 0 els[0] (List.getElem?_eq_getElem hpos)
              have c4 := c2 0 hp.1
              have c5 : ∃ v, csi[0]? = some v := ⟨_, List.getElem?_eq_getElem (by rw [← c3.1, c1]; exact hp.1)⟩
              obtain ⟨v, c5⟩ := c5
              rw [c5] at c4
              have ha : (a.add (0 * P.cellsOf e)).add 0 = a := by simp [Addr.add]
              rw [ha] at c4
              have hspot : a.spot = none := by
                simp only [World.cell?] at c4
                split at c4
                · split at c4
                  · cases c4
                  · rename_i hn; simpa using hn
                · cases c4
              have hblk : a.block < w.heap.size := by
                simp only [World.cell?] at c4
                split at c4
                · rename_i hh; exact (Array.getElem?_eq_some_iff.1 hh).1
                · cases c4
              obtain ⟨ab, ao, asp⟩ := a
              simp only at hspot hblk
              subst hspot
              have hadd : ∀ i j, (Addr.add (Addr.add ⟨ab, ao, none⟩ i) j) = ⟨ab, ao + i + j, none⟩ := by
                intro i j
                simp only [Addr.add]
                split <;> split <;> simp_all
              rw [← hl1]
              refine .ro els ab ao cap (P.cellsOf e) (fun i j => (w.cell? ⟨ab, ao + i * P.cellsOf e + j, none⟩).getD undef) hblk (by omega) hm (fun i b hb' => (hl2 i b hb').1) (fun i b hb' j c hc => ?_) (fun i b hb' j c hc => ?_)
              · obtain ⟨d1, _, csi', d2, d3⟩ := hl2 i b hb'
                have hj : j < b.cells.length := (List.getElem?_eq_some_iff.1 hc).1
                have d4 := d2 j (by omega)
                rw [hadd] at d4
                have : csi'[j]? = some (csi'[j]'(by rw [← d3.1]; exact hj)) := List.getElem?_eq_getElem _
                show w.cell? _ = _
                rw [d4, this]; rfl
              · obtain ⟨d1, _, csi', d2, d3⟩ := hl2 i b hb'
                have hj : j < b.cells.length := (List.getElem?_eq_some_iff.1 hc).1
                have d4 := d2 j (by omega)
                rw [hadd] at d4
                have : csi'[j]? = some (csi'[j]'(by rw [← d3.1]; exact hj)) := List.getElem?_eq_getElem _
                rw [d4, this]
                exact d3.2 j c _ hc this
          · obtain ⟨i, hi⟩ := List.getElem?_of_mem hb'
            exact (hl2 i b hi).2.1
      | struct fs =>
        simp only [beq_iff_eq] at hp
        obtain ⟨xs, n', rfl, rfl, hlen, hxs, hf⟩ := DataW.trod_struct ht h
        obtain ⟨l, h1, h2⟩ := fields_of (H := H) (n := n') (ih n') fs.toList 0 _ hp hlen (fun f hf' => by
          obtain ⟨i, hi⟩ := List.getElem?_of_mem hf'
          have hi' : fs[i]? = some f := by simpa using hi
          rw [hf i f hi']
          have : i < xs.length := by rw [hxs]; exact (Array.getElem?_eq_some_iff.1 hi').1
          exact ⟨_, List.getElem?_eq_getElem this⟩)
        refine ⟨l, by simpa using h1, by rw [h1.1]; simpa using hlen, fun f hf' => by simpa using (h2 f hf').2⟩
      | _ => cases hp
theorem arg_one {H : Type} {enc : TypeId × Value → H} {w : World} {spare : Nat → Bool} {held : Bool} {m : Nat} {t : TypeId} {v : Value} {d : DataW H} {ps : List MemPlace} (hp : PlainT P m t = true) (hv : v.cells = #[v])
    (h : DataW.Trod enc P w 0 spare held t v d ps) : ∃ c, RV (lawEnv (P := P) w fun c => c < w.heap.size) c v ∧ OfT P m t [c] := by
  obtain ⟨n, h⟩ := h
  rw [hv] at h
  obtain ⟨l, h1, h2⟩ := trod_of m n t _ _ hp h
  match l, h1, h2 with
  | [], h1, _ => exact absurd h1.1 (by simp)
  | [c], h1, h2 => exact ⟨c, h1.2 0 c v rfl rfl, h2⟩
  | _ :: _ :: _, h1, _ => exact absurd h1.1 (by simp)
end
end Go.Abs
namespace Go.Abs
open Go
variable {P : Program}
section
variable {P : Program}
theorem ext_call {f : FuncId} {fn : Func} {e : Array Value → Sem Value} (hf : P.funcs[f]? = some fn) (hname : (fn.name == "runtime.NumGoroutine") = false)
    (hb : fn.body.isNone = true) (hn : Extern.findNext fn = none) (he : Extern.find fn = some e) {args : List AV} {hp : List Blk} {Q : AV → List Blk → Prop}
    (h : ∀ (E : Env P) (vs : List Value), vs.length = args.length → (∀ (i : Nat) a v, args[i]? = some a → vs[i]? = some v → RV E a v) → ∃ v r, (e vs.toArray).run P E.w = .ok v E.w ∧ RV E r v ∧ Q r hp) : CallA P f args hp Q := by
  intro E vs H hl hv
  obtain ⟨v, r, h1, h2, h3⟩ := h E vs hl hv
  refine .inr ⟨v, E.w, ?_, r, hp, E, rfl, h3, h2, H, Fr.refl E hp⟩
  rw [run_callFunc_extern hf hname hb hn he, h1]
  rfl
theorem RV.one {E : Env P} {a : AV} {vs : List Value} (hl : vs.length = 1) (hv : ∀ (i : Nat) x v, [a][i]? = some x → vs[i]? = some v → RV E x v) : ∃ v, vs = [v] ∧ RV E a v := by
  match vs, hl with
  | [v], _ => exact ⟨v, rfl, hv 0 a v rfl rfl⟩
theorem bits_call {k : FloatKind} {kd : IntKind} {f : FuncId} {fn : Func} {e : Array Value → Sem Value} (hf : P.funcs[f]? = some fn) (hname : (fn.name == "runtime.NumGoroutine") = false)
    (hb : fn.body.isNone = true) (hn : Extern.findNext fn = none) (he : Extern.find fn = some e) (hE : ∀ b w, (e #[.float k b]).run P w = .ok (.int kd b) w)
    (x : Nat) (hx : (k.decode x).isNaN = false) : CallA P f [.flt k x] [] (fun r hp => r = .int kd x ∧ hp = []) := by
  refine ext_call hf hname hb hn he fun E vs hl hv => ?_
  obtain ⟨v, rfl, h⟩ := RV.one hl hv
  cases h with
  | flt _ _ b hc =>
    have : b = x := by
      rw [← hc] at hx
      rw [← hc, decode_canon_not hx]
    subst this
    exact ⟨_, _, hE b E.w, .int kd b, rfl, rfl⟩
theorem frombits_call {k : FloatKind} {kd : IntKind} {f : FuncId} {fn : Func} {e : Array Value → Sem Value} (hf : P.funcs[f]? = some fn) (hname : (fn.name == "runtime.NumGoroutine") = false)
    (hb : fn.body.isNone = true) (hn : Extern.findNext fn = none) (he : Extern.find fn = some e) (hE : ∀ n w, (e #[.int kd n]).run P w = .ok (.float k n.toNat) w)
    (n : Int) : CallA P f [.int kd n] [] (fun r hp => r = .flt k (canon k n.toNat) ∧ hp = []) := by
  refine ext_call hf hname hb hn he fun E vs hl hv => ?_
  obtain ⟨v, rfl, h⟩ := RV.one hl hv
  cases h with
  | int => exact ⟨_, _, hE n E.w, .flt k _ _ rfl, rfl, rfl⟩
end
def finB (k : FloatKind) (x : Nat) : Bool := match k.decode x with
  | .number _ _ _ => true
  | _ => false
def infB (k : FloatKind) (x : Nat) : Bool := (k.decode x).isInfinity
theorem canon_zero (k : FloatKind) : canon k 0 = 0 := by cases k <;> rfl
theorem canon_max : canon .f64 9218868437227405311 = 9218868437227405311 := by decide +kernel
theorem canon_one : canon .f32 1065353216 = 1065353216 := by rfl
theorem format_read (k : FloatKind) (x : Nat) : k.format.read x = k.decode x := rfl
theorem ford_self (k : FloatKind) (x : Nat) : k.format.order x x = if (k.decode x).isNaN then none else some .eq := by
  unfold Ieee.Format.order
  rw [format_read]
  cases h : (k.decode x).isNaN with
  | false => exact order_self h
  | true => cases hd : k.decode x <;> simp_all [Ieee.Datum.order, Ieee.Datum.isNaN]
theorem feq_same (k : FloatKind) (x : Nat) : feq k x x = !(k.decode x).isNaN := by
  unfold feq; rw [ford_self]; cases (k.decode x).isNaN <;> rfl
theorem read_double (x : Nat) (s : Bool) (m : Nat) (e : Int) (h : FloatKind.f64.decode x = .number s m e) : m < 9007199254740992 ∧ -1074 ≤ e ∧ e ≤ 971 := by
  have hb : Ieee.double.binade = 4503599627370496 := by decide
  have hl : Ieee.double.leastPlace = -1074 := by decide
  have hi : Ieee.double.infRung = 9218868437227405312 := by decide
  have h' : Ieee.double.read x = .number s m e := h
  unfold Ieee.Format.read at h'
  simp only [hb, hl, hi] at h'
  generalize x % Ieee.double.signWeight = r at h'
  split at h'
  · injection h' with h1 h2 h3; subst h2; subst h3; exact ⟨by omega, by omega, by omega⟩
  · split at h'
    · injection h' with h1 h2 h3
      subst h2; subst h3
      have : r / 4503599627370496 ≤ 2046 := by omega
      have hm := Nat.mod_lt r (y := 4503599627370496) (by omega)
      exact ⟨by omega, by omega, by omega⟩
    · split at h' <;> cases h'
theorem decode_abs (x : Nat) : FloatKind.f64.decode (x % 9223372036854775808) = match FloatKind.f64.decode x with
    | .number _ m e => .number false m e
    | .infinity _ => .infinity false
    | .nan _ t => .nan false t := by
  have hs : Ieee.double.signWeight = 9223372036854775808 := by decide
  show Ieee.double.read _ = match Ieee.double.read x with
    | .number _ m e => .number false m e
    | .infinity _ => .infinity false
    | .nan _ t => .nan false t
  unfold Ieee.Format.read
  simp only [hs, Nat.mod_mod]
  have : x % 9223372036854775808 / 9223372036854775808 = 0 := Nat.div_eq_of_lt (Nat.mod_lt _ (by omega))
  rw [this]
  by_cases h1 : x % 9223372036854775808 < Ieee.double.binade
  · simp [h1]
  · by_cases h2 : x % 9223372036854775808 < Ieee.double.infRung
    · simp [h1, h2]
    · by_cases h3 : x % 9223372036854775808 = Ieee.double.infRung
      · rw [if_neg h1, if_neg h2, if_pos h3, if_neg h1, if_neg h2, if_pos h3]; rfl
      · simp [h1, h2, h3]
theorem fgt_max (x : Nat) : fgt .f64 (x % 9223372036854775808) 9218868437227405311 = infB .f64 x := by
  have hm : FloatKind.f64.decode 9218868437227405311 = .number false 9007199254740991 971 := by decide +kernel
  unfold fgt infB Ieee.Format.order
  rw [format_read, format_read, decode_abs, hm]
  cases h : FloatKind.f64.decode x with
  | nan s t => rfl
  | infinity s => rfl
  | number s m e =>
    obtain ⟨h1, h2, h3⟩ := read_double x s m e h
    simp only [Ieee.Datum.order, Ieee.Datum.isInfinity]
    have hmin : min e 971 = e := by omega
    rw [hmin]
    have : ¬ (compare (Ieee.signed false m (e - e).toNat) (Ieee.signed false 9007199254740991 (971 - e).toNat) = .gt) := by
      intro hc
      have hc' := Int.compare_eq_gt.1 hc
      simp only [Ieee.signed, Bool.false_eq_true, if_false, Int.sub_self, Int.toNat_zero, Nat.shiftLeft_zero, Nat.shiftLeft_eq] at hc'
      have : 1 ≤ 2 ^ (971 - e).toNat := Nat.one_le_two_pow
      have h5 : (9007199254740991 : Nat) * 1 ≤ 9007199254740991 * 2 ^ (971 - e).toNat := Nat.mul_le_mul_left _ this
      omega
    cases hc : compare (Ieee.signed false m (e - e).toNat) (Ieee.signed false 9007199254740991 (971 - e).toNat) <;> simp_all
theorem fin_of (k : FloatKind) (x : Nat) : finB k x = (!(k.decode x).isNaN && !infB k x) := by
  unfold finB infB
  cases k.decode x <;> rfl
theorem wide_lt (x : Nat) : fconv .f64 .f32 x < 18446744073709551616 := by
  unfold fconv
  rw [if_neg (by decide)]
  have key : ∀ d, canon .f64 (FloatKind.f64.encode d) < 18446744073709551616 := by
    intro d
    unfold canon
    split
    · decide
    · have := Ieee.Format.write_lt Ieee.double d
      exact this
  split
  · decide
  · exact key _
  · exact key _
theorem wide_nan (x : Nat) : (FloatKind.f64.decode (fconv .f64 .f32 x)).isNaN = (FloatKind.f32.decode x).isNaN := by
  unfold fconv
  rw [if_neg (by decide)]
  cases h : FloatKind.f32.decode x with
  | nan s t => exact nanOf_isNaN .f64
  | infinity s => cases s <;> rfl
  | number s m e =>
    obtain ⟨hm, h1, h2⟩ := read_single x s m e h
    obtain ⟨r, e1, e2⟩ := near_wide s m e hm h1 h2
    show (FloatKind.f64.decode (canon .f64 (FloatKind.f64.encode (.number s m e)))).isNaN = false
    rw [canon_isNaN]
    have e3 : FloatKind.f64.encode (.number s m e) = Ieee.double.word s r := e1
    rw [e3]
    have hi : Ieee.double.infRung < Ieee.double.signWeight := by decide
    show (Ieee.double.read _).isNaN = false
    unfold Ieee.Format.read
    simp only [word_mod Ieee.double s r (by omega)]
    split
    · rfl
    · rfl
theorem wide_inf (x : Nat) : infB .f64 (fconv .f64 .f32 x) = infB .f32 x := by
  unfold infB
  cases h : FloatKind.f32.decode x with
  | nan s t => unfold fconv; rw [if_neg (by decide), h]; rfl
  | infinity s => unfold fconv; rw [if_neg (by decide), h]; cases s <;> rfl
  | number s m e =>
    have hk := wide_ok x
    unfold fconvOk at hk
    rcases hk with hk | hk
    · cases hk
    · rw [h] at hk
      have hk : (FloatKind.f64.decode (FloatKind.f64.encode (.number s m e))).isInfinity = false := hk
      have hn := wide_nan x
      unfold fconv at hn ⊢
      rw [if_neg (by decide), h] at hn ⊢
      have hn : (FloatKind.f64.decode (canon .f64 (FloatKind.f64.encode (.number s m e)))).isNaN = false := hn
      show (FloatKind.f64.decode (canon .f64 (FloatKind.f64.encode (.number s m e)))).isInfinity = false
      rw [decode_canon_not hn]
      exact hk
theorem wide_fin (x : Nat) : finB .f64 (fconv .f64 .f32 x) = finB .f32 x := by
  rw [fin_of, fin_of, wide_nan, wide_inf]
theorem rvs_nil {E : Env P} : ∀ (i : Nat) a v, ([] : List AV)[i]? = some a → ([] : List Value)[i]? = some v → RV E a v := by intro i a v h; simp at h
theorem rvs_cons {E : Env P} {a : AV} {v : Value} {l : List AV} {vs : List Value} (h : RV E a v) (hs : ∀ (i : Nat) a v, l[i]? = some a → vs[i]? = some v → RV E a v) : ∀ (i : Nat) a' v', (a :: l)[i]? = some a' → (v :: vs)[i]? = some v' → RV E a' v' := by
  intro i a' v' h1 h2
  cases i with
  | zero => simp at h1 h2; subst h1; subst h2; exact h
  | succ i => exact hs i a' v' (by simpa using h1) (by simpa using h2)
def findI {α : Type} (q : α → Bool) : List α → Nat → Int
  | [], _ => -1
  | x :: xs, i => if q x then i else findI q xs (i + 1)
theorem findI_any {α : Type} (q : α → Bool) : ∀ (xs : List α) (i : Nat), decide (findI q xs i ≥ 0) = xs.any q
  | [], _ => rfl
  | x :: xs, i => by
    unfold findI
    cases h : q x with
    | true => simp [h]
    | false => simp [h, ← findI_any q xs (i + 1)]
theorem drop_at {α : Type} (xs : List α) (i : Nat) (h : i < xs.length) : xs.drop i = xs[i] :: xs.drop (i + 1) := List.drop_eq_getElem_cons h
theorem findI_step {α : Type} (q : α → Bool) (xs : List α) (i : Nat) (h : i < xs.length) : findI q (xs.drop i) i = if q xs[i] then (i : Int) else findI q (xs.drop (i + 1)) (i + 1) := by
  rw [drop_at xs i h]; rfl
theorem all_no {α : Type} {p : α → Bool} {xs : List α} (i : Nat) (h : i < xs.length) (hx : p xs[i] = false) : xs.all p = false := by
  rw [List.all_eq_false]
  exact ⟨xs[i], List.getElem_mem h, by simp [hx]⟩
theorem all_take {α : Type} {p : α → Bool} {xs : List α} (i : Nat) (h : i < xs.length) (hx : p xs[i] = true) (ht : (xs.take i).all p = true) : (xs.take (i + 1)).all p = true := by
  rw [take_snoc _ _ h, List.all_append, ht]; simp [hx]
theorem any_not {α : Type} (p : α → Bool) (xs : List α) : (!xs.any fun x => !p x) = xs.all p := by
  induction xs with
  | nil => rfl
  | cons x xs ih => simp only [List.any_cons, List.all_cons, ← ih, Bool.not_or, Bool.not_not]
def okS (x : Nat) : Bool := fge .f32 x 0 && fle .f32 x 1065353216
theorem bits_abs (x : Nat) (h : x < 18446744073709551616) : (IntKind.u64.wrap (((BitVec.ofInt IntKind.u64.bits (x : Int) &&& ~~~BitVec.ofInt IntKind.u64.bits 9223372036854775808).toNat : Nat) : Int)).toNat = x % 9223372036854775808 := by
  have e : (~~~BitVec.ofInt 64 9223372036854775808).toNat = 2 ^ 63 - 1 := by decide
  have e2 : (BitVec.ofInt 64 (x : Int)).toNat = x := by
    rw [BitVec.toNat_ofInt]; omega
  show (IntKind.u64.wrap (((BitVec.ofInt 64 (x : Int) &&& ~~~BitVec.ofInt 64 9223372036854775808).toNat : Nat) : Int)).toNat = _
  rw [BitVec.toNat_and, e, e2, Nat.and_two_pow_sub_one_eq_mod]
  have : x % 2 ^ 63 < 2 ^ 63 := Nat.mod_lt _ (by decide)
  have e3 : IntKind.u64.wrap ((x % 2 ^ 63 : Nat) : Int) = ((x % 2 ^ 63 : Nat) : Int) := by
    unfold IntKind.wrap
    simp only [IntKind.bits, IntKind.signed, Bool.false_and, Bool.false_eq_true, if_false]
    omega
  rw [e3, Int.toNat_natCast]
theorem abs_nan (x : Nat) (h : (FloatKind.f64.decode x).isNaN = false) : canon .f64 (x % 9223372036854775808) = x % 9223372036854775808 := by
  apply canon_of_not
  rw [decode_abs]
  cases hd : FloatKind.f64.decode x <;> simp_all [Ieee.Datum.isNaN]
end Go.Abs
namespace Go.Abs
open Go
variable {P : Program}
theorem view_sl (d : Nat) (hp : List Blk) (b i n : Nat) : view (d + 1) hp (.sl b i n) = match hp[b]? with
    | some blk => if blk.live && decide (i + n ≤ blk.els.length) then .ro (((blk.els.drop i).take n).map (view d hp)) else .any
    | none => .any := rfl
theorem view_agg (d : Nat) (hp : List Blk) (l : List AV) : view (d + 1) hp (.agg l) = .agg (l.map (view d hp)) := rfl
theorem view_int (d : Nat) (hp : List Blk) (k : IntKind) (n : Int) : view d hp (.int k n) = .int k n := by cases d <;> rfl
theorem view_flt (d : Nat) (hp : List Blk) (k : FloatKind) (n : Nat) : view d hp (.flt k n) = .flt k n := by cases d <;> rfl
theorem view_bool (d : Nat) (hp : List Blk) (b : Bool) : view d hp (.bool b) = .bool b := by cases d <;> rfl
theorem view_str (d : Nat) (hp : List Blk) (s : List UInt8) : view d hp (.str s) = .str s := by cases d <;> rfl
theorem view_nils (d : Nat) (hp : List Blk) : view d hp .nils = .nils := by cases d <;> rfl
theorem map_view_flts (d : Nat) (hp : List Blk) (xs : List Nat) : (flts xs).map (view d hp) = flts xs := by
  unfold flts
  rw [List.map_map]
  exact List.map_congr_left fun x _ => view_flt d hp .f32 x
theorem map_view_ints (d : Nat) (hp : List Blk) (xs : List Int) : (ints xs).map (view d hp) = ints xs := by
  unfold ints
  rw [List.map_map]
  exact List.map_congr_left fun x _ => view_int d hp .i64 x
theorem take_flts (xs : List Nat) : (flts xs).take xs.length = flts xs := List.take_of_length_le (by simp [flts_len])
theorem take_ints (xs : List Int) : (ints xs).take xs.length = ints xs := List.take_of_length_le (by simp [ints_len])
theorem CallA.freeze {P : Program} (d : Nat) {f : FuncId} {args : List AV} {r : AV} {new : List Blk} (h : CallA P f args [] (Ret r new)) : CallA P f args [] (Ret (view d new r) []) := by
  intro E vs H hl hrv
  refine (h E vs H hl hrv).mono ?_
  rintro v w' ⟨r', hp', E', hw, ⟨rfl, rfl⟩, hv, H', F'⟩
  refine ⟨_, [], E'.lent hp', hw, ⟨rfl, rfl⟩, (view_sound H' d r').1 v hv, ?_, ?_⟩
  · exact ⟨rfl, by simp, by simp, by simp, by simp, fun c hc => by
      rcases hc with h1 | ⟨b, ⟨q, hq, hlv⟩, rfl⟩
      · exact H'.old c h1
      · exact (H'.holds b q hq hlv).lt, H'.laid.keep (fun c h => .inl h) (fun _ _ => rfl)⟩
  · exact { size := F'.size, os := F'.os, tape := F'.tape, output := F'.output, block := F'.block, len := Nat.le_refl _, ρ := fun b hb => absurd hb (Nat.not_lt_zero _), wd := fun b hb => absurd hb (Nat.not_lt_zero _),
            F := fun c hc => .inl (F'.F c hc)
            F' := fun c hc => by
              rcases hc with h1 | ⟨b, hb, rfl⟩
              · exact F'.F' c h1
              · rcases F'.live b hb with ⟨h2, _⟩ | ⟨_, h3⟩
                · exact absurd h2 (Nat.not_lt_zero _)
                · exact .inr h3
            live := fun b ⟨q, hq, _⟩ => by simp at hq
            csz := F'.csz }
theorem CallA.frozen {P : Program} (d : Nat) {f : FuncId} {args : List AV} {r r2 : AV} {new : List Blk} (h : CallA P f args [] (Ret r new)) (hr : view d new r = r2) : CallA P f args [] (Ret r2 []) := by
  subst hr; exact h.freeze d
end Go.Abs
set_option linter.defProp false
namespace Go.Abs
open Go
variable {P : Program}
def q0 := And.intro @V_skip (And.intro @V_region (And.intro @V_draw (And.intro @V_seq (And.intro @V_cond (And.intro @opA_alloc (And.intro @opA_box (And.intro @opA_buildSlice (And.intro @opA_store (And.intro @opA_makeSlice (And.intro @opA_append @opA_len))))))))))
def q1 := And.intro @opA_min (And.intro @opA_max (And.intro @opA_real (And.intro @opA_imag (And.intro @opA_complex (And.intro @V_block (And.intro @V_loop (And.intro @V_exit (And.intro @V_ret (And.intro @retQ_ret (And.intro @retQ_normal @R_nil))))))))))
def q2 := And.intro @R_none (And.intro @R_some (And.intro @RQ_nil (And.intro @RQ_none (And.intro @RQ_some (And.intro @RQ_fnone (And.intro @RQ_fsome (And.intro @stepQ_call (And.intro @stepQ_builtin (And.intro @callQ_fn (And.intro @callV_fn @opA_call))))))))))
def q3 := And.intro @Br_true (And.intro @Br_false (And.intro @Br_not (And.intro @guardB_true (And.intro @guardB_false (And.intro @guardO_some (And.intro @condB_bool (And.intro @Cn_any (And.intro @Cn_bool (And.intro @Cn_int (And.intro @Cn_flt @Cn_cpx))))))))))
def q4 := And.intro @Cn_str (And.intro @Cn_agg (And.intro @Cn_tup (And.intro @Cn_nils (And.intro @Cn_ro (And.intro @Cn_sl (And.intro @Cn_ptr (And.intro @Cn_rop (And.intro @Cn_nilp (And.intro @Cn_fn (And.intro @Cn_nilf (And.intro @Cn_nili @stepQ_move)))))))))))
def q5 := And.intro @stepQ_assign (And.intro @stepQ_pick (And.intro @stepQ_build (And.intro @stepQ_load (And.intro @stepQ_nilCheck (And.intro @stepQ_binOp (And.intro @stepQ_unOp (And.intro @stepQ_convert (And.intro @stepQ_makeFunc (And.intro @stepQ_slice (And.intro @stepQ_fieldAddr @stepQ_field))))))))))
def q6 := And.intro @stepQ_indexAddr (And.intro @stepQ_index (And.intro @stepQ_extract (And.intro @opA_move (And.intro @opA_assign (And.intro @opA_pick (And.intro @opA_build (And.intro @opA_load (And.intro @opA_nilCheck (And.intro @opA_binOp (And.intro @opA_unOp @opA_convert))))))))))
def q7 := And.intro @opA_makeFunc (And.intro @opA_slice (And.intro @opA_fieldAddr (And.intro @opA_field (And.intro @opA_indexAddr (And.intro @opA_index (And.intro @opA_extract (And.intro @ints_len (And.intro @flts_len (And.intro @ints_get (And.intro @flts_get @flts_kill))))))))))
def q8 := And.intro @ints_kill (And.intro @flts_snoc (And.intro @ints_snoc (And.intro @flts_append (And.intro @ints_append @wide_ok))))
def q9 := And.intro @guardB_skip (And.intro @drawQ_cons (And.intro @drawQ_nil (And.intro @opA_cap (And.intro @opA_clear (And.intro @opA_lookup (And.intro @opA_makeMap (And.intro @opA_mapUpdate (And.intro @opA_mapEntry (And.intro @opA_entryStore (And.intro @stepQ_lookup (And.intro @Cn_mp (And.intro @Cn_rom (And.intro @Cn_mv (And.intro @callV_mv @callQ_mv))))))))))))))
end Go.Abs
namespace Go.Abs
open Go
variable {P : Program}
theorem joinHp_flat {hp new : List Blk} (hf : ∀ q ∈ new, allBelow 0 q.els = true) : joinHp hp new = hp ++ new := by
  unfold joinHp
  congr 1
  have : ∀ l : List Blk, (∀ q ∈ l, allBelow 0 q.els = true) → l.map (renB fun b => b + hp.length) = l := by
    intro l
    induction l with
    | nil => intro _; rfl
    | cons q l ih => intro hl; rw [List.map_cons, renB_flat (hl q (by simp)), ih fun x hx => hl x (by simp [hx])]
  exact this new hf
end Go.Abs
namespace Go.Abs
open Go
variable {P : Program}
section
variable {P : Program} {n0 : Nat}
end
end Go.Abs
namespace Go.Abs
open Go
variable {P : Program}
section
variable {P : Program} {n0 : Nat}
end
end Go.Abs
namespace Go.Abs
open Go
variable {P : Program}
end Go.Abs
namespace Go.Abs
open Go
variable {P : Program}
theorem br_no {c : Bool} {x y : Prop} {t : Tok x} {u : Tok y} (hc : c = false) (hy : y) : Br c x y t u := by subst hc; exact br_intro (fun h => by cases h) (fun _ => hy)
theorem br_yes {c : Bool} {x y : Prop} {t : Tok x} {u : Tok y} (hc : c = true) (hx : x) : Br c x y t u := by subst hc; exact br_intro (fun _ => hx) (fun h => by cases h)
section
variable {P : Program} {f : FuncId} {args : List AV} {hp : List Blk} {Q Q0 : AV → List Blk → Prop} {t : Tok Q}
theorem call_newQ (h : CallA P f args [] Q0) (ha : args.all (below 0) = true) (hQ : ∀ r new, Q0 r new → (∀ q ∈ new, allBelow 0 q.els = true) ∧ Q (ren (fun b => b + hp.length) r) (hp ++ new)) : CallP P f args hp Q t := by
  refine call_at (CallA.lift ha (h.mono ?_))
  intro r new h0
  obtain ⟨hf, hq⟩ := hQ r new h0
  rw [joinHp_flat hf]
  exact hq
theorem call_handedQ (σ : List Nat) {args' : List AV} {hps : List Blk} (h : CallA P f args' hps Q0) (hn : σ.Nodup) (S : SubF hp σ hps) (ha : args = args'.map (ren fun i => σ.getD i 0)) (hb : args'.all (below σ.length) = true)
    (hQ : ∀ r hps', Q0 r hps' → (∀ q ∈ hps', allBelow 0 q.els = true) ∧ Q (ren (upName σ hp.length) r) (putF σ hps' hp ++ hps'.drop σ.length)) : CallP P f args hp Q t := by
  refine call_at (CallA.sub σ (S.sub hn) ha hb (h.mono ?_))
  intro r hps' h0
  obtain ⟨hf, hq⟩ := hQ r hps' h0
  have e : subHp σ hp hps' = putF σ hps' hp ++ hps'.drop σ.length := by
    unfold subHp
    rw [putBack_flat _ _ _ _ hf]
    congr 1
    have : ∀ l : List Blk, (∀ q ∈ l, allBelow 0 q.els = true) → l.map (renB (upName σ hp.length)) = l := by
      intro l
      induction l with
      | nil => intro _; rfl
      | cons q l ih => intro hl; rw [List.map_cons, renB_flat (hl q (by simp)), ih fun x hx => hl x (by simp [hx])]
    exact this _ fun q hq => hf q (List.mem_of_mem_drop hq)
  rw [e]
  exact hq
end
theorem allBelow_cons {N : Nat} {a : AV} {l : List AV} : allBelow N (a :: l) = (below N a && allBelow N l) := rfl
theorem allBelow_nil {N : Nat} : allBelow N [] = true := rfl
def SubG (π : Nat → Nat) (N : Nat) (hp : List Blk) : List Nat → List Blk → Prop
  | [], [] => True
  | s :: σ, r :: l => (hp[s]? = some (renB π r) ∧ allBelow N r.els = true) ∧ SubG π N hp σ l
  | _, _ => False
theorem SubG.len {π : Nat → Nat} {N : Nat} {hp : List Blk} : ∀ {σ : List Nat} {l : List Blk}, SubG π N hp σ l → l.length = σ.length
  | [], [], _ => rfl
  | s :: σ, r :: l, h => by simp [SubG.len h.2]
  | [], _ :: _, h => h.elim
  | _ :: _, [], h => h.elim
theorem SubG.get {π : Nat → Nat} {N : Nat} {hp : List Blk} : ∀ {σ : List Nat} {l : List Blk}, SubG π N hp σ l → ∀ (i : Nat) r, l[i]? = some r → hp[σ.getD i 0]? = some (renB π r) ∧ allBelow N r.els = true
  | [], [], _, i, r, h => by simp at h
  | s :: σ, q :: l, h, 0, r, hr => by simp at hr; subst hr; simpa using h.1
  | s :: σ, q :: l, h, i + 1, r, hr => by simpa using SubG.get h.2 i r (by simpa using hr)
  | [], _ :: _, h, _, _, _ => h.elim
  | _ :: _, [], h, _, _, _ => h.elim
theorem getD_inj {σ : List Nat} (hn : σ.Nodup) : ∀ b b', b < σ.length → b' < σ.length → σ.getD b 0 = σ.getD b' 0 → b = b' := by
  intro b b' h1 h2 e
  simp only [List.getD_eq_getElem?_getD, List.getElem?_eq_getElem h1, List.getElem?_eq_getElem h2, Option.getD_some] at e
  have hne := List.pairwise_iff_getElem.1 hn
  rcases Nat.lt_trichotomy b b' with hlt | he | hlt
  · exact absurd e (hne b b' h1 h2 hlt)
  · exact he
  · exact absurd e.symm (hne b' b h2 h1 hlt)
theorem SubG.le {σ : List Nat} {n0 : Nat} {hp hp2 : List Blk} (hn : σ.Nodup) (h0 : n0 ≤ σ.length) (hlow : ∀ b, b < n0 → σ.getD b 0 = b) (S : SubG (fun i => σ.getD i 0) σ.length hp σ hp2) : LeHp σ.length (fun i => σ.getD i 0) n0 hp hp2 := by
  refine ⟨S.len, h0, hlow, getD_inj hn, fun b r hr => ?_⟩
  obtain ⟨h1, h2⟩ := S.get b r hr
  exact ⟨_, h1, rfl, fun hl => ⟨hl, rfl, rfl, by simpa [allBelow] using h2⟩⟩
theorem weak_names (σ : List Nat) {n0 : Nat} {st st2 : St} (hn : σ.Nodup) (h0 : n0 ≤ σ.length) (hlow : ∀ b, b < n0 → σ.getD b 0 = b) (S : SubG (fun i => σ.getD i 0) σ.length st.hp σ st2.hp) (ht : LeTm σ.length (fun i => σ.getD i 0) st.tm st2.tm) : Weak n0 st st2 :=
  weak_ren σ.length (fun i => σ.getD i 0) ht (S.le hn h0 hlow)
theorem PostR.tell (σ : List Nat) {n0 : Nat} {r r2 : AV} {hp hp2 : List Blk} {Q : AV → List Blk → Prop} (hn : σ.Nodup) (h0 : n0 ≤ σ.length) (hlow : ∀ b, b < n0 → σ.getD b 0 = b) (S : SubG (fun i => σ.getD i 0) σ.length hp σ hp2) (hr : r = ren (fun i => σ.getD i 0) r2) (hb : below σ.length r2 = true) (h : Q r2 hp2) : PostR n0 r hp Q :=
  PostR.names (fun i => σ.getD i 0) r2 hp2 (.inr ⟨hr, by rw [S.len]; exact hb⟩) (by have := S.le hn h0 hlow; rwa [← S.len] at this) h
theorem allW_int (k : IntKind) (n : Int) : AllW 1 [AV.int k n] = True := by
  simp only [eq_iff_iff, iff_true]
  intro a ha
  simp only [List.mem_singleton] at ha
  subst ha
  exact ⟨rfl, rfl⟩
def kint (k : IntKind) (l : List Int) : List AV := l.map (AV.int k)
section
variable {k : IntKind} {l : List Int}
theorem kint_len : (kint k l).length = l.length := by simp [kint]
theorem kint_get (i : Nat) (h : i < (kint k l).length) : (kint k l)[i] = .int k (l[i]'(by simpa [kint] using h)) := by simp [kint]
theorem kint_below (N : Nat) : allBelow N (kint k l) = true := by simp [allBelow, kint, below, belowM, belowL]
theorem kint_ren (π : Nat → Nat) : (kint k l).map (ren π) = kint k l := by simp [kint, ren, renM, renL]
end
theorem ofT_kint {P : Program} {m : Nat} {t e : TypeId} {k : IntKind} {a : AV} (ht : P.underlying t = some (.slice e)) (he : P.underlying e = some (.int k)) (h : OfT P (m + 2) t [a]) : ∃ xs : List Int, a = .ro (kint k xs) ∧ xs.length ≤ maxLen ∧ ∀ x ∈ xs, (Lit.int k x).wf = true := by
  unfold OfT at h
  rw [ht] at h
  obtain ⟨els, h0, hl, h⟩ := h
  have key : ∀ els : List AV, (∀ a ∈ els, OfT P (m + 1) e a.cells ∧ ((∃ fs, P.underlying e = some (.struct fs)) → ∃ c, a = .agg c) ∧ ((∀ fs, P.underlying e ≠ some (.struct fs)) → a.one = true)) → ∃ xs : List Int, els = kint k xs ∧ ∀ x ∈ xs, (Lit.int k x).wf = true := by
    intro els
    induction els with
    | nil => intro _; exact ⟨[], rfl, by simp⟩
    | cons a els ih =>
      intro h
      obtain ⟨xs, h1, h2⟩ := ih fun b hb => h b (by simp [hb])
      obtain ⟨h3, _, h4⟩ := h a (by simp)
      have h5 := h4 (by rw [he]; intro fs h; cases h)
      unfold OfT at h3
      rw [he] at h3
      obtain ⟨z, h6, h7⟩ := h3
      have : a = .int k z := by cases a <;> simp_all [AV.cells, AV.one]
      exact ⟨z :: xs, by simp [kint, this, h1], by simp only [List.mem_cons, forall_eq_or_imp]; exact ⟨h7, h2⟩⟩
  obtain ⟨xs, rfl, h2⟩ := key els h
  refine ⟨xs, by simpa using h0, by simpa [kint_len] using hl, h2⟩
end Go.Abs
namespace Go.Abs
open Go
variable {P : Program}
theorem Cn_eq {g : AV → List Blk → Option Nat → Prop} {t : Tok g} : Cn g t = g := by delta Cn; rfl
section
variable {P : Program}
theorem freeze_one {E E' : Env P} {hp : List Blk} {q : Blk} (H : HRel E hp) (H' : HRel E' (hp ++ [q])) (F' : Fr E hp E' (hp ++ [q])) (hl : q.live = true) (hf : allBelow 0 q.els = true) (hflat : ∀ b ∈ hp, allBelow hp.length b.els = true)
    (d : Nat) (r0 : AV) (hb : below 1 r0 = true) (v : Value) (hv : RV E' (ren (fun i => [hp.length].getD i 0) r0) v) :
    ∃ E2 : Env P, E2.w = E'.w ∧ RV E2 (view d [q] r0) v ∧ HRel E2 hp ∧ Fr E hp E2 hp ∧ E.le E2 := by
  have hq : (hp ++ [q])[hp.length]? = some q := by simp
  have hlt : ∀ (b : Nat) blk, hp[b]? = some blk → b < hp.length ∧ (hp ++ [q])[b]? = some blk := fun b blk h => by
    have := (List.getElem?_eq_some_iff.1 h).1
    exact ⟨this, by rw [List.getElem?_append_left this]; exact h⟩
  let E2 : Env P := { E' with F := fun c => E'.F c ∨ c = E'.ρ hp.length, N := hp.length }
  have leN : (E'.ren hp.length fun b => b).le E2 := ⟨fun _ h => .inl h, fun _ _ => rfl, Nat.le_refl _, fun _ _ => rfl, fun _ _ => rfl, fun _ => Nat.le_refl _⟩
  have H2 : HRel E2 hp := by
    refine ⟨rfl, fun b blk h => H'.wd b blk (hlt b blk h).2, ?_, ?_, ?_, ?_, H'.laid.keep (fun c h => .inl h) (fun _ _ => rfl)⟩
    · intro b blk h hlv
      refine (H'.holds b blk (hlt b blk h).2 hlv).keepE rfl fun e he j x hx u h4 => ?_
      have hbe : below hp.length e = true := by
        have := hflat blk (List.mem_of_getElem? h)
        simp only [allBelow, List.all_eq_true] at this
        exact this e he
      obtain ⟨_, h5⟩ := ren_cells (π := fun b => b) hbe
      obtain ⟨c', h6, h7⟩ := h5 j x hx
      rw [ren_id _ hbe, hx] at h6
      cases h6
      exact (h7 h4).mono leN
    · intro b b' blk blk' h1 h2 h3 h4 h5
      exact H'.inj b b' blk blk' (hlt _ _ h1).2 h2 (hlt _ _ h3).2 h4 h5
    · intro b blk h hlv hF
      rcases hF with h1 | h1
      · exact H'.apart b blk (hlt b blk h).2 hlv h1
      · have := H'.inj b hp.length blk q (hlt b blk h).2 hlv hq hl h1
        have := (hlt b blk h).1
        omega
    · rintro c (h | rfl)
      · exact H'.old c h
      · exact (H'.holds _ q hq hl).lt
  have F2 : Fr E hp E2 hp :=
    { size := F'.size, os := F'.os, tape := F'.tape, output := F'.output, block := F'.block, len := Nat.le_refl _, ρ := F'.ρ, wd := F'.wd, csz := F'.csz
      F := fun c h => .inl (F'.F c h)
      F' := fun c hc => by
        rcases hc with h | rfl
        · exact F'.F' c h
        · rcases F'.live hp.length ⟨q, hq, hl⟩ with ⟨h1, _⟩ | ⟨_, h2⟩
          · exact absurd h1 (Nat.lt_irrefl _)
          · exact .inr h2
      live := fun b ⟨blk, h, hlv⟩ => .inl ⟨(hlt b blk h).1, blk, h, hlv⟩ }
  refine ⟨E2, rfl, ?_, H2, F2, F2.le H H2⟩
  have S : Sub [hp.length] (hp ++ [q]) [q] := SubF.sub (by simp) ⟨⟨hq, hf⟩, trivial⟩
  have Hq := S.hrel H'
  have h1 := RV.unren (E := E') (N := 1) (π := fun i => [hp.length].getD i 0) hb hv
  have h2 := (view_sound Hq d r0).1 v h1
  refine h2.mono ⟨fun c hc => ?_, fun _ _ => rfl, Nat.zero_le _, fun _ hb => absurd hb (Nat.not_lt_zero _), fun _ hb => absurd hb (Nat.not_lt_zero _), fun _ => Nat.le_refl _⟩
  rcases hc with h | ⟨b, ⟨bk, hbk, _⟩, rfl⟩
  · exact .inl h
  · have : b = 0 := by
      have := (List.getElem?_eq_some_iff.1 hbk).1
      simpa using this
    subst this
    exact .inr rfl
theorem Yields.fresh {o : Oper} {f : Operand → AV} {hp : List Blk} (q : Blk) (hl : q.live = true) (hf : allBelow 0 q.els = true) (hflat : ∀ b ∈ hp, allBelow hp.length b.els = true) (d : Nat) (r0 : AV) (hb : below 1 r0 = true)
    (h : opA P hp.length o.op f hp (fun v hp' kb => v = ren (fun i => [hp.length].getD i 0) r0 ∧ hp' = hp ++ [q] ∧ kb = none)) : Yields P o f hp (view d [q] r0) := by
  intro E g H hr hcst
  have := opA_sound (E0 := E) (hp0 := hp) H (Fr.refl E hp) hr hcst h
  unfold Runs at this ⊢
  have conv : ∀ u w', OpPost E E hp (fun v hp' kb => v = ren (fun i => [hp.length].getD i 0) r0 ∧ hp' = hp ++ [q] ∧ kb = none) u w' → ∃ E', E'.w = w' ∧ RV E' (view d [q] r0) u ∧ HRel E' hp ∧ Fr E hp E' hp ∧ E.le E' := by
    rintro u w' ⟨E', av, hp', kb, hl'⟩
    obtain ⟨rfl, rfl, rfl⟩ := hl'.k
    obtain ⟨E2, h1, h2, h3, h4, h5⟩ := freeze_one H hl'.hr hl'.fr hl hf hflat d r0 hb u hl'.rv
    exact ⟨E2, h1.trans hl'.w, h2, h3, h4, h5⟩
  split at this
  · exact conv _ _ this
  · exact conv _ _ this
  · exact this.mono fun e w'' ⟨v, he, hp⟩ => ⟨v, he, conv _ _ hp⟩
  · exact this.elim
def freeZ (ops : Array Oper) (ms : List Bool) (listed : Array Bool) (k : Nat) : Bool :=
  match ops[k]? with
  | none => false
  | some o => lateOk ops listed k (lateOf ops listed k) && (List.range ops.size).all fun j =>
    j == k || listed.getD j true || (lateOf ops listed k).contains j ||
    match ops[j]? with
    | none => true
    | some oj => (oj.after.any fun e => Region.binds .any e && e.on == k) || (o.apart ops oj && !(ms.getD j true))
theorem freeZ_spec {ops : List Oper} {ms : List Bool} {listed : Array Bool} {k : Nat} {o : Oper} (hk : ops[k]? = some o) (h : freeZ ops.toArray ms listed k = true) : Free ops ms listed k o := by
  unfold freeZ at h
  have hk' : ops.toArray[k]? = some o := by simpa using hk
  rw [hk'] at h
  simp only [Bool.and_eq_true] at h
  refine ⟨_, lateOk_spec h.1, ?_⟩
  have h := h.2
  intro j oj hoj hjk hun hD hno
  simp only [List.all_eq_true, List.mem_range] at h
  have hj : j < ops.toArray.size := by
    have := (List.getElem?_eq_some_iff.1 hoj).1
    simpa using this
  have h1 := h j hj
  have hoj' : ops.toArray[j]? = some oj := by simpa using hoj
  rw [hoj', hun] at h1
  have hjk' : (j == k) = false := by simpa using hjk
  have hD' : (lateOf ops.toArray listed k).contains j = false := by simpa using hD
  rw [hjk', hD'] at h1
  simp only [Bool.false_or, Bool.or_eq_true, Bool.and_eq_true] at h1
  rcases h1 with h1 | ⟨h1, h2⟩
  · exfalso
    rw [Array.any_eq_true] at h1
    obtain ⟨m, hm, he⟩ := h1
    simp only [Bool.and_eq_true, beq_iff_eq] at he
    exact hno _ (Array.getElem_mem hm) he.1 he.2
  · exact ⟨h1, by simpa using h2⟩
def ordOk (ops : Array Oper) (ms : List Bool) : List Nat → Array Bool → Bool
  | [], listed => (Region.ready .any ops listed).isEmpty
  | k :: r, listed => (if ms.getD k true then Region.ready .any ops listed == [k] else (Region.ready .any ops listed).contains k && freeZ ops ms listed k) && ordOk ops ms r (listed.setIfInBounds k true)
def ordA (P : Program) (n0 : Nat) (ops : List Oper) (ms : List Bool) (K : St → Prop) : List Nat → St → Prop
  | [], st => K st
  | k :: r, st => ∃ o, ops[k]? = some o ∧ o.guard = none ∧
    if ms.getD k true then ∃ g : AV → List Blk → Option Nat → Prop, opA P n0 o.op st.ev st.hp g ∧ ∀ v hp' kb, g v hp' kb → ordA P n0 ops ms K r ((st.after hp' kb).put o.dst v)
    else ∃ v, Yields P o st.ev st.hp v ∧ ordA P n0 ops ms K r (st.put o.dst v)
theorem anyA_ord {n0 : Nat} {ops : List Oper} {ms : List Bool} {K : St → Prop} : ∀ (ord : List Nat) (listed : Array Bool) (st : St), ordOk ops.toArray ms ord listed = true → ordA P n0 ops ms K ord st → anyA P n0 ops ms K ord.length listed st
  | [], listed, st, hB, h => ⟨by simpa [ordOk] using hB, h⟩
  | k :: r, listed, st, hB, h => by
    obtain ⟨o, ho, hg, h⟩ := h
    simp only [ordOk, Bool.and_eq_true] at hB
    obtain ⟨hB1, hB2⟩ := hB
    have hw : wantedA ops o st = some true := by simp [wantedA, hg]
    cases hm : ms.getD k true with
    | true =>
      rw [hm] at hB1 h
      simp only [if_true, beq_iff_eq] at hB1 h
      refine ⟨fun h => (by rw [hB1] at h; cases h), fun i hi => ?_⟩
      rw [hB1] at hi
      have : i = k := by simpa using hi
      subst this
      unfold stepA
      simp only [ho, hm, if_true]
      obtain ⟨g, h1, h2⟩ := h
      exact .inl ⟨hw, g, h1, fun v hp' kb hv => anyA_ord r _ _ hB2 (h2 v hp' kb hv)⟩
    | false =>
      rw [hm] at hB1 h
      simp only [Bool.false_eq_true, if_false, Bool.and_eq_true] at hB1 h
      obtain ⟨hr, hf⟩ := hB1
      obtain ⟨v, hy, hK⟩ := h
      exact anyA_first ho hm r.length listed st (freeZ_spec ho hf) (by simpa using hr) (.inl ⟨hw, hy⟩) (anyA_ord r _ _ hB2 hK)
def Od (P : Program) (n0 : Nat) (ops : List Oper) (ms : List Bool) (K : St → Prop) (ord : List Nat) (_t : Tok (ops, ord, K)) (st : St) : Prop := ordA P n0 ops ms K ord st
theorem go_order (hm : P.follows .mixedOrders = true) {n0 : Nat} {id : Nat} {ops : Array Oper} {Q : Ex → St → Prop} {st : St} {t} (ord : List Nat) (ms : List Bool)
    (hok : (ord.length == ops.size && ordOk ops ms ord (Array.replicate ops.size false)) = true) (h : Od P n0 ops.toList ms (Q .normal) ord .mk st) : Lp P n0 (.region id ops true) Q t st := by
  delta Lp
  simp only [Bool.and_eq_true, beq_iff_eq] at hok
  intro E0 hp0 E a hn hs
  subst hn
  have h1 := anyA_ord (P := P) (n0 := hp0.length) (ops := ops.toList) (ms := ms) (K := Q .normal) ord (Array.replicate ops.size false) st (by simpa using hok.2) h
  rw [hok.1] at h1
  refine wp_region_any hm ?_
  have hs' : SR E0 hp0 (E.with { E.w with drawn := E.w.drawn + 1 }) st a := ⟨hs.hr.with (Same.drew _ _), hs.fr.with (Same.drew _ _), hs.len, fun i v u a1 a2 => (hs.tm i v u a1 a2).mono (Env.le_with (Same.drew _ _)), hs.df⟩
  have h2 := anyA_sound (P := P) (Q := liftQ E0 hp0 Q) (fun E st a hs hk => ⟨.normal, st, E, rfl, rfl, hs, hk⟩) _ _ _ st a hs' h1
  rw [show ops.toList.toArray = ops from by simp] at h2
  exact h2
section
variable {n0 : Nat} {ops : List Oper} {ms : List Bool} {K : St → Prop} {k : Nat} {r : List Nat} {st : St} {t : Tok (ops, k :: r, K)} {o : Oper}
theorem od_nil {t : Tok (ops, ([] : List Nat), K)} (h : K st) : Od P n0 ops ms K [] t st := h
theorem od_one (ho : ops[k]? = some o) (hg : o.guard = none) (hm : ms.getD k true = true) (h : opA P n0 o.op st.ev st.hp (Cn (fun v hp' kb => Od P n0 ops ms K r .mk ((st.after hp' kb).put o.dst v)) .mk)) : Od P n0 ops ms K (k :: r) t st :=
  ⟨o, ho, hg, by rw [hm]; exact ⟨_, h, fun v hp' kb hv => by rw [Cn_go] at hv; exact hv⟩⟩
theorem od_quiet (ho : ops[k]? = some o) (hg : o.guard = none) (hm : ms.getD k true = false) (h : quietA P o.op st.ev st.hp (fun v => Od P n0 ops ms K r .mk (st.put o.dst v))) : Od P n0 ops ms K (k :: r) t st :=
  ⟨o, ho, hg, by
    rw [hm]
    obtain ⟨v, h1, h2⟩ := Yields.quiet h
    exact ⟨v, h2, h1⟩⟩
theorem od_call (ho : ops[k]? = some o) (hg : o.guard = none) (hm : ms.getD k true = false) {gf : Operand} {args : Array Operand} {ts : Array TypeId} (hop : o.op = .call { callee := .value gf, args := args, argTypes := ts }) {fid : FuncId} {caps : List AV} (hfn : st.ev gf = .fn fid caps) {v : AV}
    (hc : CallA P fid (args.toList.map st.ev ++ caps) st.hp (Ret v st.hp)) (h : Od P n0 ops ms K r .mk (st.put o.dst v)) : Od P n0 ops ms K (k :: r) t st :=
  ⟨o, ho, hg, by rw [hm]; exact ⟨v, Yields.call hop rfl hfn hc, h⟩⟩
theorem od_fresh (ho : ops[k]? = some o) (hg : o.guard = none) (hm : ms.getD k true = false) (q : Blk) (d : Nat) (r0 : AV) (hl : q.live = true) (hf : allBelow 0 q.els = true) (hflat : ∀ b ∈ st.hp, allBelow st.hp.length b.els = true) (hb : below 1 r0 = true)
    (hop : opA P st.hp.length o.op st.ev st.hp (Cn (fun v hp' kb => v = ren (fun i => [st.hp.length].getD i 0) r0 ∧ hp' = st.hp ++ [q] ∧ kb = none) .mk)) (h : Od P n0 ops ms K r .mk (st.put o.dst (view d [q] r0))) : Od P n0 ops ms K (k :: r) t st :=
  ⟨o, ho, hg, by rw [hm]; exact ⟨_, Yields.fresh q hl hf hflat d r0 hb (by rw [Cn_eq] at hop; exact hop), h⟩⟩
end
end
attribute [irreducible] Od
end Go.Abs
namespace Go.Abs
open Go
variable {P : Program}
section
variable {P : Program}
theorem V_def {md : Nat → List Bool} {n0 : Nat} {c : Code} {Q : Ex → St → Prop} {t} {st : St} : V P md n0 c Q t st = vc P md n0 c st Q := by delta V; rfl
theorem callA_code {f : FuncId} {fn : Func} {c : Code} {args : List AV} {hp : List Blk} {Q : AV → List Blk → Prop} (hf : P.funcs[f]? = some fn) (hb : fn.body = some c) (hgo : isGo P f)
    (h : CodeA P hp.length c ⟨args ++ List.replicate (fn.ntmps - args.length) .any, hp⟩ (retQ P fn hp.length Q)) : CallA P f args hp Q := by
  refine fun E vs H hl hrv => .inl ⟨hgo, ?_⟩
  refine calls_of_wp hf hb ?_
  have hs : SR E hp E ⟨args ++ List.replicate (fn.ntmps - args.length) .any, hp⟩ { tmps := vs.toArray ++ Array.replicate (fn.ntmps - vs.toArray.size) undef, defers := [] } := by
    refine ⟨H, Fr.refl E hp, by simp [hl], fun i v u h1 h2 => ?_, rfl⟩
    simp only [List.getElem?_append] at h1
    by_cases hi : i < args.length
    · rw [if_pos hi] at h1
      have h2' : vs[i]? = some u := by
        have hlt : i < vs.toArray.size := by simp [hl]; exact hi
        rw [Array.getElem?_append_left hlt] at h2
        simpa using h2
      exact hrv i v u h1 h2'
    · rw [if_neg hi] at h1
      rw [List.getElem?_replicate] at h1
      split at h1
      · cases h1; exact .any _
      · cases h1
  refine wp_mono (h E hp E _ rfl hs) fun e a' w' ⟨ex, st', E', he, hw, hs', hq⟩ => ?_
  subst he; subst hw
  have fin : (resL P fn.results.toList st' fun l => ∃ r2 hp2, WeakR hp.length (oneA l) st'.hp r2 hp2 ∧ Q r2 hp2) → a'.defers = [] ∧ ∃ v, (results fn a'.tmps).run P E'.w = .ok v E'.w ∧ ∃ v', Ending.returned v = .returned v' ∧ ∃ r hp' E'', E''.w = E'.w ∧ Q r hp' ∧ RV E'' r v' ∧ HRel E'' hp' ∧ Fr E hp E'' hp' := by
    intro hres
    obtain ⟨l, v, ⟨r2, hp2, hwk, hQ⟩, hrun, hv⟩ := run_results (P := P) hs' hres
    obtain ⟨E2, hw2, H2, F2, hv2⟩ := hwk _ E hp E' v rfl hs'.hr hs'.fr hv
    exact ⟨hs'.df, v, hrun, v, rfl, r2, hp2, E2, hw2, hQ, hv2, H2, F2⟩
  cases ex with
  | normal => exact fin hq
  | ret => exact fin hq
  | exit i => exact hq.elim
variable {n0 : Nat} {Q : Ex → St → Prop} {st : St}
theorem code_weak {c : Code} {st2 : St} (hw : Weak n0 st st2) (h : CodeA P n0 c st2 Q) : CodeA P n0 c st Q := by
  intro E0 hp0 E s hn hs
  obtain ⟨E2, h1, h2⟩ := hw _ E0 hp0 E s hn hs
  rw [← h1]
  exact h E0 hp0 E2 s hn h2
end
end Go.Abs
namespace Go.Abs
open Go
variable {P : Program}
section
variable {P : Program}
def CallAt (P : Program) (o : Oper) (f : Operand → AV) (hp : List Blk) (Q : AV → List Blk → Prop) : Prop :=
  (∃ (c : Call) (gf : Operand) (fid : FuncId) (caps : List AV), o.op = .call c ∧ c.callee = .value gf ∧ f gf = .fn fid caps ∧ CallA P fid (c.args.toList.map f ++ caps) hp Q) ∨
  (∃ t len parts, o.op = .buildSlice t len parts ∧ ∀ n0, opA P n0 o.op f hp (fun v hp' kb => Q v hp' ∧ kb = none))
theorem St.ev_after (st : St) (hp : List Blk) (x : Operand) : (st.after hp none).ev x = st.ev x := by
  cases x <;> rfl
theorem put_after (st : St) (hp : List Blk) (d : Option Tmp) (v : AV) : (st.put d v).after hp none = (st.after hp none).put d v := by
  cases d <;> rfl
theorem put_hp (st : St) (d : Option Tmp) (v : AV) : (st.put d v).hp = st.hp := by cases d <;> rfl
theorem ev_apart {ops : List Oper} {o : Oper} {st : St} {d : Option Tmp} {v : AV} (h : ∀ t, d = some t → t ∉ o.looksAt ops.toArray) : ∀ x ∈ o.op.operands, (st.put d v).ev x = st.ev x := fun x hx => St.ev_put fun t ht e => h t ht (by
    subst e
    simp only [Oper.looksAt, List.mem_append, List.mem_filterMap]
    exact .inl ⟨.tmp t, by simpa using hx, rfl⟩)
def ordH (P : Program) (n0 : Nat) (ops : List Oper) (ms : List Nat) (Hs : List Blk → Prop) (K : St → Prop) : List Nat → St → Prop
  | [], st => K st
  | k :: r, st => ∃ o, ops[k]? = some o ∧ o.guard = none ∧ match ms.getD k 1 with
    | 0 => ∃ v, Hs st.hp ∧ (∀ hp, Hs hp → Yields P o st.ev hp v) ∧ ordH P n0 ops ms Hs K r (st.put o.dst v)
    | 2 => ∃ Q, CallAt P o st.ev st.hp Q ∧ ∀ v hp', Q v hp' → Hs hp' ∧ ordH P n0 ops ms Hs K r ((st.after hp' none).put o.dst v)
    | _ => ∃ g : AV → List Blk → Option Nat → Prop, opA P n0 o.op st.ev st.hp g ∧ ∀ v hp' kb, g v hp' kb → ordH P n0 ops ms Hs K r ((st.after hp' kb).put o.dst v)
def Oh (P : Program) (n0 : Nat) (ops : List Oper) (ms : List Nat) (Hs : List Blk → Prop) (K : St → Prop) (ord : List Nat) (_t : Tok (ops, ord, K)) (st : St) : Prop := ordH P n0 ops ms Hs K ord st
section
variable {n0 : Nat} {ops : List Oper} {ms : List Nat} {Hs : List Blk → Prop} {K : St → Prop} {k : Nat} {r : List Nat} {st : St} {t : Tok (ops, k :: r, K)} {o : Oper}
end
end
attribute [irreducible] Oh
theorem CallA.freezeQ {P : Program} (d : Nat) {f : FuncId} {args : List AV} {Q0 : AV → List Blk → Prop} (h : CallA P f args [] Q0) : CallA P f args [] (fun r hp => ∃ r0 new, Q0 r0 new ∧ r = view d new r0 ∧ hp = []) := by
  intro E vs H hl hrv
  refine (h E vs H hl hrv).mono ?_
  rintro v w' ⟨r', hp', E', hw, hq, hv, H', F'⟩
  refine ⟨_, [], E'.lent hp', hw, ⟨r', hp', hq, rfl, rfl⟩, (view_sound H' d r').1 v hv, ?_, ?_⟩
  · exact ⟨rfl, by simp, by simp, by simp, by simp, fun c hc => by
      rcases hc with h1 | ⟨b, ⟨q, hq, hlv⟩, rfl⟩
      · exact H'.old c h1
      · exact (H'.holds b q hq hlv).lt, H'.laid.keep (fun c h => .inl h) (fun _ _ => rfl)⟩
  · exact { size := F'.size, os := F'.os, tape := F'.tape, output := F'.output, block := F'.block, len := Nat.le_refl _, ρ := fun b hb => absurd hb (Nat.not_lt_zero _), wd := fun b hb => absurd hb (Nat.not_lt_zero _),
            F := fun c hc => .inl (F'.F c hc)
            F' := fun c hc => by
              rcases hc with h1 | ⟨b, hb, rfl⟩
              · exact F'.F' c h1
              · rcases F'.live b hb with ⟨h2, _⟩ | ⟨_, h3⟩
                · exact absurd h2 (Nat.not_lt_zero _)
                · exact .inr h3
            live := fun b ⟨q, hq, _⟩ => by simp at hq
            csz := F'.csz }
end Go.Abs
namespace Go.Abs
open Go
variable {P : Program}
end Go.Abs
namespace Go.Abs
open Go
variable {P : Program}
section
variable {P : Program}
theorem RV.two {E : Env P} {a b : AV} {vs : List Value} (hl : vs.length = 2) (hv : ∀ (i : Nat) x v, [a, b][i]? = some x → vs[i]? = some v → RV E x v) : ∃ v u, vs = [v, u] ∧ RV E a v ∧ RV E b u := by
  match vs, hl with
  | [v, u], _ => exact ⟨v, u, rfl, hv 0 a v rfl rfl, hv 1 b u rfl rfl⟩
theorem bytes_call {f : FuncId} {fn : Func} {e : Array Value → Sem Value} (hf : P.funcs[f]? = some fn) (hname : (fn.name == "runtime.NumGoroutine") = false)
    (hb : fn.body.isNone = true) (hn : Extern.findNext fn = none) (he : Extern.find fn = some e) {g : List UInt8 → UInt8 → Int}
    (hE : ∀ (s : ByteArray) (c : Int) w, (e #[.string s, .int .u8 c]).run P w = .ok (.int .i64 (g s.data.toList c.toNat.toUInt8)) w)
    (s : List UInt8) (c : Int) : CallA P f [.str s, .int .u8 c] [] (Ret (.int .i64 (g s c.toNat.toUInt8)) []) := by
  refine ext_call hf hname hb hn he fun E vs hl hv => ?_
  obtain ⟨v, u, rfl, h1, h2⟩ := RV.two hl hv
  cases h1 with
  | str =>
    cases h2 with
    | int => exact ⟨_, _, hE _ c E.w, .int .i64 _, rfl, rfl⟩
end
def cutA (c : UInt8) (acc : List UInt8) : List UInt8 → List (List UInt8)
  | [] => [acc]
  | x :: s => if x = c then acc :: cutA c [] s else cutA c (acc ++ [x]) s
theorem cutA_len (c : UInt8) : ∀ (l acc : List UInt8), (cutA c acc l).length = Lib.countByte l c + 1
  | [], _ => by simp [cutA, Lib.countByte]
  | x :: l, acc => by
    unfold cutA
    by_cases h : x = c
    · rw [if_pos h, List.length_cons, cutA_len c l]; simp [Lib.countByte, h]
    · rw [if_neg h, cutA_len c l]; simp [Lib.countByte, h]
theorem cutA_none (c : UInt8) : ∀ (l acc : List UInt8), Lib.countByte l c = 0 → cutA c acc l = [acc ++ l]
  | [], _, _ => by simp [cutA]
  | x :: l, acc, h => by
    unfold cutA
    by_cases e : x = c
    · simp [Lib.countByte, e] at h
    · rw [if_neg e, cutA_none c l _ (by simpa [Lib.countByte, e] using h)]; simp
theorem cutA_at (c : UInt8) : ∀ (l acc : List UInt8), Lib.countByte l c ≠ 0 →
    ∃ m : Nat, Lib.indexByte l c = m ∧ m < l.length ∧ cutA c acc l = (acc ++ l.take m) :: cutA c [] (l.drop (m + 1)) ∧ Lib.countByte l c = Lib.countByte (l.drop (m + 1)) c + 1
  | [], _, h => absurd rfl h
  | x :: l, acc, h => by
    by_cases e : x = c
    · refine ⟨0, by simp [Lib.indexByte, e], by simp, by (conv => lhs; unfold cutA); rw [if_pos e]; simp, by simp [Lib.countByte, e]⟩
    · obtain ⟨m, h1, h2, h3, h4⟩ := cutA_at c l (acc ++ [x]) (by simpa [Lib.countByte, e] using h)
      refine ⟨m + 1, ?_, by simp; omega, ?_, ?_⟩
      · unfold Lib.indexByte
        rw [if_neg (by simpa using e), h1, if_neg (by simp)]
        omega
      · conv => lhs; unfold cutA
        rw [if_neg e, h3]
        simp
      · have : Lib.countByte (x :: l) c = Lib.countByte l c := by simp [Lib.countByte, e]
        rw [this, h4]
        simp
theorem count_len (l : List UInt8) (c : UInt8) : Lib.countByte l c ≤ l.length := List.count_le_length
def strs (l : List (List UInt8)) : List AV := l.map AV.str
theorem strs_len (l : List (List UInt8)) : (strs l).length = l.length := by simp [strs]
theorem strs_get (l : List (List UInt8)) (i : Nat) (h : i < (strs l).length) : (strs l)[i] = AV.str (l[i]'(by simpa [strs] using h)) := by simp [strs]
theorem strs_app (l r : List (List UInt8)) : strs (l ++ r) = strs l ++ strs r := by simp [strs]
theorem strs_set (l : List (List UInt8)) (i : Nat) (x : List UInt8) : (strs l).set i (.str x) = strs (l.set i x) := by simp [strs, List.map_set]
theorem strs_rep (n : Nat) (x : List UInt8) : strs (List.replicate n x) = List.replicate n (.str x) := by simp [strs]
theorem strs_below (n : Nat) : ∀ l : List (List UInt8), allBelow n (strs l) = true
  | [] => rfl
  | x :: l => strs_below n l
theorem map_view_strs (d : Nat) (hp : List Blk) (l : List (List UInt8)) : (strs l).map (view d hp) = strs l := by
  unfold strs
  rw [List.map_map]
  exact List.map_congr_left fun x _ => by cases d <;> rfl
end Go.Abs
