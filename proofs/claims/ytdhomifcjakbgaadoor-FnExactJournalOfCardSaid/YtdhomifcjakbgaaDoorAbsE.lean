/- The abstract layer, part E: arithmetic, slices of slices, structs; 'quietA' is sound. -/
import Derived.Test.YtdhomifcjakbgaaDoorAbsD
set_option linter.unusedSimpArgs false
set_option linter.unusedVariables false
namespace Go.Abs
open Go
variable {P : Program}
section
variable {P : Program}

theorem QRun.of {E : Env P} {s : Sem Value} {v : Value} {av : AV} (h : s.run P E.w = .ok v E.w) (hr : RV E av v) : QRun P E s av := ⟨v, E.w, h, Same.refl _, hr⟩

theorem intBin_sound {op : BinOp} {kd : IntKind} {a b : Int} {k : AV → Prop} (hs : op ≠ .shl) (hs' : op ≠ .shr) (h : intBin op kd a b k) :
    ∃ av, k av ∧ ∀ (E : Env P) t, QRun P E (Go.binOp op t (.int kd a) (.int kd b)) av := by
  cases op <;> simp only [intBin] at h
  case quo => exact ⟨_, h.2, fun E t => .of (v := .int kd (kd.wrap (a.tdiv b))) (by simp [Go.binOp, Op.intDiv, h.1]) (.int _ _)⟩
  case rem => exact ⟨_, h.2, fun E t => .of (v := .int kd (a.tmod b)) (by simp [Go.binOp, Op.intDiv, h.1]) (.int _ _)⟩
  case andNot => exact ⟨_, h, fun E t => .of (v := .int kd (kd.wrap (BitVec.ofInt kd.bits a &&& ~~~BitVec.ofInt kd.bits b).toNat)) (by simp only [Go.binOp, ne_eq, not_true_eq_false, if_false, Op.intBits, Sem.run_pure]) (.int _ _)⟩
  all_goals first | exact h.elim | exact ⟨_, h, fun E t => .of (by simp [Go.binOp, Op.intArith, Op.intBits, Op.intCmp]; rfl) (by constructor)⟩

theorem fnum_run {E : Env P} {k : FloatKind} {x y : Nat} {r : Option Nat} {s : Sem Value}
    (h : s.run P E.w = (match r with | some r => (pure (.float k r) : Sem Value) | none => do pure (.float k (← choose (.nanBits k x y)))).run P E.w) : QRun P E s (.flt k (fnum k r)) := by
  cases r with
  | some r => exact ⟨.float k r, E.w, by rw [h]; rfl, Same.refl _, .flt _ _ _ rfl⟩
  | none =>
    refine ⟨.float k ((Question.nanBits k x y).cut (E.w.tape E.w.drawn (.nanBits k x y))), { E.w with drawn := E.w.drawn + 1 }, ?_, Same.drew _ _, .flt _ _ _ (cut_nanBits k x y _)⟩
    have e : (choose (.nanBits k x y)).run P E.w = .ok ((Question.nanBits k x y).cut (E.w.tape E.w.drawn (.nanBits k x y))) { E.w with drawn := E.w.drawn + 1 } := by
      rw [run_choose]; rfl
    rw [h]
    simp only [Sem.run_bind, e, Result.andThen_ok, Sem.run_pure]

theorem fltBin_sound {op : BinOp} {kd : FloatKind} {a b : Nat} {k : AV → Prop} (h : fltBin op kd a b k) :
    ∃ av, k av ∧ ∀ (E : Env P) t u v, canon kd u = a → canon kd v = b → QRun P E (Go.binOp op t (.float kd u) (.float kd v)) av := by
  cases op <;> simp only [fltBin] at h
  case add => exact ⟨_, h, fun E t u v hu hv => by subst hu; subst hv; unfold fadd; rw [canon_add]; exact fnum_run (x := u) (y := v) (by simp [Go.binOp, Op.floatArith]; cases kd.format.add u v <;> rfl)⟩
  case sub => exact ⟨_, h, fun E t u v hu hv => by subst hu; subst hv; unfold fsub; rw [canon_sub]; exact fnum_run (x := u) (y := v) (by simp [Go.binOp, Op.floatArith]; cases kd.format.sub u v <;> rfl)⟩
  case mul => exact ⟨_, h, fun E t u v hu hv => by subst hu; subst hv; unfold fmul; rw [canon_mul]; exact fnum_run (x := u) (y := v) (by simp [Go.binOp, Op.floatArith]; cases kd.format.mul u v <;> rfl)⟩
  case quo => exact ⟨_, h, fun E t u v hu hv => by subst hu; subst hv; unfold fdiv; rw [canon_div]; exact fnum_run (x := u) (y := v) (by simp [Go.binOp, Op.floatArith]; cases kd.format.div u v <;> rfl)⟩
  all_goals first
    | exact h.elim
    | exact ⟨_, h, fun E t u v hu hv => by
        subst hu; subst hv
        refine .of ?_ (.bool _)
        simp [Go.binOp, Op.floatCmp, feq, Abs.flt, fle, fgt, fge, canon_order, bne]⟩

theorem strBin_sound {op : BinOp} {a b : List UInt8} {k : AV → Prop} (h : strBin op a b k) :
    ∃ av, k av ∧ ∀ (E : Env P) t, QRun P E (Go.binOp op t (.string ⟨a.toArray⟩) (.string ⟨b.toArray⟩)) av := by
  have tl : ∀ l : List UInt8, (⟨l.toArray⟩ : ByteArray).toList = l := fun l => by rw [ByteArray.toList_eq]
  cases op <;> simp only [strBin] at h
  case add =>
    refine ⟨_, h.2, fun E t => .of (v := .string (⟨a.toArray⟩ ++ ⟨b.toArray⟩)) ?_ ?_⟩
    · have : ¬ ((a.length + b.length : Nat) : Int) > IntKind.i64.max := by
        have e : IntKind.i64.max = 9223372036854775807 := rfl
        rw [e]; omega
      have e1 : (⟨a.toArray⟩ : ByteArray).size = a.length := by simp [ByteArray.size]
      have e2 : (⟨b.toArray⟩ : ByteArray).size = b.length := by simp [ByteArray.size]
      simp only [Go.binOp, Op.stringOp, e1, e2, this, if_false, Sem.run_pure]
    · have e : ((⟨a.toArray⟩ : ByteArray) ++ ⟨b.toArray⟩) = ⟨(a ++ b).toArray⟩ := by
        apply ByteArray.ext; simp
      rw [e]; exact .str _
  case eql => exact ⟨_, h, fun E t => .of (by simp [Go.binOp, Op.stringOp, tl]) (.bool _)⟩
  case neq => exact ⟨_, h, fun E t => .of (by simp [Go.binOp, Op.stringOp, tl]) (.bool _)⟩
  all_goals exact h.elim


theorem cpxBin_sound {op : BinOp} {kd : FloatKind} {a b c d : Nat} {k : AV → Prop} (h : cpxBin op kd a b c d k) :
    ∃ av, k av ∧ ∀ (E : Env P) t u v x y, canon kd u = a → canon kd v = b → canon kd x = c → canon kd y = d → QRun P E (Go.binOp op t (.complex kd u v) (.complex kd x y)) av := by
  have ar : ∀ (bo : BinOp) (r : Nat → Nat → Option Nat), (bo = .add ∧ r = kd.format.add) ∨ (bo = .sub ∧ r = kd.format.sub) → ∀ (w : World) u v, ∃ z w', (Op.Complex.arith bo kd u v).run P w = .ok z w' ∧ Same w w' ∧ canon kd z = fnum kd (r u v) := by
    intro bo r hbo w u v
    have e : (Op.floatArith bo kd u v).run P w = (match r u v with | some r => (pure (.float kd r) : Sem Value) | none => do pure (.float kd (← choose (.nanBits kd u v)))).run P w := by
      rcases hbo with ⟨rfl, rfl⟩ | ⟨rfl, rfl⟩
      · simp [Op.floatArith]; cases kd.format.add u v <;> rfl
      · simp [Op.floatArith]; cases kd.format.sub u v <;> rfl
    cases hr : r u v with
    | some z => exact ⟨z, w, by simp [Op.Complex.arith, e, hr, Result.andThen], Same.refl _, rfl⟩
    | none =>
      refine ⟨(Question.nanBits kd u v).cut (w.tape w.drawn (.nanBits kd u v)), { w with drawn := w.drawn + 1 }, ?_, Same.drew _ _, cut_nanBits _ _ _ _⟩
      have e' : (choose (.nanBits kd u v)).run P w = .ok ((Question.nanBits kd u v).cut (w.tape w.drawn (.nanBits kd u v))) { w with drawn := w.drawn + 1 } := by rw [run_choose]; rfl
      simp only [Op.Complex.arith, Sem.run_bind, e, hr, e', Result.andThen_ok, Sem.run_pure]
  have two : ∀ (bo : BinOp) (r : Nat → Nat → Option Nat), (bo = .add ∧ r = kd.format.add) ∨ (bo = .sub ∧ r = kd.format.sub) → ∀ (E : Env P) t u v x y, QRun P E (Go.binOp bo t (.complex kd u v) (.complex kd x y)) (.cpx kd (fnum kd (r u x)) (fnum kd (r v y))) := by
    intro bo r hbo E t u v x y
    obtain ⟨z, w1, h1, s1, c1⟩ := ar bo r hbo E.w u x
    obtain ⟨z', w2, h2, s2, c2⟩ := ar bo r hbo w1 v y
    refine ⟨.complex kd z z', w2, ?_, s1.trans s2, .cpx _ _ _ _ _ c1 c2⟩
    rcases hbo with ⟨rfl, rfl⟩ | ⟨rfl, rfl⟩ <;> simp [Go.binOp, Op.complexOp, h1, h2, Result.andThen]
  cases op <;> simp only [cpxBin] at h
  case add => exact ⟨_, h, fun E t u v x y hu hv hx hy => by subst hu hv hx hy; have := two .add _ (.inl ⟨rfl, rfl⟩) E t u v x y; unfold fadd; rw [canon_add, canon_add]; exact this⟩
  case sub => exact ⟨_, h, fun E t u v x y hu hv hx hy => by subst hu hv hx hy; have := two .sub _ (.inr ⟨rfl, rfl⟩) E t u v x y; unfold fsub; rw [canon_sub, canon_sub]; exact this⟩
  case eql => exact ⟨_, h, fun E t u v x y hu hv hx hy => by
      subst hu hv hx hy
      refine .of ?_ (.bool _)
      cases h1 : kd.format.order u x == some .eq <;> simp [Go.binOp, Op.complexOp, Op.Complex.cmp, Op.floatCmp, asBool, feq, canon_order, Result.andThen, h1]⟩
  case neq => exact ⟨_, h, fun E t u v x y hu hv hx hy => by
      subst hu hv hx hy
      refine .of ?_ (.bool _)
      cases h1 : kd.format.order u x == some .eq <;> simp [Go.binOp, Op.complexOp, Op.Complex.cmp, Op.floatCmp, asBool, feq, canon_order, Result.andThen, h1]⟩
  all_goals exact h.elim

theorem eqGuard_plain (op : BinOp) (t : TypeId) (x y : Operand) (a b : Value) (w : World) (ha : a.oneCell' = true) (hn : a ≠ .nilIface) : (eqGuard op t x y a b).run P w = .ok () w := by
  cases op <;> cases a <;> first | rfl | exact absurd rfl hn | cases ha

theorem equal_bool (t : TypeId) (h : P.underlying t = some .bool) (a b : Bool) (w : World) : (Op.equal t (.bool a) (.bool b)).run P w = .ok (a == b) w := by
  have e : ∀ d, (Op.equalIn (d + 1) t (.bool a) (.bool b)).run P w = .ok (a == b) w := by
    intro d
    simp [Op.equalIn, run_underlying' h, Result.andThen]
  exact e 9999

theorem binA_sound {op : BinOp} {t : TypeId} {x y : AV} {k : AV → Prop} (h : binA P op t x y k) :
    ∃ av, k av ∧ ∀ (E : Env P) (ox oy : Operand) u v, RV E x u → RV E y v → QRun P E (do eqGuard op t ox oy u v; Go.binOp op t u v) av := by
  have lift : ∀ {E : Env P} {ox oy : Operand} {u v : Value} {av : AV}, u.oneCell' = true → u ≠ .nilIface → QRun P E (Go.binOp op t u v) av → QRun P E (do eqGuard op t ox oy u v; Go.binOp op t u v) av := by
    intro E ox oy u v av hu hn ⟨z, w', h1, h2, h3⟩
    exact ⟨z, w', by simp only [Sem.run_bind, eqGuard_plain op t ox oy u v E.w hu hn, Result.andThen_ok]; exact h1, h2, h3⟩
  unfold binA at h
  split at h
  · rename_i kd a kd' b
    refine ⟨_, h.2, fun E ox oy u v hu hv => ?_⟩
    cases hu; cases hv
    refine lift rfl (by simp) (.of ?_ (.int _ _))
    have : ¬ b < 0 := by omega
    simp [Go.binOp, Op.shift, this]
  · rename_i kd a kd' b
    refine ⟨_, h.2, fun E ox oy u v hu hv => ?_⟩
    cases hu; cases hv
    refine lift rfl (by simp) (.of ?_ (.int _ _))
    have : ¬ b < 0 := by omega
    simp [Go.binOp, Op.shift, this]
  · rename_i kd a kd' b hs hs'
    obtain ⟨rfl, h⟩ := h
    obtain ⟨av, hk, hr⟩ := intBin_sound (P := P) (fun e => by simp_all) (fun e => by simp_all) h
    refine ⟨av, hk, fun E ox oy u v hu hv => ?_⟩
    cases hu; cases hv
    exact lift rfl (by simp) (hr E t)
  · rename_i kd a kd' b
    obtain ⟨rfl, h⟩ := h
    obtain ⟨av, hk, hr⟩ := fltBin_sound (P := P) h
    refine ⟨av, hk, fun E ox oy u v hu hv => ?_⟩
    cases hu with
    | flt _ _ u hu =>
      cases hv with
      | flt _ _ v hv => exact lift rfl (by simp) (hr E t u v hu hv)
  · rename_i kd a b kd' c d
    obtain ⟨rfl, h⟩ := h
    obtain ⟨av, hk, hr⟩ := cpxBin_sound (P := P) h
    refine ⟨av, hk, fun E ox oy u v hu hv => ?_⟩
    cases hu with
    | cpx _ _ _ u v hu hu' =>
      cases hv with
      | cpx _ _ _ x y hv hv' => exact lift rfl (by simp) (hr E t u v x y hu hu' hv hv')
  · rename_i a b
    obtain ⟨av, hk, hr⟩ := strBin_sound (P := P) h
    refine ⟨av, hk, fun E ox oy u v hu hv => ?_⟩
    cases hu; cases hv
    exact lift rfl (by simp) (hr E t)
  · rename_i a b
    refine ⟨_, h.2, fun E ox oy u v hu hv => ?_⟩
    cases hu; cases hv
    refine lift rfl (by simp) (.of ?_ (.bool _))
    simp [Go.binOp, equal_bool t h.1, Result.andThen]
  · rename_i a b
    refine ⟨_, h.2, fun E ox oy u v hu hv => ?_⟩
    cases hu; cases hv
    refine lift rfl (by simp) (.of ?_ (.bool _))
    simp [Go.binOp, equal_bool t h.1, Result.andThen]
  · exact h.elim

theorem unA_sound {op : UnOp} {x : AV} {k : AV → Prop} (h : unA op x k) :
    ∃ av, k av ∧ ∀ (E : Env P) u, RV E x u → QRun P E (Op.unary op u) av := by
  unfold unA at h
  split at h
  · exact ⟨_, h, fun E u hu => by cases hu; exact .of rfl (.bool _)⟩
  · exact ⟨_, h, fun E u hu => by cases hu; exact .of rfl (.int _ _)⟩
  · refine ⟨_, h, fun E u hu => ?_⟩
    cases hu with
    | flt _ _ u hu => exact .of rfl (.flt _ _ _ (by subst hu; exact (canon_neg _ _).symm))
  · refine ⟨_, h, fun E u hu => ?_⟩
    cases hu with
    | cpx _ _ _ a b ha hb => exact .of rfl (.cpx _ _ _ _ _ (by subst ha; exact (canon_neg _ _).symm) (by subst hb; exact (canon_neg _ _).symm))
  · exact h.elim

theorem fconv_sound {E : Env P} {dst s : FloatKind} {b : Nat} (h : fconvOk dst s (canon s b)) : QRun P E (Conv.floatToFloat s b dst) (.flt dst (fconv dst s (canon s b))) := by
  unfold Conv.floatToFloat fconv
  by_cases hsd : s = dst
  · subst hsd
    simp only [if_true]
    exact .of rfl (.flt _ _ _ rfl)
  · simp only [hsd, if_false]
    have h' := h.resolve_left hsd
    cases hn : (s.decode b).isNaN with
    | true =>
      obtain ⟨sg, t, e⟩ := nan_of hn
      obtain ⟨sg', t', e'⟩ := nan_of ((canon_isNaN s b).trans hn)
      rw [e, e']
      refine ⟨.float dst ((Question.nanConv dst b).cut (E.w.tape E.w.drawn (.nanConv dst b))), { E.w with drawn := E.w.drawn + 1 }, ?_, Same.drew _ _, .flt _ _ _ (cut_nanConv _ _ _)⟩
      have e'' : (choose (.nanConv dst b)).run P E.w = .ok ((Question.nanConv dst b).cut (E.w.tape E.w.drawn (.nanConv dst b))) { E.w with drawn := E.w.drawn + 1 } := by rw [run_choose]; rfl
      simp only [Sem.run_bind, e'', Result.andThen_ok, Sem.run_pure]
    | false =>
      rw [canon_of_not hn] at h' ⊢
      cases hd : s.decode b with
      | nan _ _ => rw [hd] at hn; cases hn
      | infinity n => exact .of rfl (.flt _ _ _ rfl)
      | number n m e =>
        rw [hd] at h'
        simp only [h']
        exact .of rfl (.flt _ _ _ rfl)

theorem toInt_nan {d : Ieee.Datum} (h : d.isNaN = true) : d.toInt .zero = none := by
  obtain ⟨s, t, rfl⟩ := nan_of h; rfl

theorem convA_sound {dst : TypeId} {x : AV} {k : AV → Prop} (h : convA P dst x k) :
    ∃ av, k av ∧ ∀ (E : Env P) src d u, P.underlying src = some d → RV E x u → QRun P E (Go.convert src dst u) av := by
  unfold convA at h
  split at h
  · rename_i kd k0 n hd
    refine ⟨_, h, fun E src d u hs hu => ?_⟩
    cases hu
    exact .of (by simp [Go.convert, run_underlying' hd, run_underlying' hs, Result.andThen, Conv.intToInt]) (.int _ _)
  · rename_i kd k0 n hd
    refine ⟨_, h, fun E src d u hs hu => ?_⟩
    cases hu
    exact .of (v := .float kd (kd.nearest n)) (by simp [Go.convert, run_underlying' hd, run_underlying' hs, Result.andThen, Conv.intToFloat]) (.flt _ _ _ rfl)
  · rename_i kd s b hd
    refine ⟨_, h.2, fun E src d u hs hu => ?_⟩
    cases hu with
    | flt _ _ u hu =>
      subst hu
      obtain ⟨v, w', h1, h2, h3⟩ := fconv_sound (P := P) (E := E) h.1
      exact ⟨v, w', by simp [Go.convert, run_underlying' hd, run_underlying' hs, Result.andThen, h1], h2, h3⟩
  · rename_i kd s b hd
    obtain ⟨n, h1, h2, h3, hk⟩ := h
    refine ⟨_, hk, fun E src d u hs hu => ?_⟩
    cases hu with
    | flt _ _ u hu =>
      have hnn : (s.decode u).isNaN = false := by
        cases hn : (s.decode u).isNaN with
        | false => rfl
        | true =>
          rw [← hu, toInt_nan ((canon_isNaN s u).trans hn)] at h1
          cases h1
      rw [← hu, canon_of_not hnn] at h1
      exact .of (by simp [Go.convert, run_underlying' hd, run_underlying' hs, Result.andThen, Conv.floatToInt, h1, h2, h3]) (.int _ _)
  · rename_i s hd
    refine ⟨_, h, fun E src d u hs hu => ?_⟩
    cases hu
    exact .of (by simp [Go.convert, run_underlying' hd, run_underlying' hs, Result.andThen]) (.str _)
  · exact h.elim
end
end Go.Abs
