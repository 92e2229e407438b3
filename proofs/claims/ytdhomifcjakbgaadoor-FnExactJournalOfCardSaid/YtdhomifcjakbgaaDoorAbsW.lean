/- The abstract layer, part W: functions that are answered in place; which floats are numbers. -/
import Derived.Test.YtdhomifcjakbgaaDoorAbsV
import Derived.Laws.Externs
import Derived.Laws.FloatBits
set_option linter.unusedSimpArgs false
set_option linter.unusedVariables false
namespace Go.Abs
open Go
variable {P : Program}

section
variable {P : Program}
/-- A function without a text that is answered in place. -/
theorem ext_call {f : FuncId} {fn : Func} {e : Array Value → Sem Value} (hf : P.funcs[f]? = some fn) (hname : (fn.name == "runtime.NumGoroutine") = false)
    (hb : fn.body.isNone = true) (hn : Extern.findNext fn = none) (he : Extern.find fn = some e) {args : List AV} {hp : List Blk} {Q : AV → List Blk → Prop}
    (h : ∀ (E : Env P) (vs : List Value), vs.length = args.length → (∀ (i : Nat) a v, args[i]? = some a → vs[i]? = some v → RV E a v) → ∃ v r, (e vs.toArray).run P E.w = .ok v E.w ∧ RV E r v ∧ Q r hp) : CallA P f args hp Q := by
  intro E vs H hl hv
  obtain ⟨v, r, h1, h2, h3⟩ := h E vs hl hv
  refine .inr ⟨v, E.w, ?_, r, hp, E, rfl, h3, h2, H, Fr.refl E hp⟩
  rw [run_callFunc_extern hf hname hb hn he, h1]
  rfl

theorem RV.one {E : Env P} {a : AV} {vs : List Value} (hl : vs.length = 1) (hv : ∀ (i : Nat) x v, [a][i]? = some x → vs[i]? = some v → RV E x v) : ∃ v, vs = [v] ∧ RV E a v := by
  match vs, hl with
  | [v], _ => exact ⟨v, rfl, hv 0 a v rfl rfl⟩

theorem bits_call {k : FloatKind} {kd : IntKind} {f : FuncId} {fn : Func} {e : Array Value → Sem Value} (hf : P.funcs[f]? = some fn) (hname : (fn.name == "runtime.NumGoroutine") = false)
    (hb : fn.body.isNone = true) (hn : Extern.findNext fn = none) (he : Extern.find fn = some e) (hE : ∀ b w, (e #[.float k b]).run P w = .ok (.int kd b) w)
    (x : Nat) (hx : (k.decode x).isNaN = false) : CallA P f [.flt k x] [] (fun r hp => r = .int kd x ∧ hp = []) := by
  refine ext_call hf hname hb hn he fun E vs hl hv => ?_
  obtain ⟨v, rfl, h⟩ := RV.one hl hv
  cases h with
  | flt _ _ b hc =>
    have : b = x := by
      rw [← hc] at hx
      rw [← hc, decode_canon_not hx]
    subst this
    exact ⟨_, _, hE b E.w, .int kd b, rfl, rfl⟩
theorem frombits_call {k : FloatKind} {kd : IntKind} {f : FuncId} {fn : Func} {e : Array Value → Sem Value} (hf : P.funcs[f]? = some fn) (hname : (fn.name == "runtime.NumGoroutine") = false)
    (hb : fn.body.isNone = true) (hn : Extern.findNext fn = none) (he : Extern.find fn = some e) (hE : ∀ n w, (e #[.int kd n]).run P w = .ok (.float k n.toNat) w)
    (n : Int) : CallA P f [.int kd n] [] (fun r hp => r = .flt k (canon k n.toNat) ∧ hp = []) := by
  refine ext_call hf hname hb hn he fun E vs hl hv => ?_
  obtain ⟨v, rfl, h⟩ := RV.one hl hv
  cases h with
  | int => exact ⟨_, _, hE n E.w, .flt k _ _ rfl, rfl, rfl⟩
end

/-- A float that is a number, neither infinite nor none. -/
def finB (k : FloatKind) (x : Nat) : Bool := match k.decode x with
  | .number _ _ _ => true
  | _ => false
/-- A float that is infinite. -/
def infB (k : FloatKind) (x : Nat) : Bool := (k.decode x).isInfinity

theorem decode_zero (k : FloatKind) : k.decode 0 = .number false 0 k.format.leastPlace := by cases k <;> rfl
theorem canon_zero (k : FloatKind) : canon k 0 = 0 := by cases k <;> rfl
theorem canon_max : canon .f64 9218868437227405311 = 9218868437227405311 := by decide +kernel
theorem canon_one : canon .f32 1065353216 = 1065353216 := by rfl
theorem format_read (k : FloatKind) (x : Nat) : k.format.read x = k.decode x := rfl
theorem ford_self (k : FloatKind) (x : Nat) : k.format.order x x = if (k.decode x).isNaN then none else some .eq := by
  unfold Ieee.Format.order
  rw [format_read]
  cases h : (k.decode x).isNaN with
  | false => exact order_self h
  | true => cases hd : k.decode x <;> simp_all [Ieee.Datum.order, Ieee.Datum.isNaN]
theorem feq_same (k : FloatKind) (x : Nat) : feq k x x = !(k.decode x).isNaN := by
  unfold feq; rw [ford_self]; cases (k.decode x).isNaN <;> rfl
theorem nanOf_order (k : FloatKind) (y : Nat) : k.format.order (nanOf k) y = none := by
  unfold Ieee.Format.order
  have := nanOf_isNaN k
  rw [format_read]
  cases h : k.decode (nanOf k) with
  | nan s t => rfl
  | _ => simp [h, Ieee.Datum.isNaN] at this

/-- x - x is 0 for numbers alone. -/
theorem feq_sub_self (k : FloatKind) (x : Nat) : feq k (fsub k x x) 0 = finB k x := by
  unfold fsub Ieee.Format.sub finB
  rw [format_read]
  cases h : k.decode x with
  | nan s t => simp [Ieee.Datum.opposite, Ieee.Datum.sum, fnum, feq, nanOf_order]
  | infinity s => cases s <;> simp [Ieee.Datum.opposite, Ieee.Datum.sum, fnum, feq, nanOf_order]
  | number s m i =>
    have e : (Ieee.Datum.number s m i).sum (Ieee.Datum.number s m i).opposite = some (.number false 0 i) := by
      have z : ∀ a : Int, a + -a = 0 ∧ -a + a = 0 := fun a => by omega
      cases s <;> simp [Ieee.Datum.opposite, Ieee.Datum.sum, Ieee.signed, z]
    rw [e]
    have e2 : k.format.write (.number false 0 i) = 0 := by
      simp [Ieee.Format.write, Ieee.Format.nearest, Ieee.Format.word]
    simp only [Option.map_some, fnum, e2, canon_zero]
    rw [feq_same, decode_zero]
    rfl

theorem read_double (x : Nat) (s : Bool) (m : Nat) (e : Int) (h : FloatKind.f64.decode x = .number s m e) : m < 9007199254740992 ∧ -1074 ≤ e ∧ e ≤ 971 := by
  have hb : Ieee.double.binade = 4503599627370496 := by decide
  have hl : Ieee.double.leastPlace = -1074 := by decide
  have hi : Ieee.double.infRung = 9218868437227405312 := by decide
  have h' : Ieee.double.read x = .number s m e := h
  unfold Ieee.Format.read at h'
  simp only [hb, hl, hi] at h'
  generalize x % Ieee.double.signWeight = r at h'
  split at h'
  · injection h' with h1 h2 h3; subst h2; subst h3; exact ⟨by omega, by omega, by omega⟩
  · split at h'
    · injection h' with h1 h2 h3
      subst h2; subst h3
      have : r / 4503599627370496 ≤ 2046 := by omega
      have hm := Nat.mod_lt r (y := 4503599627370496) (by omega)
      exact ⟨by omega, by omega, by omega⟩
    · split at h' <;> cases h'

/-- What the words without the sign bit stand for. -/
theorem decode_abs (x : Nat) : FloatKind.f64.decode (x % 9223372036854775808) = match FloatKind.f64.decode x with
    | .number _ m e => .number false m e
    | .infinity _ => .infinity false
    | .nan _ t => .nan false t := by
  have hs : Ieee.double.signWeight = 9223372036854775808 := by decide
  show Ieee.double.read _ = match Ieee.double.read x with
    | .number _ m e => .number false m e
    | .infinity _ => .infinity false
    | .nan _ t => .nan false t
  unfold Ieee.Format.read
  simp only [hs, Nat.mod_mod]
  have : x % 9223372036854775808 / 9223372036854775808 = 0 := Nat.div_eq_of_lt (Nat.mod_lt _ (by omega))
  rw [this]
  by_cases h1 : x % 9223372036854775808 < Ieee.double.binade
  · simp [h1]
  · by_cases h2 : x % 9223372036854775808 < Ieee.double.infRung
    · simp [h1, h2]
    · by_cases h3 : x % 9223372036854775808 = Ieee.double.infRung
      · rw [if_neg h1, if_neg h2, if_pos h3, if_neg h1, if_neg h2, if_pos h3]; rfl
      · simp [h1, h2, h3]

/-- Greater than the greatest number, without the sign: infinite. -/
theorem fgt_max (x : Nat) : fgt .f64 (x % 9223372036854775808) 9218868437227405311 = infB .f64 x := by
  have hm : FloatKind.f64.decode 9218868437227405311 = .number false 9007199254740991 971 := by decide +kernel
  unfold fgt infB Ieee.Format.order
  rw [format_read, format_read, decode_abs, hm]
  cases h : FloatKind.f64.decode x with
  | nan s t => rfl
  | infinity s => rfl
  | number s m e =>
    obtain ⟨h1, h2, h3⟩ := read_double x s m e h
    simp only [Ieee.Datum.order, Ieee.Datum.isInfinity]
    have hmin : min e 971 = e := by omega
    rw [hmin]
    have : ¬ (compare (Ieee.signed false m (e - e).toNat) (Ieee.signed false 9007199254740991 (971 - e).toNat) = .gt) := by
      intro hc
      have hc' := Int.compare_eq_gt.1 hc
      simp only [Ieee.signed, Bool.false_eq_true, if_false, Int.sub_self, Int.toNat_zero, Nat.shiftLeft_zero, Nat.shiftLeft_eq] at hc'
      have : 1 ≤ 2 ^ (971 - e).toNat := Nat.one_le_two_pow
      have h5 : (9007199254740991 : Nat) * 1 ≤ 9007199254740991 * 2 ^ (971 - e).toNat := Nat.mul_le_mul_left _ this
      omega
    cases hc : compare (Ieee.signed false m (e - e).toNat) (Ieee.signed false 9007199254740991 (971 - e).toNat) <;> simp_all
theorem fin_of (k : FloatKind) (x : Nat) : finB k x = (!(k.decode x).isNaN && !infB k x) := by
  unfold finB infB
  cases k.decode x <;> rfl

/-- Made wide, a float32 stays what it is: none, infinite or a number. -/
theorem wide_lt (x : Nat) : fconv .f64 .f32 x < 18446744073709551616 := by
  unfold fconv
  rw [if_neg (by decide)]
  have key : ∀ d, canon .f64 (FloatKind.f64.encode d) < 18446744073709551616 := by
    intro d
    unfold canon
    split
    · decide
    · have := Ieee.Format.write_lt Ieee.double d
      exact this
  split
  · decide
  · exact key _
  · exact key _
theorem wide_nan (x : Nat) : (FloatKind.f64.decode (fconv .f64 .f32 x)).isNaN = (FloatKind.f32.decode x).isNaN := by
  unfold fconv
  rw [if_neg (by decide)]
  cases h : FloatKind.f32.decode x with
  | nan s t => exact nanOf_isNaN .f64
  | infinity s => cases s <;> rfl
  | number s m e =>
    obtain ⟨hm, h1, h2⟩ := read_single x s m e h
    obtain ⟨r, e1, e2⟩ := near_wide s m e hm h1 h2
    show (FloatKind.f64.decode (canon .f64 (FloatKind.f64.encode (.number s m e)))).isNaN = false
    rw [canon_isNaN]
    have e3 : FloatKind.f64.encode (.number s m e) = Ieee.double.word s r := e1
    rw [e3]
    have hi : Ieee.double.infRung < Ieee.double.signWeight := by decide
    show (Ieee.double.read _).isNaN = false
    unfold Ieee.Format.read
    simp only [word_mod Ieee.double s r (by omega)]
    split
    · rfl
    · rfl
theorem wide_inf (x : Nat) : infB .f64 (fconv .f64 .f32 x) = infB .f32 x := by
  unfold infB
  cases h : FloatKind.f32.decode x with
  | nan s t => unfold fconv; rw [if_neg (by decide), h]; rfl
  | infinity s => unfold fconv; rw [if_neg (by decide), h]; cases s <;> rfl
  | number s m e =>
    have hk := wide_ok x
    unfold fconvOk at hk
    rcases hk with hk | hk
    · cases hk
    · rw [h] at hk
      have hk : (FloatKind.f64.decode (FloatKind.f64.encode (.number s m e))).isInfinity = false := hk
      have hn := wide_nan x
      unfold fconv at hn ⊢
      rw [if_neg (by decide), h] at hn ⊢
      have hn : (FloatKind.f64.decode (canon .f64 (FloatKind.f64.encode (.number s m e)))).isNaN = false := hn
      show (FloatKind.f64.decode (canon .f64 (FloatKind.f64.encode (.number s m e)))).isInfinity = false
      rw [decode_canon_not hn]
      exact hk
theorem wide_fin (x : Nat) : finB .f64 (fconv .f64 .f32 x) = finB .f32 x := by
  rw [fin_of, fin_of, wide_nan, wide_inf]

/-- Of numbers, less than is not at least. -/
theorem flt_fge (k : FloatKind) (x y : Nat) (hx : finB k x = true) (hy : finB k y = true) : flt k x y = !fge k x y := by
  unfold flt fge Ieee.Format.order
  rw [format_read, format_read]
  unfold finB at hx hy
  cases h1 : k.decode x <;> rw [h1] at hx <;> try (cases hx)
  cases h2 : k.decode y <;> rw [h2] at hy <;> try (cases hy)
  simp only [Ieee.Datum.order]
  generalize compare (Ieee.signed _ _ _) (Ieee.signed _ _ _) = o
  cases o <;> rfl
/-! Sums and products of what is no number are no number. -/
theorem fin_nan (k : FloatKind) : finB k (nanOf k) = false := by cases k <;> rfl
theorem fin_inf (k : FloatKind) (s : Bool) : finB k (canon k (k.format.write (.infinity s))) = false := by cases k <;> cases s <;> rfl
theorem fin_add_left (k : FloatKind) (x y : Nat) (h : finB k x = false) : finB k (fadd k x y) = false := by
  unfold fadd Ieee.Format.add
  rw [format_read, format_read]
  unfold finB at h
  cases hx : k.decode x with
  | number s m e => rw [hx] at h; cases h
  | nan s t => cases k.decode y <;> exact fin_nan k
  | infinity s =>
    cases hy : k.decode y with
    | nan s t => exact fin_nan k
    | number s m e => exact fin_inf k _
    | infinity t =>
      simp only [Ieee.Datum.sum]
      split
      · exact fin_inf k _
      · exact fin_nan k
theorem fin_add_right (k : FloatKind) (x y : Nat) (h : finB k y = false) : finB k (fadd k x y) = false := by
  unfold fadd Ieee.Format.add
  rw [format_read, format_read]
  unfold finB at h
  cases hy : k.decode y with
  | number s m e => rw [hy] at h; cases h
  | nan s t => cases k.decode x <;> exact fin_nan k
  | infinity s =>
    cases hx : k.decode x with
    | nan s t => exact fin_nan k
    | number s m e => exact fin_inf k _
    | infinity t =>
      simp only [Ieee.Datum.sum]
      split
      · exact fin_inf k _
      · exact fin_nan k
theorem fin_sub_left (k : FloatKind) (x y : Nat) (h : finB k x = false) : finB k (fsub k x y) = false := by
  unfold fsub Ieee.Format.sub
  rw [format_read, format_read]
  unfold finB at h
  cases hx : k.decode x with
  | number s m e => rw [hx] at h; cases h
  | nan s t => cases k.decode y <;> exact fin_nan k
  | infinity s =>
    cases hy : k.decode y with
    | nan s t => exact fin_nan k
    | number s m e => exact fin_inf k _
    | infinity t =>
      simp only [Ieee.Datum.opposite, Ieee.Datum.sum]
      split
      · exact fin_inf k _
      · exact fin_nan k
theorem fin_mul_left (k : FloatKind) (x y : Nat) (h : finB k x = false) : finB k (fmul k x y) = false := by
  unfold fmul Ieee.Format.mul
  rw [format_read, format_read]
  unfold finB at h
  cases hx : k.decode x with
  | number s m e => rw [hx] at h; cases h
  | nan s t => cases k.decode y <;> exact fin_nan k
  | infinity s =>
    cases hy : k.decode y with
    | nan s t => exact fin_nan k
    | infinity t => exact fin_inf k _
    | number s m e =>
      simp only [Ieee.Datum.product]
      split
      · exact fin_nan k
      · exact fin_inf k _

/-! The nearest word depends on the value alone. -/
theorem log2_up (n a : Nat) (hn : n ≠ 0) : (n * 2 ^ a).log2 = n.log2 + a := by
  obtain ⟨h1, h2⟩ := (Nat.log2_eq_iff hn).1 rfl
  rw [Nat.log2_eq_iff (Nat.mul_ne_zero hn (Nat.pos_iff_ne_zero.1 (Nat.two_pow_pos a)))]
  constructor
  · rw [Nat.pow_add]; exact Nat.mul_le_mul_right _ h1
  · rw [show n.log2 + a + 1 = n.log2 + 1 + a from by omega, Nat.pow_add]
    exact Nat.mul_lt_mul_of_pos_right h2 (Nat.two_pow_pos a)
theorem cut_scale (neg : Bool) (n d a : Nat) (hn : n ≠ 0) : Ieee.Toward.even.cut neg (n * 2 ^ a) (d + a) = Ieee.Toward.even.cut neg n d := by
  have hp : 0 < 2 ^ a := Nat.two_pow_pos a
  have e : (n * 2 ^ a).log2 = n.log2 + a := log2_up n a hn
  have e2 : min (d + a) (n.log2 + a + 2) = min d (n.log2 + 2) + a := by omega
  unfold Ieee.Toward.cut
  simp only [e, e2, Nat.shiftLeft_eq, Nat.one_mul, Nat.pow_add]
  rw [Nat.mul_div_mul_right _ _ hp, Nat.mul_mod_mul_right]
  generalize n % 2 ^ min d (n.log2 + 2) = r
  generalize 2 ^ min d (n.log2 + 2) = g
  have c1 : (g * 2 ^ a < 2 * (r * 2 ^ a)) = (g < 2 * r) := by
    rw [← Nat.mul_assoc]
    exact propext (Nat.mul_lt_mul_right hp)
  have c2 : (g * 2 ^ a == 2 * (r * 2 ^ a)) = (g == 2 * r) := by
    rw [← Nat.mul_assoc, Bool.eq_iff_iff, beq_iff_eq, beq_iff_eq]
    exact Nat.mul_right_cancel_iff hp
  simp only [c1, c2]

theorem nearest_scale (f : Ieee.Format) (neg : Bool) (m a : Nat) (p : Int) : f.nearest neg (m * 2 ^ a) (p - a) = f.nearest neg m p := by
  unfold Ieee.Format.nearest
  by_cases h0 : m = 0
  · subst h0; simp
  have h1 : m * 2 ^ a ≠ 0 := Nat.mul_ne_zero h0 (Nat.pos_iff_ne_zero.1 (Nat.two_pow_pos a))
  rw [if_neg h0, if_neg h1]
  have e : (m * 2 ^ a).log2 = m.log2 + a := log2_up m a h0
  have e2 : p - a + ((m.log2 + a : Nat) : Int) - f.fractionBits = p + m.log2 - f.fractionBits := by omega
  simp only [e, e2]
  generalize max (p + (m.log2 : Int) - f.fractionBits) f.leastPlace = last
  suffices hs : Ieee.Toward.even.cut neg ((m * 2 ^ a) <<< (p - a - last).toNat) (last - (p - a)).toNat = Ieee.Toward.even.cut neg (m <<< (p - last).toNat) (last - p).toNat by rw [hs]
  by_cases c1 : last ≤ p - a
  · rw [show (last - (p - a)).toNat = 0 from by omega, show (last - p).toNat = 0 from by omega, cut_none .even, cut_none .even, Nat.shiftLeft_eq, Nat.shiftLeft_eq, Nat.mul_assoc, ← Nat.pow_add]
    congr 2; omega
  · by_cases c2 : last ≤ p
    · rw [show (p - a - last).toNat = 0 from by omega, show (last - p).toNat = 0 from by omega, cut_none .even, Nat.shiftLeft_zero, Nat.shiftLeft_eq]
      have e3 : m * 2 ^ a = m * 2 ^ (p - last).toNat * 2 ^ (last - (p - a)).toNat := by
        rw [Nat.mul_assoc, ← Nat.pow_add]; congr 2; omega
      rw [e3]
      have := cut_scale neg (m * 2 ^ (p - last).toNat) 0 (last - (p - a)).toNat (Nat.mul_ne_zero h0 (Nat.pos_iff_ne_zero.1 (Nat.two_pow_pos _)))
      rw [Nat.zero_add] at this
      rw [this, cut_none .even]
    · rw [show (p - a - last).toNat = 0 from by omega, show (p - last).toNat = 0 from by omega, Nat.shiftLeft_zero, Nat.shiftLeft_zero, show (last - (p - a)).toNat = (last - p).toNat + a from by omega]
      exact cut_scale neg m _ a h0

/-- Half of a float32, both ways. -/
theorem half_two (x : Nat) : fmul .f32 1056964608 x = fdiv .f32 x 1073741824 := by
  have h1 : FloatKind.f32.decode 1056964608 = .number false 8388608 (-24) := by decide +kernel
  have h2 : FloatKind.f32.decode 1073741824 = .number false 8388608 (-22) := by decide +kernel
  unfold fmul fdiv Ieee.Format.mul Ieee.Format.div
  rw [format_read, format_read, format_read, h1, h2]
  cases h : FloatKind.f32.decode x with
  | nan s t => rfl
  | infinity s => simp [Ieee.Datum.product, Ieee.Datum.quotient]
  | number s m i =>
    obtain ⟨hm, _, _⟩ := read_single x s m i h
    have hf : FloatKind.f32.format.fractionBits + 2 = 25 := rfl
    have hl : (8388608 : Nat).log2 = 23 := by decide +kernel
    rw [hf]
    simp only [Ieee.Datum.product, Ieee.Datum.quotient, hl]
    rw [if_neg (by decide)]
    have hlog : m.log2 ≤ 23 := by
      by_cases h0 : m = 0
      · subst h0; decide
      · have := (Nat.log2_lt h0 (k := 24)).2 (by omega)
        omega
    have e1 : m <<< (25 + 23 - m.log2) = m * 2 ^ (25 - m.log2) * 8388608 := by
      rw [Nat.shiftLeft_eq, show (8388608 : Nat) = 2 ^ 23 from rfl, Nat.mul_assoc, ← Nat.pow_add]
      congr 2; omega
    rw [e1, Nat.mul_div_cancel _ (by omega), Nat.mul_mod_left]
    have e2 : 2 * (m * 2 ^ (25 - m.log2)) = m * 2 ^ (26 - m.log2) := by
      rw [show 26 - m.log2 = 25 - m.log2 + 1 from by omega, Nat.pow_succ]
      ac_rfl
    simp only [bne_self_eq_false, Bool.toNat_false, Nat.add_zero, Option.map_some, fnum, Bool.false_bne, Bool.bne_false, Ieee.Format.write, e2, Bool.false_xor, Bool.xor_false]
    have e3 : FloatKind.f32.format.nearest s (8388608 * m) (-24 + i) = FloatKind.f32.format.nearest s m (i - 1) := by
      have := nearest_scale FloatKind.f32.format s m 23 (i - 1)
      rw [← this, Nat.mul_comm]
      congr 1; omega
    have e4 : FloatKind.f32.format.nearest s (m * 2 ^ (26 - m.log2)) (i - -22 - ((25 + 23 - m.log2 : Nat) : Int) - 1) = FloatKind.f32.format.nearest s m (i - 1) := by
      have := nearest_scale FloatKind.f32.format s m (26 - m.log2) (i - 1)
      rw [← this]
      congr 1; omega
    rw [e3, e4]
/-! Arguments one after another; lists. -/
theorem rvs_nil {E : Env P} : ∀ (i : Nat) a v, ([] : List AV)[i]? = some a → ([] : List Value)[i]? = some v → RV E a v := by intro i a v h; simp at h
theorem rvs_cons {E : Env P} {a : AV} {v : Value} {l : List AV} {vs : List Value} (h : RV E a v) (hs : ∀ (i : Nat) a v, l[i]? = some a → vs[i]? = some v → RV E a v) : ∀ (i : Nat) a' v', (a :: l)[i]? = some a' → (v :: vs)[i]? = some v' → RV E a' v' := by
  intro i a' v' h1 h2
  cases i with
  | zero => simp at h1 h2; subst h1; subst h2; exact h
  | succ i => exact hs i a' v' (by simpa using h1) (by simpa using h2)

/-- The place of the first that fits, from 'i' on; -1 if none does. -/
def findI {α : Type} (q : α → Bool) : List α → Nat → Int
  | [], _ => -1
  | x :: xs, i => if q x then i else findI q xs (i + 1)
theorem findI_any {α : Type} (q : α → Bool) : ∀ (xs : List α) (i : Nat), decide (findI q xs i ≥ 0) = xs.any q
  | [], _ => rfl
  | x :: xs, i => by
    unfold findI
    cases h : q x with
    | true => simp [h]
    | false => simp [h, ← findI_any q xs (i + 1)]
theorem drop_at {α : Type} (xs : List α) (i : Nat) (h : i < xs.length) : xs.drop i = xs[i] :: xs.drop (i + 1) := List.drop_eq_getElem_cons h
theorem findI_step {α : Type} (q : α → Bool) (xs : List α) (i : Nat) (h : i < xs.length) : findI q (xs.drop i) i = if q xs[i] then (i : Int) else findI q (xs.drop (i + 1)) (i + 1) := by
  rw [drop_at xs i h]; rfl
theorem all_no {α : Type} {p : α → Bool} {xs : List α} (i : Nat) (h : i < xs.length) (hx : p xs[i] = false) : xs.all p = false := by
  rw [List.all_eq_false]
  exact ⟨xs[i], List.getElem_mem h, by simp [hx]⟩
theorem all_take {α : Type} {p : α → Bool} {xs : List α} (i : Nat) (h : i < xs.length) (hx : p xs[i] = true) (ht : (xs.take i).all p = true) : (xs.take (i + 1)).all p = true := by
  rw [take_snoc _ _ h, List.all_append, ht]; simp [hx]
theorem any_not {α : Type} (p : α → Bool) (xs : List α) : (!xs.any fun x => !p x) = xs.all p := by
  induction xs with
  | nil => rfl
  | cons x xs ih => simp only [List.any_cons, List.all_cons, ← ih, Bool.not_or, Bool.not_not]

/-- The sum of float32s, from 0 on. -/
def sumF (xs : List Nat) : Nat := xs.foldl (fadd .f32) 0
theorem sumF_take (xs : List Nat) (i : Nat) (h : i < xs.length) : sumF (xs.take (i + 1)) = fadd .f32 (sumF (xs.take i)) xs[i] := by
  unfold sumF; rw [take_snoc _ _ h, List.foldl_append]; rfl
/-- A finite number, not negative; one from 0 to 1. -/
def okN (x : Nat) : Bool := finB .f32 x && fge .f32 x 0
def okS (x : Nat) : Bool := fge .f32 x 0 && fle .f32 x 1065353216
def peopleB (cs ss bs : List Nat) : Bool := decide (2 ≤ cs.length) && decide (cs.length ≤ 12) && decide (ss.length = cs.length) && decide (bs.length = cs.length) && cs.all okN && ss.all okS && bs.all okN
theorem okN_alt (x : Nat) : (!okN x) = (!finB .f32 x || flt .f32 x 0) := by
  unfold okN
  cases h : finB .f32 x with
  | false => rfl
  | true => rw [flt_fge .f32 x 0 h rfl]; rfl
theorem bits_abs (x : Nat) (h : x < 18446744073709551616) : (IntKind.u64.wrap (((BitVec.ofInt IntKind.u64.bits (x : Int) &&& ~~~BitVec.ofInt IntKind.u64.bits 9223372036854775808).toNat : Nat) : Int)).toNat = x % 9223372036854775808 := by
  have e : (~~~BitVec.ofInt 64 9223372036854775808).toNat = 2 ^ 63 - 1 := by decide
  have e2 : (BitVec.ofInt 64 (x : Int)).toNat = x := by
    rw [BitVec.toNat_ofInt]; omega
  show (IntKind.u64.wrap (((BitVec.ofInt 64 (x : Int) &&& ~~~BitVec.ofInt 64 9223372036854775808).toNat : Nat) : Int)).toNat = _
  rw [BitVec.toNat_and, e, e2, Nat.and_two_pow_sub_one_eq_mod]
  have : x % 2 ^ 63 < 2 ^ 63 := Nat.mod_lt _ (by decide)
  have e3 : IntKind.u64.wrap ((x % 2 ^ 63 : Nat) : Int) = ((x % 2 ^ 63 : Nat) : Int) := by
    unfold IntKind.wrap
    simp only [IntKind.bits, IntKind.signed, Bool.false_and, Bool.false_eq_true, if_false]
    omega
  rw [e3, Int.toNat_natCast]
theorem abs_nan (x : Nat) (h : (FloatKind.f64.decode x).isNaN = false) : canon .f64 (x % 9223372036854775808) = x % 9223372036854775808 := by
  apply canon_of_not
  rw [decode_abs]
  cases hd : FloatKind.f64.decode x <;> simp_all [Ieee.Datum.isNaN]
theorem flts_cells (xs : List Nat) : ∀ a ∈ flts xs, a.cells.length = 1 := by
  intro a ha
  simp only [flts, List.mem_map] at ha
  obtain ⟨x, _, rfl⟩ := ha
  rfl
theorem ints_cells (xs : List Int) : ∀ a ∈ ints xs, a.cells.length = 1 := by
  intro a ha
  simp only [ints, List.mem_map] at ha
  obtain ⟨x, _, rfl⟩ := ha
  rfl
theorem fill_set {α : Type} (xs : List α) (i : Nat) (z : α) (h : i < xs.length) : (xs.take i ++ List.replicate (xs.length - i) z).set i xs[i] = xs.take (i + 1) ++ List.replicate (xs.length - (i + 1)) z := by
  rw [List.set_append_right _ _ (by simp; omega)]
  have : xs.length - i = xs.length - (i + 1) + 1 := by omega
  rw [this, List.replicate_succ, take_snoc _ _ h]
  have e : i - (xs.take i).length = 0 := by simp; omega
  rw [e, List.set_cons_zero, List.append_assoc]
  rfl
theorem flts_fill (xs : List Nat) : flts (xs.take 0 ++ List.replicate (xs.length - 0) 0) = List.replicate xs.length (.flt .f32 0) := by simp [flts]
theorem flts_rep (n : Nat) : flts (List.replicate n 0) = List.replicate n (.flt .f32 0) := by simp [flts]
theorem ints_rep (n : Nat) : ints (List.replicate n 0) = List.replicate n (.int .i64 0) := by simp [ints]
theorem flts_full (xs : List Nat) : xs.take xs.length ++ List.replicate (xs.length - xs.length) 0 = xs := by simp
theorem ints_fill (xs : List Int) : ints (xs.take 0 ++ List.replicate (xs.length - 0) 0) = List.replicate xs.length (.int .i64 0) := by simp [ints]
theorem ints_full (xs : List Int) : xs.take xs.length ++ List.replicate (xs.length - xs.length) 0 = xs := by simp
theorem fill_len {α : Type} (xs : List α) (i : Nat) (z : α) (h : i ≤ xs.length) : (xs.take i ++ List.replicate (xs.length - i) z).length = xs.length := by simp; omega
end Go.Abs
