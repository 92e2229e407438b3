/- A number cut to a whole one. -/
import Derived.Test.YtpjifmfpddjeiaaAlA
set_option maxRecDepth 10000
set_option maxHeartbeats 2000000
set_option linter.unusedSimpArgs false
set_option linter.unusedVariables false
namespace Go.Proofs.Ytpjifmfpddjeiaa
open Go Go.Abs

theorem low_cut (way : Ieee.Toward) (neg : Bool) (n d : Nat) (h : way = .zero ∨ (way = .down ∧ (neg = false ∨ n = 0))) : way.cut neg n d = n / 2 ^ d := by
  have e : n / (1 <<< min d (n.log2 + 2)) = n / 2 ^ d := by
    rw [Nat.shiftLeft_eq, Nat.one_mul]
    rcases Nat.le_total d (n.log2 + 2) with hd | hd
    · rw [Nat.min_eq_left hd]
    · rw [Nat.min_eq_right hd]
      have l := @Nat.lt_log2_self n
      have m1 : 2 ^ (n.log2 + 1) ≤ 2 ^ (n.log2 + 2) := Nat.pow_le_pow_right (by decide) (by omega)
      have m2 : 2 ^ (n.log2 + 2) ≤ 2 ^ d := Nat.pow_le_pow_right (by decide) hd
      rw [Nat.div_eq_of_lt (by omega), Nat.div_eq_of_lt (by omega)]
  rcases h with rfl | ⟨rfl, rfl | rfl⟩
  · show n / (1 <<< min d (n.log2 + 2)) + (false).toNat = _
    rw [e]; rfl
  · show n / (1 <<< min d (n.log2 + 2)) + (false && n % (1 <<< min d (n.log2 + 2)) != 0).toNat = _
    rw [e, Bool.false_and]; rfl
  · show 0 / (1 <<< min d ((0 : Nat).log2 + 2)) + (neg && 0 % (1 <<< min d ((0 : Nat).log2 + 2)) != 0).toNat = _
    rw [e, Nat.zero_mod]
    cases neg <;> rfl
theorem whole_num (way : Ieee.Toward) (s : Bool) (m : Nat) (e : Int) (h : way = .zero ∨ (way = .down ∧ (s = false ∨ m = 0))) :
    ((way.cut s (m <<< e.toNat) (-e).toNat : Nat) : Rat) ≤ (m : Rat) * p2 e ∧ (m : Rat) * p2 e < ((way.cut s (m <<< e.toNat) (-e).toNat : Nat) : Rat) + 1 := by
  have hs : m <<< e.toNat = m * 2 ^ e.toNat := natShift _ _
  rw [low_cut way s _ _ (h.imp id fun ⟨a, b⟩ => ⟨a, b.imp id fun z => by rw [hs, z, Nat.zero_mul]⟩), hs]
  have hv : (m : Rat) * p2 e * p2 ((-e).toNat : Int) = ((m * 2 ^ e.toNat : Nat) : Rat) := by
    rw [Rat.natCast_mul, ← p2_nat, Rat.mul_assoc, ← p2_add]
    congr 2
    omega
  have hD := p2_pos ((-e).toNat : Int)
  have hDn := p2_nat (-e).toNat
  have hp := Nat.two_pow_pos (-e).toNat
  generalize (m : Rat) * p2 e = v at *
  generalize m * 2 ^ e.toNat = N at *
  generalize p2 ((-e).toNat : Int) = D at *
  generalize 2 ^ (-e).toNat = d at *
  subst hDn
  have q1 : ((N / d * d : Nat) : Rat) ≤ (N : Rat) := cast_le (Nat.div_mul_le_self N d)
  have q2 : ((N + 1 : Nat) : Rat) ≤ (((N / d + 1) * d : Nat) : Rat) := cast_le (by have := Nat.lt_div_mul_add (a := N) hp; rw [Nat.add_mul, Nat.one_mul]; omega)
  rw [Rat.natCast_mul] at q1 q2
  rw [Rat.natCast_add, Rat.natCast_add] at q2
  rw [← hv] at q1 q2
  generalize ((N / d : Nat) : Rat) = c at *
  constructor
  · apply Classical.byContradiction
    intro hn
    have h6 := Rat.mul_lt_mul_of_pos_right (show v < c by grind) hD
    grind
  · apply Classical.byContradiction
    intro hn
    have h6 := Rat.mul_le_mul_of_nonneg_right (show c + 1 ≤ v by grind) (Rat.le_of_lt hD)
    grind
def flF (x : Nat) : Nat := canon .f64 (FloatKind.f64.encode ((FloatKind.f64.decode x).integral .down))
theorem nat_le_of {a b : Nat} (h : (a : Rat) < (b : Rat) + 1) : a ≤ b := by
  apply Classical.byContradiction
  intro hn
  have h2 : ((b + 1 : Nat) : Rat) ≤ (a : Rat) := cast_le (by omega)
  rw [Rat.natCast_add] at h2
  grind
theorem to_whole {y : Nat} {n : Nat} (hf : finB .f64 y = true) (h : fval .f64 y = (n : Rat)) : (FloatKind.f64.decode y).toInt .zero = some (n : Int) := by
  obtain ⟨s, m, e, hd⟩ := fin_num hf
  rw [fval_of hd] at h
  have w := whole_num .zero s m e (.inl rfl)
  have nn := mag_nonneg m e
  have n0 : (0 : Rat) ≤ (n : Rat) := by exact_mod_cast Nat.zero_le n
  rw [hd]
  show some (Ieee.signed s (Ieee.Toward.zero.cut s (m <<< e.toNat) (-e).toNat) 0) = _
  generalize Ieee.Toward.zero.cut s (m <<< e.toNat) (-e).toNat = c at *
  have c0 : (0 : Rat) ≤ (c : Rat) := by exact_mod_cast Nat.zero_le c
  generalize (m : Rat) * p2 e = v at *
  cases s with
  | false =>
    have hv : v = (n : Rat) := by rw [← h]; show v = 1 * v; grind
    rw [hv] at w
    have e1 := nat_le_of (a := n) (b := c) w.2
    have e2 : c ≤ n := nat_le_of (by have := w.1; grind)
    have : c = n := by omega
    subst this
    simp [Ieee.signed]
  | true =>
    have hv : -v = (n : Rat) := by rw [← h]; show -v = -1 * v; grind
    have z : v = 0 := by grind
    have z2 : (n : Rat) = ((0 : Nat) : Rat) := by rw [← hv, z]; rfl
    have z3 : n = 0 := by exact_mod_cast z2
    have z4 : c ≤ 0 := nat_le_of (by have := w.1; rw [z] at this; have e0 : ((0 : Nat) : Rat) = 0 := rfl; grind)
    have z5 : c = 0 := by omega
    subst z3 z5
    rfl
theorem floor_ok {x : Nat} (hf : finB .f64 x = true) (h0 : 0 ≤ fval .f64 x) (h1 : fval .f64 x ≤ 1000000) : ∃ n : Nat, (n : Rat) ≤ fval .f64 x ∧ fval .f64 x < (n : Rat) + 1 ∧ (FloatKind.f64.decode (flF x)).toInt .zero = some (n : Int) := by
  obtain ⟨s, m, e, hd⟩ := fin_num hf
  have hv := fval_of hd
  have nn := mag_nonneg m e
  have hs : s = false ∨ m = 0 := by
    cases s with
    | false => exact .inl rfl
    | true =>
      refine .inr ?_
      have e1 : fval .f64 x = -((m : Rat) * p2 e) := by rw [hv]; show -1 * _ = _; grind
      have z : (m : Rat) * p2 e = 0 := by grind
      rcases Rat.mul_eq_zero.1 z with z | z
      · exact_mod_cast z
      · have := p2_pos e; grind
  have w := whole_num .down s m e (.inr ⟨rfl, hs⟩)
  have hx : fval .f64 x = (m : Rat) * p2 e := by
    rw [hv]
    rcases hs with rfl | rfl
    · show 1 * _ = _; grind
    · have e0 : ((0 : Nat) : Rat) = 0 := rfl
      rw [e0, Rat.zero_mul, Rat.mul_zero]
  rw [← hx] at w
  have hz : s = true → Ieee.Toward.down.cut s (m <<< e.toNat) (-e).toNat = 0 := by
    intro ht
    have hm : m = 0 := by rcases hs with h | h; · rw [h] at ht; cases ht
                          · exact h
    have := w.1
    rw [hx, hm] at this
    have e0 : ((0 : Nat) : Rat) = 0 := rfl
    have z4 : Ieee.Toward.down.cut s (m <<< e.toNat) (-e).toNat ≤ 0 := nat_le_of (by rw [hm]; rw [e0] at this ⊢; grind)
    omega
  refine ⟨_, w.1, w.2, to_whole ?_ ?_⟩
  all_goals
    unfold flF
    rw [hd]
  all_goals
    have hb : ((Ieee.Toward.down.cut s (m <<< e.toNat) (-e).toNat : Nat) : Rat) * p2 0 < p2 (top .f64) := lt_top64 (t := 20) (by rw [p2_zero, show (20 : Int) = ((20 : Nat) : Int) from rfl, p2_nat]; have := w.1; grind) (by decide)
    have r := rn_write .f64 s _ 0 hb
  · exact r.fin
  · have hr : Rep .f64 (sg s * (((Ieee.Toward.down.cut s (m <<< e.toNat) (-e).toNat : Nat) : Rat) * p2 0)) := by
      refine ⟨s, _, 0, ?_, by decide, rfl⟩
      have : Ieee.Toward.down.cut s (m <<< e.toNat) (-e).toNat ≤ 1000000 := nat_le_of (by have := w.1; have e1 : ((1000000 : Nat) : Rat) = 1000000 := rfl; grind)
      show _ < 2 ^ 53
      omega
    have hsm := r.same hr
    refine hsm.trans ?_
    cases s with
    | false => rw [p2_zero]; show 1 * _ = _; grind
    | true =>
      rw [hz rfl]
      have e0 : ((0 : Nat) : Rat) = 0 := rfl
      rw [e0, Rat.zero_mul, Rat.mul_zero]
theorem archFloor_call (x : Nat) (hx : finB .f64 x = true) : CallA Try.prog 28 [.flt .f64 x] [] (Ret (.flt .f64 (flF x)) []) := by
  refine ext_call (e := Extern.MathFloor.toIntegral "math.archFloor" .down) Try.func28 (by kernel_rfl) (by kernel_rfl) (by kernel_rfl) (by kernel_rfl) fun E vs hl hv => ?_
  obtain ⟨v, rfl, h⟩ := RV.one hl hv
  cases h with
  | flt _ _ b hc =>
    have hb : b = x := by
      have hn := fin_notnan hx
      rw [← hc] at hn
      rw [← hc, decode_canon_not hn]
    subst hb
    obtain ⟨s, m, e, hn⟩ := fin_num hx
    refine ⟨.float .f64 (FloatKind.f64.encode ((FloatKind.f64.decode b).integral .down)), .flt .f64 (flF b), ?_, .flt _ _ _ rfl, rfl, rfl⟩
    show (match FloatKind.f64.decode b with
      | .nan s t => _
      | d => pure (.float .f64 (FloatKind.f64.encode (d.integral .down))) : Sem Value).run _ _ = _
    rw [hn]
    rfl
theorem floor_call (x : Nat) (hx : finB .f64 x = true) : CallA Try.prog 24 [.flt .f64 x] [] (Ret (.flt .f64 (flF x)) []) := by
  refine CallP.out (t := .mk) (go_in (md := md24) mixed Try.func24 rfl go24 (by kernel_rfl) ?_)
  simp only [q0, q1, q2, q3, q4, q5, q6, q7, q8, q9, zq0, zq1, zq2, zq3, zq4, guardSlot, quietA, nilC, nilA, quietB, St.ev, St.put, St.after, Nat.reduceAdd, Nat.reduceSub, ofV, ofL, lenA, binA, intBin, fltBin, strBin, cpxBin, unA, convA, convB, convO, pickV, resL, oneA, indexA, indexS, isQuiet, loadA, loadC, storeA, fieldA, partA, sliceA, boundA, buildA, placeA, setAll, appendA, readSl, newEl, AV.cells, AV.solid, AV.one, kill, killM, killL, notInt, Int.reduceToNat, cond_true, cond_false, ↓reduceIte, reduceCtorEq, Nat.reduceLT, Nat.reduceLeDiff, Nat.reduceMul, Nat.reduceEqDiff, exists_eq', putF, implies_true, exists_true_left, tys0, tys1, tys2, und0, und1, und2, md24, Try.ntmps24, Try.results24]
  refine call_ret (archFloor_call x hx) rfl rfl ?_
  simp only [q0, q1, q2, q3, q4, q5, q6, q7, q8, q9, zq0, zq1, zq2, zq3, zq4, guardSlot, quietA, nilC, nilA, quietB, St.ev, St.put, St.after, Nat.reduceAdd, Nat.reduceSub, ofV, ofL, lenA, binA, intBin, fltBin, strBin, cpxBin, unA, convA, convB, convO, pickV, resL, oneA, indexA, indexS, isQuiet, loadA, loadC, storeA, fieldA, partA, sliceA, boundA, buildA, placeA, setAll, appendA, readSl, newEl, AV.cells, AV.solid, AV.one, kill, killM, killL, notInt, Int.reduceToNat, cond_true, cond_false, ↓reduceIte, reduceCtorEq, Nat.reduceLT, Nat.reduceLeDiff, Nat.reduceMul, Nat.reduceEqDiff, exists_eq', putF, implies_true, exists_true_left, tys0, tys1, tys2, und0, und1, und2, md24, Try.ntmps24, Try.results24]
  exact PostR.ret
end Go.Proofs.Ytpjifmfpddjeiaa
