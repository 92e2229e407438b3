/- Square roots. -/
import Derived.Test.YtkjabkgmkkcpdaaGreatDoorNmQ
set_option maxRecDepth 10000
set_option maxHeartbeats 4000000
set_option linter.unusedSimpArgs false
set_option linter.unusedVariables false
namespace Go.Proofs.YtkjabkgmkkcpdaaGreatDoor
open Go Go.Abs
theorem root_le (n : Nat) : ∀ (todo root : Nat), root * root ≤ n → Ieee.Datum.rootFrom n todo root * Ieee.Datum.rootFrom n todo root ≤ n
  | 0, root, h => h
  | todo + 1, root, h => by
    unfold Ieee.Datum.rootFrom
    refine root_le n todo _ ?_
    split
    · assumption
    · exact h
theorem self_le_sq (a : Nat) : a ≤ a * a := by
  cases a with
  | zero => exact Nat.zero_le _
  | succ a => exact Nat.le_mul_of_pos_left _ (by omega)
theorem pow_cancel {a b : Nat} : (a : Rat) * p2 b = ((a * 2 ^ b : Nat) : Rat) := by rw [p2_nat, ← Rat.natCast_mul]
theorem mag_lt {x : Nat} {s : Bool} {m : Nat} {e : Int} (h : FloatKind.f64.decode x = .number s m e) : m < 2 ^ 53 := by
  rw [← format_read] at h
  have hb : FloatKind.f64.format.binade = 2 ^ 52 := rfl
  unfold Ieee.Format.read at h
  dsimp only at h
  rw [hb] at h
  have ml : x % FloatKind.f64.format.signWeight % 2 ^ 52 < 2 ^ 52 := Nat.mod_lt _ (by decide)
  split at h
  · injection h with _ h2 _
    omega
  · split at h
    · injection h with _ h2 _
      omega
    · split at h <;> cases h
theorem sqrt_rn {x : Nat} (hf : finB .f64 x = true) (h0 : 0 ≤ fval .f64 x) (h1 : fval .f64 x ≤ p2 20) : ∃ r v, FloatKind.f64.format.sqrt x = some r ∧ Rn .f64 v (canon .f64 r) ∧ 0 ≤ v ∧ v ≤ p2 120 := by
  obtain ⟨s, m, i, hd⟩ := fin_num hf
  rw [fval_of hd] at h0 h1
  unfold Ieee.Format.sqrt
  rw [format_read, hd]
  unfold Ieee.Datum.root
  dsimp only
  by_cases hm : m = 0
  · subst hm
    rw [if_pos rfl]
    have z : sg s * (((0 : Nat) : Rat) * p2 i) = 0 := by rw [show ((0 : Nat) : Rat) = 0 from rfl, Rat.zero_mul, Rat.mul_zero]
    have w := rn_write .f64 s 0 i (by rw [show ((0 : Nat) : Rat) = 0 from rfl, Rat.zero_mul]; exact p2_pos _)
    rw [z] at w
    exact ⟨_, 0, rfl, w, by grind, Rat.le_of_lt (p2_pos _)⟩
  · have mp : 0 < m := by omega
    have m1 : (1 : Rat) ≤ (m : Rat) := by exact_mod_cast mp
    have ip := p2_pos i
    cases s with
    | true =>
      exfalso
      have e : sg true * ((m : Rat) * p2 i) = -((m : Rat) * p2 i) := by show -1 * _ = _; grind
      rw [e] at h0
      have := mul_le_r (Rat.le_of_lt ip) m1
      grind
    | false =>
      have hv : sg false * ((m : Rat) * p2 i) = (m : Rat) * p2 i := by show 1 * _ = _; grind
      rw [hv] at h1
      have i20 : i ≤ 20 := by
        apply Classical.byContradiction
        intro hn
        have h2 := p2_mono (show (21 : Int) ≤ i by omega)
        have h3 := mul_le_r (Rat.le_of_lt ip) m1
        have h4 : p2 21 = p2 20 * 2 := p2_add 20 1
        have h5 := p2_pos 20
        grind
      rw [if_neg hm, if_neg (by decide)]
      have fbe : FloatKind.f64.format.fractionBits = 52 := rfl
      rw [fbe]
      generalize hmo : 2 * (52 + 2) - m.log2 = mo
      have lg := mag_lt hd
      generalize hmb : mo + ((i - (mo : Int)) % 2).toNat = more
      have hmore : more ≤ 110 := by omega
      have wl := root_le (m <<< more) ((m <<< more).log2 / 2 + 1) 0 (Nat.zero_le _)
      generalize hw : Ieee.Datum.rootFrom (m <<< more) ((m <<< more).log2 / 2 + 1) 0 = wh at wl
      have w2 := self_le_sq wh
      have hb : (wh * wh != m <<< more).toNat ≤ 1 := by cases (wh * wh != m <<< more) <;> decide
      have n1 : 1 ≤ m * 2 ^ more := Nat.mul_pos mp (Nat.two_pow_pos _)
      rw [Nat.shiftLeft_eq] at wl
      generalize hM : 2 * wh + (wh * wh != m <<< more).toNat = M
      have hM4 : M ≤ 4 * m * 2 ^ more := by rw [Nat.mul_assoc]; omega
      generalize hE : (i - (more : Int)) / 2 - 1 = E
      have hE2 : (more : Int) + E ≤ 65 := by omega
      have b1 : (M : Rat) * p2 E ≤ p2 120 := by
        have c1 := mul_le_r (Rat.le_of_lt (p2_pos E)) (cast_le hM4)
        have c2 : ((4 * m * 2 ^ more : Nat) : Rat) * p2 E = ((4 * m : Nat) : Rat) * p2 ((more : Int) + E) := by
          rw [← pow_cancel, Rat.mul_assoc, ← p2_add]
        have c3 : ((4 * m : Nat) : Rat) ≤ p2 55 := by
          rw [show (55 : Int) = ((55 : Nat) : Int) from rfl, p2_nat]
          exact cast_le (by omega)
        have c4 := mul_le_r (Rat.le_of_lt (p2_pos ((more : Int) + E))) c3
        have c5 := p2_mono (show (55 : Int) + ((more : Int) + E) ≤ 120 by omega)
        rw [p2_add] at c5
        grind
      have mn := mag_nonneg M E
      have w := rn_write .f64 false M E (by
        have h5 := p2_mono (show (121 : Int) ≤ top .f64 by decide)
        have h6 : p2 121 = p2 120 * 2 := p2_add 120 1
        have := p2_pos 120
        grind)
      have e1 : sg false * ((M : Rat) * p2 E) = (M : Rat) * p2 E := by show 1 * _ = _; grind
      rw [e1] at w
      exact ⟨_, _, rfl, w, mn, b1⟩
def sqF (x : Nat) : Nat := canon .f64 ((FloatKind.f64.format.sqrt x).getD 0)
theorem sqF_rn {x : Nat} (hf : finB .f64 x = true) (h0 : 0 ≤ fval .f64 x) (h1 : fval .f64 x ≤ p2 20) : ∃ v, Rn .f64 v (sqF x) ∧ 0 ≤ v ∧ v ≤ p2 120 := by
  obtain ⟨r, v, e, h⟩ := sqrt_rn hf h0 h1
  exact ⟨v, by unfold sqF; rw [e]; exact h⟩
theorem sqrt0_call (x : Nat) (hf : finB .f64 x = true) (h0 : 0 ≤ fval .f64 x) (h1 : fval .f64 x ≤ p2 20) : CallA Tryz.prog 71 [.flt .f64 x] [] (Ret (.flt .f64 (sqF x)) []) := by
  obtain ⟨r, v, e, _⟩ := sqrt_rn hf h0 h1
  refine ext_call (e := Extern.MathSqrt.sqrt) Tryz.func71 (by kernel_rfl) (by kernel_rfl) (by kernel_rfl) (by kernel_rfl) fun E vs hl hv => ?_
  obtain ⟨v, rfl, h⟩ := RV.one hl hv
  cases h with
  | flt _ _ b hc =>
    have hb : b = x := by
      have hn : (FloatKind.f64.decode b).isNaN = false := by rw [← canon_isNaN, hc]; exact fin_notnan hf
      rw [canon_of_not hn] at hc
      exact hc
    subst hb
    refine ⟨.float .f64 r, .flt .f64 (sqF b), ?_, .flt _ _ _ (by unfold sqF; rw [e]; rfl), rfl, rfl⟩
    show (match FloatKind.f64.format.sqrt b with | some r => (pure (.float .f64 r) : Sem Value) | none => do pure (.float .f64 (← choose (.nanBits .f64 b b)))).run _ _ = _
    rw [e]
    rfl
theorem sqrt_call (x : Nat) (hf : finB .f64 x = true) (h0 : 0 ≤ fval .f64 x) (h1 : fval .f64 x ≤ p2 20) : CallA Tryz.prog 44 [.flt .f64 x] [] (Ret (.flt .f64 (sqF x)) []) := by
  refine CallP.out (t := .mk) (go_in (md := md44) mixed Tryz.func44 rfl go44 (by kernel_rfl) ?_)
  simp only [q0, q1, q2, q3, q4, q5, q6, q7, q8, q9, zr0, zr1, zr2, zr3, zq0, zq1, zq2, zq3, zq4, Nat.reduceAdd, Nat.reduceSub, lenA, convA, indexA, flatP, nilI, ifaA, indexS, Int.reduceToNat, cond_true, cond_false, ↓reduceIte, reduceCtorEq, Nat.reduceLT, Nat.reduceLeDiff, Nat.reduceMul, Nat.reduceEqDiff, exists_eq', implies_true, exists_true_left, tys0, tys1, und0, und1, md44, Tryz.ntmps44, Tryz.results44]
  refine call_ret (sqrt0_call x hf h0 h1) rfl rfl ?_
  simp only [q0, q1, q2, q3, q4, q5, q6, q7, q8, q9, zr0, zr1, zr2, zr3, zq0, zq1, zq2, zq3, zq4, Nat.reduceAdd, Nat.reduceSub, lenA, convA, indexA, flatP, nilI, ifaA, indexS, Int.reduceToNat, cond_true, cond_false, ↓reduceIte, reduceCtorEq, Nat.reduceLT, Nat.reduceLeDiff, Nat.reduceMul, Nat.reduceEqDiff, exists_eq', implies_true, exists_true_left, tys0, tys1, und0, und1, md44, Tryz.ntmps44, Tryz.results44]
  exact PostR.pure ⟨rfl, rfl⟩ rfl
end Go.Proofs.YtkjabkgmkkcpdaaGreatDoor
