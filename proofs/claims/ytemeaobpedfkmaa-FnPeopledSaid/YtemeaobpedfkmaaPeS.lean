/- Peoples: the numbers, in plain Lean: years, sums. -/
import Derived.Test.YtemeaobpedfkmaaPeR
set_option maxRecDepth 10000
set_option maxHeartbeats 4000000
set_option linter.unusedSimpArgs false
set_option linter.unusedVariables false
namespace Go.Proofs.Ytemeaobpedfkmaa
open Go Go.Abs

structure Pop (cs ss bs : List Nat) : Prop where
  p : Peo cs ss bs
  ls : ss.length = cs.length
  lb : bs.length = cs.length
  int : ∀ j, ∃ z : Int, vL cs j = (z : Rat) ∧ 0 ≤ z ∧ z ≤ 40
theorem nf_mem {l : List Nat} (h : NfL l) {x : Nat} (hx : x ∈ l) : ∃ j, l.getD j 0 = x := by
  obtain ⟨j, hj, rfl⟩ := List.getElem_of_mem hx
  exact ⟨j, getD_at l 0 j hj⟩
theorem ge0 {x : Nat} (f : finB .f32 x = true) (h : 0 ≤ fval .f32 x) : fge .f32 x 0 = true := by
  rw [fge_val f (by decide +kernel), fval_zero, decide_eq_true h]
theorem nf_okN {l : List Nat} (h : NfL l) : l.all okN = true := by
  rw [List.all_eq_true]
  intro x hx
  obtain ⟨j, rfl⟩ := nf_mem h hx
  unfold okN
  rw [h.fin, ge0 (h.fin j) (h.nn j)]; rfl
theorem nf_allG {l : List Nat} (h : NfL l) : allG l := allG_okN (nf_okN h)
theorem one_v : finB .f32 1065353216 = true ∧ fval .f32 1065353216 = 1 := by
  refine ⟨by decide +kernel, ?_⟩
  have h : FloatKind.f32.decode 1065353216 = .number false 8388608 (-23) := by decide +kernel
  rw [fval_of h]
  decide +kernel
theorem pop_people {cs ss bs : List Nat} (P : Pop cs ss bs) : peopleB cs ss bs = true := by
  have n2 := P.p.n2
  have n5 := P.p.n5
  unfold peopleB
  rw [decide_eq_true n2, decide_eq_true (show cs.length ≤ 12 by omega), decide_eq_true P.ls, decide_eq_true P.lb, nf_okN P.p.c, nf_okN P.p.par.b]
  have : ss.all okS = true := by
    rw [List.all_eq_true]
    intro x hx
    obtain ⟨j, rfl⟩ := nf_mem P.p.par.s hx
    have f := P.p.par.s.fin j
    have s1 := P.p.par.s1 j
    unfold okS
    rw [ge0 f (P.p.par.s.nn j), fle_val f one_v.1, one_v.2, decide_eq_true (show fval .f32 (ss.getD j 0) ≤ 1 by change vL ss j ≤ 1; grind)]
    rfl
  rw [this]; rfl
theorem sum_fin {l : List Nat} {n : Nat} {T : Rat} (hc : NfL l) (hT : 1 ≤ T) (hT2 : T ≤ p2 60) (n5 : n ≤ 5) (hs : sR (vL l) n ≤ 3 * T) :
    ∀ k, k ≤ n → finB .f32 (sumN l k) = true ∧ 0 ≤ fval .f32 (sumN l k) ∧ fval .f32 (sumN l k) ≤ sR (vL l) k + (k : Rat) * (T / 1048576)
  | 0, _ => ⟨by show finB .f32 0 = true; decide +kernel, by show 0 ≤ fval .f32 0; rw [fval_zero]; exact Rat.le_refl, by
      show fval .f32 0 ≤ 0 + ((0 : Nat) : Rat) * _
      rw [fval_zero, show ((0 : Nat) : Rat) = 0 from rfl]; grind⟩
  | k + 1, hk => by
    obtain ⟨f, z, u⟩ := sum_fin hc hT hT2 n5 hs k (by omega)
    have w0 := hc.nn k
    have s1 := sR_mono hc.nn (show k + 1 ≤ n from hk)
    have e1 : sR (vL l) (k + 1) = sR (vL l) k + vL l k := rfl
    have hu := mul_u (show k ≤ 5 by omega) (show 0 ≤ T / 1048576 by grind)
    obtain ⟨ra, r0, r1, r2⟩ := add_er f (hc.fin k) z w0 hT hT2 (by change _ + vL l k ≤ _; grind)
    refine ⟨ra.fin, r0, ?_⟩
    show fval .f32 (fadd .f32 (sumN l k) (l.getD k 0)) ≤ _
    rw [nat_cast_succ, e1]
    change _ ≤ _ + vL l k + _ at r1
    grind
def tY : Nat → Rat
  | 0 => 200
  | k + 1 => 4 * tY k
theorem tY_ok : ∀ k : Nat, k ≤ 8 → 1 ≤ tY k ∧ tY k ≤ p2 60 := by
  have e : p2 60 = ((2 ^ 60 : Nat) : Rat) := p2_nat 60
  rw [e]
  decide +kernel
theorem run_all {cs ss bs : List Nat} (P : Pop cs ss bs) : ∀ k : Nat, k ≤ 7 → ∃ c, runY cs ss bs k = some c ∧ NfL c ∧ c.length = cs.length ∧ sR (vL c) cs.length ≤ tY k ∧ peopleB c ss bs = true
  | 0, _ => ⟨cs, rfl, P.p.c, rfl, P.p.sum, pop_people P⟩
  | k + 1, hk => by
    obtain ⟨c, hc, nf, ln, hs, hp⟩ := run_all P k (by omega)
    obtain ⟨t1, t2⟩ := tY_ok k (by omega)
    have n2 := P.p.n2
    have n5 := P.p.n5
    rw [← ln] at hs
    have N := next_sum P.p.par nf (by omega) (by omega) t1 t2 hs
    have l2 : (nextL c ss bs).length = c.length := nextL_len _ _ _ (by omega)
    have sf := sum_fin N.nf t1 t2 (n := c.length) (by omega) (by have := N.sum; grind) c.length (Nat.le_refl _)
    have hv : peopleB (nextL c ss bs) ss bs = true := next_valid (pop_people P) ln (nf_allG nf) (by rw [← sumN_all, l2]; exact sf.1)
    refine ⟨nextL c ss bs, runY_yes hc hv, N.nf, by omega, ?_, hv⟩
    show _ ≤ 4 * tY k
    have := N.sum
    rw [← ln]
    grind
theorem run_yes {cs ss bs : List Nat} (P : Pop cs ss bs) {y : Int} (h0 : 0 ≤ y) (h7 : y ≤ 6) : ∃ c, runR cs ss bs y = some c ∧ runR cs ss bs (y + 1) = some (nextL c ss bs) ∧ runR c ss bs 1 = some (nextL c ss bs) ∧ c.length = cs.length ∧ (nextL c ss bs).length = cs.length := by
  obtain ⟨c, hc, nf, ln, hs, hp⟩ := run_all P y.toNat (by omega)
  obtain ⟨c', hc', nf', ln', hs', hp'⟩ := run_all P (y.toNat + 1) (by omega)
  have n2 := P.p.n2
  have l2 : (nextL c ss bs).length = c.length := nextL_len _ _ _ (by omega)
  have e : c' = nextL c ss bs := by
    rw [runY, hc] at hc'
    dsimp only at hc'
    by_cases h : peopleB (nextL c ss bs) ss bs = true
    · rw [if_pos h] at hc'
      exact (Option.some.inj hc').symm
    · rw [if_neg h] at hc'
      cases hc'
  rw [e] at hc' hp'
  refine ⟨c, ?_, ?_, ?_, ln, by omega⟩
  · unfold runR
    rw [pop_people P, decide_eq_true h0, decide_eq_true (show y ≤ 64 by omega)]
    exact hc
  · unfold runR
    rw [pop_people P, decide_eq_true (show 0 ≤ y + 1 by omega), decide_eq_true (show y + 1 ≤ 64 by omega), show (y + 1).toNat = y.toNat + 1 by omega]
    exact hc'
  · unfold runR
    rw [hp]
    exact runY_yes (k := 0) rfl hp'
theorem grow_yes {cs ss bs : List Nat} (P : Pop cs ss bs) : ∃ q g, growR cs ss bs 30 = some (q, g) ∧ Shr q cs.length := by
  obtain ⟨q, g, hq, fg, Q, _⟩ := grow_all P.p 29 (by omega)
  refine ⟨q, g, ?_, Q⟩
  unfold growR
  rw [pop_people P]
  show lastG (growI cs ss bs (29 + 1)) = _
  rw [hq]
  have : q.all (finB .f32) = true := by
    rw [List.all_eq_true]
    intro x hx
    obtain ⟨j, rfl⟩ := nf_mem Q.nf hx
    exact Q.nf.fin j
  unfold lastG
  dsimp only
  rw [fg, this]; rfl
end Go.Proofs.Ytemeaobpedfkmaa
