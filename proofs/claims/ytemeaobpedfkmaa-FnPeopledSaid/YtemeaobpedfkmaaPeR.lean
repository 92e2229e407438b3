/- Peoples: the numbers, in plain Lean: shares, rounds of growth. -/
import Derived.Test.YtemeaobpedfkmaaPeQ
set_option maxRecDepth 10000
set_option maxHeartbeats 4000000
set_option linter.unusedSimpArgs false
set_option linter.unusedVariables false
namespace Go.Proofs.Ytemeaobpedfkmaa
open Go Go.Abs

theorem parts_get (N : List Nat) {j : Nat} (h : j < N.length) : (partsF N).getD j 0 = fdiv .f32 (N.getD j 0) (sumF N) := by
  rw [getD_at _ _ _ (by rw [partsF_len]; exact h), getD_at _ _ _ h]
  simp [partsF]
theorem parts_out (N : List Nat) {j : Nat} (h : N.length ≤ j) : (partsF N).getD j 0 = 0 := by
  rw [List.getD_eq_getElem?_getD, List.getElem?_eq_none (by rw [partsF_len]; exact h)]; rfl
structure SumOk (N : List Nat) (T : Rat) : Prop where
  fin : finB .f32 (sumF N) = true
  pos : 0 < fval .f32 (sumF N)
  ge : sR (vL N) N.length - 10 * (ep * sR (vL N) N.length) ≤ fval .f32 (sumF N)
  le : fval .f32 (sumF N) ≤ sR (vL N) N.length + 10 * (ep * sR (vL N) N.length)
  lo : ∀ B, Rep .f32 B → B ≤ vL N 0 → B ≤ fval .f32 (sumF N)
theorem sum_ok {N : List Nat} {T : Rat} (hc : NfL N) (hT : 1 ≤ T) (hT2 : T ≤ p2 60) (n1 : 1 ≤ N.length) (n5 : N.length ≤ 5) (hs : sR (vL N) N.length ≤ 3 * T) (h0 : p2 (-126) ≤ vL N 0) : SumOk N T := by
  obtain ⟨f, z, a, lo⟩ := sum_er hc hT hT2 n5 hs h0 N.length (Nat.le_refl _)
  rw [sumN_all] at f z a lo
  have si := sR_nonneg hc.nn N.length
  have ev := Rat.mul_nonneg (Rat.le_of_lt ep_pos) si
  have k5 := cast5 n5
  have m1 : 2 * (N.length : Rat) * (ep * sR (vL N) N.length) ≤ 10 * (ep * sR (vL N) N.length) := Rat.mul_le_mul_of_nonneg_right (by grind) ev
  have p := p2_pos (-126)
  have l := lo n1 _ (rep_p2 _ (by decide)) h0
  have a1 := a.1
  have a2 := a.2
  exact ⟨f, by grind, by grind, by grind, fun B hB hb => lo n1 B hB hb⟩
structure Shr (q : List Nat) (n : Nat) : Prop where
  len : q.length = n
  nf : NfL q
  up : sR (vL q) n ≤ 1 + 1 / 100000
  lo : 1 - 1 / 100000 ≤ sR (vL q) n
theorem sR_div (f : Nat → Rat) {s : Rat} (h : s ≠ 0) : ∀ n, sR (fun j => f j / s) n * s = sR f n
  | 0 => by show 0 * s = 0; grind
  | n + 1 => by
    have := sR_div f h n
    have e := Rat.div_mul_cancel (a := f n) h
    show (sR (fun j => f j / s) n + f n / s) * s = sR f n + f n
    grind
theorem parts_er {N : List Nat} {T : Rat} (hc : NfL N) (hT : 1 ≤ T) (hT2 : T ≤ p2 60) (n1 : 1 ≤ N.length) (n5 : N.length ≤ 5) (hs : sR (vL N) N.length ≤ 3 * T) (h0 : p2 (-126) ≤ vL N 0) :
    Shr (partsF N) N.length ∧ ∀ t d : Int, p2 t ≤ vL N 0 → fval .f32 (sumF N) ≤ p2 d → -149 ≤ t - d → p2 (t - d) ≤ vL (partsF N) 0 := by
  have S := sum_ok hc hT hT2 n1 n5 hs h0
  have hS := S.pos
  have s0 : fval .f32 (sumF N) ≠ 0 := by grind
  have si := sR_nonneg hc.nn N.length
  have eps : ep = 1 / 8388608 := by decide +kernel
  have g1 := S.ge
  have g2 := S.le
  rw [eps] at g1 g2
  have le2 : sR (vL N) N.length ≤ 2 * fval .f32 (sumF N) := by grind
  have x0 : ∀ j, 0 ≤ vL N j / fval .f32 (sumF N) := fun j => by
    refine Rat.le_of_mul_le_mul_right ?_ hS
    rw [Rat.div_mul_cancel s0]
    have := hc.nn j
    grind
  have x2 : ∀ j, j < N.length → vL N j / fval .f32 (sumF N) ≤ 2 := fun j hj => by
    refine Rat.le_of_mul_le_mul_right ?_ hS
    rw [Rat.div_mul_cancel s0]
    have h1 := sR_mono hc.nn (show j + 1 ≤ N.length from hj)
    have h2 := sR_nonneg hc.nn j
    have e : sR (vL N) (j + 1) = sR (vL N) j + vL N j := rfl
    grind
  have one : (1 : Rat) ≤ p2 60 := by have := p2_mono (show (0 : Int) ≤ 60 by decide); exact this
  have hr : ∀ j, j < N.length → Rn .f32 (vL N j / fval .f32 (sumF N)) (fdiv .f32 (N.getD j 0) (sumF N)) := fun j hj =>
    rn_div (hc.fin j) S.fin s0 (big60 (T := 1) (x0 j) one (by have := x2 j hj; change vL N j / _ ≤ _; grind))
  have he : ∀ j, j < N.length → 0 ≤ vL (partsF N) j ∧ vL (partsF N) j ≤ vL N j / fval .f32 (sumF N) + 1 / 1048576 ∧ vL N j / fval .f32 (sumF N) - 1 / 1048576 ≤ vL (partsF N) j := fun j hj => by
    have := op_er (T := 1) (hr j hj) (x0 j) (by decide) (by have := x2 j hj; grind)
    unfold vL at *
    rw [parts_get N hj]
    exact this
  have nf : NfL (partsF N) := by
    have key : ∀ j, finB .f32 ((partsF N).getD j 0) = true ∧ 0 ≤ vL (partsF N) j := fun j => by
      by_cases h : j < N.length
      · exact ⟨by rw [parts_get N h]; exact (hr j h).fin, (he j h).1⟩
      · have e := parts_out N (j := j) (by omega)
        exact ⟨by rw [e]; decide +kernel, by unfold vL; rw [e, fval_zero]; exact Rat.le_refl⟩
    exact ⟨fun j => (key j).1, fun j => (key j).2⟩
  have hsum : ∀ k, k ≤ N.length → sR (vL (partsF N)) k ≤ sR (fun j => vL N j / fval .f32 (sumF N)) k + (k : Rat) * (1 / 1048576) ∧ sR (fun j => vL N j / fval .f32 (sumF N)) k - (k : Rat) * (1 / 1048576) ≤ sR (vL (partsF N)) k := fun k => by
    induction k with
    | zero =>
      intro _
      show 0 ≤ 0 + ((0 : Nat) : Rat) * _ ∧ 0 - ((0 : Nat) : Rat) * _ ≤ 0
      rw [show ((0 : Nat) : Rat) = 0 from rfl]
      constructor <;> grind
    | succ k ih =>
      intro hk
      obtain ⟨i1, i2⟩ := ih (by omega)
      obtain ⟨_, j1, j2⟩ := he k (by omega)
      show sR (vL (partsF N)) k + vL (partsF N) k ≤ sR _ k + vL N k / _ + _ ∧ sR _ k + vL N k / _ - _ ≤ sR (vL (partsF N)) k + vL (partsF N) k
      rw [nat_cast_succ]
      constructor <;> grind
  obtain ⟨i1, i2⟩ := hsum N.length (Nat.le_refl _)
  have hu := mul_u n5 (show (0 : Rat) ≤ 1 / 1048576 by grind)
  have hX := sR_div (vL N) s0 N.length
  have xu : sR (fun j => vL N j / fval .f32 (sumF N)) N.length ≤ 1 + 1 / 300000 := by
    refine Rat.le_of_mul_le_mul_right ?_ hS
    rw [hX]; grind
  have xl : 1 - 1 / 300000 ≤ sR (fun j => vL N j / fval .f32 (sumF N)) N.length := by
    refine Rat.le_of_mul_le_mul_right ?_ hS
    rw [hX]; grind
  refine ⟨⟨partsF_len N, nf, by grind, by grind⟩, fun t d ht hd htd => ?_⟩
  show p2 (t - d) ≤ fval .f32 _
  rw [parts_get N (show 0 < N.length by omega)]
  refine (hr 0 (by omega)).lo _ (rep_p2 _ htd) ?_
  refine Rat.le_of_mul_le_mul_right ?_ hS
  rw [Rat.div_mul_cancel s0]
  have e : p2 t = p2 (t - d) * p2 d := by rw [← p2_add]; congr 1; omega
  have := Rat.mul_le_mul_of_nonneg_left hd (Rat.le_of_lt (p2_pos (t - d)))
  grind
theorem many_ok {N : List Nat} {T : Rat} (S : SumOk N T) : manyB (sumF N) = true := by
  unfold manyB
  rw [S.fin, fgt_val S.fin (by decide +kernel), fval_zero, decide_eq_true S.pos]
  rfl
theorem two60 {T : Rat} (h : T ≤ 1024) : T ≤ p2 60 := by
  have := p2_mono (show (10 : Int) ≤ 60 by decide)
  have e : p2 10 = 1024 := p2_nat 10
  rw [e] at this; grind
theorem fin_div {x y : Nat} (fx : finB .f32 x = true) (fy : finB .f32 y = true) (x0 : 0 ≤ fval .f32 x) (y0 : 1 / 2 ≤ fval .f32 y) (h : fval .f32 x ≤ 512) : finB .f32 (fdiv .f32 x y) = true := by
  have hy : 0 < fval .f32 y := by grind
  have y1 : fval .f32 y ≠ 0 := by grind
  have a : 0 ≤ fval .f32 x / fval .f32 y := by
    refine Rat.le_of_mul_le_mul_right ?_ hy
    rw [Rat.div_mul_cancel y1]; grind
  have b : fval .f32 x / fval .f32 y ≤ 1024 := by
    refine Rat.le_of_mul_le_mul_right ?_ hy
    rw [Rat.div_mul_cancel y1]; grind
  exact (rn_div fx fy y1 (big60 (T := 1024) a (two60 (by grind)) (by grind))).fin
theorem grow_one {c ss bs : List Nat} {T : Rat} {t d : Int} (P : Par ss bs) (hc : NfL c) (n2 : 2 ≤ c.length) (n5 : c.length ≤ 5) (hT : 1 ≤ T) (hT2 : T ≤ 200) (hs : sR (vL c) c.length ≤ T) (hl : 1 - 1 / 100000 ≤ sR (vL c) c.length)
    (h0 : p2 t ≤ vL c 0) (ht : -124 ≤ t) (hd : 5 / 2 * T ≤ p2 d) (hd9 : p2 d ≤ 512) (htd : -149 ≤ t - 2 - d) :
    ∃ g, growS c ss bs = some (partsF (nextL c ss bs), g) ∧ finB .f32 g = true ∧ Shr (partsF (nextL c ss bs)) c.length ∧ p2 (t - 2 - d) ≤ vL (partsF (nextL c ss bs)) 0 ∧ NfL (nextL c ss bs) ∧ finB .f32 (sumF (nextL c ss bs)) = true := by
  have T60 := two60 (T := T) (by grind)
  have N := next_sum (ss := ss) (bs := bs) P hc n2 n5 hT T60 hs
  have ln : (nextL c ss bs).length = c.length := nextL_len _ _ _ (by omega)
  obtain ⟨_, _, _, lo⟩ := dot_er P hc hT T60 n5 hs c.length (Nat.le_refl _)
  have q4 : p2 (t - 2) = p2 t * (1 / 4) := by
    rw [show t - 2 = t + -2 by omega, p2_add, show p2 (-2) = 1 / 4 by decide +kernel]
  have pt := p2_pos t
  have m1 := Rat.mul_le_mul_of_nonneg_left P.b0 (hc.nn 0)
  have m2 := Rat.mul_le_mul_of_nonneg_right h0 (show (0 : Rat) ≤ 1 / 4 by grind)
  have nb : p2 (t - 2) ≤ vL (nextL c ss bs) 0 := by
    unfold vL
    rw [next_zero]
    refine lo _ (rep_p2 _ (by show (-149 : Int) ≤ _; omega)) (by omega) ?_
    rw [q4]; grind
  have t6 : p2 (-126) ≤ p2 (t - 2) := p2_mono (by omega)
  have t7 : p2 (-126) ≤ p2 t := p2_mono (by omega)
  have ns : sR (vL (nextL c ss bs)) (nextL c ss bs).length ≤ 3 * T := by rw [ln]; have := N.sum; grind
  have SN := sum_ok N.nf hT T60 (by omega) (by omega) ns (by grind)
  have SC := sum_ok hc hT T60 (by omega) n5 (show _ ≤ 3 * T by grind) (by grind)
  obtain ⟨Q, hq⟩ := parts_er N.nf hT T60 (by omega) (by omega) ns (by grind)
  have eps : ep = 1 / 8388608 := by decide +kernel
  have b1 := SN.le
  have b2 := SC.ge
  have b3 := N.sum
  rw [ln, eps] at b1
  rw [eps] at b2
  have sd : fval .f32 (sumF (nextL c ss bs)) ≤ p2 d := by grind
  rw [ln] at Q
  refine ⟨_, by rw [growS, many_ok SC, many_ok SN]; rfl, fin_div SN.fin SC.fin (Rat.le_of_lt SN.pos) (by grind) (by grind), Q, hq (t - 2) d nb sd (by omega), N.nf, SN.fin⟩
structure Peo (cs ss bs : List Nat) : Prop where
  par : Par ss bs
  c : NfL cs
  n2 : 2 ≤ cs.length
  n5 : cs.length ≤ 5
  c0 : 1 ≤ vL cs 0
  sum : sR (vL cs) cs.length ≤ 200
theorem grow_all {cs ss bs : List Nat} (P : Peo cs ss bs) : ∀ k : Nat, k ≤ 29 → ∃ q g, growI cs ss bs (k + 1) = some (q, g) ∧ finB .f32 g = true ∧ Shr q cs.length ∧ p2 (-11 - 4 * (k : Int)) ≤ vL q 0
  | 0, _ => by
    have h1 := sR_one (vL cs) P.c.nn (show 1 ≤ cs.length by have := P.n2; omega)
    have c0 := P.c0
    have e9 : p2 9 = 512 := p2_nat 9
    have e0 : p2 0 = 1 := p2_zero
    obtain ⟨g, hg, fg, Q, hq, _⟩ := grow_one (T := 200) (t := 0) (d := 9) P.par P.c P.n2 P.n5 (by grind) (by grind) P.sum (by grind) (by rw [e0]; exact c0) (by decide) (by rw [e9]; grind) (by rw [e9]; grind) (by decide)
    exact ⟨_, g, by rw [growI_step (show growI cs ss bs 0 = some (cs, 0) from rfl)]; exact hg, fg, Q, hq⟩
  | k + 1, hk => by
    obtain ⟨q, g0, hq, _, Q, h0⟩ := grow_all P k (by omega)
    have e2 : p2 2 = 4 := p2_nat 2
    have hl := Q.len
    have hu := Q.up
    have hlo := Q.lo
    rw [← hl] at hu hlo
    obtain ⟨g, hg, fg, Q2, hq2, _⟩ := grow_one (T := 1 + 1 / 100000) (t := -11 - 4 * (k : Int)) (d := 2) P.par Q.nf (by rw [hl]; exact P.n2) (by rw [hl]; exact P.n5) (by grind) (by grind) hu hlo h0 (by omega) (by rw [e2]; grind) (by rw [e2]; grind) (by omega)
    rw [hl] at Q2
    refine ⟨_, g, by rw [growI_step hq]; exact hg, fg, Q2, ?_⟩
    rw [show -11 - 4 * ((k + 1 : Nat) : Int) = -11 - 4 * (k : Int) - 2 - 2 by omega]
    exact hq2
end Go.Proofs.Ytemeaobpedfkmaa
