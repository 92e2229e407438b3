/- Proofs: the reference's. -/
import Derived.Test.YthcfklkpabfkbaaGreatQrZ
set_option maxRecDepth 10000
set_option maxHeartbeats 8000000
set_option linter.unusedSimpArgs false
set_option linter.unusedVariables false
namespace Go.Proofs.YthcfklkpabfkbaaGreat
open Go Go.Abs

def WnA (K : Nat → Bool) (want : Int → Bool) : Prop := ∀ w, wordB w = true → K (plN w) = want w
theorem bk_cons (ru : Nat → Rul) (F : Int → Bool) (i : Nat) (pre : List Nat) (want : Int → Bool) (out : List Nat) : bk ru F (i :: pre) want out = if (want (ru i).1 && !pre.any fun k => (ru k).1 == (ru i).1) = true then bk ru F pre (fun w => want w || ((ru i).2.1.any (fun v => v == w) && !F w)) (i :: out) else bk ru F pre want out := rfl
theorem take_rev (l : List Nat) (i : Nat) (h : i < l.length) : (l.take (i + 1)).reverse = l[i] :: (l.take i).reverse := by
  rw [take_snoc _ _ h, List.reverse_append]; rfl
theorem says_of {R : List Rul} {fs : List Int} {W : Nat → Bool} (I : Inv R fs W) : Says fs W (yW W) := ⟨fun w _ => rfl, I.fact⟩

theorem refProof0_call {R : List Rul} {fs : List Int} {day : Int} (A : Ask R fs day) (x : Int) (hx : wordB x = true) :
    CallA Tryz.prog 10 [.ro (R.map rulA), .ro (ints fs), .int .i64 day, .int .i64 x] [] (fun r hp => ∃ W, Least (R.filter (onB day)) fs (yW W) (nW W) ∧ ((yW W x = false ∧ r = .tup [.nils, .bool false] ∧ hp = []) ∨ (yW W x = true ∧ ∃ n, tkS (actL R day) (rkR R) (yW W) (fB fs) (tkN (actL R day) (rkR R) (yW W) (fB fs) n).1 (tkN (actL R day) (rkR R) (yW W) (fB fs) n).2 = [] ∧
      r = .tup [.sl 0 0 (bk (rkR R) (fB fs) (tkN (actL R day) (rkR R) (yW W) (fB fs) n).1.reverse (wan0 (fB fs) x) []).length, .bool true] ∧ hp = [intB (nI (bk (rkR R) (fB fs) (tkN (actL R day) (rkR R) (yW W) (fB fs) n).1.reverse (wan0 (fB fs) x) []))]))) := by
  have hl := A.hR.len
  have hRA := rls_act A.hR day
  have hc := l05Can_call R hl (fun r h => (A.hR.ok r h).2.1.1) fs A.hf.len day
  rw [A.rb, A.wb, A.hd] at hc
  have wx := l05Word_call x
  rw [hx] at wx
  have px := plN_lt hx
  refine CallP.out (t := .mk) (go_in (md := md10) mixed Tryz.func10 rfl go10 (by kernel_rfl) ?_)
  simp only [q0, q1, q2, q3, q4, q5, q6, q7, q8, q9, zr0, zr1, zr2, zr3, zq0, zq1, zq2, zq3, zq4, Nat.reduceAdd, Nat.reduceSub, lenA, convA, indexA, indexS, Int.reduceToNat, cond_true, cond_false, ↓reduceIte, reduceCtorEq, Nat.reduceLT, Nat.reduceLeDiff, Nat.reduceMul, Nat.reduceEqDiff, exists_eq', implies_true, exists_true_left, tys0, tys1, tys2, tys3, tys4, und0, und1, und2, und3, md10, Tryz.ntmps10, Tryz.results10]
  refine call_ret hc rfl rfl ?_
  simp only [q0, q1, q2, q3, q4, q5, q6, q7, q8, q9, zr0, zr1, zr2, zr3, zq0, zq1, zq2, zq3, zq4, Nat.reduceAdd, Nat.reduceSub, lenA, convA, indexA, indexS, Int.reduceToNat, cond_true, cond_false, ↓reduceIte, reduceCtorEq, Nat.reduceLT, Nat.reduceLeDiff, Nat.reduceMul, Nat.reduceEqDiff, exists_eq', implies_true, exists_true_left, tys0, tys1, tys2, tys3, tys4, und0, und1, und2, und3, md10, Tryz.ntmps10, Tryz.results10]
  refine call_ret wx rfl rfl ?_
  simp only [q0, q1, q2, q3, q4, q5, q6, q7, q8, q9, zr0, zr1, zr2, zr3, zq0, zq1, zq2, zq3, zq4, Nat.reduceAdd, Nat.reduceSub, lenA, convA, indexA, indexS, Int.reduceToNat, cond_true, cond_false, ↓reduceIte, reduceCtorEq, Nat.reduceLT, Nat.reduceLeDiff, Nat.reduceMul, Nat.reduceEqDiff, exists_eq', implies_true, exists_true_left, tys0, tys1, tys2, tys3, tys4, und0, und1, und2, und3, md10, Tryz.ntmps10, Tryz.results10]
  refine call_ret (l05Of_call R hl day) rfl rfl ?_
  simp only [q0, q1, q2, q3, q4, q5, q6, q7, q8, q9, zr0, zr1, zr2, zr3, zq0, zq1, zq2, zq3, zq4, Nat.reduceAdd, Nat.reduceSub, lenA, convA, indexA, indexS, Int.reduceToNat, cond_true, cond_false, ↓reduceIte, reduceCtorEq, Nat.reduceLT, Nat.reduceLeDiff, Nat.reduceMul, Nat.reduceEqDiff, exists_eq', implies_true, exists_true_left, tys0, tys1, tys2, tys3, tys4, und0, und1, und2, und3, md10, Tryz.ntmps10, Tryz.results10]
  refine call_newQ (answer_call _ hRA fs A.hf) rfl ?_
  rintro r new ⟨W, I, L, rfl, rfl⟩
  refine ⟨by simp, ?_⟩
  have S := says_of I
  simp only [q0, q1, q2, q3, q4, q5, q6, q7, q8, q9, zr0, zr1, zr2, zr3, zq0, zq1, zq2, zq3, zq4, Nat.reduceAdd, Nat.reduceSub, lenA, convA, indexA, indexS, Int.reduceToNat, cond_true, cond_false, ↓reduceIte, reduceCtorEq, Nat.reduceLT, Nat.reduceLeDiff, Nat.reduceMul, Nat.reduceEqDiff, exists_eq', implies_true, exists_true_left, tys0, tys1, tys2, tys3, tys4, und0, und1, und2, und3, md10, Tryz.ntmps10, Tryz.results10, ren, renM, renL, bC_ren]
  refine callr_ret (l05Place_call x hx) rfl rfl ?_
  simp only [q0, q1, q2, q3, q4, q5, q6, q7, q8, q9, zr0, zr1, zr2, zr3, zq0, zq1, zq2, zq3, zq4, Nat.reduceAdd, Nat.reduceSub, lenA, convA, indexA, indexS, Int.reduceToNat, cond_true, cond_false, ↓reduceIte, reduceCtorEq, Nat.reduceLT, Nat.reduceLeDiff, Nat.reduceMul, Nat.reduceEqDiff, exists_eq', implies_true, exists_true_left, tys0, tys1, tys2, tys3, tys4, und0, und1, und2, und3, md10, Tryz.ntmps10, Tryz.results10, bC_len, bC_get, Nat.mul_one]
  refine ⟨by omega, by first | omega | (simp [bC]; omega) | trace_state, ?_⟩
  simp only [q0, q1, q2, q3, q4, q5, q6, q7, q8, q9, zr0, zr1, zr2, zr3, zq0, zq1, zq2, zq3, zq4, Nat.reduceAdd, Nat.reduceSub, lenA, convA, indexA, indexS, Int.reduceToNat, cond_true, cond_false, ↓reduceIte, reduceCtorEq, Nat.reduceLT, Nat.reduceLeDiff, Nat.reduceMul, Nat.reduceEqDiff, exists_eq', implies_true, exists_true_left, tys0, tys1, tys2, tys3, tys4, und0, und1, und2, und3, md10, Tryz.ntmps10, Tryz.results10, bC_len, bC_get, bC_d0, bC_d1, Nat.mul_one]
  refine br_intro (fun b1 => ?_) (fun b1 => ?_)
  rotate_left
  · simp only [q0, q1, q2, q3, q4, q5, q6, q7, q8, q9, zr0, zr1, zr2, zr3, zq0, zq1, zq2, zq3, zq4, Nat.reduceAdd, Nat.reduceSub, lenA, convA, indexA, indexS, Int.reduceToNat, cond_true, cond_false, ↓reduceIte, reduceCtorEq, Nat.reduceLT, Nat.reduceLeDiff, Nat.reduceMul, Nat.reduceEqDiff, exists_eq', implies_true, exists_true_left, tys0, tys1, tys2, tys3, tys4, und0, und1, und2, und3, md10, Tryz.ntmps10, Tryz.results10, bC_len, bC_get, bC_d0, bC_d1, Nat.mul_one]
    exact PostR.pure ⟨W, L, .inl ⟨b1, rfl, rfl⟩⟩ (by rfl)
  simp only [q0, q1, q2, q3, q4, q5, q6, q7, q8, q9, zr0, zr1, zr2, zr3, zq0, zq1, zq2, zq3, zq4, Nat.reduceAdd, Nat.reduceSub, lenA, convA, indexA, indexS, Int.reduceToNat, cond_true, cond_false, ↓reduceIte, reduceCtorEq, Nat.reduceLT, Nat.reduceLeDiff, Nat.reduceMul, Nat.reduceEqDiff, exists_eq', implies_true, exists_true_left, tys0, tys1, tys2, tys3, tys4, und0, und1, und2, und3, md10, Tryz.ntmps10, Tryz.results10, bC_len, bC_get, bC_d0, bC_d1, Nat.mul_one]
  refine call_newQ (refTaken_call R A.hR fs day W (yW W) S) rfl ?_
  rintro r new ⟨n, h0, rfl, rfl⟩
  refine ⟨by simp, ?_⟩
  have hT := tkN_nodup (ru := rkR R) (Y := yW W) (F := fB fs) (actL_nodup R day) n
  have hTl := tkN_len (ru := rkR R) (Y := yW W) (F := fB fs) (actL_nodup R day) n
  have hAl := actL_len R day
  have hb0 : ∀ i ∈ (tkN (actL R day) (rkR R) (yW W) (fB fs) n).1, i < R.length := fun i hi => List.mem_range.1 (List.mem_filter.1 (hT.2 i hi)).1
  generalize htk : (tkN (actL R day) (rkR R) (yW W) (fB fs) n).1 = tk at *
  simp only [q0, q1, q2, q3, q4, q5, q6, q7, q8, q9, zr0, zr1, zr2, zr3, zq0, zq1, zq2, zq3, zq4, Nat.reduceAdd, Nat.reduceSub, lenA, convA, indexA, indexS, Int.reduceToNat, cond_true, cond_false, ↓reduceIte, reduceCtorEq, Nat.reduceLT, Nat.reduceLeDiff, Nat.reduceMul, Nat.reduceEqDiff, exists_eq', implies_true, exists_true_left, tys0, tys1, tys2, tys3, tys4, und0, und1, und2, und3, md10, Tryz.ntmps10, Tryz.results10, ren, renM, renL, zero32, bC_one, bC_len, bC_get, bC_d0, bC_d1, Nat.mul_one]
  refine callr_ret (l05Place_call x hx) (by rfl) rfl ?_
  simp only [q0, q1, q2, q3, q4, q5, q6, q7, q8, q9, zr0, zr1, zr2, zr3, zq0, zq1, zq2, zq3, zq4, Nat.reduceAdd, Nat.reduceSub, lenA, convA, indexA, indexS, Int.reduceToNat, cond_true, cond_false, ↓reduceIte, reduceCtorEq, Nat.reduceLT, Nat.reduceLeDiff, Nat.reduceMul, Nat.reduceEqDiff, exists_eq', implies_true, exists_true_left, tys0, tys1, tys2, tys3, tys4, und0, und1, und2, und3, md10, Tryz.ntmps10, Tryz.results10, zero32, bC_one, bC_len, bC_get, bC_d0, bC_d1, Nat.mul_one]
  refine callr_ret (l05Place_call x hx) (by rfl) rfl ?_
  simp only [q0, q1, q2, q3, q4, q5, q6, q7, q8, q9, zr0, zr1, zr2, zr3, zq0, zq1, zq2, zq3, zq4, Nat.reduceAdd, Nat.reduceSub, lenA, convA, indexA, indexS, Int.reduceToNat, cond_true, cond_false, ↓reduceIte, reduceCtorEq, Nat.reduceLT, Nat.reduceLeDiff, Nat.reduceMul, Nat.reduceEqDiff, exists_eq', implies_true, exists_true_left, tys0, tys1, tys2, tys3, tys4, und0, und1, und2, und3, md10, Tryz.ntmps10, Tryz.results10, zero32, bC_one, bC_len, bC_get, bC_d0, bC_d1, Nat.mul_one]
  refine ⟨by omega, by simp [bC]; omega, by omega, by omega, ?_⟩
  have hpx := fun v => bC_putS 32 (fun _ => false) (plN x) v px
  have hFx := I.fact x hx
  have w0 : WnA (updW (fun _ => false) (plN x) (!W (64 + plN x))) (wan0 (fB fs) x) := fun w hw => by
    unfold updW wan0 fB
    by_cases e : w = x
    · subst e
      rw [if_pos rfl, hFx]; simp
    · have hne : ¬ plN w = plN x := fun h => e (plN_inj hw hx h)
      rw [if_neg hne]
      simp [e]
  have wl : IntKind.i64.wrap ((tk.length : Int) - 1) = (tk.length : Int) - 1 := w64 (by omega) (by omega)
  refine go_round (md := md10) mixed (by kernel_rfl) (fun s : {s : Nat × (Nat → Bool) × (Int → Bool) × List Nat // (s.1 ≤ tk.length ∧ s.2.2.2.length + s.1 ≤ tk.length) ∧ WnA s.2.1 s.2.2.1 ∧ bk (rkR R) (fB fs) (tk.take s.1).reverse s.2.2.1 s.2.2.2 = bk (rkR R) (fB fs) tk.reverse (wan0 (fB fs) x) []} => ⟨[.ro (R.map rulA), .any, .any, .any, .any, .any, .any, .any, .any, .any, .rop (bC 96 W), .ro (ints (nI tk)), .ptr 0 0 0, .sl 1 0 s.1.2.2.2.length, .int .i64 ((s.1.1 : Int) - 1), .any, .any, .any, .any, .any, .any, .any, .any, .any, .any, .any, .any, .any, .any, .any, .any, .any, .any, .any, .any, .any, .any, .any, .any, .any, .any, .any, .any, .any, .any, .any, .any, .any, .any, .any, .any, .any, .any, .any, .any, .any, .any, .any, .any, .any, .any, .any, .any, .any, .any, .any, .any, .any, .any, .any, .any, .any, .any, .any, .any, .any, .any, .any, .any, .any, .any, .any, .any, .any, .any, .any, .any, .any, .any, .any, .any, .any, .any, .any, .any, .any, .any, .any, .any, .any, .any, .any, .any, .any, .any, .any, .any, .any, .any, .any, .any, .any, .any, .any, .any, .any, .any, .any, .any, .any, .any, .any, .any, .any, .any, .any, .any, .any, .any, .any, .any, .any, .any, .any, .any, .any, .any, .any, .any], [kB s.1.2.1, intB (nI s.1.2.2.2)]⟩) (fun s => s.1.1) ⟨(tk.length, updW (fun _ => false) (plN x) (!W (64 + plN x)), wan0 (fB fs) x, []), ⟨Nat.le_refl _, by simp⟩, w0, by rw [List.take_length]⟩ ?_ ?_
  · simp only [hpx]
    exact weak_drop (by simp) (by simp [DropHp, ints_below, flts_below, kB, intB, bagg_below, wl, nI_len, show nI [] = [] from rfl, show ints [] = [] from rfl, show allBelow 2 [] = true from rfl]) (by simp [DropTm, DropV, below, belowM, belowL, kB, intB, bagg_below, wl, nI_len, show nI [] = [] from rfl, show ints [] = [] from rfl, show allBelow 2 [] = true from rfl])
  rintro ⟨⟨i, K, want, out⟩, ⟨hi, ho⟩, hW, he⟩
  dsimp only at hi ho hW he ⊢
  simp only [q0, q1, q2, q3, q4, q5, q6, q7, q8, q9, zr0, zr1, zr2, zr3, zq0, zq1, zq2, zq3, zq4, Nat.reduceAdd, Nat.reduceSub, lenA, convA, indexA, indexS, Int.reduceToNat, cond_true, cond_false, ↓reduceIte, reduceCtorEq, Nat.reduceLT, Nat.reduceLeDiff, Nat.reduceMul, Nat.reduceEqDiff, exists_eq', implies_true, exists_true_left, tys0, tys1, tys2, tys3, tys4, und0, und1, und2, und3, md10, Tryz.ntmps10, Tryz.results10, bC_len, bC_get, bC_d0, bC_d1, Nat.mul_one, kB, intB, ints_len, nI_len]
  refine br_intro (fun h => ?_) (fun h => ?_) <;> simp only [q0, q1, q2, q3, q4, q5, q6, q7, q8, q9, zr0, zr1, zr2, zr3, zq0, zq1, zq2, zq3, zq4, Nat.reduceAdd, Nat.reduceSub, lenA, convA, indexA, indexS, Int.reduceToNat, cond_true, cond_false, ↓reduceIte, reduceCtorEq, Nat.reduceLT, Nat.reduceLeDiff, Nat.reduceMul, Nat.reduceEqDiff, exists_eq', implies_true, exists_true_left, tys0, tys1, tys2, tys3, tys4, und0, und1, und2, und3, md10, Tryz.ntmps10, Tryz.results10, bC_len, bC_get, bC_d0, bC_d1, Nat.mul_one, kB, intB, ints_len, nI_len]
  · have hp : 0 < i := by have := of_decide_eq_true h; omega
    obtain ⟨i, rfl⟩ : ∃ j, i = j + 1 := ⟨i - 1, by omega⟩
    have hj : i < tk.length := by omega
    have hb := hb0 _ (List.getElem_mem hj)
    have hr := A.hR.ok _ (List.getElem_mem hb)
    have h6 := hr.2.1.1
    have ph := plN_lt hr.1
    have hru := rkR_at R _ hb
    have ei : ((i + 1 : Nat) : Int) - 1 = i := by omega
    have eI : (((i + 1 : Nat) : Int) - 1).toNat = i := by omega
    have ek : (nI tk)[i]'(by rw [nI_len]; exact hj) = (tk[i] : Nat) := by simp [nI]
    simp only [eI, ek, Int.toNat_natCast]
    refine ⟨by omega, hj, by omega, by rw [List.length_map]; exact hb, ?_⟩
    simp only [q0, q1, q2, q3, q4, q5, q6, q7, q8, q9, zr0, zr1, zr2, zr3, zq0, zq1, zq2, zq3, zq4, Nat.reduceAdd, Nat.reduceSub, lenA, convA, indexA, indexS, Int.reduceToNat, cond_true, cond_false, ↓reduceIte, reduceCtorEq, Nat.reduceLT, Nat.reduceLeDiff, Nat.reduceMul, Nat.reduceEqDiff, exists_eq', implies_true, exists_true_left, tys0, tys1, tys2, tys3, tys4, und0, und1, und2, und3, md10, Tryz.ntmps10, Tryz.results10, List.getElem_map, rulA, bC_len, bC_get, bC_d0, bC_d1, Nat.mul_one, kB, intB, ints_len, nI_len]
    refine call_ret (l05Place_call R[tk[i]].1 hr.1) (by rfl) rfl ?_
    simp only [q0, q1, q2, q3, q4, q5, q6, q7, q8, q9, zr0, zr1, zr2, zr3, zq0, zq1, zq2, zq3, zq4, Nat.reduceAdd, Nat.reduceSub, lenA, convA, indexA, indexS, Int.reduceToNat, cond_true, cond_false, ↓reduceIte, reduceCtorEq, Nat.reduceLT, Nat.reduceLeDiff, Nat.reduceMul, Nat.reduceEqDiff, exists_eq', implies_true, exists_true_left, tys0, tys1, tys2, tys3, tys4, und0, und1, und2, und3, md10, Tryz.ntmps10, Tryz.results10, List.getElem_map, rulA, bC_len, bC_get, bC_d0, bC_d1, Nat.mul_one, kB, intB, ints_len, nI_len]
    refine ⟨by omega, by omega, ?_⟩
    have hWh := hW _ hr.1
    rw [hWh]
    refine go_round (md := md10) mixed (by kernel_rfl) (fun k : {k : Nat // k ≤ i} => ⟨[.ro (R.map rulA), .any, .any, .any, .any, .any, .any, .any, .any, .any, .rop (bC 96 W), .ro (ints (nI tk)), .ptr 0 0 0, .sl 1 0 out.length, .int .i64 i, ruP R[tk[i]], .bool (want R[tk[i]].1 && !(tk.take k.1).any fun q => (rkR R q).1 == R[tk[i]].1), .int .i64 k.1, .any, .any, .any, .any, .any, .any, .any, .any, .any, .any, .any, .any, .any, .any, .any, .any, .any, .any, .any, .any, .any, .any, .any, .any, .any, .any, .any, .any, .any, .any, .any, .any, .any, .any, .any, .any, .any, .any, .any, .any, .any, .any, .any, .any, .any, .any, .any, .any, .any, .any, .any, .any, .any, .any, .any, .any, .any, .any, .any, .any, .any, .any, .any, .any, .any, .any, .any, .any, .any, .any, .any, .any, .any, .any, .any, .any, .any, .any, .any, .any, .any, .any, .any, .any, .any, .any, .any, .any, .any, .any, .any, .any, .any, .any, .any, .any, .any, .any, .any, .any, .any, .any, .any, .any, .any, .any, .any, .any, .any, .any, .any, .any, .any, .any, .any, .any, .any, .any, .any, .any, .any], [kB K, intB (nI out)]⟩) (fun k => i - k.1) ⟨0, Nat.zero_le _⟩ ?_ ?_
    · exact weak_drop (by simp) (by simp [DropHp, ints_below, flts_below, kB, intB, bagg_below, ruP, ei, eI, ek, Int.toNat_natCast, List.take_zero, List.any_nil, Bool.not_false, Bool.and_true]) (by simp [DropTm, DropV, below, belowM, belowL, kB, intB, bagg_below, ruP, ei, eI, ek, Int.toNat_natCast, List.take_zero, List.any_nil, Bool.not_false, Bool.and_true])
    rintro ⟨k, hk⟩
    simp only [q0, q1, q2, q3, q4, q5, q6, q7, q8, q9, zr0, zr1, zr2, zr3, zq0, zq1, zq2, zq3, zq4, Nat.reduceAdd, Nat.reduceSub, lenA, convA, indexA, indexS, Int.reduceToNat, cond_true, cond_false, ↓reduceIte, reduceCtorEq, Nat.reduceLT, Nat.reduceLeDiff, Nat.reduceMul, Nat.reduceEqDiff, exists_eq', implies_true, exists_true_left, tys0, tys1, tys2, tys3, tys4, und0, und1, und2, und3, md10, Tryz.ntmps10, Tryz.results10, bC_len, bC_get, bC_d0, bC_d1, Nat.mul_one, kB, intB, ints_len, nI_len]
    refine br_intro (fun h2 => ?_) (fun h2 => ?_) <;> simp only [q0, q1, q2, q3, q4, q5, q6, q7, q8, q9, zr0, zr1, zr2, zr3, zq0, zq1, zq2, zq3, zq4, Nat.reduceAdd, Nat.reduceSub, lenA, convA, indexA, indexS, Int.reduceToNat, cond_true, cond_false, ↓reduceIte, reduceCtorEq, Nat.reduceLT, Nat.reduceLeDiff, Nat.reduceMul, Nat.reduceEqDiff, exists_eq', implies_true, exists_true_left, tys0, tys1, tys2, tys3, tys4, und0, und1, und2, und3, md10, Tryz.ntmps10, Tryz.results10, bC_len, bC_get, bC_d0, bC_d1, Nat.mul_one, kB, intB, ints_len, nI_len]
    · have hk' : k < i := by have := of_decide_eq_true h2; omega
      have hkl : k < tk.length := by omega
      have hbk := hb0 _ (List.getElem_mem hkl)
      have hruk := rkR_at R _ hbk
      have wk := w64_succ k (by omega)
      have ekk : (nI tk)[k]'(by rw [nI_len]; exact hkl) = (tk[k] : Nat) := by simp [nI]
      have es : ((tk.take (k + 1)).any fun q => (rkR R q).1 == R[tk[i]].1) = (((tk.take k).any fun q => (rkR R q).1 == R[tk[i]].1) || R[tk[k]].1 == R[tk[i]].1) := by
        rw [take_snoc _ _ hkl, List.any_append]
        simp [hruk]
      simp only [ekk, Int.toNat_natCast]
      refine ⟨hkl, by omega, by rw [List.length_map]; exact hbk, ?_⟩
      simp only [q0, q1, q2, q3, q4, q5, q6, q7, q8, q9, zr0, zr1, zr2, zr3, zq0, zq1, zq2, zq3, zq4, Nat.reduceAdd, Nat.reduceSub, lenA, convA, indexA, indexS, Int.reduceToNat, cond_true, cond_false, ↓reduceIte, reduceCtorEq, Nat.reduceLT, Nat.reduceLeDiff, Nat.reduceMul, Nat.reduceEqDiff, exists_eq', implies_true, exists_true_left, tys0, tys1, tys2, tys3, tys4, und0, und1, und2, und3, md10, Tryz.ntmps10, Tryz.results10, List.getElem_map, rulA, ruP, bC_len, bC_get, bC_d0, bC_d1, Nat.mul_one, kB, intB, ints_len, nI_len]
      refine br_intro (fun b3 => ?_) (fun b3 => ?_) <;> simp only [q0, q1, q2, q3, q4, q5, q6, q7, q8, q9, zr0, zr1, zr2, zr3, zq0, zq1, zq2, zq3, zq4, Nat.reduceAdd, Nat.reduceSub, lenA, convA, indexA, indexS, Int.reduceToNat, cond_true, cond_false, ↓reduceIte, reduceCtorEq, Nat.reduceLT, Nat.reduceLeDiff, Nat.reduceMul, Nat.reduceEqDiff, exists_eq', implies_true, exists_true_left, tys0, tys1, tys2, tys3, tys4, und0, und1, und2, und3, md10, Tryz.ntmps10, Tryz.results10, List.getElem_map, rulA, ruP, bC_len, bC_get, bC_d0, bC_d1, Nat.mul_one, kB, intB, ints_len, nI_len]
      · rw [b3, Bool.or_true] at es
        refine ⟨⟨k + 1, by omega⟩, by show i - (k + 1) < _; omega, ?_⟩
        exact weak_drop (by simp) (by simp [DropHp, ints_below, flts_below, kB, intB, bagg_below, ruP, wk, es, Bool.not_true, Bool.and_false]) (by simp [DropTm, DropV, below, belowM, belowL, kB, intB, bagg_below, ruP, wk, es, Bool.not_true, Bool.and_false])
      · rw [b3, Bool.or_false] at es
        refine ⟨⟨k + 1, by omega⟩, by show i - (k + 1) < _; omega, ?_⟩
        exact weak_drop (by simp) (by simp [DropHp, ints_below, flts_below, kB, intB, bagg_below, ruP, wk, es]) (by simp [DropTm, DropV, below, belowM, belowL, kB, intB, bagg_below, ruP, wk, es])
    · have hk' : k = i := by have := of_decide_eq_false h2; omega
      subst hk'
      rw [take_rev _ _ hj] at he
      rw [bk_cons] at he
      rw [hru, any_rev] at he
      refine br_intro (fun b4 => ?_) (fun b4 => ?_) <;> simp only [q0, q1, q2, q3, q4, q5, q6, q7, q8, q9, zr0, zr1, zr2, zr3, zq0, zq1, zq2, zq3, zq4, Nat.reduceAdd, Nat.reduceSub, lenA, convA, indexA, indexS, Int.reduceToNat, cond_true, cond_false, ↓reduceIte, reduceCtorEq, Nat.reduceLT, Nat.reduceLeDiff, Nat.reduceMul, Nat.reduceEqDiff, exists_eq', implies_true, exists_true_left, tys0, tys1, tys2, tys3, tys4, und0, und1, und2, und3, md10, Tryz.ntmps10, Tryz.results10, ruP, bC_len, bC_get, bC_d0, bC_d1, Nat.mul_one, kB, intB, ints_len, nI_len]
      · rw [if_pos b4] at he
        have et : (ints (nI out)).take out.length = ints (nI out) := List.take_of_length_le (by rw [ints_len, nI_len]; exact Nat.le_refl _)
        simp only [et]
        refine ⟨hj, fun a ha => (by obtain ⟨z, _, rfl⟩ := List.mem_map.1 ha; exact ⟨rfl, rfl⟩), ⟨by rw [ints_len, nI_len]; omega, by omega, by omega⟩, ?_⟩
        simp only [ints_len, nI_len]
        refine go_round (md := md10) mixed (by kernel_rfl) (fun s : {s : Nat × (Nat → Bool) // s.1 ≤ R[tk[k]].2.1.length ∧ WnA s.2 (fun w => want w || ((R[tk[k]].2.1.take s.1).any (fun v => v == w) && !fB fs w))} => ⟨[.ro (R.map rulA), .any, .any, .any, .any, .any, .any, .any, .any, .any, .rop (bC 96 W), .ro (ints (nI tk)), .ptr 0 0 0, .sl 1 0 (tk[k] :: out).length, .int .i64 k, ruP R[tk[k]], .any, .any, .any, .any, .any, .any, .any, .any, .any, .any, .any, .any, .any, .any, .any, .any, .any, .any, .any, .any, .any, .any, .any, .any, .any, .any, .any, .any, .any, .any, .any, .any, .any, .any, .any, .any, .any, .any, .any, .any, .any, .any, .any, .any, .any, .any, .any, .any, .any, .any, .any, .any, .any, .any, .any, .any, .any, .any, .any, .any, .any, .any, .any, .any, .any, .any, .any, .any, .any, .any, .any, .any, .any, .any, .any, .any, .any, .any, .any, .any, .any, .any, .any, .any, .any, .any, .any, .any, .any, .any, .any, .any, .any, .any, .any, .int .i64 R[tk[k]].2.1.length, .int .i64 s.1.1, .any, .any, .any, .any, .any, .any, .any, .any, .any, .any, .any, .any, .any, .any, .any, .any, .any, .any, .any, .any, .any, .any, .any, .any, .any, .any], [kB s.1.2, intB (nI (tk[k] :: out))]⟩) (fun s => R[tk[k]].2.1.length - s.1.1) ⟨(0, K), Nat.zero_le _, fun w h => by show K (plN w) = _; rw [hW w h]; simp⟩ ?_ ?_
        · simp only [ek, show nI (tk[k] :: out) = (tk[k] : Int) :: nI out from rfl]
          exact weak_names [0, 2] (by decide) (by decide) (by decide) (by simp [SubG, renB, ints_ren, ints_below, kint_ren, kint_below, ren, renM, renL, kB, intB, bC_kill, bC_ren, ints_kill, bC_below, allBelow_cons, allBelow_nil, below, belowM, belowL, ruP, Nat.add_comm, show ∀ a l, ints (a :: l) = .int .i64 a :: ints l from fun _ _ => rfl]) (by simp [LeTm, LeV, ren, renM, renL, below, belowM, belowL, kB, intB, bC_kill, bC_ren, ints_kill, bC_below, allBelow_cons, allBelow_nil, below, belowM, belowL, ruP, Nat.add_comm, show ∀ a l, ints (a :: l) = .int .i64 a :: ints l from fun _ _ => rfl])
        rintro ⟨⟨j, K2⟩, hj2, hW2⟩
        dsimp only at hj2 hW2 ⊢
        simp only [q0, q1, q2, q3, q4, q5, q6, q7, q8, q9, zr0, zr1, zr2, zr3, zq0, zq1, zq2, zq3, zq4, Nat.reduceAdd, Nat.reduceSub, lenA, convA, indexA, indexS, Int.reduceToNat, cond_true, cond_false, ↓reduceIte, reduceCtorEq, Nat.reduceLT, Nat.reduceLeDiff, Nat.reduceMul, Nat.reduceEqDiff, exists_eq', implies_true, exists_true_left, tys0, tys1, tys2, tys3, tys4, und0, und1, und2, und3, md10, Tryz.ntmps10, Tryz.results10, ruP, bC_len, bC_get, bC_d0, bC_d1, Nat.mul_one, kB, intB, ints_len, nI_len]
        refine br_intro (fun h3 => ?_) (fun h3 => ?_) <;> simp only [q0, q1, q2, q3, q4, q5, q6, q7, q8, q9, zr0, zr1, zr2, zr3, zq0, zq1, zq2, zq3, zq4, Nat.reduceAdd, Nat.reduceSub, lenA, convA, indexA, indexS, Int.reduceToNat, cond_true, cond_false, ↓reduceIte, reduceCtorEq, Nat.reduceLT, Nat.reduceLeDiff, Nat.reduceMul, Nat.reduceEqDiff, exists_eq', implies_true, exists_true_left, tys0, tys1, tys2, tys3, tys4, und0, und1, und2, und3, md10, Tryz.ntmps10, Tryz.results10, ruP, bC_len, bC_get, bC_d0, bC_d1, Nat.mul_one, kB, intB, ints_len, nI_len]
        · have hj3 : j < R[tk[k]].2.1.length := by simpa using h3
          have hw := hr.2.1.2 _ (List.getElem_mem hj3)
          have pw := plN_lt hw
          have wj := w64_succ j (by omega)
          refine ⟨hj3, ?_⟩
          refine call_ret (l05Place_call _ hw) (by rfl) rfl ?_
          simp only [q0, q1, q2, q3, q4, q5, q6, q7, q8, q9, zr0, zr1, zr2, zr3, zq0, zq1, zq2, zq3, zq4, Nat.reduceAdd, Nat.reduceSub, lenA, convA, indexA, indexS, Int.reduceToNat, cond_true, cond_false, ↓reduceIte, reduceCtorEq, Nat.reduceLT, Nat.reduceLeDiff, Nat.reduceMul, Nat.reduceEqDiff, exists_eq', implies_true, exists_true_left, tys0, tys1, tys2, tys3, tys4, und0, und1, und2, und3, md10, Tryz.ntmps10, Tryz.results10, ruP, bC_len, bC_get, bC_d0, bC_d1, Nat.mul_one, kB, intB, ints_len, nI_len]
          have F1 := I.fact _ hw
          have hK := hW2 _ hw
          refine ⟨by omega, by omega, ?_⟩
          have nx : ∀ b : Bool, b = (K2 (plN R[tk[k]].2.1[j]) || !W (64 + plN R[tk[k]].2.1[j])) → WnA (updW K2 (plN R[tk[k]].2.1[j]) b) (fun w => want w || ((R[tk[k]].2.1.take (j + 1)).any (fun v => v == w) && !fB fs w)) := fun b hb w hw3 => by
            unfold updW
            show _ = (want w || ((R[tk[k]].2.1.take (j + 1)).any (fun v => v == w) && !fB fs w))
            rw [take_snoc _ _ hj3, List.any_append]
            by_cases e : w = R[tk[k]].2.1[j]
            · subst e
              rw [if_pos rfl, hb, hK, F1]
              simp [fB]
              cases want R[tk[k]].2.1[j] <;> simp
            · have hne : ¬ plN w = plN R[tk[k]].2.1[j] := fun h => e (plN_inj hw3 hw h)
              rw [if_neg hne, hW2 w hw3]
              have : (R[tk[k]].2.1[j] == w) = false := by simpa using fun h => e h.symm
              simp [this]
          have hpw := fun v => bC_putS 32 K2 (plN R[tk[k]].2.1[j]) v pw
          refine br_intro (fun b5 => ?_) (fun b5 => ?_) <;> simp only [q0, q1, q2, q3, q4, q5, q6, q7, q8, q9, zr0, zr1, zr2, zr3, zq0, zq1, zq2, zq3, zq4, Nat.reduceAdd, Nat.reduceSub, lenA, convA, indexA, indexS, Int.reduceToNat, cond_true, cond_false, ↓reduceIte, reduceCtorEq, Nat.reduceLT, Nat.reduceLeDiff, Nat.reduceMul, Nat.reduceEqDiff, exists_eq', implies_true, exists_true_left, tys0, tys1, tys2, tys3, tys4, und0, und1, und2, und3, md10, Tryz.ntmps10, Tryz.results10, ruP, bC_len, bC_get, bC_d0, bC_d1, Nat.mul_one, kB, intB, ints_len, nI_len]
          · refine ⟨by omega, by omega, ⟨(j + 1, updW K2 (plN R[tk[k]].2.1[j]) true), by show j + 1 ≤ _; omega, nx true (by rw [b5]; rfl)⟩, by show _ - (j + 1) < _; omega, ?_⟩
            simp only [hpw]
            exact weak_drop (by simp) (by simp [DropHp, ints_below, flts_below, kB, intB, bagg_below, ruP, wj]) (by simp [DropTm, DropV, below, belowM, belowL, kB, intB, bagg_below, ruP, wj])
          · refine ⟨by omega, by simp [bC]; omega, by omega, by omega, ⟨(j + 1, updW K2 (plN R[tk[k]].2.1[j]) (!W (64 + plN R[tk[k]].2.1[j]))), by show j + 1 ≤ _; omega, nx _ (by rw [b5]; rfl)⟩, by show _ - (j + 1) < _; omega, ?_⟩
            simp only [hpw]
            exact weak_drop (by simp) (by simp [DropHp, ints_below, flts_below, kB, intB, bagg_below, ruP, wj]) (by simp [DropTm, DropV, below, belowM, belowL, kB, intB, bagg_below, ruP, wj])
        · have hj3 : j = R[tk[k]].2.1.length := by simp at h3; omega
          subst hj3
          rw [List.take_length] at hW2
          have wkm : IntKind.i64.wrap ((k : Int) - 1) = (k : Int) - 1 := w64 (by omega) (by omega)
          refine ⟨⟨(k, K2, _, tk[k] :: out), ⟨(by show k ≤ tk.length; omega), (by show (tk[k] :: out).length + k ≤ tk.length; rw [List.length_cons]; omega)⟩, hW2, he⟩, by show k < k + 1; omega, ?_⟩
          exact weak_drop (by simp) (by simp [DropHp, ints_below, flts_below, kB, intB, bagg_below, wkm]) (by simp [DropTm, DropV, below, belowM, belowL, kB, intB, bagg_below, wkm])
      · rw [if_neg (by rw [b4]; decide)] at he
        have wkm : IntKind.i64.wrap ((k : Int) - 1) = (k : Int) - 1 := w64 (by omega) (by omega)
        refine ⟨⟨(k, K, want, out), ⟨(by show k ≤ tk.length; omega), (by show out.length + k ≤ tk.length; omega)⟩, hW, he⟩, by show k < k + 1; omega, ?_⟩
        exact weak_drop (by simp) (by simp [DropHp, ints_below, flts_below, kB, intB, bagg_below, wkm]) (by simp [DropTm, DropV, below, belowM, belowL, kB, intB, bagg_below, wkm])
  · have hi0 : i = 0 := by have := of_decide_eq_false h; omega
    subst hi0
    have he : out = bk (rkR R) (fB fs) tk.reverse (wan0 (fB fs) x) [] := he
    rw [← htk] at he h0
    refine PostR.tell [1] (hp2 := [intB (nI out)]) (by decide) (by decide) (by decide) ⟨⟨by simp [renB, intB, ints_ren], intsB_below _ _⟩, trivial⟩ (r2 := .tup [.sl 0 0 out.length, .bool true]) (by rfl) (by rfl) ⟨W, L, .inr ⟨b1, n, h0, by rw [← he], by rw [← he]; rfl⟩⟩
theorem refProof_call {R : List Rul} {fs : List Int} {day : Int} (A : Ask R fs day) (x : Int) (hx : wordB x = true) :
    CallA Tryz.prog 10 [.ro (R.map rulA), .ro (ints fs), .int .i64 day, .int .i64 x] [] (fun r hp => ∃ W, Least (R.filter (onB day)) fs (yW W) (nW W) ∧ ((yW W x = false ∧ r = .tup [.nils, .bool false] ∧ hp = []) ∨ (yW W x = true ∧ ∃ n, tkS (actL R day) (rkR R) (yW W) (fB fs) (tkN (actL R day) (rkR R) (yW W) (fB fs) n).1 (tkN (actL R day) (rkR R) (yW W) (fB fs) n).2 = [] ∧
      r = .tup [.ro (ints (nI (bk (rkR R) (fB fs) (tkN (actL R day) (rkR R) (yW W) (fB fs) n).1.reverse (wan0 (fB fs) x) []))), .bool true] ∧ hp = []))) := by
  refine (CallA.freezeQ 3 (refProof0_call A x hx)).mono ?_
  rintro r hp ⟨r0, new, ⟨W, L, h⟩, rfl, rfl⟩
  refine ⟨W, L, ?_⟩
  rcases h with ⟨h1, rfl, rfl⟩ | ⟨h1, n, h0, rfl, rfl⟩
  · exact .inl ⟨h1, rfl, rfl⟩
  · refine .inr ⟨h1, n, h0, ?_, rfl⟩
    show AV.tup [view 2 _ _, view 2 _ _] = _
    rw [← nI_len, view_intB]
    rfl
end Go.Proofs.YthcfklkpabfkbaaGreat
