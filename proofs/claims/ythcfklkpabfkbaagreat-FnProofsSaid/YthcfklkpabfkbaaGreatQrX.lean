/- The order in which rules are taken: the reference's. -/
import Derived.Test.YthcfklkpabfkbaaGreatQrW
set_option maxRecDepth 10000
set_option maxHeartbeats 8000000
set_option linter.unusedSimpArgs false
set_option linter.unusedVariables false
namespace Go.Proofs.YthcfklkpabfkbaaGreat
open Go Go.Abs

def actL (R : List Rul) (day : Int) : List Nat := (List.range R.length).filter (onN R day)
def kB (K : Nat → Bool) : Blk := { ty := 51, w := 32, els := [.agg (bC 32 K)] }
theorem view_intBs (xs : List Int) (l : List Blk) : view 2 (intB xs :: l) (.sl 0 0 xs.length) = .ro (ints xs) := by
  rw [view_sl]
  simp [intB, ints_len, map_view_ints, take_ints]
theorem bC_d0 (n a b : Nat) (W : Nat → Bool) (h : 0 < (((bC n W).drop a).drop b).length) : (((bC n W).drop a).drop b)[0]'h = .bool (W (a + b)) := by simp [bC]
theorem bC_d1 (n a b : Nat) (W : Nat → Bool) (h : b < (((bC n W).drop a)).length) : (((bC n W).drop a))[b]'h = .bool (W (a + b)) := by simp [bC]
theorem ib2 (N : Nat) (a b : List Int) : allBelow N (ints a ++ ints b) = true := by
  rw [show ints a ++ ints b = ints (a ++ b) from by simp [ints]]
  exact intsB_below _ _
theorem KnA.next {fs : List Int} {K : Nat → Bool} {kn : Int → Bool} {ru : Nat → Rul} {N : List Nat} {j : Nat} (hj : j < N.length) (hw : wordB (ru N[j]).1 = true) (h : ∀ w, wordB w = true → K (plN w) = (fB fs w || knU ru kn (N.take j) w)) (w : Int) (hw2 : wordB w = true) : updW K (plN (ru N[j]).1) true (plN w) = (fB fs w || knU ru kn (N.take (j + 1)) w) := by
  have e := yW_upd (W := K) hw hw2
  unfold yW at e
  rw [e, h w hw2]
  unfold knU
  rw [take_snoc _ _ hj, List.any_append]
  simp only [List.any_cons, List.any_nil, Bool.or_false]
  have e2 : decide (w = (ru N[j]).1) = ((ru N[j]).1 == w) := by
    rw [Bool.eq_iff_iff]
    simp only [decide_eq_true_eq, beq_iff_eq]
    exact ⟨Eq.symm, Eq.symm⟩
  rw [e2]
  simp only [Bool.or_assoc]
theorem all_congrM {α : Type} {p q : α → Bool} : ∀ l : List α, (∀ x ∈ l, p x = q x) → l.all p = l.all q
  | [], _ => rfl
  | x :: l, h => by rw [List.all_cons, List.all_cons, h x (by simp), all_congrM l fun y hy => h y (by simp [hy])]
structure Says (fs : List Int) (W : Nat → Bool) (Y : Int → Bool) : Prop where
  yes : ∀ w, wordB w = true → W (plN w) = Y w
  fact : ∀ w, wordB w = true → W (64 + plN w) = decide (w ∈ fs)
def KnA (fs : List Int) (K : Nat → Bool) (kn : Int → Bool) : Prop := ∀ w, wordB w = true → K (plN w) = (fB fs w || kn w)
section
variable {R : List Rul} {day : Int} {Y F : Int → Bool} {O : List Nat} {kn : Int → Bool} {k : Nat}
def tkA (R : List Rul) (day : Int) (Y F : Int → Bool) (O : List Nat) (kn : Int → Bool) (k : Nat) : List Nat := ((List.range k).filter (onN R day)).filter (tkP (rkR R) Y F O kn)
theorem tkA_succ : tkA R day Y F O kn (k + 1) = tkA R day Y F O kn k ++ (if (onN R day k && tkP (rkR R) Y F O kn k) = true then [k] else []) := by
  unfold tkA
  rw [List.range_succ, List.filter_append, List.filter_append]
  congr 1
  by_cases h : onN R day k = true
  · by_cases h2 : tkP (rkR R) Y F O kn k = true
    · simp [h, h2]
    · simp [h, h2]
  · simp [h]
theorem tkA_len : (tkA R day Y F O kn k).length ≤ k := Nat.le_trans (List.length_filter_le _ _) (Nat.le_trans (List.length_filter_le _ _) (by simp))
theorem tkA_all : tkA R day Y F O kn R.length = tkS (actL R day) (rkR R) Y F O kn := rfl
end
theorem actL_nodup (R : List Rul) (day : Int) : (actL R day).Nodup := List.nodup_range.filter _
theorem actL_len (R : List Rul) (day : Int) : (actL R day).length ≤ R.length := Nat.le_trans (List.length_filter_le _ _) (by simp)

theorem refTaken0_call (R : List Rul) (hR : Rls R) (fs : List Int) (day : Int) (W : Nat → Bool) (Y : Int → Bool) (S : Says fs W Y) :
    CallA Tryz.prog 35 [.ro (R.map rulA), .int .i64 day, .rop (bC 96 W)] [] (fun r hp => ∃ n, tkS (actL R day) (rkR R) Y (fB fs) (tkN (actL R day) (rkR R) Y (fB fs) n).1 (tkN (actL R day) (rkR R) Y (fB fs) n).2 = [] ∧
      r = .sl 0 0 (tkN (actL R day) (rkR R) Y (fB fs) n).1.length ∧ hp = [intB (nI (tkN (actL R day) (rkR R) Y (fB fs) n).1)]) := by
  have hl := hR.len
  have nd := actL_nodup R day
  have al := actL_len R day
  refine CallP.out (t := .mk) (go_in (md := md35) mixed Tryz.func35 rfl go35 (by kernel_rfl) ?_)
  simp only [q0, q1, q2, q3, q4, q5, q6, q7, q8, q9, zr0, zr1, zr2, zr3, zq0, zq1, zq2, zq3, zq4, Nat.reduceAdd, Nat.reduceSub, lenA, convA, indexA, indexS, Int.reduceToNat, cond_true, cond_false, ↓reduceIte, reduceCtorEq, Nat.reduceLT, Nat.reduceLeDiff, Nat.reduceMul, Nat.reduceEqDiff, exists_eq', implies_true, exists_true_left, tys0, tys1, tys2, tys3, tys4, und0, und1, und2, und3, md35, Tryz.ntmps35, Tryz.results35, bC_one, bC_len, bC_get]
  have e0 := bC_part 96 64 32 W (by omega)
  simp only [e0]
  refine ⟨by rw [List.length_drop, bC_len]; omega, by rw [bC_one], by rw [bC_len], by rw [bC_len]; omega, ?_⟩
  simp only [q0, q1, q2, q3, q4, q5, q6, q7, q8, q9, zr0, zr1, zr2, zr3, zq0, zq1, zq2, zq3, zq4, Nat.reduceAdd, Nat.reduceSub, lenA, convA, indexA, indexS, Int.reduceToNat, cond_true, cond_false, ↓reduceIte, reduceCtorEq, Nat.reduceLT, Nat.reduceLeDiff, Nat.reduceMul, Nat.reduceEqDiff, exists_eq', implies_true, exists_true_left, tys0, tys1, tys2, tys3, tys4, und0, und1, und2, und3, md35, Tryz.ntmps35, Tryz.results35, bC_len, bC_get, kB, intB, List.length_map, ints_len, nI_len]
  have k0 : KnA fs (fun i => W (64 + i)) (fun _ => false) := fun w hw => by show W (64 + plN w) = _; rw [S.fact w hw, Bool.or_false]; rfl
  refine go_round (md := md35) mixed (by kernel_rfl) (fun s : {s : Nat × Bool × (Nat → Bool) // KnA fs s.2.2 (tkN (actL R day) (rkR R) Y (fB fs) s.1).2 ∧ (s.2.1 = false → tkS (actL R day) (rkR R) Y (fB fs) (tkN (actL R day) (rkR R) Y (fB fs) s.1).1 (tkN (actL R day) (rkR R) Y (fB fs) s.1).2 = [])} => ⟨[.ro (R.map rulA), .int .i64 day, .rop (bC 96 W), .any, .any, .any, .any, .sl 0 0 (tkN (actL R day) (rkR R) Y (fB fs) s.1.1).1.length, .ptr 1 0 0, .bool s.1.2.1, .any, .any, .any, .any, .any, .any, .any, .any, .any, .any, .any, .any, .any, .any, .any, .any, .any, .any, .any, .any, .any, .any, .any, .any, .any, .any, .any, .any, .any, .any, .any, .any, .any, .any, .any, .any, .any, .any, .any, .any, .any, .any, .any, .any, .any, .any, .any, .any, .any, .any, .any, .any, .any, .any, .any, .any, .any, .any, .any, .any, .any, .any, .any, .any, .any, .any, .any, .any, .any, .any, .any, .any, .any, .any, .any, .any, .any, .any, .any, .any, .any, .any, .any, .any, .any, .any, .any, .any, .any, .any, .any, .any, .any, .any, .any, .any, .any, .any, .any, .any, .any], [intB (nI (tkN (actL R day) (rkR R) Y (fB fs) s.1.1).1), kB s.1.2.2]⟩) (fun s => if s.1.2.1 = true then 1 + (R.length - (tkN (actL R day) (rkR R) Y (fB fs) s.1.1).1.length) else 0) ⟨(0, true, fun i => W (64 + i)), k0, fun h => by cases h⟩ ?_ ?_
  · exact weak_drop (by simp) (by simp [DropHp, ints_below, flts_below, kB, intB, bagg_below, show nI [] = [] from rfl, show ints [] = [] from rfl, show allBelow 2 [] = true from rfl, show (tkN (actL R day) (rkR R) Y (fB fs) 0).1 = [] from rfl]) (by simp [DropTm, DropV, below, belowM, belowL, kB, intB, bagg_below, show nI [] = [] from rfl, show ints [] = [] from rfl, show allBelow 2 [] = true from rfl, show (tkN (actL R day) (rkR R) Y (fB fs) 0).1 = [] from rfl])
  rintro ⟨⟨n, m, K⟩, hK, hm⟩
  dsimp only at hK hm ⊢
  simp only [q0, q1, q2, q3, q4, q5, q6, q7, q8, q9, zr0, zr1, zr2, zr3, zq0, zq1, zq2, zq3, zq4, Nat.reduceAdd, Nat.reduceSub, lenA, convA, indexA, indexS, Int.reduceToNat, cond_true, cond_false, ↓reduceIte, reduceCtorEq, Nat.reduceLT, Nat.reduceLeDiff, Nat.reduceMul, Nat.reduceEqDiff, exists_eq', implies_true, exists_true_left, tys0, tys1, tys2, tys3, tys4, und0, und1, und2, und3, md35, Tryz.ntmps35, Tryz.results35, bC_len, bC_get, kB, intB, List.length_map, ints_len, nI_len]
  have hOl := tkN_len (ru := rkR R) (Y := Y) (F := fB fs) nd n
  have hOm := (tkN_nodup (ru := rkR R) (Y := Y) (F := fB fs) nd n).2
  refine br_intro (fun h => ?_) (fun h => ?_) <;> simp only [q0, q1, q2, q3, q4, q5, q6, q7, q8, q9, zr0, zr1, zr2, zr3, zq0, zq1, zq2, zq3, zq4, Nat.reduceAdd, Nat.reduceSub, lenA, convA, indexA, indexS, Int.reduceToNat, cond_true, cond_false, ↓reduceIte, reduceCtorEq, Nat.reduceLT, Nat.reduceLeDiff, Nat.reduceMul, Nat.reduceEqDiff, exists_eq', implies_true, exists_true_left, tys0, tys1, tys2, tys3, tys4, und0, und1, und2, und3, md35, Tryz.ntmps35, Tryz.results35, bC_len, bC_get, kB, intB, List.length_map, ints_len, nI_len]
  · refine go_round (md := md35) mixed (by kernel_rfl) (fun k : {k : Nat // k ≤ R.length} => ⟨[.ro (R.map rulA), .int .i64 day, .rop (bC 96 W), .any, .any, .any, .any, .sl 0 0 (tkN (actL R day) (rkR R) Y (fB fs) n).1.length, .ptr 1 0 0, .bool false, .sl 2 0 (tkA R day Y (fB fs) (tkN (actL R day) (rkR R) Y (fB fs) n).1 (tkN (actL R day) (rkR R) Y (fB fs) n).2 k.1).length, .any, .any, .any, .any, .any, .any, .any, .any, .any, .any, .any, .any, .any, .any, .int .i64 R.length, .int .i64 k.1, .any, .any, .any, .any, .any, .any, .any, .any, .any, .any, .any, .any, .any, .any, .any, .any, .any, .any, .any, .any, .any, .any, .any, .any, .any, .any, .any, .any, .any, .any, .any, .any, .any, .any, .any, .any, .any, .any, .any, .any, .any, .any, .any, .any, .any, .any, .any, .any, .any, .any, .any, .any, .any, .any, .any, .any, .any, .any, .any, .any, .any, .any, .any, .any, .any, .any, .any, .any, .any, .any, .any, .any, .any, .any, .any, .any, .any, .any, .any, .any, .any, .any, .any, .any], [intB (nI (tkN (actL R day) (rkR R) Y (fB fs) n).1), kB K, intB (nI (tkA R day Y (fB fs) (tkN (actL R day) (rkR R) Y (fB fs) n).1 (tkN (actL R day) (rkR R) Y (fB fs) n).2 k.1))]⟩) (fun k => R.length - k.1) ⟨0, Nat.zero_le _⟩ ?_ ?_
    · exact weak_drop (by simp) (by simp [DropHp, ints_below, flts_below, kB, intB, bagg_below, show nI [] = [] from rfl, show ints [] = [] from rfl, show allBelow 3 [] = true from rfl, show tkA R day Y (fB fs) (tkN (actL R day) (rkR R) Y (fB fs) n).1 (tkN (actL R day) (rkR R) Y (fB fs) n).2 0 = [] from rfl]) (by simp [DropTm, DropV, below, belowM, belowL, kB, intB, bagg_below, show nI [] = [] from rfl, show ints [] = [] from rfl, show allBelow 3 [] = true from rfl, show tkA R day Y (fB fs) (tkN (actL R day) (rkR R) Y (fB fs) n).1 (tkN (actL R day) (rkR R) Y (fB fs) n).2 0 = [] from rfl])
    rintro ⟨k, hk⟩
    have hNl := tkA_len (R := R) (day := day) (Y := Y) (F := fB fs) (O := (tkN (actL R day) (rkR R) Y (fB fs) n).1) (kn := (tkN (actL R day) (rkR R) Y (fB fs) n).2) (k := k)
    simp only [q0, q1, q2, q3, q4, q5, q6, q7, q8, q9, zr0, zr1, zr2, zr3, zq0, zq1, zq2, zq3, zq4, Nat.reduceAdd, Nat.reduceSub, lenA, convA, indexA, indexS, Int.reduceToNat, cond_true, cond_false, ↓reduceIte, reduceCtorEq, Nat.reduceLT, Nat.reduceLeDiff, Nat.reduceMul, Nat.reduceEqDiff, exists_eq', implies_true, exists_true_left, tys0, tys1, tys2, tys3, tys4, und0, und1, und2, und3, md35, Tryz.ntmps35, Tryz.results35, bC_len, bC_get, kB, intB, List.length_map, ints_len, nI_len]
    refine br_intro (fun h1 => ?_) (fun h1 => ?_) <;> simp only [q0, q1, q2, q3, q4, q5, q6, q7, q8, q9, zr0, zr1, zr2, zr3, zq0, zq1, zq2, zq3, zq4, Nat.reduceAdd, Nat.reduceSub, lenA, convA, indexA, indexS, Int.reduceToNat, cond_true, cond_false, ↓reduceIte, reduceCtorEq, Nat.reduceLT, Nat.reduceLeDiff, Nat.reduceMul, Nat.reduceEqDiff, exists_eq', implies_true, exists_true_left, tys0, tys1, tys2, tys3, tys4, und0, und1, und2, und3, md35, Tryz.ntmps35, Tryz.results35, bC_len, bC_get, kB, intB, List.length_map, ints_len, nI_len]
    · have hk' : k < R.length := by simpa using h1
      have hr := hR.ok _ (List.getElem_mem hk')
      have h6 := hr.2.1.1
      have wk := w64_succ k (by omega)
      have es := tkA_succ (R := R) (day := day) (Y := Y) (F := fB fs) (O := (tkN (actL R day) (rkR R) Y (fB fs) n).1) (kn := (tkN (actL R day) (rkR R) Y (fB fs) n).2) (k := k)
      refine ⟨hk', ?_⟩
      simp only [q0, q1, q2, q3, q4, q5, q6, q7, q8, q9, zr0, zr1, zr2, zr3, zq0, zq1, zq2, zq3, zq4, Nat.reduceAdd, Nat.reduceSub, lenA, convA, indexA, indexS, Int.reduceToNat, cond_true, cond_false, ↓reduceIte, reduceCtorEq, Nat.reduceLT, Nat.reduceLeDiff, Nat.reduceMul, Nat.reduceEqDiff, exists_eq', implies_true, exists_true_left, tys0, tys1, tys2, tys3, tys4, und0, und1, und2, und3, md35, Tryz.ntmps35, Tryz.results35, List.getElem_map, rulA, bC_len, bC_get, kB, intB, List.length_map, ints_len, nI_len]
      have ek := rkR_at R k hk'
      have eP : tkP (rkR R) Y (fB fs) (tkN (actL R day) (rkR R) Y (fB fs) n).1 (tkN (actL R day) (rkR R) Y (fB fs) n).2 k = (!decide (k ∈ (tkN (actL R day) (rkR R) Y (fB fs) n).1) && (W (plN R[k].1) && (!W (64 + plN R[k].1) && R[k].2.1.all fun w => K (plN w)))) := by
        unfold tkP
        rw [ek, S.yes _ hr.1, S.fact _ hr.1]
        congr 3
        · have : (R[k].2.1.all fun w => fB fs w || (tkN (actL R day) (rkR R) Y (fB fs) n).2 w) = R[k].2.1.all fun w => K (plN w) := all_congrM _ fun w hw => (hK w (hr.2.1.2 w hw)).symm
          rw [this]
      have eO : onN R day k = onB day R[k] := by unfold onN; rw [ek]
      have pl := plN_lt hr.1
      have mI : decide ((k : Int) ∈ nI (tkN (actL R day) (rkR R) Y (fB fs) n).1) = decide (k ∈ (tkN (actL R day) (rkR R) Y (fB fs) n).1) := by rw [decide_eq_decide, nI_mem]
      have cN := l00Has_call (nI (tkN (actL R day) (rkR R) Y (fB fs) n).1) (k : Int) (by rw [nI_len]; omega)
      rw [mI] at cN
      refine call_ret (l05Place_call R[k].1 hr.1) (by rfl) rfl ?_
      simp only [q0, q1, q2, q3, q4, q5, q6, q7, q8, q9, zr0, zr1, zr2, zr3, zq0, zq1, zq2, zq3, zq4, Nat.reduceAdd, Nat.reduceSub, lenA, convA, indexA, indexS, Int.reduceToNat, cond_true, cond_false, ↓reduceIte, reduceCtorEq, Nat.reduceLT, Nat.reduceLeDiff, Nat.reduceMul, Nat.reduceEqDiff, exists_eq', implies_true, exists_true_left, tys0, tys1, tys2, tys3, tys4, und0, und1, und2, und3, md35, Tryz.ntmps35, Tryz.results35, List.getElem_map, rulA, bC_len, bC_get, kB, intB, List.length_map, ints_len, nI_len]
      refine call_ret (l05On_call R[k] day) (by rfl) rfl ?_
      simp only [q0, q1, q2, q3, q4, q5, q6, q7, q8, q9, zr0, zr1, zr2, zr3, zq0, zq1, zq2, zq3, zq4, Nat.reduceAdd, Nat.reduceSub, lenA, convA, indexA, indexS, Int.reduceToNat, cond_true, cond_false, ↓reduceIte, reduceCtorEq, Nat.reduceLT, Nat.reduceLeDiff, Nat.reduceMul, Nat.reduceEqDiff, exists_eq', implies_true, exists_true_left, tys0, tys1, tys2, tys3, tys4, und0, und1, und2, und3, md35, Tryz.ntmps35, Tryz.results35, List.getElem_map, rulA, bC_len, bC_get, kB, intB, List.length_map, ints_len, nI_len]
      refine br_intro (fun b1 => ?_) (fun b1 => ?_) <;> simp only [q0, q1, q2, q3, q4, q5, q6, q7, q8, q9, zr0, zr1, zr2, zr3, zq0, zq1, zq2, zq3, zq4, Nat.reduceAdd, Nat.reduceSub, lenA, convA, indexA, indexS, Int.reduceToNat, cond_true, cond_false, ↓reduceIte, reduceCtorEq, Nat.reduceLT, Nat.reduceLeDiff, Nat.reduceMul, Nat.reduceEqDiff, exists_eq', implies_true, exists_true_left, tys0, tys1, tys2, tys3, tys4, und0, und1, und2, und3, md35, Tryz.ntmps35, Tryz.results35, List.getElem_map, rulA, bC_len, bC_get, kB, intB, List.length_map, ints_len, nI_len]
      rotate_left
      · rw [show (onN R day k && tkP (rkR R) Y (fB fs) (tkN (actL R day) (rkR R) Y (fB fs) n).1 (tkN (actL R day) (rkR R) Y (fB fs) n).2 k) = false from by rw [eO, b1]; rfl, if_neg (by decide), List.append_nil] at es
        refine ⟨⟨k + 1, by omega⟩, by show R.length - (k + 1) < _; omega, ?_⟩
        dsimp only
        rw [es]
        exact weak_drop (by simp) (by simp [DropHp, ints_below, flts_below, kB, intB, bagg_below, wk]) (by simp [DropTm, DropV, below, belowM, belowL, kB, intB, bagg_below, wk])
      refine call_lent 2 (by rw [← nI_len]; show [view 2 (intB _ :: _) (.sl 0 0 _), view 2 _ _] = _; rw [view_intBs]; rfl) cN rfl rfl ?_
      simp only [q0, q1, q2, q3, q4, q5, q6, q7, q8, q9, zr0, zr1, zr2, zr3, zq0, zq1, zq2, zq3, zq4, Nat.reduceAdd, Nat.reduceSub, lenA, convA, indexA, indexS, Int.reduceToNat, cond_true, cond_false, ↓reduceIte, reduceCtorEq, Nat.reduceLT, Nat.reduceLeDiff, Nat.reduceMul, Nat.reduceEqDiff, exists_eq', implies_true, exists_true_left, tys0, tys1, tys2, tys3, tys4, und0, und1, und2, und3, md35, Tryz.ntmps35, Tryz.results35, List.getElem_map, rulA, bC_len, bC_get, kB, intB, List.length_map, ints_len, nI_len]
      refine br_intro (fun b2 => ?_) (fun b2 => ?_) <;> simp only [q0, q1, q2, q3, q4, q5, q6, q7, q8, q9, zr0, zr1, zr2, zr3, zq0, zq1, zq2, zq3, zq4, Nat.reduceAdd, Nat.reduceSub, lenA, convA, indexA, indexS, Int.reduceToNat, cond_true, cond_false, ↓reduceIte, reduceCtorEq, Nat.reduceLT, Nat.reduceLeDiff, Nat.reduceMul, Nat.reduceEqDiff, exists_eq', implies_true, exists_true_left, tys0, tys1, tys2, tys3, tys4, und0, und1, und2, und3, md35, Tryz.ntmps35, Tryz.results35, List.getElem_map, rulA, bC_len, bC_get, kB, intB, List.length_map, ints_len, nI_len]
      · rw [show (onN R day k && tkP (rkR R) Y (fB fs) (tkN (actL R day) (rkR R) Y (fB fs) n).1 (tkN (actL R day) (rkR R) Y (fB fs) n).2 k) = false from by rw [eO, b1, eP, b2]; rfl, if_neg (by decide), List.append_nil] at es
        refine ⟨⟨k + 1, by omega⟩, by show R.length - (k + 1) < _; omega, ?_⟩
        dsimp only
        rw [es]
        exact weak_drop (by simp) (by simp [DropHp, ints_below, flts_below, kB, intB, bagg_below, wk]) (by simp [DropTm, DropV, below, belowM, belowL, kB, intB, bagg_below, wk])
      refine ⟨by omega, by first | omega | (simp only [bC_len, List.length_drop]; omega), ?_⟩
      simp only [q0, q1, q2, q3, q4, q5, q6, q7, q8, q9, zr0, zr1, zr2, zr3, zq0, zq1, zq2, zq3, zq4, Nat.reduceAdd, Nat.reduceSub, lenA, convA, indexA, indexS, Int.reduceToNat, cond_true, cond_false, ↓reduceIte, reduceCtorEq, Nat.reduceLT, Nat.reduceLeDiff, Nat.reduceMul, Nat.reduceEqDiff, exists_eq', implies_true, exists_true_left, tys0, tys1, tys2, tys3, tys4, und0, und1, und2, und3, md35, Tryz.ntmps35, Tryz.results35, List.getElem_map, rulA, bC_len, bC_get, bC_drop, List.length_drop, kB, intB, List.length_map, ints_len, nI_len, Nat.mul_one]
      refine br_intro (fun b3 => ?_) (fun b3 => ?_) <;> simp only [q0, q1, q2, q3, q4, q5, q6, q7, q8, q9, zr0, zr1, zr2, zr3, zq0, zq1, zq2, zq3, zq4, Nat.reduceAdd, Nat.reduceSub, lenA, convA, indexA, indexS, Int.reduceToNat, cond_true, cond_false, ↓reduceIte, reduceCtorEq, Nat.reduceLT, Nat.reduceLeDiff, Nat.reduceMul, Nat.reduceEqDiff, exists_eq', implies_true, exists_true_left, tys0, tys1, tys2, tys3, tys4, und0, und1, und2, und3, md35, Tryz.ntmps35, Tryz.results35, List.getElem_map, rulA, bC_len, bC_get, bC_drop, List.length_drop, kB, intB, List.length_map, ints_len, nI_len, Nat.mul_one]
      rotate_left
      · rw [show (onN R day k && tkP (rkR R) Y (fB fs) (tkN (actL R day) (rkR R) Y (fB fs) n).1 (tkN (actL R day) (rkR R) Y (fB fs) n).2 k) = false from by rw [eO, b1, eP, b2, b3]; rfl, if_neg (by decide), List.append_nil] at es
        refine ⟨⟨k + 1, by omega⟩, by show R.length - (k + 1) < _; omega, ?_⟩
        dsimp only
        rw [es]
        exact weak_drop (by simp) (by simp [DropHp, ints_below, flts_below, kB, intB, bagg_below, wk]) (by simp [DropTm, DropV, below, belowM, belowL, kB, intB, bagg_below, wk])
      refine ⟨by omega, by first | omega | (simp only [bC_len, List.length_drop]; omega), ?_⟩
      try simp only [Nat.mul_one, bC_d0, bC_d1]
      simp only [q0, q1, q2, q3, q4, q5, q6, q7, q8, q9, zr0, zr1, zr2, zr3, zq0, zq1, zq2, zq3, zq4, Nat.reduceAdd, Nat.reduceSub, lenA, convA, indexA, indexS, Int.reduceToNat, cond_true, cond_false, ↓reduceIte, reduceCtorEq, Nat.reduceLT, Nat.reduceLeDiff, Nat.reduceMul, Nat.reduceEqDiff, exists_eq', implies_true, exists_true_left, tys0, tys1, tys2, tys3, tys4, und0, und1, und2, und3, md35, Tryz.ntmps35, Tryz.results35, bC_d0, bC_d1, Nat.mul_one]
      refine br_intro (fun b4 => ?_) (fun b4 => ?_) <;> simp only [q0, q1, q2, q3, q4, q5, q6, q7, q8, q9, zr0, zr1, zr2, zr3, zq0, zq1, zq2, zq3, zq4, Nat.reduceAdd, Nat.reduceSub, lenA, convA, indexA, indexS, Int.reduceToNat, cond_true, cond_false, ↓reduceIte, reduceCtorEq, Nat.reduceLT, Nat.reduceLeDiff, Nat.reduceMul, Nat.reduceEqDiff, exists_eq', implies_true, exists_true_left, tys0, tys1, tys2, tys3, tys4, und0, und1, und2, und3, md35, Tryz.ntmps35, Tryz.results35, List.getElem_map, rulA, bC_len, bC_get, bC_drop, List.length_drop, kB, intB, List.length_map, ints_len, nI_len, Nat.mul_one]
      · rw [show (onN R day k && tkP (rkR R) Y (fB fs) (tkN (actL R day) (rkR R) Y (fB fs) n).1 (tkN (actL R day) (rkR R) Y (fB fs) n).2 k) = false from by rw [eO, b1, eP, b2, b3, b4]; rfl, if_neg (by decide), List.append_nil] at es
        refine ⟨⟨k + 1, by omega⟩, by show R.length - (k + 1) < _; omega, ?_⟩
        dsimp only
        rw [es]
        exact weak_drop (by simp) (by simp [DropHp, ints_below, flts_below, kB, intB, bagg_below, wk]) (by simp [DropTm, DropV, below, belowM, belowL, kB, intB, bagg_below, wk])
      refine go_round (md := md35) mixed (by kernel_rfl) (fun j : {j : Nat // j ≤ R[k].2.1.length} => ⟨[.ro (R.map rulA), .int .i64 day, .rop (bC 96 W), .any, .any, .any, .any, .sl 0 0 (tkN (actL R day) (rkR R) Y (fB fs) n).1.length, .ptr 1 0 0, .bool false, .sl 2 0 (tkA R day Y (fB fs) (tkN (actL R day) (rkR R) Y (fB fs) n).1 (tkN (actL R day) (rkR R) Y (fB fs) n).2 k).length, .int .i64 k, ruP R[k], .any, .bool ((R[k].2.1.take j.1).all fun w => K (plN w)), .any, .any, .any, .any, .any, .any, .any, .any, .any, .any, .int .i64 R.length, .int .i64 k, .any, .any, .any, .any, .any, .any, .any, .any, .any, .any, .any, .any, .any, .any, .any, .any, .any, .any, .any, .any, .any, .any, .any, .any, .any, .any, .any, .any, .any, .any, .any, .any, .any, .any, .any, .any, .any, .any, .any, .any, .int .i64 R[k].2.1.length, .int .i64 j.1, .any, .any, .any, .any, .any, .any, .any, .any, .any, .any, .any, .any, .any, .any, .any, .any, .any, .any, .any, .any, .any, .any, .any, .any, .any, .any, .any, .any, .any, .any, .any, .any, .any, .any, .any, .any, .any, .any, .any, .any, .any, .any], [intB (nI (tkN (actL R day) (rkR R) Y (fB fs) n).1), kB K, intB (nI (tkA R day Y (fB fs) (tkN (actL R day) (rkR R) Y (fB fs) n).1 (tkN (actL R day) (rkR R) Y (fB fs) n).2 k))]⟩) (fun j => R[k].2.1.length - j.1) ⟨0, Nat.zero_le _⟩ ?_ ?_
      · exact weak_drop (by simp) (by simp [DropHp, ints_below, flts_below, kB, intB, bagg_below, ruP, show allBelow 3 [] = true from rfl]) (by simp [DropTm, DropV, below, belowM, belowL, kB, intB, bagg_below, ruP, show allBelow 3 [] = true from rfl])
      rintro ⟨j, hj⟩
      simp only [q0, q1, q2, q3, q4, q5, q6, q7, q8, q9, zr0, zr1, zr2, zr3, zq0, zq1, zq2, zq3, zq4, Nat.reduceAdd, Nat.reduceSub, lenA, convA, indexA, indexS, Int.reduceToNat, cond_true, cond_false, ↓reduceIte, reduceCtorEq, Nat.reduceLT, Nat.reduceLeDiff, Nat.reduceMul, Nat.reduceEqDiff, exists_eq', implies_true, exists_true_left, tys0, tys1, tys2, tys3, tys4, und0, und1, und2, und3, md35, Tryz.ntmps35, Tryz.results35, ruP, bC_len, bC_get, bC_drop, List.length_drop, kB, intB, List.length_map, ints_len, nI_len, Nat.mul_one]
      refine br_intro (fun h3 => ?_) (fun h3 => ?_) <;> simp only [q0, q1, q2, q3, q4, q5, q6, q7, q8, q9, zr0, zr1, zr2, zr3, zq0, zq1, zq2, zq3, zq4, Nat.reduceAdd, Nat.reduceSub, lenA, convA, indexA, indexS, Int.reduceToNat, cond_true, cond_false, ↓reduceIte, reduceCtorEq, Nat.reduceLT, Nat.reduceLeDiff, Nat.reduceMul, Nat.reduceEqDiff, exists_eq', implies_true, exists_true_left, tys0, tys1, tys2, tys3, tys4, und0, und1, und2, und3, md35, Tryz.ntmps35, Tryz.results35, ruP, bC_len, bC_get, bC_drop, List.length_drop, kB, intB, List.length_map, ints_len, nI_len, Nat.mul_one]
      · have hj' : j < R[k].2.1.length := by simpa using h3
        have hw := hr.2.1.2 _ (List.getElem_mem hj')
        have pw := plN_lt hw
        have wj := w64_succ j (by omega)
        have ea : ((R[k].2.1.take (j + 1)).all fun w => K (plN w)) = (((R[k].2.1.take j).all fun w => K (plN w)) && K (plN R[k].2.1[j])) := by
          rw [take_snoc _ _ hj', List.all_append]; simp
        refine br_intro (fun b5 => ?_) (fun b5 => ?_) <;> simp only [q0, q1, q2, q3, q4, q5, q6, q7, q8, q9, zr0, zr1, zr2, zr3, zq0, zq1, zq2, zq3, zq4, Nat.reduceAdd, Nat.reduceSub, lenA, convA, indexA, indexS, Int.reduceToNat, cond_true, cond_false, ↓reduceIte, reduceCtorEq, Nat.reduceLT, Nat.reduceLeDiff, Nat.reduceMul, Nat.reduceEqDiff, exists_eq', implies_true, exists_true_left, tys0, tys1, tys2, tys3, tys4, und0, und1, und2, und3, md35, Tryz.ntmps35, Tryz.results35, bC_len, bC_get, bC_drop, List.length_drop, kB, intB, List.length_map, ints_len, nI_len, Nat.mul_one, ruP]
        · rw [b5, Bool.true_and] at ea
          refine ⟨hj', ?_⟩
          refine call_ret (l05Place_call _ hw) (by rfl) rfl ?_
          simp only [q0, q1, q2, q3, q4, q5, q6, q7, q8, q9, zr0, zr1, zr2, zr3, zq0, zq1, zq2, zq3, zq4, Nat.reduceAdd, Nat.reduceSub, lenA, convA, indexA, indexS, Int.reduceToNat, cond_true, cond_false, ↓reduceIte, reduceCtorEq, Nat.reduceLT, Nat.reduceLeDiff, Nat.reduceMul, Nat.reduceEqDiff, exists_eq', implies_true, exists_true_left, tys0, tys1, tys2, tys3, tys4, und0, und1, und2, und3, md35, Tryz.ntmps35, Tryz.results35, bC_len, bC_get, bC_drop, List.length_drop, kB, intB, List.length_map, ints_len, nI_len, Nat.mul_one, ruP]
          refine ⟨by omega, by omega, ⟨j + 1, by omega⟩, by show _ - (j + 1) < _; omega, ?_⟩
          exact weak_drop (by simp) (by simp [DropHp, ints_below, flts_below, kB, intB, bagg_below, ruP, wj, ea]) (by simp [DropTm, DropV, below, belowM, belowL, kB, intB, bagg_below, ruP, wj, ea])
        · rw [b5, Bool.false_and] at ea
          refine ⟨⟨j + 1, by omega⟩, by show _ - (j + 1) < _; omega, ?_⟩
          exact weak_drop (by simp) (by simp [DropHp, ints_below, flts_below, kB, intB, bagg_below, ruP, wj, ea]) (by simp [DropTm, DropV, below, belowM, belowL, kB, intB, bagg_below, ruP, wj, ea])
      · have hj' : j = R[k].2.1.length := by simp at h3; omega
        subst hj'
        rw [List.take_length]
        refine br_intro (fun b6 => ?_) (fun b6 => ?_) <;> simp only [q0, q1, q2, q3, q4, q5, q6, q7, q8, q9, zr0, zr1, zr2, zr3, zq0, zq1, zq2, zq3, zq4, Nat.reduceAdd, Nat.reduceSub, lenA, convA, indexA, indexS, Int.reduceToNat, cond_true, cond_false, ↓reduceIte, reduceCtorEq, Nat.reduceLT, Nat.reduceLeDiff, Nat.reduceMul, Nat.reduceEqDiff, exists_eq', implies_true, exists_true_left, tys0, tys1, tys2, tys3, tys4, und0, und1, und2, und3, md35, Tryz.ntmps35, Tryz.results35, bC_len, bC_get, bC_drop, List.length_drop, kB, intB, List.length_map, ints_len, nI_len, Nat.mul_one, ruP, allW_int, fits, List.isEmpty_cons, brk_false, Nat.reduceMul]
        · have eo : (onN R day k && tkP (rkR R) Y (fB fs) (tkN (actL R day) (rkR R) Y (fB fs) n).1 (tkN (actL R day) (rkR R) Y (fB fs) n).2 k) = true := by rw [eO, b1, eP, b2, b3, b4, b6]; rfl
          rw [eo, if_pos rfl] at es
          have el : (tkA R day Y (fB fs) (tkN (actL R day) (rkR R) Y (fB fs) n).1 (tkN (actL R day) (rkR R) Y (fB fs) n).2 k).length + 1 = (tkA R day Y (fB fs) (tkN (actL R day) (rkR R) Y (fB fs) n).1 (tkN (actL R day) (rkR R) Y (fB fs) n).2 (k + 1)).length := by rw [es]; simp
          have en : nI (tkA R day Y (fB fs) (tkN (actL R day) (rkR R) Y (fB fs) n).1 (tkN (actL R day) (rkR R) Y (fB fs) n).2 k) ++ [(k : Int)] = nI (tkA R day Y (fB fs) (tkN (actL R day) (rkR R) Y (fB fs) n).1 (tkN (actL R day) (rkR R) Y (fB fs) n).2 (k + 1)) := by rw [es, nI_append]; rfl
          refine ⟨by omega, ⟨k + 1, by omega⟩, by show R.length - (k + 1) < _; omega, ?_⟩
          dsimp only
          rw [el, en]
          exact weak_drop (by simp) (by simp [DropHp, ints_below, flts_below, kB, intB, bagg_below, bC_kill, wk]) (by simp [DropTm, DropV, below, belowM, belowL, kB, intB, bagg_below, bC_kill, wk])
        · rw [show (onN R day k && tkP (rkR R) Y (fB fs) (tkN (actL R day) (rkR R) Y (fB fs) n).1 (tkN (actL R day) (rkR R) Y (fB fs) n).2 k) = false from by rw [eO, b1, eP, b2, b3, b4, b6]; rfl, if_neg (by decide), List.append_nil] at es
          refine ⟨⟨k + 1, by omega⟩, by show R.length - (k + 1) < _; omega, ?_⟩
          dsimp only
          rw [es]
          exact weak_drop (by simp) (by simp [DropHp, ints_below, flts_below, kB, intB, bagg_below, wk]) (by simp [DropTm, DropV, below, belowM, belowL, kB, intB, bagg_below, wk])
    · have hk' : k = R.length := by simp at h1; omega
      subst hk'
      rw [tkA_all] at hNl ⊢
      have hsub : ∀ i ∈ tkS (actL R day) (rkR R) Y (fB fs) (tkN (actL R day) (rkR R) Y (fB fs) n).1 (tkN (actL R day) (rkR R) Y (fB fs) n).2, i < R.length := fun i hi => List.mem_range.1 (List.mem_filter.1 (List.mem_filter.1 hi).1).1
      have eN : (tkN (actL R day) (rkR R) Y (fB fs) (n + 1)).1 = (tkN (actL R day) (rkR R) Y (fB fs) n).1 ++ tkS (actL R day) (rkR R) Y (fB fs) (tkN (actL R day) (rkR R) Y (fB fs) n).1 (tkN (actL R day) (rkR R) Y (fB fs) n).2 := rfl
      have eK : (tkN (actL R day) (rkR R) Y (fB fs) (n + 1)).2 = knU (rkR R) (tkN (actL R day) (rkR R) Y (fB fs) n).2 (tkS (actL R day) (rkR R) Y (fB fs) (tkN (actL R day) (rkR R) Y (fB fs) n).1 (tkN (actL R day) (rkR R) Y (fB fs) n).2) := rfl
      have hO1 := tkN_len (ru := rkR R) (Y := Y) (F := fB fs) nd (n + 1)
      rw [eN, List.length_append] at hO1
      refine go_round (md := md35) mixed (by kernel_rfl) (fun s : {s : Nat × (Nat → Bool) // s.1 ≤ (tkS (actL R day) (rkR R) Y (fB fs) (tkN (actL R day) (rkR R) Y (fB fs) n).1 (tkN (actL R day) (rkR R) Y (fB fs) n).2).length ∧ KnA fs s.2 (knU (rkR R) (tkN (actL R day) (rkR R) Y (fB fs) n).2 ((tkS (actL R day) (rkR R) Y (fB fs) (tkN (actL R day) (rkR R) Y (fB fs) n).1 (tkN (actL R day) (rkR R) Y (fB fs) n).2).take s.1))} => ⟨[.ro (R.map rulA), .int .i64 day, .rop (bC 96 W), .any, .any, .any, .any, .sl 0 0 (tkN (actL R day) (rkR R) Y (fB fs) n).1.length, .ptr 1 0 0, .bool (decide (0 < s.1.1)), .sl 2 0 (tkS (actL R day) (rkR R) Y (fB fs) (tkN (actL R day) (rkR R) Y (fB fs) n).1 (tkN (actL R day) (rkR R) Y (fB fs) n).2).length, .any, .any, .any, .any, .any, .any, .any, .any, .any, .any, .any, .any, .any, .any, .any, .any, .any, .any, .any, .any, .any, .any, .any, .any, .any, .any, .any, .any, .any, .any, .any, .any, .any, .any, .any, .any, .any, .any, .any, .any, .any, .any, .any, .any, .any, .any, .any, .any, .any, .any, .any, .any, .any, .any, .any, .any, .any, .any, .any, .any, .any, .any, .any, .any, .any, .any, .any, .any, .any, .any, .any, .any, .any, .any, .any, .any, .any, .any, .any, .any, .any, .int .i64 (tkS (actL R day) (rkR R) Y (fB fs) (tkN (actL R day) (rkR R) Y (fB fs) n).1 (tkN (actL R day) (rkR R) Y (fB fs) n).2).length, .int .i64 s.1.1, .any, .any, .any, .any, .any, .any, .any, .any, .any, .any, .any, .any, .any, .any, .any, .any, .any], [intB (nI (tkN (actL R day) (rkR R) Y (fB fs) n).1), kB s.1.2, intB (nI (tkS (actL R day) (rkR R) Y (fB fs) (tkN (actL R day) (rkR R) Y (fB fs) n).1 (tkN (actL R day) (rkR R) Y (fB fs) n).2))]⟩) (fun s => (tkS (actL R day) (rkR R) Y (fB fs) (tkN (actL R day) (rkR R) Y (fB fs) n).1 (tkN (actL R day) (rkR R) Y (fB fs) n).2).length - s.1.1) ⟨(0, K), Nat.zero_le _, fun w hw => by show K (plN w) = _; rw [hK w hw]; simp [knU]⟩ ?_ ?_
      · exact weak_drop (by simp) (by simp [DropHp, ints_below, flts_below, kB, intB, bagg_below]) (by simp [DropTm, DropV, below, belowM, belowL, kB, intB, bagg_below])
      rintro ⟨⟨j, K2⟩, hj, hK2⟩
      dsimp only at hj hK2 ⊢
      simp only [q0, q1, q2, q3, q4, q5, q6, q7, q8, q9, zr0, zr1, zr2, zr3, zq0, zq1, zq2, zq3, zq4, Nat.reduceAdd, Nat.reduceSub, lenA, convA, indexA, indexS, Int.reduceToNat, cond_true, cond_false, ↓reduceIte, reduceCtorEq, Nat.reduceLT, Nat.reduceLeDiff, Nat.reduceMul, Nat.reduceEqDiff, exists_eq', implies_true, exists_true_left, tys0, tys1, tys2, tys3, tys4, und0, und1, und2, und3, md35, Tryz.ntmps35, Tryz.results35, bC_len, bC_get, bC_drop, List.length_drop, kB, intB, List.length_map, ints_len, nI_len, Nat.mul_one, ruP]
      refine br_intro (fun h3 => ?_) (fun h3 => ?_) <;> simp only [q0, q1, q2, q3, q4, q5, q6, q7, q8, q9, zr0, zr1, zr2, zr3, zq0, zq1, zq2, zq3, zq4, Nat.reduceAdd, Nat.reduceSub, lenA, convA, indexA, indexS, Int.reduceToNat, cond_true, cond_false, ↓reduceIte, reduceCtorEq, Nat.reduceLT, Nat.reduceLeDiff, Nat.reduceMul, Nat.reduceEqDiff, exists_eq', implies_true, exists_true_left, tys0, tys1, tys2, tys3, tys4, und0, und1, und2, und3, md35, Tryz.ntmps35, Tryz.results35, bC_len, bC_get, bC_drop, List.length_drop, kB, intB, List.length_map, ints_len, nI_len, Nat.mul_one, ruP]
      · have hj' : j < (tkS (actL R day) (rkR R) Y (fB fs) (tkN (actL R day) (rkR R) Y (fB fs) n).1 (tkN (actL R day) (rkR R) Y (fB fs) n).2).length := by simpa using h3
        have hi := hsub _ (List.getElem_mem hj')
        have hr := hR.ok _ (List.getElem_mem hi)
        have ph := plN_lt hr.1
        have wj := w64_succ j (by omega)
        have ek : (nI (tkS (actL R day) (rkR R) Y (fB fs) (tkN (actL R day) (rkR R) Y (fB fs) n).1 (tkN (actL R day) (rkR R) Y (fB fs) n).2))[j]'(by rw [nI_len]; exact hj') = ((tkS (actL R day) (rkR R) Y (fB fs) (tkN (actL R day) (rkR R) Y (fB fs) n).1 (tkN (actL R day) (rkR R) Y (fB fs) n).2)[j] : Nat) := by simp [nI]
        have hI : ((tkS (actL R day) (rkR R) Y (fB fs) (tkN (actL R day) (rkR R) Y (fB fs) n).1 (tkN (actL R day) (rkR R) Y (fB fs) n).2)[j] : Int) < (R.length : Int) := by omega
        have hru := rkR_at R _ hi
        simp only [q0, q1, q2, q3, q4, q5, q6, q7, q8, q9, zr0, zr1, zr2, zr3, zq0, zq1, zq2, zq3, zq4, Nat.reduceAdd, Nat.reduceSub, lenA, convA, indexA, indexS, Int.reduceToNat, cond_true, cond_false, ↓reduceIte, reduceCtorEq, Nat.reduceLT, Nat.reduceLeDiff, Nat.reduceMul, Nat.reduceEqDiff, exists_eq', implies_true, exists_true_left, tys0, tys1, tys2, tys3, tys4, und0, und1, und2, und3, md35, Tryz.ntmps35, Tryz.results35, List.getElem_map, rulA, ek, bC_len, bC_get, bC_drop, List.length_drop, kB, intB, List.length_map, ints_len, nI_len, Nat.mul_one, ruP]
        refine ⟨by omega, hj', hi, ?_⟩
        refine call_ret (l05Place_call _ hr.1) (by rfl) rfl ?_
        simp only [q0, q1, q2, q3, q4, q5, q6, q7, q8, q9, zr0, zr1, zr2, zr3, zq0, zq1, zq2, zq3, zq4, Nat.reduceAdd, Nat.reduceSub, lenA, convA, indexA, indexS, Int.reduceToNat, cond_true, cond_false, ↓reduceIte, reduceCtorEq, Nat.reduceLT, Nat.reduceLeDiff, Nat.reduceMul, Nat.reduceEqDiff, exists_eq', implies_true, exists_true_left, tys0, tys1, tys2, tys3, tys4, und0, und1, und2, und3, md35, Tryz.ntmps35, Tryz.results35, List.getElem_map, rulA, ek, bC_len, bC_get, bC_drop, List.length_drop, kB, intB, List.length_map, ints_len, nI_len, Nat.mul_one, ruP]
        have hbp := fun v => bC_putS 32 K2 (plN R[(tkS (actL R day) (rkR R) Y (fB fs) (tkN (actL R day) (rkR R) Y (fB fs) n).1 (tkN (actL R day) (rkR R) Y (fB fs) n).2)[j]].1) v ph
        simp only [hbp]
        have hn := KnA.next (ru := rkR R) hj' (by rw [hru]; exact hr.1) hK2
        rw [hru] at hn
        refine ⟨by omega, by omega, ⟨(j + 1, updW K2 (plN R[(tkS (actL R day) (rkR R) Y (fB fs) (tkN (actL R day) (rkR R) Y (fB fs) n).1 (tkN (actL R day) (rkR R) Y (fB fs) n).2)[j]].1) true), by show j + 1 ≤ _; omega, hn⟩, by show _ - (j + 1) < _; omega, ?_⟩
        exact weak_drop (by simp) (by simp [DropHp, ints_below, flts_below, kB, intB, bagg_below, wj]) (by simp [DropTm, DropV, below, belowM, belowL, kB, intB, bagg_below, wj])
      · have hj' : j = (tkS (actL R day) (rkR R) Y (fB fs) (tkN (actL R day) (rkR R) Y (fB fs) n).1 (tkN (actL R day) (rkR R) Y (fB fs) n).2).length := by simp at h3; omega
        subst hj'
        rw [List.take_length] at hK2
        have et : (ints (nI (tkS (actL R day) (rkR R) Y (fB fs) (tkN (actL R day) (rkR R) Y (fB fs) n).1 (tkN (actL R day) (rkR R) Y (fB fs) n).2))).take (tkS (actL R day) (rkR R) Y (fB fs) (tkN (actL R day) (rkR R) Y (fB fs) n).1 (tkN (actL R day) (rkR R) Y (fB fs) n).2).length = ints (nI (tkS (actL R day) (rkR R) Y (fB fs) (tkN (actL R day) (rkR R) Y (fB fs) n).1 (tkN (actL R day) (rkR R) Y (fB fs) n).2)) := List.take_of_length_le (by rw [ints_len, nI_len]; exact Nat.le_refl _)
        simp only [et]
        refine ⟨fun a ha => by obtain ⟨z, _, rfl⟩ := List.mem_map.1 ha; exact ⟨rfl, rfl⟩, ?_, ?_⟩
        · exact ⟨by rw [ints_len, nI_len]; omega, by omega, by omega⟩
        have hm1 : m = true := h
        subst hm1
        have ex : ints (nI (tkN (actL R day) (rkR R) Y (fB fs) n).1) ++ ints (nI (tkS (actL R day) (rkR R) Y (fB fs) (tkN (actL R day) (rkR R) Y (fB fs) n).1 (tkN (actL R day) (rkR R) Y (fB fs) n).2)) = ints (nI (tkN (actL R day) (rkR R) Y (fB fs) (n + 1)).1) := by rw [eN, nI_append, ints_append]
        have el : (tkN (actL R day) (rkR R) Y (fB fs) n).1.length + (ints (nI (tkS (actL R day) (rkR R) Y (fB fs) (tkN (actL R day) (rkR R) Y (fB fs) n).1 (tkN (actL R day) (rkR R) Y (fB fs) n).2))).length = (tkN (actL R day) (rkR R) Y (fB fs) (n + 1)).1.length := by rw [eN, List.length_append, ints_len, nI_len]
        refine ⟨⟨(n + 1, decide (0 < (tkS (actL R day) (rkR R) Y (fB fs) (tkN (actL R day) (rkR R) Y (fB fs) n).1 (tkN (actL R day) (rkR R) Y (fB fs) n).2).length), K2), by rw [eK]; exact hK2, fun hf => ?_⟩, ?_, ?_⟩
        · have hz : (tkS (actL R day) (rkR R) Y (fB fs) (tkN (actL R day) (rkR R) Y (fB fs) n).1 (tkN (actL R day) (rkR R) Y (fB fs) n).2) = [] := List.eq_nil_of_length_eq_zero (by have := of_decide_eq_false hf; omega)
          rw [tkN_stop hz]
          exact hz
        · show (if decide (0 < (tkS (actL R day) (rkR R) Y (fB fs) (tkN (actL R day) (rkR R) Y (fB fs) n).1 (tkN (actL R day) (rkR R) Y (fB fs) n).2).length) = true then 1 + (R.length - (tkN (actL R day) (rkR R) Y (fB fs) (n + 1)).1.length) else 0) < 1 + (R.length - (tkN (actL R day) (rkR R) Y (fB fs) n).1.length)
          rw [eN, List.length_append]
          split
          · rename_i hp
            have := of_decide_eq_true hp
            omega
          · omega
        dsimp only
        rw [← el, ← ex]
        exact weak_drop (by simp) (by simp [DropHp, ints_below, flts_below, kB, intB, bagg_below, bC_kill, List.map_append, ints_kill, ib2]) (by simp [DropTm, DropV, below, belowM, belowL, kB, intB, bagg_below, bC_kill, List.map_append, ints_kill, ib2])
  · have hm0 : m = false := h
    have h0 := hm hm0
    refine PostR.tell [0] (hp2 := [intB (nI _)]) (by decide) (by decide) (by decide) ⟨⟨by simp [renB, intB, ints_ren], intsB_below _ _⟩, trivial⟩ (r2 := .sl 0 0 _) (by rfl) (by rfl) ⟨n, h0, rfl, rfl⟩
theorem refTaken_call (R : List Rul) (hR : Rls R) (fs : List Int) (day : Int) (W : Nat → Bool) (Y : Int → Bool) (S : Says fs W Y) :
    CallA Tryz.prog 35 [.ro (R.map rulA), .int .i64 day, .rop (bC 96 W)] [] (fun r hp => ∃ n, tkS (actL R day) (rkR R) Y (fB fs) (tkN (actL R day) (rkR R) Y (fB fs) n).1 (tkN (actL R day) (rkR R) Y (fB fs) n).2 = [] ∧ r = .ro (ints (nI (tkN (actL R day) (rkR R) Y (fB fs) n).1)) ∧ hp = []) := by
  refine (CallA.freezeQ 2 (refTaken0_call R hR fs day W Y S)).mono ?_
  rintro r hp ⟨r0, new, ⟨n, h0, rfl, rfl⟩, rfl, rfl⟩
  refine ⟨n, h0, ?_, rfl⟩
  rw [← nI_len, view_intB]
end Go.Proofs.YthcfklkpabfkbaaGreat
