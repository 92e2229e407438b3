/- What a word needs: the reference's. -/
import Derived.Test.YthcfklkpabfkbaaGreatQrV
set_option maxRecDepth 10000
set_option maxHeartbeats 8000000
set_option linter.unusedSimpArgs false
set_option linter.unusedVariables false
namespace Go.Proofs.YthcfklkpabfkbaaGreat
open Go Go.Abs

theorem zero17 : ([.bool false, .bool false, .bool false, .bool false, .bool false, .bool false, .bool false, .bool false, .bool false, .bool false, .bool false, .bool false, .bool false, .bool false, .bool false, .bool false, .bool false] : List AV) = bC 17 (fun _ => false) := rfl
theorem bC_set (n : Nat) (W : Nat → Bool) (j : Nat) (b : Bool) : (bC n W).set j (.bool b) = bC n (updW W j b) := by
  apply List.ext_getElem
  · simp [bC]
  · intro i h1 h2
    rw [List.getElem_set, bC_get, bC_get]
    unfold updW
    by_cases e : j = i
    · rw [if_pos e, if_pos e.symm]
    · rw [if_neg e, if_neg fun h => e h.symm]
def bB (W : Nat → Bool) : Blk := { ty := 4, w := 1, els := bC 17 W }
def aN (w : Int) : Nat := (atomF w).toNat
theorem aN_eq {w : Int} (h : wordB w = true) : ((aN w : Nat) : Int) = atomF w := by have := atomF_rng h; unfold aN; omega
theorem aN_lt {w : Int} (h : wordB w = true) : aN w < 17 := by have := atomF_rng h; unfold aN; omega
def c17 (W : Nat → Bool) : Nat := (List.range 17).countP fun i => !W i
theorem c17_upd {W : Nat → Bool} {j : Nat} (hj : j < 17) (h : W j = false) : c17 (updW W j true) < c17 W := by
  unfold c17
  have hm : j ∈ List.range 17 := List.mem_range.2 hj
  have hle : ∀ l : List Nat, l.countP (fun i => !updW W j true i) ≤ l.countP (fun i => !W i) := fun l => by
    apply List.countP_mono_left
    intro i _ hi
    unfold updW at hi
    split at hi
    · cases hi
    · exact hi
  generalize List.range 17 = l at hm
  induction l with
  | nil => cases hm
  | cons k l ih =>
    rw [List.countP_cons, List.countP_cons]
    have h1 := hle l
    by_cases e : k = j
    · subst e
      simp only [updW, if_true, Bool.not_true, Bool.false_eq_true, if_false, h, Bool.not_false]
      unfold updW at h1
      omega
    · have hm' : j ∈ l := by
        rcases List.mem_cons.1 hm with h2 | h2
        · exact absurd h2.symm e
        · exact h2
      have := ih hm'
      have e2 : updW W j true k = W k := by unfold updW; rw [if_neg e]
      rw [e2]
      omega
structure NWb (R : List Rul) (day x : Int) (W : Nat → Bool) : Prop where
  base : W (aN x) = true
  low : ∀ S, NClo R day x S → ∀ i : Nat, W i = true → S i
theorem NWb.add {R : List Rul} {day x : Int} {W : Nat → Bool} (h : NWb R day x W) {u : Int} (hu : wordB u = true) (hl : ∀ S, NClo R day x S → S (atomF u)) : NWb R day x (updW W (aN u) true) where
  base := by unfold updW; split; rfl; exact h.base
  low := fun S hS i hi => by
    unfold updW at hi
    split at hi
    · rename_i e; rw [e, aN_eq hu]; exact hl S hS
    · exact h.low S hS i hi
theorem start_nw {R : List Rul} {day x : Int} (hx : wordB x = true) : NWb R day x (updW (fun _ => false) (aN x) true) := by
  refine ⟨by unfold updW; rw [if_pos rfl], fun S hS i hi => ?_⟩
  unfold updW at hi
  split at hi
  · rename_i e; rw [e, aN_eq hx]; exact hS.1
  · cases hi
theorem bC_kl (b n : Nat) (W : Nat → Bool) : (bC n W).map (kill b) = bC n W := by
  unfold bC
  rw [List.map_map]
  rfl
theorem bC_low (N n : Nat) (W : Nat → Bool) : allBelow N (bC n W) = true := by
  unfold allBelow
  exact List.all_eq_true.2 fun v hv => by
    unfold bC at hv
    obtain ⟨i, _, rfl⟩ := List.mem_map.1 hv
    rfl
structure NP (R : List Rul) (day x : Int) (W0 W : Nat → Bool) (m : Bool) (k : Nat) : Prop where
  b : NWb R day x W
  le : c17 W ≤ c17 W0
  lt : m = true → c17 W < c17 W0
  cl : m = false → ∀ r ∈ R.take k, onB day r = true → W (aN r.1) = true → ∀ w ∈ r.2.1, W (aN w) = true
theorem NP.set {R : List Rul} {day x : Int} {W0 W : Nat → Bool} {m : Bool} {k : Nat} (h : NP R day x W0 W m k) {u : Int} (hu : wordB u = true) (hl : ∀ S, NClo R day x S → S (atomF u)) (hn : W (aN u) = false) : NP R day x W0 (updW W (aN u) true) true k := by
  have := c17_upd (aN_lt hu) hn
  have := h.le
  exact ⟨h.b.add hu hl, by omega, fun _ => by omega, fun h => by cases h⟩
theorem upd_mono {W : Nat → Bool} {j i : Nat} (h : W i = true) : updW W j true i = true := by unfold updW; split; rfl; exact h
theorem NP.next {R : List Rul} {day x : Int} {W0 W : Nat → Bool} {m : Bool} {k : Nat} (h : NP R day x W0 W m k) (hk : k < R.length) (hn : m = false → onB day R[k] = true → W (aN R[k].1) = true → ∀ w ∈ R[k].2.1, W (aN w) = true) : NP R day x W0 W m (k + 1) := ⟨h.b, h.le, h.lt, fun hm r hr hon he w hw => by
  rw [take_snoc _ _ hk] at hr
  rcases List.mem_append.1 hr with hr | hr
  · exact h.cl hm r hr hon he w hw
  · rw [List.mem_singleton.1 hr] at hon he hw
    exact hn hm hon he w hw⟩
def ascN (W : Nat → Bool) (k : Nat) : List Int := ((List.range k).filter W).map fun i : Nat => (i : Int)
theorem ascN_succ (W : Nat → Bool) (k : Nat) : ascN W (k + 1) = ascN W k ++ (if W k = true then [(k : Int)] else []) := by
  unfold ascN
  rw [List.range_succ, List.filter_append, List.map_append]
  congr 1
  by_cases h : W k = true
  · simp [h]
  · simp [h]

theorem refNeeds0_call (R : List Rul) (hR : Rls R) (rb : rulesB R = true) (day : Int) (hd : inR 0 100000 day = true) (x : Int) (hx : wordB x = true) :
    CallA Tryz.prog 17 [.ro (R.map rulA), .int .i64 day, .int .i64 x] [] (fun r hp => ∃ W, NWb R day x W ∧ (∀ r ∈ R, onB day r = true → W (aN r.1) = true → ∀ w ∈ r.2.1, W (aN w) = true) ∧ r = .tup [.sl 0 0 (ascN W 17).length, .bool true] ∧ hp = [intB (ascN W 17)]) := by
  have hl := hR.len
  have c1 := l05Rules_call R (by omega) (fun r h => by have := (hR.ok r h).2.1.1; omega)
  rw [rb] at c1
  have c3 := l05Day_call day
  rw [hd] at c3
  have wx := l05Word_call x
  rw [hx] at wx
  have ex := aN_eq hx
  have lx := aN_lt hx
  refine CallP.out (t := .mk) (go_in (md := md17) mixed Tryz.func17 rfl go17 (by kernel_rfl) ?_)
  simp only [q0, q1, q2, q3, q4, q5, q6, q7, q8, q9, zr0, zr1, zr2, zr3, zq0, zq1, zq2, zq3, zq4, Nat.reduceAdd, Nat.reduceSub, lenA, convA, indexA, indexS, Int.reduceToNat, cond_true, cond_false, ↓reduceIte, reduceCtorEq, Nat.reduceLT, Nat.reduceLeDiff, Nat.reduceMul, Nat.reduceEqDiff, exists_eq', implies_true, exists_true_left, tys0, tys1, tys2, tys3, tys4, und0, und1, und2, und3, md17, Tryz.ntmps17, Tryz.results17]
  refine call_ret c1 rfl rfl ?_
  simp only [q0, q1, q2, q3, q4, q5, q6, q7, q8, q9, zr0, zr1, zr2, zr3, zq0, zq1, zq2, zq3, zq4, Nat.reduceAdd, Nat.reduceSub, lenA, convA, indexA, indexS, Int.reduceToNat, cond_true, cond_false, ↓reduceIte, reduceCtorEq, Nat.reduceLT, Nat.reduceLeDiff, Nat.reduceMul, Nat.reduceEqDiff, exists_eq', implies_true, exists_true_left, tys0, tys1, tys2, tys3, tys4, und0, und1, und2, und3, md17, Tryz.ntmps17, Tryz.results17]
  refine call_ret c3 rfl rfl ?_
  simp only [q0, q1, q2, q3, q4, q5, q6, q7, q8, q9, zr0, zr1, zr2, zr3, zq0, zq1, zq2, zq3, zq4, Nat.reduceAdd, Nat.reduceSub, lenA, convA, indexA, indexS, Int.reduceToNat, cond_true, cond_false, ↓reduceIte, reduceCtorEq, Nat.reduceLT, Nat.reduceLeDiff, Nat.reduceMul, Nat.reduceEqDiff, exists_eq', implies_true, exists_true_left, tys0, tys1, tys2, tys3, tys4, und0, und1, und2, und3, md17, Tryz.ntmps17, Tryz.results17]
  refine call_ret wx rfl rfl ?_
  simp only [q0, q1, q2, q3, q4, q5, q6, q7, q8, q9, zr0, zr1, zr2, zr3, zq0, zq1, zq2, zq3, zq4, Nat.reduceAdd, Nat.reduceSub, lenA, convA, indexA, indexS, Int.reduceToNat, cond_true, cond_false, ↓reduceIte, reduceCtorEq, Nat.reduceLT, Nat.reduceLeDiff, Nat.reduceMul, Nat.reduceEqDiff, exists_eq', implies_true, exists_true_left, tys0, tys1, tys2, tys3, tys4, und0, und1, und2, und3, md17, Tryz.ntmps17, Tryz.results17]
  refine ⟨by omega, by omega, by omega, ?_⟩
  refine call_ret (l05Atom_call x (wordB_low hx)) rfl rfl ?_
  rw [← ex]
  simp only [q0, q1, q2, q3, q4, q5, q6, q7, q8, q9, zr0, zr1, zr2, zr3, zq0, zq1, zq2, zq3, zq4, Nat.reduceAdd, Nat.reduceSub, lenA, convA, indexA, indexS, Int.reduceToNat, cond_true, cond_false, ↓reduceIte, reduceCtorEq, Nat.reduceLT, Nat.reduceLeDiff, Nat.reduceMul, Nat.reduceEqDiff, exists_eq', implies_true, exists_true_left, tys0, tys1, tys2, tys3, tys4, und0, und1, und2, und3, md17, Tryz.ntmps17, Tryz.results17, bB, bC_len, zero17, List.length_map]
  refine ⟨by omega, by omega, ?_⟩
  simp only [bC_set]
  refine go_round (md := md17) mixed (by kernel_rfl) (fun s : {s : (Nat → Bool) × Bool // NWb R day x s.1 ∧ (s.2 = false → ∀ r ∈ R, onB day r = true → s.1 (aN r.1) = true → ∀ w ∈ r.2.1, s.1 (aN w) = true)} => ⟨[.ro (R.map rulA), .int .i64 day, .any, .any, .any, .any, .any, .any, .sl 0 0 17, .bool s.1.2, .any, .any, .any, .any, .any, .any, .any, .any, .any, .any, .any, .any, .any, .any, .any, .any, .any, .any, .any, .any, .any, .any, .any, .any, .any, .any, .any, .any, .any, .any, .any, .any, .any, .any, .any, .any, .any, .any, .any, .any, .any, .any, .any, .any, .any, .any, .any, .any, .any, .any, .any, .any, .any, .any, .any, .any, .any, .any, .any, .any, .any, .any, .any, .any, .any, .any, .any, .any, .any, .any, .any, .any, .any, .any, .any, .any, .any, .any, .any, .any, .any, .any, .any, .any, .any, .any, .any, .any, .any, .any, .any], [bB s.1.1]⟩) (fun s => if s.1.2 = true then 1 + c17 s.1.1 else 0) ⟨(updW (fun _ => false) (aN x) true, true), start_nw hx, fun h => by cases h⟩ ?_ ?_
  · exact weak_drop (by simp) (by simp [DropHp, ints_below, flts_below, bB, bC_low, allBelow_cons, allBelow_nil, below, belowM, belowL]) (by simp [DropTm, DropV, below, belowM, belowL, bB, bC_low, allBelow_cons, allBelow_nil, below, belowM, belowL])
  rintro ⟨⟨W, m⟩, B, C⟩
  dsimp only at B C ⊢
  simp only [q0, q1, q2, q3, q4, q5, q6, q7, q8, q9, zr0, zr1, zr2, zr3, zq0, zq1, zq2, zq3, zq4, Nat.reduceAdd, Nat.reduceSub, lenA, convA, indexA, indexS, Int.reduceToNat, cond_true, cond_false, ↓reduceIte, reduceCtorEq, Nat.reduceLT, Nat.reduceLeDiff, Nat.reduceMul, Nat.reduceEqDiff, exists_eq', implies_true, exists_true_left, tys0, tys1, tys2, tys3, tys4, und0, und1, und2, und3, md17, Tryz.ntmps17, Tryz.results17, bB, bC_len, zero17, List.length_map]
  refine br_intro (fun h => ?_) (fun h => ?_) <;> simp only [q0, q1, q2, q3, q4, q5, q6, q7, q8, q9, zr0, zr1, zr2, zr3, zq0, zq1, zq2, zq3, zq4, Nat.reduceAdd, Nat.reduceSub, lenA, convA, indexA, indexS, Int.reduceToNat, cond_true, cond_false, ↓reduceIte, reduceCtorEq, Nat.reduceLT, Nat.reduceLeDiff, Nat.reduceMul, Nat.reduceEqDiff, exists_eq', implies_true, exists_true_left, tys0, tys1, tys2, tys3, tys4, und0, und1, und2, und3, md17, Tryz.ntmps17, Tryz.results17, bB, bC_len, zero17, List.length_map]
  · refine go_round (md := md17) mixed (by kernel_rfl) (fun s : {s : Nat × (Nat → Bool) × Bool // s.1 ≤ R.length ∧ NP R day x W s.2.1 s.2.2 s.1} => ⟨[.ro (R.map rulA), .int .i64 day, .any, .any, .any, .any, .any, .any, .sl 0 0 17, .bool s.1.2.2, .any, .any, .any, .any, .any, .any, .any, .any, .any, .any, .any, .any, .any, .any, .any, .any, .any, .any, .any, .any, .any, .any, .any, .any, .any, .int .i64 R.length, .int .i64 s.1.1, .any, .any, .any, .any, .any, .any, .any, .any, .any, .any, .any, .any, .any, .any, .any, .any, .any, .any, .any, .any, .any, .any, .any, .any, .any, .any, .any, .any, .any, .any, .any, .any, .any, .any, .any, .any, .any, .any, .any, .any, .any, .any, .any, .any, .any, .any, .any, .any, .any, .any, .any, .any, .any, .any, .any, .any, .any, .any, .any, .any, .any, .any, .any, .any], [bB s.1.2.1]⟩) (fun s => R.length - s.1.1) ⟨(0, W, false), Nat.zero_le _, ⟨B, Nat.le_refl _, fun h => (by cases h), fun _ r hr => (by cases hr)⟩⟩ ?_ ?_
    · exact weak_drop (by simp) (by simp [DropHp, ints_below, flts_below, bB, bC_low, allBelow_cons, allBelow_nil, below, belowM, belowL]) (by simp [DropTm, DropV, below, belowM, belowL, bB, bC_low, allBelow_cons, allBelow_nil, below, belowM, belowL])
    rintro ⟨⟨k, W2, m2⟩, hk, N⟩
    dsimp only at hk N ⊢
    simp only [q0, q1, q2, q3, q4, q5, q6, q7, q8, q9, zr0, zr1, zr2, zr3, zq0, zq1, zq2, zq3, zq4, Nat.reduceAdd, Nat.reduceSub, lenA, convA, indexA, indexS, Int.reduceToNat, cond_true, cond_false, ↓reduceIte, reduceCtorEq, Nat.reduceLT, Nat.reduceLeDiff, Nat.reduceMul, Nat.reduceEqDiff, exists_eq', implies_true, exists_true_left, tys0, tys1, tys2, tys3, tys4, und0, und1, und2, und3, md17, Tryz.ntmps17, Tryz.results17, bB, bC_len, zero17, List.length_map]
    refine br_intro (fun h1 => ?_) (fun h1 => ?_) <;> simp only [q0, q1, q2, q3, q4, q5, q6, q7, q8, q9, zr0, zr1, zr2, zr3, zq0, zq1, zq2, zq3, zq4, Nat.reduceAdd, Nat.reduceSub, lenA, convA, indexA, indexS, Int.reduceToNat, cond_true, cond_false, ↓reduceIte, reduceCtorEq, Nat.reduceLT, Nat.reduceLeDiff, Nat.reduceMul, Nat.reduceEqDiff, exists_eq', implies_true, exists_true_left, tys0, tys1, tys2, tys3, tys4, und0, und1, und2, und3, md17, Tryz.ntmps17, Tryz.results17, bB, bC_len, zero17, List.length_map]
    · have hk' : k < R.length := by simpa using h1
      refine ⟨hk', ?_⟩
      simp only [q0, q1, q2, q3, q4, q5, q6, q7, q8, q9, zr0, zr1, zr2, zr3, zq0, zq1, zq2, zq3, zq4, Nat.reduceAdd, Nat.reduceSub, lenA, convA, indexA, indexS, Int.reduceToNat, cond_true, cond_false, ↓reduceIte, reduceCtorEq, Nat.reduceLT, Nat.reduceLeDiff, Nat.reduceMul, Nat.reduceEqDiff, exists_eq', implies_true, exists_true_left, tys0, tys1, tys2, tys3, tys4, und0, und1, und2, und3, md17, Tryz.ntmps17, Tryz.results17, List.getElem_map, rulA, bB, bC_len, zero17, List.length_map]
      have hr := hR.ok _ (List.getElem_mem hk')
      have h6 := hr.2.1.1
      have wk := w64_succ k (by omega)
      have eh := aN_eq hr.1
      have lh := aN_lt hr.1
      refine call_ret (l05On_call R[k] day) (by rfl) rfl ?_
      simp only [q0, q1, q2, q3, q4, q5, q6, q7, q8, q9, zr0, zr1, zr2, zr3, zq0, zq1, zq2, zq3, zq4, Nat.reduceAdd, Nat.reduceSub, lenA, convA, indexA, indexS, Int.reduceToNat, cond_true, cond_false, ↓reduceIte, reduceCtorEq, Nat.reduceLT, Nat.reduceLeDiff, Nat.reduceMul, Nat.reduceEqDiff, exists_eq', implies_true, exists_true_left, tys0, tys1, tys2, tys3, tys4, und0, und1, und2, und3, md17, Tryz.ntmps17, Tryz.results17, List.getElem_map, rulA, bB, bC_len, zero17, List.length_map]
      refine br_intro (fun b1 => ?_) (fun b1 => ?_) <;> simp only [q0, q1, q2, q3, q4, q5, q6, q7, q8, q9, zr0, zr1, zr2, zr3, zq0, zq1, zq2, zq3, zq4, Nat.reduceAdd, Nat.reduceSub, lenA, convA, indexA, indexS, Int.reduceToNat, cond_true, cond_false, ↓reduceIte, reduceCtorEq, Nat.reduceLT, Nat.reduceLeDiff, Nat.reduceMul, Nat.reduceEqDiff, exists_eq', implies_true, exists_true_left, tys0, tys1, tys2, tys3, tys4, und0, und1, und2, und3, md17, Tryz.ntmps17, Tryz.results17, List.getElem_map, rulA, bB, bC_len, zero17, List.length_map]
      rotate_left
      · refine ⟨⟨(k + 1, W2, m2), by show k + 1 ≤ R.length; omega, N.next hk' (fun _ h => by rw [b1] at h; cases h)⟩, by show R.length - (k + 1) < _; omega, ?_⟩
        exact weak_drop (by simp) (by simp [DropHp, ints_below, flts_below, bB, bC_low, allBelow_cons, allBelow_nil, below, belowM, belowL, wk]) (by simp [DropTm, DropV, below, belowM, belowL, bB, bC_low, allBelow_cons, allBelow_nil, below, belowM, belowL, wk])
      refine ⟨hk', ?_⟩
      refine call_ret (l05Atom_call R[k].1 (wordB_low hr.1)) (by rfl) rfl ?_
      rw [← eh]
      simp only [q0, q1, q2, q3, q4, q5, q6, q7, q8, q9, zr0, zr1, zr2, zr3, zq0, zq1, zq2, zq3, zq4, Nat.reduceAdd, Nat.reduceSub, lenA, convA, indexA, indexS, Int.reduceToNat, cond_true, cond_false, ↓reduceIte, reduceCtorEq, Nat.reduceLT, Nat.reduceLeDiff, Nat.reduceMul, Nat.reduceEqDiff, exists_eq', implies_true, exists_true_left, tys0, tys1, tys2, tys3, tys4, und0, und1, und2, und3, md17, Tryz.ntmps17, Tryz.results17, List.getElem_map, rulA, bB, bC_len, zero17, List.length_map]
      refine ⟨by omega, by omega, by simp [bC_get, AV.cells], ?_⟩
      simp only [q0, q1, q2, q3, q4, q5, q6, q7, q8, q9, zr0, zr1, zr2, zr3, zq0, zq1, zq2, zq3, zq4, Nat.reduceAdd, Nat.reduceSub, lenA, convA, indexA, indexS, Int.reduceToNat, cond_true, cond_false, ↓reduceIte, reduceCtorEq, Nat.reduceLT, Nat.reduceLeDiff, Nat.reduceMul, Nat.reduceEqDiff, exists_eq', implies_true, exists_true_left, tys0, tys1, tys2, tys3, tys4, und0, und1, und2, und3, md17, Tryz.ntmps17, Tryz.results17, List.getElem_map, rulA, bC_get, bB, bC_len, zero17, List.length_map]
      refine br_intro (fun b2 => ?_) (fun b2 => ?_) <;> simp only [q0, q1, q2, q3, q4, q5, q6, q7, q8, q9, zr0, zr1, zr2, zr3, zq0, zq1, zq2, zq3, zq4, Nat.reduceAdd, Nat.reduceSub, lenA, convA, indexA, indexS, Int.reduceToNat, cond_true, cond_false, ↓reduceIte, reduceCtorEq, Nat.reduceLT, Nat.reduceLeDiff, Nat.reduceMul, Nat.reduceEqDiff, exists_eq', implies_true, exists_true_left, tys0, tys1, tys2, tys3, tys4, und0, und1, und2, und3, md17, Tryz.ntmps17, Tryz.results17, List.getElem_map, rulA, bC_get, bB, bC_len, zero17, List.length_map]
      rotate_left
      · refine ⟨⟨(k + 1, W2, m2), by show k + 1 ≤ R.length; omega, N.next hk' (fun _ _ h => by rw [b2] at h; cases h)⟩, by show R.length - (k + 1) < _; omega, ?_⟩
        exact weak_drop (by simp) (by simp [DropHp, ints_below, flts_below, bB, bC_low, allBelow_cons, allBelow_nil, below, belowM, belowL, wk]) (by simp [DropTm, DropV, below, belowM, belowL, bB, bC_low, allBelow_cons, allBelow_nil, below, belowM, belowL, wk])
      refine ⟨hk', ?_⟩
      refine go_round (md := md17) mixed (by kernel_rfl) (fun s : {s : Nat × (Nat → Bool) × Bool // s.1 ≤ R[k].2.1.length ∧ (NP R day x W s.2.1 s.2.2 k ∧ s.2.1 (aN R[k].1) = true) ∧ ∀ w ∈ R[k].2.1.take s.1, s.2.1 (aN w) = true} => ⟨[.ro (R.map rulA), .int .i64 day, .any, .any, .any, .any, .any, .any, .sl 0 0 17, .bool s.1.2.2, .int .i64 k, .any, .any, .any, .any, .any, .any, .any, .any, .any, .any, .any, .any, .any, .any, .any, .any, .any, .any, .any, .any, .any, .any, .any, .any, .int .i64 R.length, .int .i64 k, .any, .any, .any, .any, .any, .any, .any, .any, .any, .any, .any, .any, .any, .any, .any, .any, .any, .any, .any, .any, .any, .any, .any, .any, .any, .int .i64 R[k].2.1.length, .int .i64 s.1.1, .any, .any, .any, .any, .any, .any, .any, .any, .any, .any, .any, .any, .any, .any, .any, .any, .any, .any, .any, .any, .any, .any, .any, .any, .any, .any, .any, .any, .any, .any, .any, .any, .any, .any, .any, .any, .any], [bB s.1.2.1]⟩) (fun s => R[k].2.1.length - s.1.1) ⟨(0, W2, m2), Nat.zero_le _, ⟨N, b2⟩, fun w hw => (by cases hw)⟩ ?_ ?_
      · exact weak_drop (by simp) (by simp [DropHp, ints_below, flts_below, bB, bC_low, allBelow_cons, allBelow_nil, below, belowM, belowL]) (by simp [DropTm, DropV, below, belowM, belowL, bB, bC_low, allBelow_cons, allBelow_nil, below, belowM, belowL])
      clear N b2
      clear W2 m2
      rintro ⟨⟨j, W2, m2⟩, hj, ⟨N, b2⟩, J⟩
      dsimp only at hj N b2 J ⊢
      simp only [q0, q1, q2, q3, q4, q5, q6, q7, q8, q9, zr0, zr1, zr2, zr3, zq0, zq1, zq2, zq3, zq4, Nat.reduceAdd, Nat.reduceSub, lenA, convA, indexA, indexS, Int.reduceToNat, cond_true, cond_false, ↓reduceIte, reduceCtorEq, Nat.reduceLT, Nat.reduceLeDiff, Nat.reduceMul, Nat.reduceEqDiff, exists_eq', implies_true, exists_true_left, tys0, tys1, tys2, tys3, tys4, und0, und1, und2, und3, md17, Tryz.ntmps17, Tryz.results17, List.getElem_map, rulA, ints_len, bB, bC_len, zero17, List.length_map]
      refine br_intro (fun h3 => ?_) (fun h3 => ?_) <;> simp only [q0, q1, q2, q3, q4, q5, q6, q7, q8, q9, zr0, zr1, zr2, zr3, zq0, zq1, zq2, zq3, zq4, Nat.reduceAdd, Nat.reduceSub, lenA, convA, indexA, indexS, Int.reduceToNat, cond_true, cond_false, ↓reduceIte, reduceCtorEq, Nat.reduceLT, Nat.reduceLeDiff, Nat.reduceMul, Nat.reduceEqDiff, exists_eq', implies_true, exists_true_left, tys0, tys1, tys2, tys3, tys4, und0, und1, und2, und3, md17, Tryz.ntmps17, Tryz.results17, List.getElem_map, rulA, ints_len, bB, bC_len, zero17, List.length_map]
      · have hj' : j < R[k].2.1.length := by simpa using h3
        have hw := hr.2.1.2 _ (List.getElem_mem hj')
        have wj := w64_succ j (by omega)
        have ew := aN_eq hw
        have lw := aN_lt hw
        have hcl : ∀ S, NClo R day x S → S (atomF R[k].2.1[j]) := fun S hS => hS.2 _ (List.getElem_mem hk') b1 (by rw [← eh]; exact N.b.low S hS _ b2) _ (List.getElem_mem hj')
        refine ⟨hk', hj', ?_⟩
        refine call_ret (l05Atom_call R[k].2.1[j] (wordB_low hw)) (by rfl) rfl ?_
        rw [← ew]
        simp only [q0, q1, q2, q3, q4, q5, q6, q7, q8, q9, zr0, zr1, zr2, zr3, zq0, zq1, zq2, zq3, zq4, Nat.reduceAdd, Nat.reduceSub, lenA, convA, indexA, indexS, Int.reduceToNat, cond_true, cond_false, ↓reduceIte, reduceCtorEq, Nat.reduceLT, Nat.reduceLeDiff, Nat.reduceMul, Nat.reduceEqDiff, exists_eq', implies_true, exists_true_left, tys0, tys1, tys2, tys3, tys4, und0, und1, und2, und3, md17, Tryz.ntmps17, Tryz.results17, List.getElem_map, rulA, bC_get, ints_len, bB, bC_len, zero17, List.length_map]
        refine ⟨by omega, by omega, ?_⟩
        refine br_intro (fun b3 => ?_) (fun b3 => ?_) <;> simp only [q0, q1, q2, q3, q4, q5, q6, q7, q8, q9, zr0, zr1, zr2, zr3, zq0, zq1, zq2, zq3, zq4, Nat.reduceAdd, Nat.reduceSub, lenA, convA, indexA, indexS, Int.reduceToNat, cond_true, cond_false, ↓reduceIte, reduceCtorEq, Nat.reduceLT, Nat.reduceLeDiff, Nat.reduceMul, Nat.reduceEqDiff, exists_eq', implies_true, exists_true_left, tys0, tys1, tys2, tys3, tys4, und0, und1, und2, und3, md17, Tryz.ntmps17, Tryz.results17, List.getElem_map, rulA, bC_get, ints_len, bB, bC_len, zero17, List.length_map]
        · refine ⟨⟨(j + 1, W2, m2), by show j + 1 ≤ _; omega, ⟨N, b2⟩, fun w hw => ?_⟩, by show _ - (j + 1) < _; omega, ?_⟩
          · rw [take_snoc _ _ hj'] at hw
            rcases List.mem_append.1 hw with hw | hw
            · exact J w hw
            · rw [List.mem_singleton.1 hw]; exact b3
          exact weak_drop (by simp) (by simp [DropHp, ints_below, flts_below, bB, bC_low, allBelow_cons, allBelow_nil, below, belowM, belowL, wj]) (by simp [DropTm, DropV, below, belowM, belowL, bB, bC_low, allBelow_cons, allBelow_nil, below, belowM, belowL, wj])
        · refine ⟨by omega, by omega, ?_⟩
          simp only [bC_set]
          refine ⟨⟨(j + 1, updW W2 (aN R[k].2.1[j]) true, true), by show j + 1 ≤ _; omega, ⟨N.set hw hcl b3, upd_mono b2⟩, fun w hw => ?_⟩, by show _ - (j + 1) < _; omega, ?_⟩
          · rw [take_snoc _ _ hj'] at hw
            rcases List.mem_append.1 hw with hw | hw
            · exact upd_mono (J w hw)
            · rw [List.mem_singleton.1 hw]; show updW _ _ _ _ = true; unfold updW; rw [if_pos rfl]
          exact weak_drop (by simp) (by simp [DropHp, ints_below, flts_below, bB, bC_low, allBelow_cons, allBelow_nil, below, belowM, belowL, wj]) (by simp [DropTm, DropV, below, belowM, belowL, bB, bC_low, allBelow_cons, allBelow_nil, below, belowM, belowL, wj])
      · have hj' : j = R[k].2.1.length := by simp at h3; omega
        subst hj'
        rw [List.take_length] at J
        refine ⟨⟨(k + 1, W2, m2), by show k + 1 ≤ R.length; omega, N.next hk' (fun _ _ _ => J)⟩, by show R.length - (k + 1) < _; omega, ?_⟩
        exact weak_drop (by simp) (by simp [DropHp, ints_below, flts_below, bB, bC_low, allBelow_cons, allBelow_nil, below, belowM, belowL, wk]) (by simp [DropTm, DropV, below, belowM, belowL, bB, bC_low, allBelow_cons, allBelow_nil, below, belowM, belowL, wk])
    · have hk' : k = R.length := by simp at h1; omega
      subst hk'
      have hm : m = true := h
      subst hm
      refine ⟨⟨(W2, m2), N.b, fun hm => ?_⟩, ?_, ?_⟩
      · have := N.cl hm
        rw [List.take_length] at this
        exact this
      · have := N.le
        have := N.lt
        cases m2 with
        | false => simp; omega
        | true => have := this rfl; simp; omega
      exact weak_drop (by simp) (by simp [DropHp, ints_below, flts_below, bB, bC_low, allBelow_cons, allBelow_nil, below, belowM, belowL]) (by simp [DropTm, DropV, below, belowM, belowL, bB, bC_low, allBelow_cons, allBelow_nil, below, belowM, belowL])
  · have hm : m = false := h
    have C2 := C hm
    refine go_round (md := md17) mixed (by kernel_rfl) (fun k : {k : Nat // k ≤ 17} => ⟨[.any, .any, .any, .any, .any, .any, .any, .any, .sl 0 0 17, .any, .any, .any, .any, .sl 1 0 (ascN W k.1).length, .any, .any, .any, .any, .any, .any, .any, .any, .any, .any, .any, .any, .any, .any, .any, .any, .any, .any, .any, .any, .any, .any, .any, .any, .any, .any, .any, .any, .any, .any, .any, .any, .any, .any, .any, .any, .any, .any, .any, .any, .any, .any, .any, .any, .any, .any, .any, .any, .any, .any, .any, .any, .any, .any, .any, .any, .any, .any, .any, .any, .any, .any, .any, .any, .any, .any, .any, .any, .any, .any, .any, .any, .any, .int .i64 17, .int .i64 k.1, .any, .any, .any, .any, .any, .any, .any, .any, .any, .any, .any, .any], [bB W, intB (ascN W k.1)]⟩) (fun k => 17 - k.1) ⟨0, Nat.zero_le _⟩ ?_ ?_
    · exact weak_drop (by simp) (by simp [DropHp, ints_below, flts_below, bB, intB, bC_low, allBelow_cons, allBelow_nil, below, belowM, belowL, show ascN W 0 = [] from rfl, show ints [] = [] from rfl]) (by simp [DropTm, DropV, below, belowM, belowL, bB, intB, bC_low, allBelow_cons, allBelow_nil, below, belowM, belowL, show ascN W 0 = [] from rfl, show ints [] = [] from rfl])
    rintro ⟨k, hk⟩
    have hal : (ascN W k).length ≤ k := by unfold ascN; rw [List.length_map]; exact Nat.le_trans (List.length_filter_le _ _) (by simp)
    simp only [q0, q1, q2, q3, q4, q5, q6, q7, q8, q9, zr0, zr1, zr2, zr3, zq0, zq1, zq2, zq3, zq4, Nat.reduceAdd, Nat.reduceSub, lenA, convA, indexA, indexS, Int.reduceToNat, cond_true, cond_false, ↓reduceIte, reduceCtorEq, Nat.reduceLT, Nat.reduceLeDiff, Nat.reduceMul, Nat.reduceEqDiff, exists_eq', implies_true, exists_true_left, tys0, tys1, tys2, tys3, tys4, und0, und1, und2, und3, md17, Tryz.ntmps17, Tryz.results17, bB, bC_len, zero17, List.length_map, intB]
    refine br_intro (fun h1 => ?_) (fun h1 => ?_) <;> simp only [q0, q1, q2, q3, q4, q5, q6, q7, q8, q9, zr0, zr1, zr2, zr3, zq0, zq1, zq2, zq3, zq4, Nat.reduceAdd, Nat.reduceSub, lenA, convA, indexA, indexS, Int.reduceToNat, cond_true, cond_false, ↓reduceIte, reduceCtorEq, Nat.reduceLT, Nat.reduceLeDiff, Nat.reduceMul, Nat.reduceEqDiff, exists_eq', implies_true, exists_true_left, tys0, tys1, tys2, tys3, tys4, und0, und1, und2, und3, md17, Tryz.ntmps17, Tryz.results17, bB, bC_len, zero17, List.length_map, intB]
    · have hk' : k < 17 := by have := of_decide_eq_true h1; omega
      have wk := w64_succ k (by omega)
      have es := ascN_succ W k
      refine ⟨by omega, by omega, by simp [bC_get, AV.cells], ?_⟩
      simp only [q0, q1, q2, q3, q4, q5, q6, q7, q8, q9, zr0, zr1, zr2, zr3, zq0, zq1, zq2, zq3, zq4, Nat.reduceAdd, Nat.reduceSub, lenA, convA, indexA, indexS, Int.reduceToNat, cond_true, cond_false, ↓reduceIte, reduceCtorEq, Nat.reduceLT, Nat.reduceLeDiff, Nat.reduceMul, Nat.reduceEqDiff, exists_eq', implies_true, exists_true_left, tys0, tys1, tys2, tys3, tys4, und0, und1, und2, und3, md17, Tryz.ntmps17, Tryz.results17, bB, bC_len, zero17, List.length_map, intB, bC_get]
      refine br_intro (fun b7 => ?_) (fun b7 => ?_) <;> simp only [q0, q1, q2, q3, q4, q5, q6, q7, q8, q9, zr0, zr1, zr2, zr3, zq0, zq1, zq2, zq3, zq4, Nat.reduceAdd, Nat.reduceSub, lenA, convA, indexA, indexS, Int.reduceToNat, cond_true, cond_false, ↓reduceIte, reduceCtorEq, Nat.reduceLT, Nat.reduceLeDiff, Nat.reduceMul, Nat.reduceEqDiff, exists_eq', implies_true, exists_true_left, tys0, tys1, tys2, tys3, tys4, und0, und1, und2, und3, md17, Tryz.ntmps17, Tryz.results17, bB, bC_len, zero17, List.length_map, intB, bC_get, allW_int, fits, List.isEmpty_cons, brk_false, Nat.reduceMul]
      · rw [b7, if_pos rfl] at es
        have el : (ascN W k).length + 1 = (ascN W (k + 1)).length := by rw [es]; simp
        refine ⟨by omega, ⟨k + 1, by omega⟩, by show 17 - (k + 1) < _; omega, ?_⟩
        dsimp only
        rw [el, ← es, bC_kl]
        exact weak_drop (by simp) (by simp [DropHp, ints_below, flts_below, bB, intB, bC_low, allBelow_cons, allBelow_nil, below, belowM, belowL, wk]) (by simp [DropTm, DropV, below, belowM, belowL, bB, intB, bC_low, allBelow_cons, allBelow_nil, below, belowM, belowL, wk])
      · rw [b7, if_neg (by decide), List.append_nil] at es
        refine ⟨⟨k + 1, by omega⟩, by show 17 - (k + 1) < _; omega, ?_⟩
        exact weak_drop (by simp) (by simp [DropHp, ints_below, flts_below, bB, intB, bC_low, allBelow_cons, allBelow_nil, below, belowM, belowL, wk, es]) (by simp [DropTm, DropV, below, belowM, belowL, bB, intB, bC_low, allBelow_cons, allBelow_nil, below, belowM, belowL, wk, es])
    · have hk' : k = 17 := by have := of_decide_eq_false h1; omega
      subst hk'
      refine PostR.tell [1] (hp2 := [intB (ascN W 17)]) (by decide) (by decide) (by decide) ⟨⟨by simp [renB, intB, ints_ren], intsB_below _ _⟩, trivial⟩ (r2 := .tup [.sl 0 0 (ascN W 17).length, .bool true]) (by rfl) (by rfl) ⟨W, B, C2, rfl, rfl⟩
theorem refNeeds_call (R : List Rul) (hR : Rls R) (rb : rulesB R = true) (day : Int) (hd : inR 0 100000 day = true) (x : Int) (hx : wordB x = true) :
    CallA Tryz.prog 17 [.ro (R.map rulA), .int .i64 day, .int .i64 x] [] (fun r hp => ∃ W, NWb R day x W ∧ (∀ r ∈ R, onB day r = true → W (aN r.1) = true → ∀ w ∈ r.2.1, W (aN w) = true) ∧ r = .tup [.ro (ints (ascN W 17)), .bool true] ∧ hp = []) := by
  refine (CallA.freezeQ 3 (refNeeds0_call R hR rb day hd x hx)).mono ?_
  rintro r hp ⟨r0, new, ⟨W, B, C, rfl, rfl⟩, rfl, rfl⟩
  refine ⟨W, B, C, ?_, rfl⟩
  show AV.tup [view 2 _ _, view 2 _ _] = _
  rw [view_intB]
  rfl
theorem needs_same {R : List Rul} (hR : Rls R) {day x : Int} (hx : wordB x = true) {out : List Int} (B : NB R day x out) (D : Dn R day out out.length) {W : Nat → Bool} (BW : NWb R day x W) (CW : ∀ r ∈ R, onB day r = true → W (aN r.1) = true → ∀ w ∈ r.2.1, W (aN w) = true) : sortI out = ascN W 17 := by
  have e : ascN W 17 = ascB (fun v => W v.toNat) := by
    unfold ascN ascB
    rw [List.filter_map]
    congr 1
  rw [e]
  refine sortI_asc out B.nd _ fun v => ⟨fun hv => ?_, fun ⟨h1, h2⟩ => ?_⟩
  · have h1 := B.rng v hv
    exact ⟨⟨by omega, h1.2⟩, B.low (fun v => W v.toNat = true) ⟨BW.base, fun r hr hon h w hw => CW r hr hon h w hw⟩ v hv⟩
  · have h3 := BW.low (fun v => v ∈ out) ⟨B.base, fun r hr hon h w hw => by
      obtain ⟨i, hi, he⟩ := List.mem_iff_getElem.1 h
      exact D i _ hi (List.getElem?_eq_getElem hi) r hr hon he.symm w hw⟩ v.toNat h2
    rw [Int.toNat_of_nonneg h1.1] at h3
    exact h3
end Go.Proofs.YthcfklkpabfkbaaGreat
