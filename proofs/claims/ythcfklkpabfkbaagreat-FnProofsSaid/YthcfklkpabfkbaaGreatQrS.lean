/- Clashes: the program's. -/
import Derived.Test.YthcfklkpabfkbaaGreatQrR
set_option maxRecDepth 10000
set_option maxHeartbeats 8000000
set_option linter.unusedSimpArgs false
set_option linter.unusedVariables false
namespace Go.Proofs.YthcfklkpabfkbaaGreat
open Go Go.Abs

def prs {α β : Type} (f : α → α → List β) : List α → List β
  | [] => []
  | x :: l => l.flatMap (f x) ++ prs f l
theorem prs_cons {α β : Type} (f : α → α → List β) (x : α) (l : List α) : prs f (x :: l) = l.flatMap (f x) ++ prs f l := rfl
theorem prs_nil {α β : Type} (f : α → α → List β) : prs f [] = [] := rfl
theorem prs_filter {α β : Type} (f : α → α → List β) (p : α → Bool) : ∀ l : List α, prs f (l.filter p) = prs (fun x y => if p x && p y then f x y else []) l
  | [] => rfl
  | x :: l => by
    rw [prs_cons]
    cases hx : p x with
    | false =>
      rw [List.filter_cons_of_neg (by simp [hx]), prs_filter f p l]
      simp
    | true =>
      rw [List.filter_cons_of_pos hx]
      show (l.filter p).flatMap (f x) ++ prs f (l.filter p) = _
      rw [prs_filter f p l]
      congr 1
      simp only [Bool.true_and]
      clear hx
      induction l with
      | nil => rfl
      | cons y l ih =>
        cases hy : p y with
        | false => rw [List.filter_cons_of_neg (by simp [hy]), List.flatMap_cons, ih]; simp [hy]
        | true => rw [List.filter_cons_of_pos hy, List.flatMap_cons, List.flatMap_cons, ih]; simp [hy]
theorem fm_len {α β : Type} (g : α → List β) (h : ∀ y, (g y).length ≤ 2) : ∀ l : List α, (l.flatMap g).length ≤ 2 * l.length
  | [] => by simp
  | y :: l => by
    rw [List.flatMap_cons, List.length_append, List.length_cons]
    have := fm_len g h l
    have := h y
    omega
theorem prs_len {α β : Type} (f : α → α → List β) (h : ∀ x y, (f x y).length ≤ 2) (N : Nat) : ∀ l : List α, l.length ≤ N → (prs f l).length ≤ l.length * (2 * N)
  | [], _ => by simp [prs_nil]
  | x :: l, hl => by
    rw [prs_cons, List.length_append, List.length_cons, Nat.succ_mul]
    rw [List.length_cons] at hl
    have := fm_len (f x) (h x) l
    have := prs_len f h N l (by omega)
    omega
def clB (a b : Rul) : Bool := (a.1 == -b.1 && a.2.2.2.2 == b.2.2.2.2) && !oppB a b
def clP (R : List Rul) (i k : Int) : List Int := if clB (rkR R i.toNat) (rkR R k.toNat) = true then [i, k] else []

def ruC (r : Rul) : List AV := [.int .i64 r.1, .ro (ints r.2.1), .int .i64 r.2.2.1, .int .i64 r.2.2.2.1, .int .i64 r.2.2.2.2]
theorem implClashes0_call (R : List Rul) (hR : Rls R) (rb : rulesB R = true) (day : Int) (hd : inR 0 100000 day = true) (I : List Int) (hI : idxD R day R.length = I) (hIl : I.length ≤ 24) (hIm : ∀ i ∈ I, 0 ≤ i ∧ i < (R.length : Int)) :
    CallA Tryz.prog 14 [.ro (R.map rulA), .int .i64 day] [] (Ret (.tup [.sl 0 0 (prs (clP R) I).length, .bool true]) [intB (prs (clP R) I)]) := by
  have hl := hR.len
  have ac := active_call R hR rb day hd
  have hpl := prs_len (clP R) (fun x y => by unfold clP; split <;> simp) 24 I hIl
  have hpm : (prs (clP R) I).length ≤ 24 * (2 * 24) := Nat.le_trans hpl (Nat.mul_le_mul_right _ hIl)
  rw [hI] at ac
  refine CallP.out (t := .mk) (go_in (md := md14) mixed Tryz.func14 rfl go14 (by kernel_rfl) ?_)
  simp only [q0, q1, q2, q3, q4, q5, q6, q7, q8, q9, zr0, zr1, zr2, zr3, zq0, zq1, zq2, zq3, zq4, Nat.reduceAdd, Nat.reduceSub, lenA, convA, indexA, indexS, sliceA, Int.reduceToNat, cond_true, cond_false, ↓reduceIte, reduceCtorEq, Nat.reduceLT, Nat.reduceLeDiff, Nat.reduceMul, Nat.reduceEqDiff, exists_eq', implies_true, exists_true_left, tys0, tys1, tys2, tys3, tys4, und0, und1, und2, und3, md14, Tryz.ntmps14, Tryz.results14]
  refine call_ret ac rfl rfl ?_
  simp only [q0, q1, q2, q3, q4, q5, q6, q7, q8, q9, zr0, zr1, zr2, zr3, zq0, zq1, zq2, zq3, zq4, Nat.reduceAdd, Nat.reduceSub, lenA, convA, indexA, indexS, sliceA, Int.reduceToNat, cond_true, cond_false, ↓reduceIte, reduceCtorEq, Nat.reduceLT, Nat.reduceLeDiff, Nat.reduceMul, Nat.reduceEqDiff, exists_eq', implies_true, exists_true_left, tys0, tys1, tys2, tys3, tys4, und0, und1, und2, und3, md14, Tryz.ntmps14, Tryz.results14, ints_len]
  refine go_round (md := md14) mixed (by kernel_rfl) (fun s : {s : Nat × List Int // s.1 ≤ I.length ∧ s.2 ++ prs (clP R) (I.drop s.1) = prs (clP R) I} => ⟨[.ro (R.map rulA), .any, .any, .any, .any, .any, .ro (ints I), .any, .sl 0 0 s.1.2.length, .any, .any, .any, .any, .any, .any, .any, .any, .any, .any, .any, .any, .any, .any, .any, .ro (ints I), .int .i64 I.length, .int .i64 s.1.1, .any, .any, .any, .any, .any, .any, .any, .any, .any, .any, .any, .any, .any, .any, .any, .any, .any, .any, .any, .any, .any, .any, .any, .any, .any, .any, .any, .any, .any, .any, .any, .any, .any, .any, .any, .any, .any, .any, .any, .any, .any, .any, .any, .any, .any, .any, .any, .any], [intB s.1.2]⟩) (fun s => I.length - s.1.1) ⟨(0, []), Nat.zero_le _, rfl⟩ ?_ ?_
  · exact weak_drop (by simp) (by simp [DropHp, ints_below, flts_below, intB, allBelow_cons, allBelow_nil, below, belowM, belowL, show ints [] = [] from rfl]) (by simp [DropTm, DropV, below, belowM, belowL, intB, allBelow_cons, allBelow_nil, below, belowM, belowL, show ints [] = [] from rfl])
  rintro ⟨⟨n, out⟩, hn, he⟩
  dsimp only at hn he ⊢
  simp only [q0, q1, q2, q3, q4, q5, q6, q7, q8, q9, zr0, zr1, zr2, zr3, zq0, zq1, zq2, zq3, zq4, Nat.reduceAdd, Nat.reduceSub, lenA, convA, indexA, indexS, sliceA, Int.reduceToNat, cond_true, cond_false, ↓reduceIte, reduceCtorEq, Nat.reduceLT, Nat.reduceLeDiff, Nat.reduceMul, Nat.reduceEqDiff, exists_eq', implies_true, exists_true_left, tys0, tys1, tys2, tys3, tys4, und0, und1, und2, und3, md14, Tryz.ntmps14, Tryz.results14, intB, ints_len]
  refine br_intro (fun h => ?_) (fun h => ?_) <;> simp only [q0, q1, q2, q3, q4, q5, q6, q7, q8, q9, zr0, zr1, zr2, zr3, zq0, zq1, zq2, zq3, zq4, Nat.reduceAdd, Nat.reduceSub, lenA, convA, indexA, indexS, sliceA, Int.reduceToNat, cond_true, cond_false, ↓reduceIte, reduceCtorEq, Nat.reduceLT, Nat.reduceLeDiff, Nat.reduceMul, Nat.reduceEqDiff, exists_eq', implies_true, exists_true_left, tys0, tys1, tys2, tys3, tys4, und0, und1, und2, und3, md14, Tryz.ntmps14, Tryz.results14, intB, ints_len]
  · have hn' : n < I.length := by simpa using h
    have hIm1 := hIm _ (List.getElem_mem hn')
    rw [drop_at I n hn'] at he
    rw [prs_cons] at he
    refine ⟨hn', ?_⟩
    simp only [q0, q1, q2, q3, q4, q5, q6, q7, q8, q9, zr0, zr1, zr2, zr3, zq0, zq1, zq2, zq3, zq4, Nat.reduceAdd, Nat.reduceSub, lenA, convA, indexA, indexS, sliceA, Int.reduceToNat, cond_true, cond_false, ↓reduceIte, reduceCtorEq, Nat.reduceLT, Nat.reduceLeDiff, Nat.reduceMul, Nat.reduceEqDiff, exists_eq', implies_true, exists_true_left, tys0, tys1, tys2, tys3, tys4, und0, und1, und2, und3, md14, Tryz.ntmps14, Tryz.results14, intB, ints_len, w64_succ n (by omega)]
    have hdl : (I.drop (n + 1)).length = I.length - (n + 1) := List.length_drop
    refine ⟨by omega, by omega, fun a ha => by obtain ⟨z, _, rfl⟩ := List.mem_map.1 ha; rfl, ?_⟩
    refine go_round (md := md14) mixed (by kernel_rfl) (fun s : {s : Nat × List Int // s.1 ≤ (I.drop (n + 1)).length ∧ s.2 ++ (((I.drop (n + 1)).drop s.1).flatMap (clP R I[n]) ++ prs (clP R) (I.drop (n + 1))) = prs (clP R) I} => ⟨[.ro (R.map rulA), .any, .any, .any, .any, .any, .ro (ints I), .any, .sl 0 0 s.1.2.length, .any, .int .i64 I[n], .any, .any, .any, .any, .any, .any, .any, .any, .any, .any, .any, .any, .any, .ro (ints I), .int .i64 I.length, .int .i64 n, .any, .any, .any, .any, .any, .any, .any, .ro (ints (I.drop (n + 1))), .int .i64 (I.drop (n + 1)).length, .int .i64 s.1.1, .any, .any, .any, .any, .any, .any, .any, .any, .any, .any, .any, .any, .any, .any, .any, .any, .any, .any, .any, .any, .any, .any, .any, .any, .any, .any, .any, .any, .any, .any, .any, .any, .any, .any, .any, .any, .any, .any], [intB s.1.2]⟩) (fun s => (I.drop (n + 1)).length - s.1.1) ⟨(0, out), Nat.zero_le _, he⟩ ?_ ?_
    · have ed : ((ints I).take I.length).drop (n + 1) = ints (I.drop (n + 1)) := by
        rw [List.take_of_length_le (by rw [ints_len]; omega)]
        simp [ints, List.map_drop]
      exact weak_drop (by simp) (by simp [DropHp, ints_below, flts_below, intB, allBelow_cons, allBelow_nil, below, belowM, belowL, ed, ints_len]) (by simp [DropTm, DropV, below, belowM, belowL, intB, allBelow_cons, allBelow_nil, below, belowM, belowL, ed, ints_len])
    clear he
    rintro ⟨⟨m, out⟩, hm, he⟩
    dsimp only at hm he ⊢
    simp only [q0, q1, q2, q3, q4, q5, q6, q7, q8, q9, zr0, zr1, zr2, zr3, zq0, zq1, zq2, zq3, zq4, Nat.reduceAdd, Nat.reduceSub, lenA, convA, indexA, indexS, sliceA, Int.reduceToNat, cond_true, cond_false, ↓reduceIte, reduceCtorEq, Nat.reduceLT, Nat.reduceLeDiff, Nat.reduceMul, Nat.reduceEqDiff, exists_eq', implies_true, exists_true_left, tys0, tys1, tys2, tys3, tys4, und0, und1, und2, und3, md14, Tryz.ntmps14, Tryz.results14, intB, ints_len]
    refine br_intro (fun h2 => ?_) (fun h2 => ?_) <;> simp only [q0, q1, q2, q3, q4, q5, q6, q7, q8, q9, zr0, zr1, zr2, zr3, zq0, zq1, zq2, zq3, zq4, Nat.reduceAdd, Nat.reduceSub, lenA, convA, indexA, indexS, sliceA, Int.reduceToNat, cond_true, cond_false, ↓reduceIte, reduceCtorEq, Nat.reduceLT, Nat.reduceLeDiff, Nat.reduceMul, Nat.reduceEqDiff, exists_eq', implies_true, exists_true_left, tys0, tys1, tys2, tys3, tys4, und0, und1, und2, und3, md14, Tryz.ntmps14, Tryz.results14, intB, ints_len]
    · have hm' : m < (I.drop (n + 1)).length := by simp only [decide_eq_true_eq] at h2; omega
      have hkI : (I.drop (n + 1))[m] ∈ I := List.mem_of_mem_drop (List.getElem_mem hm')
      have hIm2 := hIm _ hkI
      rw [drop_at _ m hm', List.flatMap_cons] at he
      refine ⟨by simpa using h2, ?_⟩
      generalize hK : (I.drop (n + 1))[m] = k at *
      generalize hJ : I[n] = i at *
      have a1 : i.toNat < R.length := by omega
      have a2 : k.toNat < R.length := by omega
      have b1 : i.toNat < (R.map rulA).length := by rw [List.length_map]; exact a1
      have b2 : k.toNat < (R.map rulA).length := by rw [List.length_map]; exact a2
      have r1 := hR.ok _ (List.getElem_mem a1)
      have r2 := hR.ok _ (List.getElem_mem a2)
      have w1 := r1.2.1
      have w2 := r2.2.1
      have l1 := w1.1
      have l2 := w2.1
      have en : IntKind.i64.wrap (0 - R[k.toNat].1) = -R[k.toNat].1 := by
        have := wordB_low r2.1
        rw [w64 (by omega) (by omega), Int.zero_sub]
      have cl : clB (rkR R i.toNat) (rkR R k.toNat) = ((R[i.toNat].1 == IntKind.i64.wrap (0 - R[k.toNat].1) && R[i.toNat].2.2.2.2 == R[k.toNat].2.2.2.2) && !oppB R[i.toNat] R[k.toNat]) := by
        rw [rkR_at R _ a1, rkR_at R _ a2, en]; rfl
      have hol : out.length ≤ (prs (clP R) I).length := by rw [← he, List.length_append]; omega
      have no : clB (rkR R i.toNat) (rkR R k.toNat) = false → out ++ (((I.drop (n + 1)).drop (m + 1)).flatMap (clP R i) ++ prs (clP R) (I.drop (n + 1))) = prs (clP R) I := fun e => by
        rw [show clP R i k = [] from if_neg (by rw [e]; decide), List.nil_append] at he
        exact he
      have yes : clB (rkR R i.toNat) (rkR R k.toNat) = true → (out ++ [i, k]) ++ (((I.drop (n + 1)).drop (m + 1)).flatMap (clP R i) ++ prs (clP R) (I.drop (n + 1))) = prs (clP R) I := fun e => by
        rw [show clP R i k = [i, k] from if_pos e] at he
        rw [← he]
        simp only [List.append_assoc]
      refine go_two mixed [0, 1, 2, 3, 4, 5, 6, 7] 8 9 [10, 11] [5, 5, 5, 5, 5, 5, 5, 5, 4, 4, 4, 1] [] [] (by kernel_rfl) ?_
      refine om_blind (by rfl) (by rfl) (by rfl) (v := .ro (R.map rulA)) (fun hp => by simp only [q0, q1, q2, q3, q4, q5, q6, q7, q8, q9, zr0, zr1, zr2, zr3, zq0, zq1, zq2, zq3, zq4, Nat.reduceAdd, Nat.reduceSub, lenA, convA, indexA, indexS, sliceA, Int.reduceToNat, cond_true, cond_false, ↓reduceIte, reduceCtorEq, Nat.reduceLT, Nat.reduceLeDiff, Nat.reduceMul, Nat.reduceEqDiff, exists_eq', implies_true, exists_true_left, tys0, tys1, tys2, tys3, tys4, und0, und1, und2, und3, md14, Tryz.ntmps14, Tryz.results14]) ⟨by simp [Fixed, kill, killM, killL], by intro x hx; simp [Op.operands] at hx; first | (subst hx; simp [Fixed, St.ev, ofV, ofL, kill, killM, killL]) | (rcases hx with rfl | rfl <;> simp [Fixed, St.ev, ofV, ofL, kill, killM, killL]) | (rcases hx with rfl | rfl | rfl <;> simp [Fixed, St.ev, ofV, ofL, kill, killM, killL])⟩ ?_; try simp only []; simp only [q0, q1, q2, q3, q4, q5, q6, q7, q8, q9, zr0, zr1, zr2, zr3, zq0, zq1, zq2, zq3, zq4, Nat.reduceAdd, Nat.reduceSub, lenA, convA, indexA, indexS, sliceA, Int.reduceToNat, cond_true, cond_false, ↓reduceIte, reduceCtorEq, Nat.reduceLT, Nat.reduceLeDiff, Nat.reduceMul, Nat.reduceEqDiff, exists_eq', implies_true, exists_true_left, tys0, tys1, tys2, tys3, tys4, und0, und1, und2, und3, md14, Tryz.ntmps14, Tryz.results14]
      refine om_blind (by rfl) (by rfl) (by rfl) (v := .int .i64 i) (fun hp => by simp only [q0, q1, q2, q3, q4, q5, q6, q7, q8, q9, zr0, zr1, zr2, zr3, zq0, zq1, zq2, zq3, zq4, Nat.reduceAdd, Nat.reduceSub, lenA, convA, indexA, indexS, sliceA, Int.reduceToNat, cond_true, cond_false, ↓reduceIte, reduceCtorEq, Nat.reduceLT, Nat.reduceLeDiff, Nat.reduceMul, Nat.reduceEqDiff, exists_eq', implies_true, exists_true_left, tys0, tys1, tys2, tys3, tys4, und0, und1, und2, und3, md14, Tryz.ntmps14, Tryz.results14]) ⟨by simp [Fixed, kill, killM, killL], by intro x hx; simp [Op.operands] at hx; first | (subst hx; simp [Fixed, St.ev, ofV, ofL, kill, killM, killL]) | (rcases hx with rfl | rfl <;> simp [Fixed, St.ev, ofV, ofL, kill, killM, killL]) | (rcases hx with rfl | rfl | rfl <;> simp [Fixed, St.ev, ofV, ofL, kill, killM, killL])⟩ ?_; try simp only []; simp only [q0, q1, q2, q3, q4, q5, q6, q7, q8, q9, zr0, zr1, zr2, zr3, zq0, zq1, zq2, zq3, zq4, Nat.reduceAdd, Nat.reduceSub, lenA, convA, indexA, indexS, sliceA, Int.reduceToNat, cond_true, cond_false, ↓reduceIte, reduceCtorEq, Nat.reduceLT, Nat.reduceLeDiff, Nat.reduceMul, Nat.reduceEqDiff, exists_eq', implies_true, exists_true_left, tys0, tys1, tys2, tys3, tys4, und0, und1, und2, und3, md14, Tryz.ntmps14, Tryz.results14]
      refine om_blind (by rfl) (by rfl) (by rfl) (v := .rop (ruC R[i.toNat])) (fun hp => by
        simp only [q0, q1, q2, q3, q4, q5, q6, q7, q8, q9, zr0, zr1, zr2, zr3, zq0, zq1, zq2, zq3, zq4, Nat.reduceAdd, Nat.reduceSub, lenA, convA, indexA, indexS, sliceA, Int.reduceToNat, cond_true, cond_false, ↓reduceIte, reduceCtorEq, Nat.reduceLT, Nat.reduceLeDiff, Nat.reduceMul, Nat.reduceEqDiff, exists_eq', implies_true, exists_true_left, tys0, tys1, tys2, tys3, tys4, und0, und1, und2, und3, md14, Tryz.ntmps14, Tryz.results14]
        refine ⟨hIm1.1, b1, ?_⟩
        simp only [q0, q1, q2, q3, q4, q5, q6, q7, q8, q9, zr0, zr1, zr2, zr3, zq0, zq1, zq2, zq3, zq4, Nat.reduceAdd, Nat.reduceSub, lenA, convA, indexA, indexS, sliceA, Int.reduceToNat, cond_true, cond_false, ↓reduceIte, reduceCtorEq, Nat.reduceLT, Nat.reduceLeDiff, Nat.reduceMul, Nat.reduceEqDiff, exists_eq', implies_true, exists_true_left, tys0, tys1, tys2, tys3, tys4, und0, und1, und2, und3, md14, Tryz.ntmps14, Tryz.results14, List.getElem_map, rulA, ruC]) (by exact ⟨fun b hb => by simp at hb, fun x hx b hb => by simp at hb⟩) ?_
      try simp only []
      simp only [q0, q1, q2, q3, q4, q5, q6, q7, q8, q9, zr0, zr1, zr2, zr3, zq0, zq1, zq2, zq3, zq4, Nat.reduceAdd, Nat.reduceSub, lenA, convA, indexA, indexS, sliceA, Int.reduceToNat, cond_true, cond_false, ↓reduceIte, reduceCtorEq, Nat.reduceLT, Nat.reduceLeDiff, Nat.reduceMul, Nat.reduceEqDiff, exists_eq', implies_true, exists_true_left, tys0, tys1, tys2, tys3, tys4, und0, und1, und2, und3, md14, Tryz.ntmps14, Tryz.results14]
      refine om_blind (by rfl) (by rfl) (by rfl) (v := .agg (ruC R[i.toNat])) (fun hp => by
        simp only [q0, q1, q2, q3, q4, q5, q6, q7, q8, q9, zr0, zr1, zr2, zr3, zq0, zq1, zq2, zq3, zq4, Nat.reduceAdd, Nat.reduceSub, lenA, convA, indexA, indexS, sliceA, Int.reduceToNat, cond_true, cond_false, ↓reduceIte, reduceCtorEq, Nat.reduceLT, Nat.reduceLeDiff, Nat.reduceMul, Nat.reduceEqDiff, exists_eq', implies_true, exists_true_left, tys0, tys1, tys2, tys3, tys4, und0, und1, und2, und3, md14, Tryz.ntmps14, Tryz.results14, ruC]) (by exact ⟨fun b hb => by simp at hb, fun x hx b hb => by simp at hb⟩) ?_
      try simp only []
      simp only [q0, q1, q2, q3, q4, q5, q6, q7, q8, q9, zr0, zr1, zr2, zr3, zq0, zq1, zq2, zq3, zq4, Nat.reduceAdd, Nat.reduceSub, lenA, convA, indexA, indexS, sliceA, Int.reduceToNat, cond_true, cond_false, ↓reduceIte, reduceCtorEq, Nat.reduceLT, Nat.reduceLeDiff, Nat.reduceMul, Nat.reduceEqDiff, exists_eq', implies_true, exists_true_left, tys0, tys1, tys2, tys3, tys4, und0, und1, und2, und3, md14, Tryz.ntmps14, Tryz.results14]
      refine om_blind (by rfl) (by rfl) (by rfl) (v := .ro (R.map rulA)) (fun hp => by simp only [q0, q1, q2, q3, q4, q5, q6, q7, q8, q9, zr0, zr1, zr2, zr3, zq0, zq1, zq2, zq3, zq4, Nat.reduceAdd, Nat.reduceSub, lenA, convA, indexA, indexS, sliceA, Int.reduceToNat, cond_true, cond_false, ↓reduceIte, reduceCtorEq, Nat.reduceLT, Nat.reduceLeDiff, Nat.reduceMul, Nat.reduceEqDiff, exists_eq', implies_true, exists_true_left, tys0, tys1, tys2, tys3, tys4, und0, und1, und2, und3, md14, Tryz.ntmps14, Tryz.results14]) ⟨by simp [Fixed, kill, killM, killL], by intro x hx; simp [Op.operands] at hx; first | (subst hx; simp [Fixed, St.ev, ofV, ofL, kill, killM, killL]) | (rcases hx with rfl | rfl <;> simp [Fixed, St.ev, ofV, ofL, kill, killM, killL]) | (rcases hx with rfl | rfl | rfl <;> simp [Fixed, St.ev, ofV, ofL, kill, killM, killL])⟩ ?_; try simp only []; simp only [q0, q1, q2, q3, q4, q5, q6, q7, q8, q9, zr0, zr1, zr2, zr3, zq0, zq1, zq2, zq3, zq4, Nat.reduceAdd, Nat.reduceSub, lenA, convA, indexA, indexS, sliceA, Int.reduceToNat, cond_true, cond_false, ↓reduceIte, reduceCtorEq, Nat.reduceLT, Nat.reduceLeDiff, Nat.reduceMul, Nat.reduceEqDiff, exists_eq', implies_true, exists_true_left, tys0, tys1, tys2, tys3, tys4, und0, und1, und2, und3, md14, Tryz.ntmps14, Tryz.results14]
      refine om_blind (by rfl) (by rfl) (by rfl) (v := .int .i64 k) (fun hp => by simp only [q0, q1, q2, q3, q4, q5, q6, q7, q8, q9, zr0, zr1, zr2, zr3, zq0, zq1, zq2, zq3, zq4, Nat.reduceAdd, Nat.reduceSub, lenA, convA, indexA, indexS, sliceA, Int.reduceToNat, cond_true, cond_false, ↓reduceIte, reduceCtorEq, Nat.reduceLT, Nat.reduceLeDiff, Nat.reduceMul, Nat.reduceEqDiff, exists_eq', implies_true, exists_true_left, tys0, tys1, tys2, tys3, tys4, und0, und1, und2, und3, md14, Tryz.ntmps14, Tryz.results14]) ⟨by simp [Fixed, kill, killM, killL], by intro x hx; simp [Op.operands] at hx; first | (subst hx; simp [Fixed, St.ev, ofV, ofL, kill, killM, killL]) | (rcases hx with rfl | rfl <;> simp [Fixed, St.ev, ofV, ofL, kill, killM, killL]) | (rcases hx with rfl | rfl | rfl <;> simp [Fixed, St.ev, ofV, ofL, kill, killM, killL])⟩ ?_; try simp only []; simp only [q0, q1, q2, q3, q4, q5, q6, q7, q8, q9, zr0, zr1, zr2, zr3, zq0, zq1, zq2, zq3, zq4, Nat.reduceAdd, Nat.reduceSub, lenA, convA, indexA, indexS, sliceA, Int.reduceToNat, cond_true, cond_false, ↓reduceIte, reduceCtorEq, Nat.reduceLT, Nat.reduceLeDiff, Nat.reduceMul, Nat.reduceEqDiff, exists_eq', implies_true, exists_true_left, tys0, tys1, tys2, tys3, tys4, und0, und1, und2, und3, md14, Tryz.ntmps14, Tryz.results14]
      refine om_blind (by rfl) (by rfl) (by rfl) (v := .rop (ruC R[k.toNat])) (fun hp => by
        simp only [q0, q1, q2, q3, q4, q5, q6, q7, q8, q9, zr0, zr1, zr2, zr3, zq0, zq1, zq2, zq3, zq4, Nat.reduceAdd, Nat.reduceSub, lenA, convA, indexA, indexS, sliceA, Int.reduceToNat, cond_true, cond_false, ↓reduceIte, reduceCtorEq, Nat.reduceLT, Nat.reduceLeDiff, Nat.reduceMul, Nat.reduceEqDiff, exists_eq', implies_true, exists_true_left, tys0, tys1, tys2, tys3, tys4, und0, und1, und2, und3, md14, Tryz.ntmps14, Tryz.results14]
        refine ⟨hIm2.1, b2, ?_⟩
        simp only [q0, q1, q2, q3, q4, q5, q6, q7, q8, q9, zr0, zr1, zr2, zr3, zq0, zq1, zq2, zq3, zq4, Nat.reduceAdd, Nat.reduceSub, lenA, convA, indexA, indexS, sliceA, Int.reduceToNat, cond_true, cond_false, ↓reduceIte, reduceCtorEq, Nat.reduceLT, Nat.reduceLeDiff, Nat.reduceMul, Nat.reduceEqDiff, exists_eq', implies_true, exists_true_left, tys0, tys1, tys2, tys3, tys4, und0, und1, und2, und3, md14, Tryz.ntmps14, Tryz.results14, List.getElem_map, rulA, ruC]) (by exact ⟨fun b hb => by simp at hb, fun x hx b hb => by simp at hb⟩) ?_
      try simp only []
      simp only [q0, q1, q2, q3, q4, q5, q6, q7, q8, q9, zr0, zr1, zr2, zr3, zq0, zq1, zq2, zq3, zq4, Nat.reduceAdd, Nat.reduceSub, lenA, convA, indexA, indexS, sliceA, Int.reduceToNat, cond_true, cond_false, ↓reduceIte, reduceCtorEq, Nat.reduceLT, Nat.reduceLeDiff, Nat.reduceMul, Nat.reduceEqDiff, exists_eq', implies_true, exists_true_left, tys0, tys1, tys2, tys3, tys4, und0, und1, und2, und3, md14, Tryz.ntmps14, Tryz.results14]
      refine om_blind (by rfl) (by rfl) (by rfl) (v := .agg (ruC R[k.toNat])) (fun hp => by
        simp only [q0, q1, q2, q3, q4, q5, q6, q7, q8, q9, zr0, zr1, zr2, zr3, zq0, zq1, zq2, zq3, zq4, Nat.reduceAdd, Nat.reduceSub, lenA, convA, indexA, indexS, sliceA, Int.reduceToNat, cond_true, cond_false, ↓reduceIte, reduceCtorEq, Nat.reduceLT, Nat.reduceLeDiff, Nat.reduceMul, Nat.reduceEqDiff, exists_eq', implies_true, exists_true_left, tys0, tys1, tys2, tys3, tys4, und0, und1, und2, und3, md14, Tryz.ntmps14, Tryz.results14, ruC]) (by exact ⟨fun b hb => by simp at hb, fun x hx b hb => by simp at hb⟩) ?_
      try simp only []
      simp only [q0, q1, q2, q3, q4, q5, q6, q7, q8, q9, zr0, zr1, zr2, zr3, zq0, zq1, zq2, zq3, zq4, Nat.reduceAdd, Nat.reduceSub, lenA, convA, indexA, indexS, sliceA, Int.reduceToNat, cond_true, cond_false, ↓reduceIte, reduceCtorEq, Nat.reduceLT, Nat.reduceLeDiff, Nat.reduceMul, Nat.reduceEqDiff, exists_eq', implies_true, exists_true_left, tys0, tys1, tys2, tys3, tys4, und0, und1, und2, und3, md14, Tryz.ntmps14, Tryz.results14]
      refine om_nil ?_
      try dsimp only
      refine ⟨?_, ?_⟩
      · refine om_free (by rfl) (by rfl) (by rfl) ?_
        simp only [q0, q1, q2, q3, q4, q5, q6, q7, q8, q9, zr0, zr1, zr2, zr3, zq0, zq1, zq2, zq3, zq4, Nat.reduceAdd, Nat.reduceSub, lenA, convA, indexA, indexS, sliceA, Int.reduceToNat, cond_true, cond_false, ↓reduceIte, reduceCtorEq, Nat.reduceLT, Nat.reduceLeDiff, Nat.reduceMul, Nat.reduceEqDiff, exists_eq', implies_true, exists_true_left, tys0, tys1, tys2, tys3, tys4, und0, und1, und2, und3, md14, Tryz.ntmps14, Tryz.results14, ruC, intB]
        refine ⟨.inl trivial, ?_⟩
        refine om_free (by rfl) (by rfl) (by rfl) ?_
        simp only [q0, q1, q2, q3, q4, q5, q6, q7, q8, q9, zr0, zr1, zr2, zr3, zq0, zq1, zq2, zq3, zq4, Nat.reduceAdd, Nat.reduceSub, lenA, convA, indexA, indexS, sliceA, Int.reduceToNat, cond_true, cond_false, ↓reduceIte, reduceCtorEq, Nat.reduceLT, Nat.reduceLeDiff, Nat.reduceMul, Nat.reduceEqDiff, exists_eq', implies_true, exists_true_left, tys0, tys1, tys2, tys3, tys4, und0, und1, und2, und3, md14, Tryz.ntmps14, Tryz.results14, ruC, intB]
        refine ⟨.inl trivial, ?_⟩
        refine om_free (by rfl) (by rfl) (by rfl) ?_
        simp only [q0, q1, q2, q3, q4, q5, q6, q7, q8, q9, zr0, zr1, zr2, zr3, zq0, zq1, zq2, zq3, zq4, Nat.reduceAdd, Nat.reduceSub, lenA, convA, indexA, indexS, sliceA, Int.reduceToNat, cond_true, cond_false, ↓reduceIte, reduceCtorEq, Nat.reduceLT, Nat.reduceLeDiff, Nat.reduceMul, Nat.reduceEqDiff, exists_eq', implies_true, exists_true_left, tys0, tys1, tys2, tys3, tys4, und0, und1, und2, und3, md14, Tryz.ntmps14, Tryz.results14, ruC, intB]
        refine ⟨.inl trivial, ?_⟩
        refine om_one (by rfl) (by rfl) (by rfl) ?_; try simp only []; simp only [q0, q1, q2, q3, q4, q5, q6, q7, q8, q9, zr0, zr1, zr2, zr3, zq0, zq1, zq2, zq3, zq4, Nat.reduceAdd, Nat.reduceSub, lenA, convA, indexA, indexS, sliceA, Int.reduceToNat, cond_true, cond_false, ↓reduceIte, reduceCtorEq, Nat.reduceLT, Nat.reduceLeDiff, Nat.reduceMul, Nat.reduceEqDiff, exists_eq', implies_true, exists_true_left, tys0, tys1, tys2, tys3, tys4, und0, und1, und2, und3, md14, Tryz.ntmps14, Tryz.results14, ruC, intB]
        refine om_nil ?_
        simp only [q0, q1, q2, q3, q4, q5, q6, q7, q8, q9, zr0, zr1, zr2, zr3, zq0, zq1, zq2, zq3, zq4, Nat.reduceAdd, Nat.reduceSub, lenA, convA, indexA, indexS, sliceA, Int.reduceToNat, cond_true, cond_false, ↓reduceIte, reduceCtorEq, Nat.reduceLT, Nat.reduceLeDiff, Nat.reduceMul, Nat.reduceEqDiff, exists_eq', implies_true, exists_true_left, tys0, tys1, tys2, tys3, tys4, und0, und1, und2, und3, md14, Tryz.ntmps14, Tryz.results14, ruC, intB]
        refine br_intro (fun d1 => ?_) (fun d1 => ?_) <;> simp only [q0, q1, q2, q3, q4, q5, q6, q7, q8, q9, zr0, zr1, zr2, zr3, zq0, zq1, zq2, zq3, zq4, Nat.reduceAdd, Nat.reduceSub, lenA, convA, indexA, indexS, sliceA, Int.reduceToNat, cond_true, cond_false, ↓reduceIte, reduceCtorEq, Nat.reduceLT, Nat.reduceLeDiff, Nat.reduceMul, Nat.reduceEqDiff, exists_eq', implies_true, exists_true_left, tys0, tys1, tys2, tys3, tys4, und0, und1, und2, und3, md14, Tryz.ntmps14, Tryz.results14, ruC, intB, en, allW_int, fits, List.isEmpty_cons, brk_false, Nat.reduceMul]
        rotate_left
        · refine ⟨⟨(m + 1, out), by show m + 1 ≤ _; omega, no (by rw [cl, d1]; rfl)⟩, by show _ - (m + 1) < _; omega, ?_⟩
          exact weak_drop (by simp) (by simp [DropHp, ints_below, flts_below, intB, allBelow_cons, allBelow_nil, below, belowM, belowL, w64_succ m (by omega)]) (by simp [DropTm, DropV, below, belowM, belowL, intB, allBelow_cons, allBelow_nil, below, belowM, belowL, w64_succ m (by omega)])
        refine br_intro (fun d2 => ?_) (fun d2 => ?_) <;> simp only [q0, q1, q2, q3, q4, q5, q6, q7, q8, q9, zr0, zr1, zr2, zr3, zq0, zq1, zq2, zq3, zq4, Nat.reduceAdd, Nat.reduceSub, lenA, convA, indexA, indexS, sliceA, Int.reduceToNat, cond_true, cond_false, ↓reduceIte, reduceCtorEq, Nat.reduceLT, Nat.reduceLeDiff, Nat.reduceMul, Nat.reduceEqDiff, exists_eq', implies_true, exists_true_left, tys0, tys1, tys2, tys3, tys4, und0, und1, und2, und3, md14, Tryz.ntmps14, Tryz.results14, ruC, intB, en, allW_int, fits, List.isEmpty_cons, brk_false, Nat.reduceMul]
        rotate_left
        · refine ⟨⟨(m + 1, out), by show m + 1 ≤ _; omega, no (by rw [cl, d1, d2]; rfl)⟩, by show _ - (m + 1) < _; omega, ?_⟩
          exact weak_drop (by simp) (by simp [DropHp, ints_below, flts_below, intB, allBelow_cons, allBelow_nil, below, belowM, belowL, w64_succ m (by omega)]) (by simp [DropTm, DropV, below, belowM, belowL, intB, allBelow_cons, allBelow_nil, below, belowM, belowL, w64_succ m (by omega)])
        refine call_ret (oppose_call R[i.toNat] R[k.toNat] w1 (by omega) (by omega)) (by rfl) rfl ?_
        simp only [q0, q1, q2, q3, q4, q5, q6, q7, q8, q9, zr0, zr1, zr2, zr3, zq0, zq1, zq2, zq3, zq4, Nat.reduceAdd, Nat.reduceSub, lenA, convA, indexA, indexS, sliceA, Int.reduceToNat, cond_true, cond_false, ↓reduceIte, reduceCtorEq, Nat.reduceLT, Nat.reduceLeDiff, Nat.reduceMul, Nat.reduceEqDiff, exists_eq', implies_true, exists_true_left, tys0, tys1, tys2, tys3, tys4, und0, und1, und2, und3, md14, Tryz.ntmps14, Tryz.results14, ruC, intB, en, allW_int, fits, List.isEmpty_cons, brk_false, Nat.reduceMul]
        refine br_intro (fun d3 => ?_) (fun d3 => ?_) <;> simp only [q0, q1, q2, q3, q4, q5, q6, q7, q8, q9, zr0, zr1, zr2, zr3, zq0, zq1, zq2, zq3, zq4, Nat.reduceAdd, Nat.reduceSub, lenA, convA, indexA, indexS, sliceA, Int.reduceToNat, cond_true, cond_false, ↓reduceIte, reduceCtorEq, Nat.reduceLT, Nat.reduceLeDiff, Nat.reduceMul, Nat.reduceEqDiff, exists_eq', implies_true, exists_true_left, tys0, tys1, tys2, tys3, tys4, und0, und1, und2, und3, md14, Tryz.ntmps14, Tryz.results14, ruC, intB, en, allW_int, fits, List.isEmpty_cons, brk_false, Nat.reduceMul]
        · refine ⟨⟨(m + 1, out), by show m + 1 ≤ _; omega, no (by rw [cl, d1, d2, d3]; rfl)⟩, by show _ - (m + 1) < _; omega, ?_⟩
          exact weak_drop (by simp) (by simp [DropHp, ints_below, flts_below, intB, allBelow_cons, allBelow_nil, below, belowM, belowL, w64_succ m (by omega)]) (by simp [DropTm, DropV, below, belowM, belowL, intB, allBelow_cons, allBelow_nil, below, belowM, belowL, w64_succ m (by omega)])
        · have el : (out ++ [i, k]).length = out.length + 2 := by simp
          refine ⟨by rw [allW_two]; trivial, by omega, ⟨(m + 1, out ++ [i, k]), by show m + 1 ≤ _; omega, yes (by rw [cl, d1, d2, d3]; rfl)⟩, by show _ - (m + 1) < _; omega, ?_⟩
          dsimp only
          rw [el, ← show ints (out ++ [i, k]) = ints out ++ [.int .i64 i, .int .i64 k] from by simp [ints], ints_kill]
          exact weak_drop (by simp) (by simp [DropHp, ints_below, flts_below, intB, allBelow_cons, allBelow_nil, below, belowM, belowL, w64_succ m (by omega)]) (by simp [DropTm, DropV, below, belowM, belowL, intB, allBelow_cons, allBelow_nil, below, belowM, belowL, w64_succ m (by omega)])
      · refine om_free (by rfl) (by rfl) (by rfl) ?_
        simp only [q0, q1, q2, q3, q4, q5, q6, q7, q8, q9, zr0, zr1, zr2, zr3, zq0, zq1, zq2, zq3, zq4, Nat.reduceAdd, Nat.reduceSub, lenA, convA, indexA, indexS, sliceA, Int.reduceToNat, cond_true, cond_false, ↓reduceIte, reduceCtorEq, Nat.reduceLT, Nat.reduceLeDiff, Nat.reduceMul, Nat.reduceEqDiff, exists_eq', implies_true, exists_true_left, tys0, tys1, tys2, tys3, tys4, und0, und1, und2, und3, md14, Tryz.ntmps14, Tryz.results14, ruC, intB]
        refine ⟨.inl trivial, ?_⟩
        refine om_free (by rfl) (by rfl) (by rfl) ?_
        simp only [q0, q1, q2, q3, q4, q5, q6, q7, q8, q9, zr0, zr1, zr2, zr3, zq0, zq1, zq2, zq3, zq4, Nat.reduceAdd, Nat.reduceSub, lenA, convA, indexA, indexS, sliceA, Int.reduceToNat, cond_true, cond_false, ↓reduceIte, reduceCtorEq, Nat.reduceLT, Nat.reduceLeDiff, Nat.reduceMul, Nat.reduceEqDiff, exists_eq', implies_true, exists_true_left, tys0, tys1, tys2, tys3, tys4, und0, und1, und2, und3, md14, Tryz.ntmps14, Tryz.results14, ruC, intB]
        refine ⟨.inl trivial, ?_⟩
        refine om_free (by rfl) (by rfl) (by rfl) ?_
        simp only [q0, q1, q2, q3, q4, q5, q6, q7, q8, q9, zr0, zr1, zr2, zr3, zq0, zq1, zq2, zq3, zq4, Nat.reduceAdd, Nat.reduceSub, lenA, convA, indexA, indexS, sliceA, Int.reduceToNat, cond_true, cond_false, ↓reduceIte, reduceCtorEq, Nat.reduceLT, Nat.reduceLeDiff, Nat.reduceMul, Nat.reduceEqDiff, exists_eq', implies_true, exists_true_left, tys0, tys1, tys2, tys3, tys4, und0, und1, und2, und3, md14, Tryz.ntmps14, Tryz.results14, ruC, intB]
        refine ⟨.inl trivial, ?_⟩
        refine om_one (by rfl) (by rfl) (by rfl) ?_; try simp only []; simp only [q0, q1, q2, q3, q4, q5, q6, q7, q8, q9, zr0, zr1, zr2, zr3, zq0, zq1, zq2, zq3, zq4, Nat.reduceAdd, Nat.reduceSub, lenA, convA, indexA, indexS, sliceA, Int.reduceToNat, cond_true, cond_false, ↓reduceIte, reduceCtorEq, Nat.reduceLT, Nat.reduceLeDiff, Nat.reduceMul, Nat.reduceEqDiff, exists_eq', implies_true, exists_true_left, tys0, tys1, tys2, tys3, tys4, und0, und1, und2, und3, md14, Tryz.ntmps14, Tryz.results14, ruC, intB]
        refine om_nil ?_
        simp only [q0, q1, q2, q3, q4, q5, q6, q7, q8, q9, zr0, zr1, zr2, zr3, zq0, zq1, zq2, zq3, zq4, Nat.reduceAdd, Nat.reduceSub, lenA, convA, indexA, indexS, sliceA, Int.reduceToNat, cond_true, cond_false, ↓reduceIte, reduceCtorEq, Nat.reduceLT, Nat.reduceLeDiff, Nat.reduceMul, Nat.reduceEqDiff, exists_eq', implies_true, exists_true_left, tys0, tys1, tys2, tys3, tys4, und0, und1, und2, und3, md14, Tryz.ntmps14, Tryz.results14, ruC, intB]
        refine br_intro (fun d1 => ?_) (fun d1 => ?_) <;> simp only [q0, q1, q2, q3, q4, q5, q6, q7, q8, q9, zr0, zr1, zr2, zr3, zq0, zq1, zq2, zq3, zq4, Nat.reduceAdd, Nat.reduceSub, lenA, convA, indexA, indexS, sliceA, Int.reduceToNat, cond_true, cond_false, ↓reduceIte, reduceCtorEq, Nat.reduceLT, Nat.reduceLeDiff, Nat.reduceMul, Nat.reduceEqDiff, exists_eq', implies_true, exists_true_left, tys0, tys1, tys2, tys3, tys4, und0, und1, und2, und3, md14, Tryz.ntmps14, Tryz.results14, ruC, intB, en, allW_int, fits, List.isEmpty_cons, brk_false, Nat.reduceMul]
        rotate_left
        · refine ⟨⟨(m + 1, out), by show m + 1 ≤ _; omega, no (by rw [cl, d1]; rfl)⟩, by show _ - (m + 1) < _; omega, ?_⟩
          exact weak_drop (by simp) (by simp [DropHp, ints_below, flts_below, intB, allBelow_cons, allBelow_nil, below, belowM, belowL, w64_succ m (by omega)]) (by simp [DropTm, DropV, below, belowM, belowL, intB, allBelow_cons, allBelow_nil, below, belowM, belowL, w64_succ m (by omega)])
        refine br_intro (fun d2 => ?_) (fun d2 => ?_) <;> simp only [q0, q1, q2, q3, q4, q5, q6, q7, q8, q9, zr0, zr1, zr2, zr3, zq0, zq1, zq2, zq3, zq4, Nat.reduceAdd, Nat.reduceSub, lenA, convA, indexA, indexS, sliceA, Int.reduceToNat, cond_true, cond_false, ↓reduceIte, reduceCtorEq, Nat.reduceLT, Nat.reduceLeDiff, Nat.reduceMul, Nat.reduceEqDiff, exists_eq', implies_true, exists_true_left, tys0, tys1, tys2, tys3, tys4, und0, und1, und2, und3, md14, Tryz.ntmps14, Tryz.results14, ruC, intB, en, allW_int, fits, List.isEmpty_cons, brk_false, Nat.reduceMul]
        rotate_left
        · refine ⟨⟨(m + 1, out), by show m + 1 ≤ _; omega, no (by rw [cl, d1, d2]; rfl)⟩, by show _ - (m + 1) < _; omega, ?_⟩
          exact weak_drop (by simp) (by simp [DropHp, ints_below, flts_below, intB, allBelow_cons, allBelow_nil, below, belowM, belowL, w64_succ m (by omega)]) (by simp [DropTm, DropV, below, belowM, belowL, intB, allBelow_cons, allBelow_nil, below, belowM, belowL, w64_succ m (by omega)])
        refine call_ret (oppose_call R[i.toNat] R[k.toNat] w1 (by omega) (by omega)) (by rfl) rfl ?_
        simp only [q0, q1, q2, q3, q4, q5, q6, q7, q8, q9, zr0, zr1, zr2, zr3, zq0, zq1, zq2, zq3, zq4, Nat.reduceAdd, Nat.reduceSub, lenA, convA, indexA, indexS, sliceA, Int.reduceToNat, cond_true, cond_false, ↓reduceIte, reduceCtorEq, Nat.reduceLT, Nat.reduceLeDiff, Nat.reduceMul, Nat.reduceEqDiff, exists_eq', implies_true, exists_true_left, tys0, tys1, tys2, tys3, tys4, und0, und1, und2, und3, md14, Tryz.ntmps14, Tryz.results14, ruC, intB, en, allW_int, fits, List.isEmpty_cons, brk_false, Nat.reduceMul]
        refine br_intro (fun d3 => ?_) (fun d3 => ?_) <;> simp only [q0, q1, q2, q3, q4, q5, q6, q7, q8, q9, zr0, zr1, zr2, zr3, zq0, zq1, zq2, zq3, zq4, Nat.reduceAdd, Nat.reduceSub, lenA, convA, indexA, indexS, sliceA, Int.reduceToNat, cond_true, cond_false, ↓reduceIte, reduceCtorEq, Nat.reduceLT, Nat.reduceLeDiff, Nat.reduceMul, Nat.reduceEqDiff, exists_eq', implies_true, exists_true_left, tys0, tys1, tys2, tys3, tys4, und0, und1, und2, und3, md14, Tryz.ntmps14, Tryz.results14, ruC, intB, en, allW_int, fits, List.isEmpty_cons, brk_false, Nat.reduceMul]
        · refine ⟨⟨(m + 1, out), by show m + 1 ≤ _; omega, no (by rw [cl, d1, d2, d3]; rfl)⟩, by show _ - (m + 1) < _; omega, ?_⟩
          exact weak_drop (by simp) (by simp [DropHp, ints_below, flts_below, intB, allBelow_cons, allBelow_nil, below, belowM, belowL, w64_succ m (by omega)]) (by simp [DropTm, DropV, below, belowM, belowL, intB, allBelow_cons, allBelow_nil, below, belowM, belowL, w64_succ m (by omega)])
        · have el : (out ++ [i, k]).length = out.length + 2 := by simp
          refine ⟨by rw [allW_two]; trivial, by omega, ⟨(m + 1, out ++ [i, k]), by show m + 1 ≤ _; omega, yes (by rw [cl, d1, d2, d3]; rfl)⟩, by show _ - (m + 1) < _; omega, ?_⟩
          dsimp only
          rw [el, ← show ints (out ++ [i, k]) = ints out ++ [.int .i64 i, .int .i64 k] from by simp [ints], ints_kill]
          exact weak_drop (by simp) (by simp [DropHp, ints_below, flts_below, intB, allBelow_cons, allBelow_nil, below, belowM, belowL, w64_succ m (by omega)]) (by simp [DropTm, DropV, below, belowM, belowL, intB, allBelow_cons, allBelow_nil, below, belowM, belowL, w64_succ m (by omega)])
    · have hm' : m = (I.drop (n + 1)).length := by simp only [decide_eq_false_iff_not] at h2; omega
      subst hm'
      rw [List.drop_length] at he
      refine ⟨⟨(n + 1, out), by show n + 1 ≤ _; omega, by simpa using he⟩, by show I.length - (n + 1) < _; omega, ?_⟩
      exact weak_drop (by simp) (by simp [DropHp, ints_below, flts_below, intB, allBelow_cons, allBelow_nil, below, belowM, belowL, w64_succ n (by omega)]) (by simp [DropTm, DropV, below, belowM, belowL, intB, allBelow_cons, allBelow_nil, below, belowM, belowL, w64_succ n (by omega)])
  · have hn' : n = I.length := by simp at h; omega
    subst hn'
    rw [List.drop_length] at he
    rw [prs_nil, List.append_nil] at he
    subst he
    exact PostR.ret
end Go.Proofs.YthcfklkpabfkbaaGreat
