/- Active rules and clashes: the program's. -/
import Derived.Test.YthcfklkpabfkbaaGreatQrQ
set_option maxRecDepth 10000
set_option maxHeartbeats 8000000
set_option linter.unusedSimpArgs false
set_option linter.unusedVariables false
namespace Go.Proofs.YthcfklkpabfkbaaGreat
open Go Go.Abs

theorem implProof_call {R : List Rul} {fs : List Int} {day : Int} (A : Ask R fs day) (x : Int) (hx : wordB x = true) :
    CallA Tryz.prog 9 [.ro (R.map rulA), .ro (ints fs), .int .i64 day, .int .i64 x] [] (fun r hp => ∃ Y N, Least (R.filter (onB day)) fs Y N ∧ ((Y x = false ∧ r = .tup [.nils, .bool false] ∧ hp = []) ∨ (Y x = true ∧ ∃ out, PrfP (R.filter (onB day)) (idxD R day R.length) fs Y x out ∧ r = .tup [.ro (ints out), .bool true] ∧ hp = []))) := by
  refine (CallA.freezeQ 3 (implProof0_call A x hx)).mono ?_
  rintro r hp ⟨r0, new, ⟨Y, N, L, h⟩, rfl, rfl⟩
  refine ⟨Y, N, L, ?_⟩
  rcases h with ⟨h1, rfl, rfl⟩ | ⟨h1, out, h2, rfl, rfl⟩
  · exact .inl ⟨h1, rfl, rfl⟩
  · refine .inr ⟨h1, out, h2, ?_, rfl⟩
    show AV.tup [view 2 _ _, view 2 _ _] = _
    rw [view_intB]
    rfl

theorem active0_call (R : List Rul) (hR : Rls R) (rb : rulesB R = true) (day : Int) (hd : inR 0 100000 day = true) : CallA Tryz.prog 40 [.ro (R.map rulA), .int .i64 day] [] (Ret (.tup [.sl 0 0 (idxD R day R.length).length, .bool true]) [intB (idxD R day R.length)]) := by
  have hl := hR.len
  have c1 := areRules_call R (by omega) (fun r h => by have := (hR.ok r h).2.1.1; omega)
  rw [rb] at c1
  have c3 := isDate_call day
  rw [hd] at c3
  refine CallP.out (t := .mk) (go_in (md := md40) mixed Tryz.func40 rfl go40 (by kernel_rfl) ?_)
  simp only [q0, q1, q2, q3, q4, q5, q6, q7, q8, q9, zr0, zr1, zr2, zr3, zq0, zq1, zq2, zq3, zq4, Nat.reduceAdd, Nat.reduceSub, lenA, convA, indexA, indexS, Int.reduceToNat, cond_true, cond_false, ↓reduceIte, reduceCtorEq, Nat.reduceLT, Nat.reduceLeDiff, Nat.reduceMul, Nat.reduceEqDiff, exists_eq', implies_true, exists_true_left, tys0, tys1, tys2, tys3, tys4, und0, und1, und2, und3, md40, Tryz.ntmps40, Tryz.results40]
  refine call_ret c1 rfl rfl ?_
  simp only [q0, q1, q2, q3, q4, q5, q6, q7, q8, q9, zr0, zr1, zr2, zr3, zq0, zq1, zq2, zq3, zq4, Nat.reduceAdd, Nat.reduceSub, lenA, convA, indexA, indexS, Int.reduceToNat, cond_true, cond_false, ↓reduceIte, reduceCtorEq, Nat.reduceLT, Nat.reduceLeDiff, Nat.reduceMul, Nat.reduceEqDiff, exists_eq', implies_true, exists_true_left, tys0, tys1, tys2, tys3, tys4, und0, und1, und2, und3, md40, Tryz.ntmps40, Tryz.results40]
  refine call_ret c3 rfl rfl ?_
  simp only [q0, q1, q2, q3, q4, q5, q6, q7, q8, q9, zr0, zr1, zr2, zr3, zq0, zq1, zq2, zq3, zq4, Nat.reduceAdd, Nat.reduceSub, lenA, convA, indexA, indexS, Int.reduceToNat, cond_true, cond_false, ↓reduceIte, reduceCtorEq, Nat.reduceLT, Nat.reduceLeDiff, Nat.reduceMul, Nat.reduceEqDiff, exists_eq', implies_true, exists_true_left, tys0, tys1, tys2, tys3, tys4, und0, und1, und2, und3, md40, Tryz.ntmps40, Tryz.results40]
  refine go_round (md := md40) mixed (by kernel_rfl) (fun k : {k : Nat // k ≤ R.length} => ⟨[.any, .int .i64 day, .any, .any, .any, .any, .sl 0 0 (idxD R day k.1).length, .any, .any, .any, .any, .any, .any, .any, .any, .any, .any, .any, .ro (R.map rulA), .int .i64 R.length, .int .i64 k.1, .any, .any, .any, .any, .any, .any, .any, .any, .any, .any, .any, .any, .any], [intB (idxD R day k.1)]⟩) (fun k => R.length - k.1) ⟨0, Nat.zero_le _⟩ ?_ ?_
  · exact weak_drop (by simp) (by simp [DropHp, ints_below, flts_below, intB, allBelow_cons, allBelow_nil, below, belowM, belowL, show idxD R day 0 = [] from rfl, show ints [] = [] from rfl]) (by simp [DropTm, DropV, below, belowM, belowL, intB, allBelow_cons, allBelow_nil, below, belowM, belowL, show idxD R day 0 = [] from rfl, show ints [] = [] from rfl])
  rintro ⟨k, hk⟩
  have hln := idxD_len R day k hk
  have hl2 : ((R.take k).filter (onB day)).length ≤ k := Nat.le_trans (List.length_filter_le _ _) (by rw [List.length_take]; omega)
  simp only [q0, q1, q2, q3, q4, q5, q6, q7, q8, q9, zr0, zr1, zr2, zr3, zq0, zq1, zq2, zq3, zq4, Nat.reduceAdd, Nat.reduceSub, lenA, convA, indexA, indexS, Int.reduceToNat, cond_true, cond_false, ↓reduceIte, reduceCtorEq, Nat.reduceLT, Nat.reduceLeDiff, Nat.reduceMul, Nat.reduceEqDiff, exists_eq', implies_true, exists_true_left, tys0, tys1, tys2, tys3, tys4, und0, und1, und2, und3, md40, Tryz.ntmps40, Tryz.results40, intB, List.length_map]
  refine br_intro (fun h => ?_) (fun h => ?_) <;> simp only [q0, q1, q2, q3, q4, q5, q6, q7, q8, q9, zr0, zr1, zr2, zr3, zq0, zq1, zq2, zq3, zq4, Nat.reduceAdd, Nat.reduceSub, lenA, convA, indexA, indexS, Int.reduceToNat, cond_true, cond_false, ↓reduceIte, reduceCtorEq, Nat.reduceLT, Nat.reduceLeDiff, Nat.reduceMul, Nat.reduceEqDiff, exists_eq', implies_true, exists_true_left, tys0, tys1, tys2, tys3, tys4, und0, und1, und2, und3, md40, Tryz.ntmps40, Tryz.results40, intB, List.length_map]
  · have hk' : k < R.length := by simpa using h
    have e1 := idxD_succ R day k hk'
    refine ⟨hk', ?_⟩
    simp only [q0, q1, q2, q3, q4, q5, q6, q7, q8, q9, zr0, zr1, zr2, zr3, zq0, zq1, zq2, zq3, zq4, Nat.reduceAdd, Nat.reduceSub, lenA, convA, indexA, indexS, Int.reduceToNat, cond_true, cond_false, ↓reduceIte, reduceCtorEq, Nat.reduceLT, Nat.reduceLeDiff, Nat.reduceMul, Nat.reduceEqDiff, exists_eq', implies_true, exists_true_left, tys0, tys1, tys2, tys3, tys4, und0, und1, und2, und3, md40, Tryz.ntmps40, Tryz.results40, List.getElem_map, rulA, intB]
    refine call_ret (isActive_call R[k] day) (by rfl) rfl ?_
    simp only [q0, q1, q2, q3, q4, q5, q6, q7, q8, q9, zr0, zr1, zr2, zr3, zq0, zq1, zq2, zq3, zq4, Nat.reduceAdd, Nat.reduceSub, lenA, convA, indexA, indexS, Int.reduceToNat, cond_true, cond_false, ↓reduceIte, reduceCtorEq, Nat.reduceLT, Nat.reduceLeDiff, Nat.reduceMul, Nat.reduceEqDiff, exists_eq', implies_true, exists_true_left, tys0, tys1, tys2, tys3, tys4, und0, und1, und2, und3, md40, Tryz.ntmps40, Tryz.results40, List.getElem_map, rulA, intB, allW_int, fits, List.isEmpty_cons, brk_false, Nat.reduceMul]
    refine br_intro (fun b => ?_) (fun b => ?_) <;> simp only [q0, q1, q2, q3, q4, q5, q6, q7, q8, q9, zr0, zr1, zr2, zr3, zq0, zq1, zq2, zq3, zq4, Nat.reduceAdd, Nat.reduceSub, lenA, convA, indexA, indexS, Int.reduceToNat, cond_true, cond_false, ↓reduceIte, reduceCtorEq, Nat.reduceLT, Nat.reduceLeDiff, Nat.reduceMul, Nat.reduceEqDiff, exists_eq', implies_true, exists_true_left, tys0, tys1, tys2, tys3, tys4, und0, und1, und2, und3, md40, Tryz.ntmps40, Tryz.results40, List.getElem_map, rulA, intB, allW_int, fits, List.isEmpty_cons, brk_false, Nat.reduceMul]
    · rw [b, if_pos rfl] at e1
      have el : (idxD R day k).length + 1 = (idxD R day (k + 1)).length := by rw [e1]; simp
      refine ⟨by omega, ⟨k + 1, by omega⟩, by show R.length - (k + 1) < _; omega, ?_⟩
      dsimp only
      rw [el, ← e1]
      exact weak_drop (by simp) (by simp [DropHp, ints_below, flts_below, w64_succ k (by omega), intB, allBelow_cons, allBelow_nil, below, belowM, belowL]) (by simp [DropTm, DropV, below, belowM, belowL, w64_succ k (by omega), intB, allBelow_cons, allBelow_nil, below, belowM, belowL])
    · rw [b, if_neg (by decide), List.append_nil] at e1
      refine ⟨⟨k + 1, by omega⟩, by show R.length - (k + 1) < _; omega, ?_⟩
      exact weak_drop (by simp) (by simp [DropHp, ints_below, flts_below, w64_succ k (by omega), intB, allBelow_cons, allBelow_nil, below, belowM, belowL, e1]) (by simp [DropTm, DropV, below, belowM, belowL, w64_succ k (by omega), intB, allBelow_cons, allBelow_nil, below, belowM, belowL, e1])
  · have hk' : k = R.length := by simp at h; omega
    subst hk'
    exact PostR.ret
theorem active_call (R : List Rul) (hR : Rls R) (rb : rulesB R = true) (day : Int) (hd : inR 0 100000 day = true) : CallA Tryz.prog 40 [.ro (R.map rulA), .int .i64 day] [] (Ret (.tup [.ro (ints (idxD R day R.length)), .bool true]) []) :=
  (active0_call R hR rb day hd).frozen 3 (by
    show AV.tup [view 2 _ _, view 2 _ _] = _
    rw [view_intB]
    rfl)
theorem oppose1_call (b : Rul) (hb : b.2.1.length ≤ 1048576) (w : Int) : CallA Tryz.prog 67 [.int .i64 w, .rop [.int .i64 b.1, .ro (ints b.2.1), .int .i64 b.2.2.1, .int .i64 b.2.2.2.1, .int .i64 b.2.2.2.2]] [] (Ret (.bool (decide (IntKind.i64.wrap (0 - w) ∈ b.2.1))) []) := by
  refine CallP.out (t := .mk) (go_in (md := md67) mixed Tryz.func67 rfl go67 (by kernel_rfl) ?_)
  simp only [q0, q1, q2, q3, q4, q5, q6, q7, q8, q9, zr0, zr1, zr2, zr3, zq0, zq1, zq2, zq3, zq4, Nat.reduceAdd, Nat.reduceSub, lenA, convA, indexA, indexS, Int.reduceToNat, cond_true, cond_false, ↓reduceIte, reduceCtorEq, Nat.reduceLT, Nat.reduceLeDiff, Nat.reduceMul, Nat.reduceEqDiff, exists_eq', implies_true, exists_true_left, tys0, tys1, tys2, tys3, tys4, und0, und1, und2, und3, md67, Tryz.ntmps67, Tryz.results67]
  refine call_ret (contains_call b.2.1 _ hb) rfl rfl ?_
  simp only [q0, q1, q2, q3, q4, q5, q6, q7, q8, q9, zr0, zr1, zr2, zr3, zq0, zq1, zq2, zq3, zq4, Nat.reduceAdd, Nat.reduceSub, lenA, convA, indexA, indexS, Int.reduceToNat, cond_true, cond_false, ↓reduceIte, reduceCtorEq, Nat.reduceLT, Nat.reduceLeDiff, Nat.reduceMul, Nat.reduceEqDiff, exists_eq', implies_true, exists_true_left, tys0, tys1, tys2, tys3, tys4, und0, und1, und2, und3, md67, Tryz.ntmps67, Tryz.results67]
  exact PostR.ret
def oppB (a b : Rul) : Bool := a.2.1.any fun w => decide (-w ∈ b.2.1)
theorem any_congrM {α : Type} {p q : α → Bool} : ∀ l : List α, (∀ x ∈ l, p x = q x) → l.any p = l.any q
  | [], _ => rfl
  | x :: l, h => by rw [List.any_cons, List.any_cons, h x (by simp), any_congrM l fun y hy => h y (by simp [hy])]
theorem oppose_call (a b : Rul) (ha : Wds a.2.1) (hal : a.2.1.length ≤ 1048576) (hb : b.2.1.length ≤ 1048576) : CallA Tryz.prog 41 [rulA a, rulA b] [] (Ret (.bool (oppB a b)) []) := by
  have e : oppB a b = a.2.1.any fun w => decide (IntKind.i64.wrap (0 - w) ∈ b.2.1) := by
    apply any_congrM
    intro w hw
    have := wordB_low (ha.2 w hw)
    rw [w64 (by omega) (by omega), Int.zero_sub]
  refine CallP.out (t := .mk) (go_in (md := md41) mixed Tryz.func41 rfl go41 (by kernel_rfl) ?_)
  simp only [q0, q1, q2, q3, q4, q5, q6, q7, q8, q9, zr0, zr1, zr2, zr3, zq0, zq1, zq2, zq3, zq4, Nat.reduceAdd, Nat.reduceSub, lenA, convA, indexA, indexS, Int.reduceToNat, cond_true, cond_false, ↓reduceIte, reduceCtorEq, Nat.reduceLT, Nat.reduceLeDiff, Nat.reduceMul, Nat.reduceEqDiff, exists_eq', implies_true, exists_true_left, tys0, tys1, tys2, tys3, tys4, und0, und1, und2, und3, md41, Tryz.ntmps41, Tryz.results41, rulA]
  refine call_lent 3 ?_ (containsFuncI_call 67 [.rop [.int .i64 b.1, .ro (ints b.2.1), .int .i64 b.2.2.1, .int .i64 b.2.2.2.1, .int .i64 b.2.2.2.2]] (fun w => decide (IntKind.i64.wrap (0 - w) ∈ b.2.1)) rfl rfl (oppose1_call b hb) a.2.1 (by omega)) rfl rfl ?_
  · simp [view_ptr, view_fn, view_ro, view_int, AV.cells]
  simp only [q0, q1, q2, q3, q4, q5, q6, q7, q8, q9, zr0, zr1, zr2, zr3, zq0, zq1, zq2, zq3, zq4, Nat.reduceAdd, Nat.reduceSub, lenA, convA, indexA, indexS, Int.reduceToNat, cond_true, cond_false, ↓reduceIte, reduceCtorEq, Nat.reduceLT, Nat.reduceLeDiff, Nat.reduceMul, Nat.reduceEqDiff, exists_eq', implies_true, exists_true_left, tys0, tys1, tys2, tys3, tys4, und0, und1, und2, und3, md41, Tryz.ntmps41, Tryz.results41, rulA]
  rw [← e]
  exact PostR.pure ⟨rfl, rfl⟩ (by rfl)
end Go.Proofs.YthcfklkpabfkbaaGreat
