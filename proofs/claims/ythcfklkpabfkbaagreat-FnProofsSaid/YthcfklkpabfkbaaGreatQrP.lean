/- Proofs that are asked after. -/
import Derived.Test.YthcfklkpabfkbaaGreatQrO
set_option maxRecDepth 10000
set_option maxHeartbeats 8000000
set_option linter.unusedSimpArgs false
set_option linter.unusedVariables false
namespace Go.Proofs.YthcfklkpabfkbaaGreat
open Go Go.Abs

section
variable {R : List Rul} {idx fs : List Int} {p q : List AV}
theorem isProof1_call (hf : fs.length ≤ 1048576) (kn : List (Int × Bool)) (w : Int) : CallA Tryz.prog 39 [.int .i64 w, .rop [crtA R idx fs p q], .rop [.rom (kn.map entA)]] [] (Ret (.bool (!(decide (w ∈ fs) || yP (kn.map entA) w))) []) := by
  have f1 := isFact_call (R := R) (idx := idx) (p := p) (q := q) hf w
  refine CallP.out (t := .mk) (go_in (md := md39) mixed Tryz.func39 rfl go39 (by kernel_rfl) ?_)
  simp only [q0, q1, q2, q3, q4, q5, q6, q7, q8, q9, zr0, zr1, zr2, zr3, zq0, zq1, zq2, zq3, zq4, Nat.reduceAdd, Nat.reduceSub, lenA, convA, indexA, indexS, Int.reduceToNat, cond_true, cond_false, ↓reduceIte, reduceCtorEq, Nat.reduceLT, Nat.reduceLeDiff, Nat.reduceMul, Nat.reduceEqDiff, exists_eq', implies_true, exists_true_left, tys0, tys1, tys2, tys3, tys4, und0, und1, und2, und3, md39, Tryz.ntmps39, Tryz.results39, crtA]
  refine call_ret f1 rfl rfl ?_
  simp only [q0, q1, q2, q3, q4, q5, q6, q7, q8, q9, zr0, zr1, zr2, zr3, zq0, zq1, zq2, zq3, zq4, Nat.reduceAdd, Nat.reduceSub, lenA, convA, indexA, indexS, Int.reduceToNat, cond_true, cond_false, ↓reduceIte, reduceCtorEq, Nat.reduceLT, Nat.reduceLeDiff, Nat.reduceMul, Nat.reduceEqDiff, exists_eq', implies_true, exists_true_left, tys0, tys1, tys2, tys3, tys4, und0, und1, und2, und3, md39, Tryz.ntmps39, Tryz.results39, crtA]
  refine br_intro (fun b => ?_) (fun b => ?_) <;> simp only [q0, q1, q2, q3, q4, q5, q6, q7, q8, q9, zr0, zr1, zr2, zr3, zq0, zq1, zq2, zq3, zq4, Nat.reduceAdd, Nat.reduceSub, lenA, convA, indexA, indexS, Int.reduceToNat, cond_true, cond_false, ↓reduceIte, reduceCtorEq, Nat.reduceLT, Nat.reduceLeDiff, Nat.reduceMul, Nat.reduceEqDiff, exists_eq', implies_true, exists_true_left, tys0, tys1, tys2, tys3, tys4, und0, und1, und2, und3, md39, Tryz.ntmps39, Tryz.results39, crtA]
  · rw [b]; exact PostR.pure ⟨rfl, rfl⟩ (by rfl)
  · rw [b]
    exact PostR.pure ⟨rfl, rfl⟩ (by rfl)
end
def okS (R : List Rul) (day : Int) (Y F K : Int → Bool) (i : Int) : Bool := onB day (rkR R i.toNat) && Y (rkR R i.toNat).1 && (rkR R i.toNat).2.1.all fun w => F w || K w
def okL (R : List Rul) (day : Int) (Y F : Int → Bool) : List Int → (Int → Bool) → Bool
  | [], _ => true
  | i :: P, K => okS R day Y F K i && okL R day Y F P (upY K (rkR R i.toNat).1)
def isPrf (R : List Rul) (day : Int) (Y F : Int → Bool) (P : List Int) (x : Int) : Bool :=
  if P.length = 0 then F x else okL R day Y F P (fun _ => false) && (rkR R (P.getD (P.length - 1) 0).toNat).1 == x
theorem drop_at {α : Type} (l : List α) (j : Nat) (h : j < l.length) : l.drop j = l[j] :: l.drop (j + 1) := List.drop_eq_getElem_cons h

theorem implIsProof_call {R : List Rul} {fs : List Int} {day : Int} (A : Ask R fs day) (P : List Int) (hP : ∀ i ∈ P, inR 0 ((R.length : Int) - 1) i = true) (hl : P.length ≤ 1048576) (x : Int) (hx : wordB x = true) :
    CallA Tryz.prog 13 [.ro (R.map rulA), .ro (ints fs), .int .i64 day, .ro (ints P), .int .i64 x] [] (fun r hp => ∃ Y N, Least (R.filter (onB day)) fs Y N ∧ r = .tup [.bool (isPrf R day Y (fB fs) P x), .bool true] ∧ hp = []) := by
  have hRl := A.hR.len
  have wx := isWord_call x
  rw [hx] at wx
  have aw := areWithin_call P 0 ((R.length : Int) - 1) (by omega)
  rw [List.all_eq_true.2 hP] at aw
  have we : IntKind.i64.wrap ((R.length : Int) - 1) = (R.length : Int) - 1 := w64 (by omega) (by omega)
  refine CallP.out (t := .mk) (go_in (md := md13) mixed Tryz.func13 rfl go13 (by kernel_rfl) ?_)
  simp only [q0, q1, q2, q3, q4, q5, q6, q7, q8, q9, zr0, zr1, zr2, zr3, zq0, zq1, zq2, zq3, zq4, Nat.reduceAdd, Nat.reduceSub, lenA, convA, indexA, indexS, Int.reduceToNat, cond_true, cond_false, ↓reduceIte, reduceCtorEq, Nat.reduceLT, Nat.reduceLeDiff, Nat.reduceMul, Nat.reduceEqDiff, exists_eq', implies_true, exists_true_left, tys0, tys1, tys2, tys3, tys4, und0, und1, und2, und3, md13, Tryz.ntmps13, Tryz.results13]
  refine call_ret (areFacts_call A) rfl rfl ?_
  simp only [q0, q1, q2, q3, q4, q5, q6, q7, q8, q9, zr0, zr1, zr2, zr3, zq0, zq1, zq2, zq3, zq4, Nat.reduceAdd, Nat.reduceSub, lenA, convA, indexA, indexS, Int.reduceToNat, cond_true, cond_false, ↓reduceIte, reduceCtorEq, Nat.reduceLT, Nat.reduceLeDiff, Nat.reduceMul, Nat.reduceEqDiff, exists_eq', implies_true, exists_true_left, tys0, tys1, tys2, tys3, tys4, und0, und1, und2, und3, md13, Tryz.ntmps13, Tryz.results13]
  refine call_ret wx rfl rfl ?_
  simp only [q0, q1, q2, q3, q4, q5, q6, q7, q8, q9, zr0, zr1, zr2, zr3, zq0, zq1, zq2, zq3, zq4, Nat.reduceAdd, Nat.reduceSub, lenA, convA, indexA, indexS, Int.reduceToNat, cond_true, cond_false, ↓reduceIte, reduceCtorEq, Nat.reduceLT, Nat.reduceLeDiff, Nat.reduceMul, Nat.reduceEqDiff, exists_eq', implies_true, exists_true_left, tys0, tys1, tys2, tys3, tys4, und0, und1, und2, und3, md13, Tryz.ntmps13, Tryz.results13, we, List.length_map]
  refine call_ret aw rfl rfl ?_
  simp only [q0, q1, q2, q3, q4, q5, q6, q7, q8, q9, zr0, zr1, zr2, zr3, zq0, zq1, zq2, zq3, zq4, Nat.reduceAdd, Nat.reduceSub, lenA, convA, indexA, indexS, Int.reduceToNat, cond_true, cond_false, ↓reduceIte, reduceCtorEq, Nat.reduceLT, Nat.reduceLeDiff, Nat.reduceMul, Nat.reduceEqDiff, exists_eq', implies_true, exists_true_left, tys0, tys1, tys2, tys3, tys4, und0, und1, und2, und3, md13, Tryz.ntmps13, Tryz.results13]
  refine call_newQ (judged_call R A.hR fs A.hf day) rfl ?_
  rintro r new ⟨p, q, L, rfl, rfl⟩
  refine ⟨by simp, ?_⟩
  have f1 := fun w => isFact_call (R := R.filter (onB day)) (idx := idxD R day R.length) (fs := fs) (p := p.map entA) (q := q.map entA) (fcs_short A.hf) w
  have i1 := isProof1_call (R := R.filter (onB day)) (idx := idxD R day R.length) (fs := fs) (p := p.map entA) (q := q.map entA) (fcs_short A.hf)
  generalize R.filter (onB day) = RA at *
  generalize idxD R day R.length = I at *
  simp only [q0, q1, q2, q3, q4, q5, q6, q7, q8, q9, zr0, zr1, zr2, zr3, zq0, zq1, zq2, zq3, zq4, Nat.reduceAdd, Nat.reduceSub, lenA, convA, indexA, indexS, Int.reduceToNat, cond_true, cond_false, ↓reduceIte, reduceCtorEq, Nat.reduceLT, Nat.reduceLeDiff, Nat.reduceMul, Nat.reduceEqDiff, exists_eq', implies_true, exists_true_left, tys0, tys1, tys2, tys3, tys4, und0, und1, und2, und3, md13, Tryz.ntmps13, Tryz.results13, crtA, ren, renM, renL, ints_len]
  refine br_intro (fun b1 => ?_) (fun b1 => ?_) <;> simp only [q0, q1, q2, q3, q4, q5, q6, q7, q8, q9, zr0, zr1, zr2, zr3, zq0, zq1, zq2, zq3, zq4, Nat.reduceAdd, Nat.reduceSub, lenA, convA, indexA, indexS, Int.reduceToNat, cond_true, cond_false, ↓reduceIte, reduceCtorEq, Nat.reduceLT, Nat.reduceLeDiff, Nat.reduceMul, Nat.reduceEqDiff, exists_eq', implies_true, exists_true_left, tys0, tys1, tys2, tys3, tys4, und0, und1, und2, und3, md13, Tryz.ntmps13, Tryz.results13, crtA, ints_len]
  · have h0 : P.length = 0 := by have := eq_of_beq b1; omega
    refine call_ret (f1 x) rfl rfl ?_
    simp only [q0, q1, q2, q3, q4, q5, q6, q7, q8, q9, zr0, zr1, zr2, zr3, zq0, zq1, zq2, zq3, zq4, Nat.reduceAdd, Nat.reduceSub, lenA, convA, indexA, indexS, Int.reduceToNat, cond_true, cond_false, ↓reduceIte, reduceCtorEq, Nat.reduceLT, Nat.reduceLeDiff, Nat.reduceMul, Nat.reduceEqDiff, exists_eq', implies_true, exists_true_left, tys0, tys1, tys2, tys3, tys4, und0, und1, und2, und3, md13, Tryz.ntmps13, Tryz.results13, crtA]
    exact PostR.pure ⟨_, _, L, by unfold isPrf fB; rw [if_pos h0], rfl⟩ (by rfl)
  have h0 : P.length ≠ 0 := fun e => by rw [e] at b1; simp at b1
  have okP : ∀ j, (h : j < P.length) → 0 ≤ P[j] ∧ P[j].toNat < R.length ∧ P[j] < (R.length : Int) := fun j h => by
    have h1 := hP _ (List.getElem_mem h)
    simp only [inR, Bool.and_eq_true, decide_eq_true_eq] at h1
    omega
  refine go_round (md := md13) mixed (by kernel_rfl) (fun s : {s : Nat × List (Int × Bool) // s.1 ≤ P.length ∧ okL R day (yP (p.map entA)) (fB fs) P (fun _ => false) = okL R day (yP (p.map entA)) (fB fs) (P.drop s.1) (yP (s.2.map entA))} => ⟨[.ro (R.map rulA), .any, .int .i64 day, .ro (ints P), .int .i64 x, .any, .any, .any, .any, .any, .any, .any, .ptr 1 0 0, .ptr 2 0 0, .any, .any, .any, .any, .any, .any, .any, .any, .any, .any, .any, .any, .any, .any, .any, .any, .any, .any, .any, .any, .any, .any, .any, .any, .any, .any, .any, .any, .any, .any, .any, .any, .ro (ints P), .int .i64 P.length, .int .i64 s.1.1, .any, .any, .any, .any, .any, .any, .any, .any, .any, .any, .any, .any, .any, .any, .any, .any, .any, .any, .any, .any, .any, .any, .any, .any, .any, .any, .any, .any, .any, .any, .any, .any, .any, .any, .any, .any, .any, .any, .any, .any, .any, .any, .any], [mpB s.1.2, ceB 55 (.rop [.ro (RA.map rulA), .ro (ints I), .ro (ints fs), .rom (p.map entA), .rom (q.map entA)]), ceB 57 (.mp 0)]⟩) (fun s => P.length - s.1.1) ⟨(0, []), Nat.zero_le _, rfl⟩ ?_ ?_
  · exact weak_drop (by simp) (by simp [DropHp, ints_below, flts_below, mpB, ceB, ent_below, allBelow_cons, allBelow_nil, below, belowM, belowL]) (by simp [DropTm, DropV, below, belowM, belowL, mpB, ceB, ent_below, allBelow_cons, allBelow_nil, below, belowM, belowL])
  rintro ⟨⟨j, kn⟩, hj, he⟩
  dsimp only at hj he ⊢
  simp only [q0, q1, q2, q3, q4, q5, q6, q7, q8, q9, zr0, zr1, zr2, zr3, zq0, zq1, zq2, zq3, zq4, Nat.reduceAdd, Nat.reduceSub, lenA, convA, indexA, indexS, Int.reduceToNat, cond_true, cond_false, ↓reduceIte, reduceCtorEq, Nat.reduceLT, Nat.reduceLeDiff, Nat.reduceMul, Nat.reduceEqDiff, exists_eq', implies_true, exists_true_left, tys0, tys1, tys2, tys3, tys4, und0, und1, und2, und3, md13, Tryz.ntmps13, Tryz.results13, mpB, ceB, ints_len, ent_kill]
  refine br_intro (fun h => ?_) (fun h => ?_) <;> simp only [q0, q1, q2, q3, q4, q5, q6, q7, q8, q9, zr0, zr1, zr2, zr3, zq0, zq1, zq2, zq3, zq4, Nat.reduceAdd, Nat.reduceSub, lenA, convA, indexA, indexS, Int.reduceToNat, cond_true, cond_false, ↓reduceIte, reduceCtorEq, Nat.reduceLT, Nat.reduceLeDiff, Nat.reduceMul, Nat.reduceEqDiff, exists_eq', implies_true, exists_true_left, tys0, tys1, tys2, tys3, tys4, und0, und1, und2, und3, md13, Tryz.ntmps13, Tryz.results13, mpB, ceB, ints_len, ent_kill]
  · have hj' : j < P.length := by simpa using h
    obtain ⟨k1, k2, k3⟩ := okP j hj'
    have hru := rkR_at R _ k2
    refine ⟨hj', k1, by rw [List.length_map]; exact k2, ?_⟩
    simp only [q0, q1, q2, q3, q4, q5, q6, q7, q8, q9, zr0, zr1, zr2, zr3, zq0, zq1, zq2, zq3, zq4, Nat.reduceAdd, Nat.reduceSub, lenA, convA, indexA, indexS, Int.reduceToNat, cond_true, cond_false, ↓reduceIte, reduceCtorEq, Nat.reduceLT, Nat.reduceLeDiff, Nat.reduceMul, Nat.reduceEqDiff, exists_eq', implies_true, exists_true_left, tys0, tys1, tys2, tys3, tys4, und0, und1, und2, und3, md13, Tryz.ntmps13, Tryz.results13, List.getElem_map, rulA]
    have c1 := isActive_call R[P[j].toNat] day
    have hr := A.hR.ok _ (List.getElem_mem k2)
    have h6 := hr.2.1.1
    have cf := containsFuncI_call 39 [.rop [crtA RA I fs (p.map entA) (q.map entA)], .rop [.rom (kn.map entA)]] (fun w => !(decide (w ∈ fs) || yP (kn.map entA) w)) rfl rfl (i1 kn) R[P[j].toNat].2.1 (by omega)
    have eall : (R[P[j].toNat].2.1.all fun w => fB fs w || yP (kn.map entA) w) = !(R[P[j].toNat].2.1.any fun w => !(decide (w ∈ fs) || yP (kn.map entA) w)) := by
      rw [any_notall]; rfl
    have eq0 : okL R day (yP (p.map entA)) (fB fs) (P.drop j) (yP (kn.map entA)) = (okS R day (yP (p.map entA)) (fB fs) (yP (kn.map entA)) P[j] && okL R day (yP (p.map entA)) (fB fs) (P.drop (j + 1)) (upY (yP (kn.map entA)) R[P[j].toNat].1)) := by
      rw [drop_at P j hj', ← hru]
      rfl
    have es : okS R day (yP (p.map entA)) (fB fs) (yP (kn.map entA)) P[j] = (onB day R[P[j].toNat] && yP (p.map entA) R[P[j].toNat].1 && !(R[P[j].toNat].2.1.any fun w => !(decide (w ∈ fs) || yP (kn.map entA) w))) := by
      unfold okS
      rw [hru, eall]
    have bad : okS R day (yP (p.map entA)) (fB fs) (yP (kn.map entA)) P[j] = false → isPrf R day (yP (p.map entA)) (fB fs) P x = false := fun e => by
      unfold isPrf
      rw [if_neg h0, he, eq0, e]
      rfl
    refine callr_ret c1 (by rfl) rfl ?_
    simp only [q0, q1, q2, q3, q4, q5, q6, q7, q8, q9, zr0, zr1, zr2, zr3, zq0, zq1, zq2, zq3, zq4, Nat.reduceAdd, Nat.reduceSub, lenA, convA, indexA, indexS, Int.reduceToNat, cond_true, cond_false, ↓reduceIte, reduceCtorEq, Nat.reduceLT, Nat.reduceLeDiff, Nat.reduceMul, Nat.reduceEqDiff, exists_eq', implies_true, exists_true_left, tys0, tys1, tys2, tys3, tys4, und0, und1, und2, und3, md13, Tryz.ntmps13, Tryz.results13, mpB, ceB, ints_len, ent_kill, List.getElem_map, rulA]
    refine br_intro (fun b2 => ?_) (fun b2 => ?_) <;> simp only [q0, q1, q2, q3, q4, q5, q6, q7, q8, q9, zr0, zr1, zr2, zr3, zq0, zq1, zq2, zq3, zq4, Nat.reduceAdd, Nat.reduceSub, lenA, convA, indexA, indexS, Int.reduceToNat, cond_true, cond_false, ↓reduceIte, reduceCtorEq, Nat.reduceLT, Nat.reduceLeDiff, Nat.reduceMul, Nat.reduceEqDiff, exists_eq', implies_true, exists_true_left, tys0, tys1, tys2, tys3, tys4, und0, und1, und2, und3, md13, Tryz.ntmps13, Tryz.results13, mpB, ceB, ints_len, ent_kill, List.getElem_map, rulA]
    rotate_left
    · exact PostR.pure ⟨_, _, L, by rw [bad (by rw [es, b2]; rfl)], rfl⟩ (by rfl)
    refine br_intro (fun b3 => ?_) (fun b3 => ?_) <;> simp only [q0, q1, q2, q3, q4, q5, q6, q7, q8, q9, zr0, zr1, zr2, zr3, zq0, zq1, zq2, zq3, zq4, Nat.reduceAdd, Nat.reduceSub, lenA, convA, indexA, indexS, Int.reduceToNat, cond_true, cond_false, ↓reduceIte, reduceCtorEq, Nat.reduceLT, Nat.reduceLeDiff, Nat.reduceMul, Nat.reduceEqDiff, exists_eq', implies_true, exists_true_left, tys0, tys1, tys2, tys3, tys4, und0, und1, und2, und3, md13, Tryz.ntmps13, Tryz.results13, mpB, ceB, ints_len, ent_kill, List.getElem_map, rulA]
    rotate_left
    · exact PostR.pure ⟨_, _, L, by rw [bad (by rw [es, b2, show yP (p.map entA) R[P[j].toNat].1 = false from b3]; rfl)], rfl⟩ (by rfl)
    refine callr_lent 4 (by simp [view_ptr, view_fn, view_ro, view_int, AV.cells, crtA, rop_view]; rfl) cf rfl rfl ?_
    simp only [q0, q1, q2, q3, q4, q5, q6, q7, q8, q9, zr0, zr1, zr2, zr3, zq0, zq1, zq2, zq3, zq4, Nat.reduceAdd, Nat.reduceSub, lenA, convA, indexA, indexS, Int.reduceToNat, cond_true, cond_false, ↓reduceIte, reduceCtorEq, Nat.reduceLT, Nat.reduceLeDiff, Nat.reduceMul, Nat.reduceEqDiff, exists_eq', implies_true, exists_true_left, tys0, tys1, tys2, tys3, tys4, und0, und1, und2, und3, md13, Tryz.ntmps13, Tryz.results13, mpB, ceB, ints_len, ent_kill, List.getElem_map, rulA]
    refine br_intro (fun b4 => ?_) (fun b4 => ?_) <;> simp only [q0, q1, q2, q3, q4, q5, q6, q7, q8, q9, zr0, zr1, zr2, zr3, zq0, zq1, zq2, zq3, zq4, Nat.reduceAdd, Nat.reduceSub, lenA, convA, indexA, indexS, Int.reduceToNat, cond_true, cond_false, ↓reduceIte, reduceCtorEq, Nat.reduceLT, Nat.reduceLeDiff, Nat.reduceMul, Nat.reduceEqDiff, exists_eq', implies_true, exists_true_left, tys0, tys1, tys2, tys3, tys4, und0, und1, und2, und3, md13, Tryz.ntmps13, Tryz.results13, mpB, ceB, ints_len, ent_kill, List.getElem_map, rulA, updE_ents]
    · exact PostR.pure ⟨_, _, L, by rw [bad (by rw [es, b2, show yP (p.map entA) R[P[j].toNat].1 = true from b3, b4]; rfl)], rfl⟩ (by rfl)
    have eu := yP_upd R[P[j].toNat].1 kn
    rw [es, b2, show yP (p.map entA) R[P[j].toNat].1 = true from b3, b4] at eq0
    refine ⟨⟨(j + 1, updP R[P[j].toNat].1 true kn), by show j + 1 ≤ _; omega, by rw [he, eq0, eu]; rfl⟩, by show P.length - (j + 1) < _; omega, ?_⟩
    exact weak_drop (by simp) (by simp [DropHp, ints_below, flts_below, w64_succ j (by omega), mpB, ceB, ent_below, allBelow_cons, allBelow_nil, below, belowM, belowL]) (by simp [DropTm, DropV, below, belowM, belowL, w64_succ j (by omega), mpB, ceB, ent_below, allBelow_cons, allBelow_nil, below, belowM, belowL])
  · have hj' : j = P.length := by simp at h; omega
    obtain ⟨k1, k2, k3⟩ := okP (P.length - 1) (by omega)
    have hru := rkR_at R _ k2
    have wl : IntKind.i64.wrap ((P.length : Int) - 1) = ((P.length - 1 : Nat) : Int) := by rw [w64 (by omega) (by omega)]; omega
    have gl : P.getD (P.length - 1) 0 = P[P.length - 1] := getD_at P 0 _ (by omega)
    simp only [wl, Int.toNat_natCast]
    refine ⟨by omega, by omega, k1, by rw [List.length_map]; exact k2, ?_⟩
    simp only [q0, q1, q2, q3, q4, q5, q6, q7, q8, q9, zr0, zr1, zr2, zr3, zq0, zq1, zq2, zq3, zq4, Nat.reduceAdd, Nat.reduceSub, lenA, convA, indexA, indexS, Int.reduceToNat, cond_true, cond_false, ↓reduceIte, reduceCtorEq, Nat.reduceLT, Nat.reduceLeDiff, Nat.reduceMul, Nat.reduceEqDiff, exists_eq', implies_true, exists_true_left, tys0, tys1, tys2, tys3, tys4, und0, und1, und2, und3, md13, Tryz.ntmps13, Tryz.results13, List.getElem_map, rulA]
    subst hj'
    rw [List.drop_length] at he
    refine PostR.pure ⟨_, _, L, ?_, rfl⟩ (by rfl)
    unfold isPrf
    rw [if_neg h0, he, gl, hru]
    rfl
end Go.Proofs.YthcfklkpabfkbaaGreat
