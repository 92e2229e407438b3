/- Texts of rules that are read: the reference's reading of many. -/
import Derived.Test.YtigipcckflcilaaGreatDoorRsC
import Derived.Test.YtigipcckflcilaaGreatDoorRrD
set_option maxRecDepth 10000
set_option maxHeartbeats 4000000
set_option linter.unusedSimpArgs false
set_option linter.unusedVariables false
namespace Go.Proofs.YtigipcckflcilaaGreatDoor
open Go Go.Abs

theorem first_line : ∀ {a b x y : List UInt8}, (10 : UInt8) ∉ a → (10 : UInt8) ∉ b → a ++ 10 :: x = b ++ 10 :: y → a = b ∧ x = y
  | [], [], x, y, _, _, h => ⟨rfl, by simpa using h⟩
  | [], c :: b, x, y, _, hb, h => by
    rw [List.nil_append, List.cons_append] at h
    injection h with h1 h2
    exact absurd (h1 ▸ List.mem_cons_self) hb
  | c :: a, [], x, y, ha, _, h => by
    rw [List.nil_append, List.cons_append] at h
    injection h with h1 h2
    exact absurd (h1 ▸ List.mem_cons_self) ha
  | c :: a, d :: b, x, y, ha, hb, h => by
    rw [List.cons_append, List.cons_append] at h
    injection h with h1 h2
    obtain ⟨h3, h4⟩ := first_line (fun m => ha (List.mem_cons_of_mem _ m)) (fun m => hb (List.mem_cons_of_mem _ m)) h2
    exact ⟨by rw [h1, h3], h4⟩
theorem rulesT_cons (r : Rul) (R : List Rul) : rulesT (r :: R) = ruleT r ++ 10 :: rulesT R := by
  show ruleT r ++ [10] ++ rulesT R = _
  rw [List.append_assoc]; rfl
theorem lines_prefix : ∀ {R R2 : List Rul} {t : List UInt8}, (∀ r ∈ R, ruleB r = true) → (∀ r ∈ R2, ruleB r = true) → rulesT R ++ t = rulesT R2 → ∃ R3, R2 = R ++ R3 ∧ rulesT R3 = t
  | [], R2, t, _, _, h => ⟨R2, rfl, h.symm⟩
  | r :: R, [], t, _, _, h => by
    rw [rulesT_cons] at h
    have := congrArg List.length h
    simp [rulesT] at this
  | r :: R, q :: R2, t, h1, h2, h => by
    rw [rulesT_cons, rulesT_cons, List.append_assoc, List.cons_append] at h
    obtain ⟨h3, h4⟩ := first_line (ruleT_no10 r) (ruleT_no10 q) h
    have e := ruleT_inj (h1 r List.mem_cons_self) (h2 q List.mem_cons_self) h3
    obtain ⟨R3, h5, h6⟩ := lines_prefix (fun x hx => h1 x (List.mem_cons_of_mem _ hx)) (fun x hx => h2 x (List.mem_cons_of_mem _ hx)) h4
    exact ⟨R3, by rw [e, h5]; rfl, h6⟩
structure Read (s : List UInt8) (i a : Nat) (R : List Rul) : Prop where
  ia : a ≤ i
  il : i ≤ s.length
  no : (10 : UInt8) ∉ (s.take i).drop a
  tx : rulesT R = s.take a
  ok : ∀ r ∈ R, ruleB r = true
  le : R.length ≤ 24
theorem Read.rest {s : List UInt8} {i a : Nat} {R R2 : List Rul} (h : Read s i a R) (g : rulesOf s = some R2) : ∃ R3, R2 = R ++ R3 ∧ rulesT R3 = s.drop a := by
  obtain ⟨h1, h2⟩ := rulesOf_iff.1 g
  exact lines_prefix h.ok (rulesB_all h1) (by rw [h.tx, List.take_append_drop, h2])
theorem cut_line {s : List UInt8} {i a : Nat} (ha : a ≤ i) (hi : i < s.length) (hc : s[i] = 10) : s.drop a = (s.take i).drop a ++ 10 :: s.drop (i + 1) := by
  have h1 : s = s.take i ++ 10 :: s.drop (i + 1) := by
    rw [← hc, List.getElem_cons_drop, List.take_append_drop]
  conv => lhs; rw [h1]
  rw [List.drop_append_of_le_length (by rw [List.length_take]; omega)]
theorem Read.line {s : List UInt8} {i a : Nat} {R R2 : List Rul} (h : Read s i a R) (hi : i < s.length) (hc : s[i] = 10) (g : rulesOf s = some R2) : (∃ r, ruleOf ((s.take i).drop a) = some r) ∧ R.length < 24 := by
  obtain ⟨R3, h1, h2⟩ := h.rest g
  obtain ⟨h3, h4⟩ := rulesOf_iff.1 g
  have l2 := rulesB_le h3
  rw [cut_line h.ia hi hc] at h2
  cases R3 with
  | nil =>
    have := congrArg List.length h2
    simp [rulesT] at this
  | cons r R3 =>
    rw [rulesT_cons] at h2
    obtain ⟨h5, _⟩ := first_line (ruleT_no10 r) h.no h2
    have hr : ruleB r = true := rulesB_all h3 r (by rw [h1]; simp)
    refine ⟨⟨r, by rw [← h5]; exact ruleOf_ruleT hr⟩, ?_⟩
    rw [h1] at l2
    simp at l2
    omega
theorem Read.next {s : List UInt8} {i a : Nat} {R : List Rul} {r : Rul} (h : Read s i a R) (hi : i < s.length) (hc : s[i] = 10) (hr : ruleOf ((s.take i).drop a) = some r) (hl : R.length < 24) : Read s (i + 1) (i + 1) (R ++ [r]) := by
  obtain ⟨h1, h2⟩ := ruleOf_some hr
  refine ⟨Nat.le_refl _, hi, ?_, ?_, ?_, ?_⟩
  · rw [List.drop_of_length_le (by rw [List.length_take]; omega)]; simp
  · rw [rulesT_snoc, h.tx, h2, take_snoc _ _ hi, hc, ← List.append_assoc]
    congr 1
    conv => rhs; rw [← List.take_append_drop a (s.take i), List.take_take, Nat.min_eq_left h.ia]
  · intro x hx
    rcases List.mem_append.1 hx with m | m
    · exact h.ok x m
    · rw [List.mem_singleton.1 m]; exact h1
  · rw [List.length_append]; simp; omega
theorem Read.skip {s : List UInt8} {i a : Nat} {R : List Rul} (h : Read s i a R) (hi : i < s.length) (hc : s[i] ≠ 10) : Read s (i + 1) a R := by
  refine ⟨by have := h.ia; omega, hi, ?_, h.tx, h.ok, h.le⟩
  rw [take_snoc _ _ hi, List.drop_append_of_le_length (by rw [List.length_take]; have := h.ia; omega)]
  intro m
  rcases List.mem_append.1 m with m | m
  · exact h.no m
  · exact hc (List.mem_singleton.1 m).symm
theorem Read.none {s : List UInt8} {a : Nat} {R : List Rul} (h : Read s s.length a R) (ha : a ≠ s.length) : rulesOf s = none := by
  cases hr : rulesOf s with
  | none => rfl
  | some R2 =>
    obtain ⟨R3, h1, h2⟩ := h.rest hr
    have no := h.no
    rw [List.take_length, ← h2] at no
    cases R3 with
    | nil =>
      have := congrArg List.length h2
      rw [List.length_drop] at this
      have := h.ia
      simp [rulesT] at *
      omega
    | cons r R3 =>
      rw [rulesT_cons] at no
      exact absurd (List.mem_append_right _ List.mem_cons_self) no
theorem Read.some {s : List UInt8} {R : List Rul} (h : Read s s.length s.length R) : rulesOf s = .some R := by
  refine rulesOf_iff.2 ⟨?_, by rw [h.tx, List.take_length]⟩
  unfold rulesB
  simp only [Bool.and_eq_true, List.all_eq_true, decide_eq_true_eq]
  exact ⟨h.ok, h.le⟩
theorem specReadRules_call (s : List UInt8) (hs : s.length ≤ 1048576) : CallA Tryz.prog 24 [.str s] [] (Ret (rulesA (rulesOf s)) (rulesH (rulesOf s))) := by
  refine CallP.out (t := .mk) (go_in (md := md24) mixed Tryz.func24 rfl go24 (by kernel_rfl) ?_)
  simp only [q0, q1, q2, q3, q4, q5, q6, q7, q8, q9, zq0, zq1, zq2, zq3, zq4, guardSlot, quietA, nilC, nilA, quietB, St.ev, St.put, St.after, Nat.reduceAdd, Nat.reduceSub, ofV, ofL, lenA, binA, intBin, fltBin, strBin, cpxBin, unA, convA, convB, convO, pickV, resL, oneA, indexA, indexS, isQuiet, loadA, loadC, storeA, fieldA, partA, sliceA, boundA, buildA, placeA, setAll, appendA, readSl, newEl, AV.cells, AV.solid, AV.one, kill, killM, killL, notInt, Int.reduceToNat, cond_true, cond_false, ↓reduceIte, reduceCtorEq, Nat.reduceLT, Nat.reduceLeDiff, Nat.reduceMul, Nat.reduceEqDiff, exists_eq', putF, implies_true, exists_true_left, tys0, tys1, tys2, und0, und1, md24, Tryz.ntmps24, Tryz.results24]
  refine go_round (md := md24) mixed (by kernel_rfl) (fun p : {p : Nat × Nat × List Rul // Read s p.1 p.2.1 p.2.2} => ⟨[.str s, .any, .any, .any, .sl 0 0 p.1.2.2.length, .int .i64 ((p.1.2.1 : Nat) : Int), .int .i64 ((p.1.1 : Nat) : Int), .any, .any, .any, .any, .any, .any, .any, .any, .any, .any, .any, .any, .any, .any, .any, .any, .any, .any, .any, .any, .any, .any, .any, .any, .any, .any, .any, .any, .any, .any, .any, .any, .any, .any, .any, .any, .any, .any, .any], encR 0 p.1.2.2⟩) (fun p => s.length - p.1.1) ⟨(0, 0, []), Nat.le_refl _, Nat.zero_le _, by simp, rfl, by simp, by simp⟩ ?_ ?_
  · refine weak_same rfl ?_
    simp [SameTm]
  rintro ⟨⟨i, a, R⟩, h⟩
  dsimp only at h
  have hia := h.ia
  have hil := h.il
  have hle := h.le
  simp only [q0, q1, q2, q3, q4, q5, q6, q7, q8, q9, zq0, zq1, zq2, zq3, zq4, guardSlot, quietA, nilC, nilA, quietB, St.ev, St.put, St.after, Nat.reduceAdd, Nat.reduceSub, ofV, ofL, lenA, binA, intBin, fltBin, strBin, cpxBin, unA, convA, convB, convO, pickV, resL, oneA, indexA, indexS, isQuiet, loadA, loadC, storeA, fieldA, partA, sliceA, boundA, buildA, placeA, setAll, appendA, readSl, newEl, AV.cells, AV.solid, AV.one, kill, killM, killL, notInt, Int.reduceToNat, cond_true, cond_false, ↓reduceIte, reduceCtorEq, Nat.reduceLT, Nat.reduceLeDiff, Nat.reduceMul, Nat.reduceEqDiff, exists_eq', putF, implies_true, exists_true_left, tys0, tys1, tys2, und0, und1, md24, Tryz.ntmps24, Tryz.results24, encR, rulB]
  refine br_intro (fun g => ?_) (fun g => ?_) <;> simp only [q0, q1, q2, q3, q4, q5, q6, q7, q8, q9, zq0, zq1, zq2, zq3, zq4, guardSlot, quietA, nilC, nilA, quietB, St.ev, St.put, St.after, Nat.reduceAdd, Nat.reduceSub, ofV, ofL, lenA, binA, intBin, fltBin, strBin, cpxBin, unA, convA, convB, convO, pickV, resL, oneA, indexA, indexS, isQuiet, loadA, loadC, storeA, fieldA, partA, sliceA, boundA, buildA, placeA, setAll, appendA, readSl, newEl, AV.cells, AV.solid, AV.one, kill, killM, killL, notInt, Int.reduceToNat, cond_true, cond_false, ↓reduceIte, reduceCtorEq, Nat.reduceLT, Nat.reduceLeDiff, Nat.reduceMul, Nat.reduceEqDiff, exists_eq', putF, implies_true, exists_true_left, tys0, tys1, tys2, und0, und1, md24, Tryz.ntmps24, Tryz.results24, encR, rulB]
  · have g := of_decide_eq_true g
    have h0 : i < s.length := by omega
    have hI : (i : Int) < (s.length : Int) := by omega
    have w1 : IntKind.i64.wrap ((i : Int) + 1) = ((i + 1 : Nat) : Int) := by rw [w64 (by omega) (by omega)]; omega
    simp only [q0, q1, q2, q3, q4, q5, q6, q7, q8, q9, zq0, zq1, zq2, zq3, zq4, guardSlot, quietA, nilC, nilA, quietB, St.ev, St.put, St.after, Nat.reduceAdd, Nat.reduceSub, ofV, ofL, lenA, binA, intBin, fltBin, strBin, cpxBin, unA, convA, convB, convO, pickV, resL, oneA, indexA, indexS, isQuiet, loadA, loadC, storeA, fieldA, partA, sliceA, boundA, buildA, placeA, setAll, appendA, readSl, newEl, AV.cells, AV.solid, AV.one, kill, killM, killL, notInt, Int.reduceToNat, cond_true, cond_false, ↓reduceIte, reduceCtorEq, Nat.reduceLT, Nat.reduceLeDiff, Nat.reduceMul, Nat.reduceEqDiff, exists_eq', putF, implies_true, exists_true_left, tys0, tys1, tys2, und0, und1, md24, Tryz.ntmps24, Tryz.results24, h0, hI, w1]
    refine br_intro (fun c => ?_) (fun c => ?_) <;> simp only [q0, q1, q2, q3, q4, q5, q6, q7, q8, q9, zq0, zq1, zq2, zq3, zq4, guardSlot, quietA, nilC, nilA, quietB, St.ev, St.put, St.after, Nat.reduceAdd, Nat.reduceSub, ofV, ofL, lenA, binA, intBin, fltBin, strBin, cpxBin, unA, convA, convB, convO, pickV, resL, oneA, indexA, indexS, isQuiet, loadA, loadC, storeA, fieldA, partA, sliceA, boundA, buildA, placeA, setAll, appendA, readSl, newEl, AV.cells, AV.solid, AV.one, kill, killM, killL, notInt, Int.reduceToNat, cond_true, cond_false, ↓reduceIte, reduceCtorEq, Nat.reduceLT, Nat.reduceLeDiff, Nat.reduceMul, Nat.reduceEqDiff, exists_eq', putF, implies_true, exists_true_left, tys0, tys1, tys2, und0, und1, md24, Tryz.ntmps24, Tryz.results24, h0, hI, w1]
    · have c : s[i] ≠ 10 := fun e => by rw [e] at c; cases c
      refine ⟨⟨(i + 1, a, R), h.skip h0 c⟩, by show s.length - (i + 1) < s.length - i; omega, ?_⟩
      refine weak_same rfl ?_
      simp [SameTm]
    · have c : s[i] = 10 := UInt8.toNat_inj.1 (by have := bne_eq_false_iff_eq.1 c; show s[i].toNat = 10; omega)
      refine ⟨by omega, by omega, ?_⟩
      have bad : ((∃ r, ruleOf ((s.take i).drop a) = some r) ∧ R.length < 24 → False) → rulesOf s = none := fun hn => by
        cases hr : rulesOf s with
        | none => rfl
        | some R2 => exact (hn (h.line h0 c hr)).elim
      have nx := fun r hr hl => h.next (r := r) h0 c hr hl
      have ll : ((s.take i).drop a).length ≤ 1048576 := by rw [List.length_drop, List.length_take]; omega
      generalize (s.take i).drop a = l at bad nx ll
      refine call_newQ (l05Read_call l ll) rfl ?_
      rintro r new ⟨q, b, rfl, rfl, hq, hy, hn⟩
      refine ⟨by simp [ifsB_below], ?_⟩
      rw [show ren (fun b => b + (({ ty := 48, w := 5, els := elsR (0 + 1) R } : Blk) :: R.map ifsB).length) (.tup [rulV 0 q, .bool b]) = .tup [rulV (R.length + 1) q, .bool b] by
        show AV.tup (List.map (renM _) _) = _
        simp only [List.map_cons, List.map_nil, rulV_renM, List.length_cons, List.length_map, Nat.zero_add]
        rfl]
      cases b with
      | false =>
        have hb := bad (fun h => by obtain ⟨⟨r, hr⟩, _⟩ := h; rw [hn rfl] at hr; cases hr)
        rcases slV_cases (R.length + 1) q.2.1.length with e | e
        all_goals
          rw [rulV_is e]
          simp only [q0, q1, q2, q3, q4, q5, q6, q7, q8, q9, zq0, zq1, zq2, zq3, zq4, guardSlot, quietA, nilC, nilA, quietB, St.ev, St.put, St.after, Nat.reduceAdd, Nat.reduceSub, ofV, ofL, lenA, binA, intBin, fltBin, strBin, cpxBin, unA, convA, convB, convO, pickV, resL, oneA, indexA, indexS, isQuiet, loadA, loadC, storeA, fieldA, partA, sliceA, boundA, buildA, placeA, setAll, appendA, readSl, newEl, AV.cells, AV.solid, AV.one, kill, killM, killL, notInt, Int.reduceToNat, cond_true, cond_false, ↓reduceIte, reduceCtorEq, Nat.reduceLT, Nat.reduceLeDiff, Nat.reduceMul, Nat.reduceEqDiff, exists_eq', putF, implies_true, exists_true_left, tys0, tys1, tys2, und0, und1, md24, Tryz.ntmps24, Tryz.results24, get_last, set_last]
          rw [hb]
          exact PostR.pure ⟨rfl, rfl⟩ rfl
      | true =>
        have hq := hy rfl
        rcases slV_cases (R.length + 1) q.2.1.length with e | e
        all_goals
          rw [rulV_is e]
          simp only [q0, q1, q2, q3, q4, q5, q6, q7, q8, q9, zq0, zq1, zq2, zq3, zq4, guardSlot, quietA, nilC, nilA, quietB, St.ev, St.put, St.after, Nat.reduceAdd, Nat.reduceSub, ofV, ofL, lenA, binA, intBin, fltBin, strBin, cpxBin, unA, convA, convB, convO, pickV, resL, oneA, indexA, indexS, isQuiet, loadA, loadC, storeA, fieldA, partA, sliceA, boundA, buildA, placeA, setAll, appendA, readSl, newEl, AV.cells, AV.solid, AV.one, kill, killM, killL, notInt, Int.reduceToNat, cond_true, cond_false, ↓reduceIte, reduceCtorEq, Nat.reduceLT, Nat.reduceLeDiff, Nat.reduceMul, Nat.reduceEqDiff, exists_eq', putF, implies_true, exists_true_left, tys0, tys1, tys2, und0, und1, md24, Tryz.ntmps24, Tryz.results24, get_last, set_last]
          refine br_intro (fun k => ?_) (fun k => ?_) <;> simp only [q0, q1, q2, q3, q4, q5, q6, q7, q8, q9, zq0, zq1, zq2, zq3, zq4, guardSlot, quietA, nilC, nilA, quietB, St.ev, St.put, St.after, Nat.reduceAdd, Nat.reduceSub, ofV, ofL, lenA, binA, intBin, fltBin, strBin, cpxBin, unA, convA, convB, convO, pickV, resL, oneA, indexA, indexS, isQuiet, loadA, loadC, storeA, fieldA, partA, sliceA, boundA, buildA, placeA, setAll, appendA, readSl, newEl, AV.cells, AV.solid, AV.one, kill, killM, killL, notInt, Int.reduceToNat, cond_true, cond_false, ↓reduceIte, reduceCtorEq, Nat.reduceLT, Nat.reduceLeDiff, Nat.reduceMul, Nat.reduceEqDiff, exists_eq', putF, implies_true, exists_true_left, tys0, tys1, tys2, und0, und1, md24, Tryz.ntmps24, Tryz.results24, get_last, set_last]
          · have k : R.length = 24 := by have := beq_iff_eq.1 k; omega
            rw [bad (fun h => by omega)]
            exact PostR.pure ⟨rfl, rfl⟩ rfl
          · have k : R.length < 24 := by have := beq_eq_false_iff_ne.1 k; omega
            have nx := nx q hq k
            simp only [q0, q1, q2, q3, q4, q5, q6, q7, q8, q9, zq0, zq1, zq2, zq3, zq4, guardSlot, quietA, nilC, nilA, quietB, St.ev, St.put, St.after, Nat.reduceAdd, Nat.reduceSub, ofV, ofL, lenA, binA, intBin, fltBin, strBin, cpxBin, unA, convA, convB, convO, pickV, resL, oneA, indexA, indexS, isQuiet, loadA, loadC, storeA, fieldA, partA, sliceA, boundA, buildA, placeA, setAll, appendA, readSl, newEl, AV.cells, AV.solid, AV.one, kill, killM, killL, notInt, Int.reduceToNat, cond_true, cond_false, ↓reduceIte, reduceCtorEq, Nat.reduceLT, Nat.reduceLeDiff, Nat.reduceMul, Nat.reduceEqDiff, exists_eq', putF, implies_true, exists_true_left, tys0, tys1, tys2, und0, und1, md24, Tryz.ntmps24, Tryz.results24, get_last, set_last, allW_int, fits, List.isEmpty_cons, brk_false, Nat.reduceMul]
            refine ⟨by rw [elsR_len], fun a ha => (by rw [List.mem_singleton.1 ha]; exact ⟨rfl, rfl⟩), by omega, ⟨(i + 1, i + 1, R ++ [q]), nx⟩, by show s.length - (i + 1) < s.length - i; omega, ?_⟩
            have ek : List.map (kill 0) (elsR 1 R ++ [rulV (R.length + 1) q]) = elsR 1 (R ++ [q]) := by
              rw [Nat.add_comm R.length 1, ← elsR_snoc, elsR_kill 0 1 _ (by omega)]
            rw [rulV_is e] at ek
            rw [ek]
            have rl : (R ++ [q]).length = R.length + 1 := by simp
            refine weak_drop (Nat.zero_le _) ⟨⟨rfl, fun _ => ⟨rfl, rfl, rfl, elsR_below _ _ _ (by show 1 + (R ++ [q]).length ≤ (encR 0 (R ++ [q])).length; rw [encR_len]; omega)⟩⟩, ifs_drop _ R q _ _⟩ ?_
            simp [DropTm, DropV, below, belowM, belowL, rl, w1]
  · have g := of_decide_eq_false g
    obtain rfl : i = s.length := by omega
    refine br_intro (fun z => ?_) (fun z => ?_) <;> simp only [q0, q1, q2, q3, q4, q5, q6, q7, q8, q9, zq0, zq1, zq2, zq3, zq4, guardSlot, quietA, nilC, nilA, quietB, St.ev, St.put, St.after, Nat.reduceAdd, Nat.reduceSub, ofV, ofL, lenA, binA, intBin, fltBin, strBin, cpxBin, unA, convA, convB, convO, pickV, resL, oneA, indexA, indexS, isQuiet, loadA, loadC, storeA, fieldA, partA, sliceA, boundA, buildA, placeA, setAll, appendA, readSl, newEl, AV.cells, AV.solid, AV.one, kill, killM, killL, notInt, Int.reduceToNat, cond_true, cond_false, ↓reduceIte, reduceCtorEq, Nat.reduceLT, Nat.reduceLeDiff, Nat.reduceMul, Nat.reduceEqDiff, exists_eq', putF, implies_true, exists_true_left, tys0, tys1, tys2, und0, und1, md24, Tryz.ntmps24, Tryz.results24]
    · have z : a ≠ s.length := fun e => by rw [e] at z; simp at z
      rw [h.none z]
      exact PostR.pure ⟨rfl, rfl⟩ rfl
    · have z : a = s.length := by have := bne_eq_false_iff_eq.1 z; omega
      subst z
      rw [h.some]
      exact PostR.ret
end Go.Proofs.YtigipcckflcilaaGreatDoor
