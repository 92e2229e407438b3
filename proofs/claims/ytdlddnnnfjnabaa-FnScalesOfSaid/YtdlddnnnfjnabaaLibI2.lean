/- Scales: dues, nets, rates, as the program has them. -/
import Derived.Test.YtdlddnnnfjnabaaLibI1
set_option maxRecDepth 10000
set_option maxHeartbeats 1000000
set_option linter.unusedSimpArgs false
set_option linter.unusedVariables false
namespace Go.Proofs.Ytdlddnnnfjnabaa
open Go Go.Abs

theorem tdiv_nn {a b : Int} (ha : 0 ≤ a) : a.tdiv b = a / b := Int.tdiv_eq_ediv_of_nonneg ha
theorem tmod_nn {a b : Int} (ha : 0 ≤ a) : a.tmod b = a % b := Int.tmod_eq_emod_of_nonneg ha

theorem rounded_call (a b w : Int) (ha : 0 ≤ a) (ha2 : a ≤ 4000000000000000000) (hb : 0 < b) (hb2 : b ≤ 4000000000000000000) (h0 : 0 ≤ w) (h3 : w ≤ 3) : CallA Try.prog 47 [.int .i64 a, .int .i64 b, .int .i64 w] [] (Ret (.int .i64 (rnd a b w)) []) := by
  have m1 := Int.emod_nonneg a (show b ≠ 0 by omega)
  have m2 := Int.emod_lt_of_pos a hb
  have d1 : 0 ≤ a / b := Int.ediv_nonneg ha (by omega)
  have d2 : a / b ≤ a := Int.ediv_le_self b ha
  have e1 : IntKind.i64.wrap (a.tdiv b) = a / b := by rw [tdiv_nn ha, w64 (by omega) (by omega)]
  have e2 : a.tmod b = a % b := tmod_nn ha
  have e3 : IntKind.i64.wrap (b - a % b) = b - a % b := w64 (by omega) (by omega)
  have e4 : (a / b).tmod 2 = a / b % 2 := tmod_nn d1
  have e5 : IntKind.i64.wrap (a / b + 1) = a / b + 1 := w64 (by omega) (by omega)
  have hb' : b ≠ 0 := by omega
  rcases ways h0 h3 with rfl | rfl | rfl | rfl
  all_goals
    refine CallP.out (t := .mk) (go_in (md := md47) mixed Try.func47 rfl go47 (by kernel_rfl) ?_)
    simp only [q0, q1, q2, q3, q4, q5, q6, q7, q8, q9, zq0, zq1, zq2, zq3, zq4, guardSlot, quietA, nilC, nilA, quietB, St.ev, St.put, St.after, Nat.reduceAdd, Nat.reduceSub, ofV, ofL, lenA, binA, intBin, fltBin, strBin, cpxBin, unA, convA, convB, convO, pickV, resL, oneA, indexA, indexS, isQuiet, loadA, loadC, storeA, fieldA, partA, sliceA, boundA, buildA, placeA, setAll, appendA, readSl, newEl, AV.cells, AV.solid, AV.one, kill, killM, killL, notInt, Int.reduceToNat, cond_true, cond_false, ↓reduceIte, reduceCtorEq, Nat.reduceLT, Nat.reduceLeDiff, Nat.reduceMul, Nat.reduceEqDiff, exists_eq', putF, implies_true, exists_true_left, tys0, tys1, tys2, tys3, tys4, und0, und1, und2, und3, md47, Try.ntmps47, Try.results47, e1, e2, e3, e4, e5, Int.reduceLT, Int.reduceLE, Int.reduceNeg, Int.reduceEq, Int.reduceGT, Int.reduceGE, decide_true, decide_false, beq_self_eq_true, bne_self_eq_false, Int.reduceBEq, Int.reduceBNe, Int.reduceAdd, Int.reduceSub]
    refine ⟨hb', hb', ?_⟩
  · exact PostR.pure ⟨by rw [rnd0], rfl⟩ rfl
  · refine br_intro (fun h => ?_) (fun h => ?_) <;> simp only [q0, q1, q2, q3, q4, q5, q6, q7, q8, q9, zq0, zq1, zq2, zq3, zq4, guardSlot, quietA, nilC, nilA, quietB, St.ev, St.put, St.after, Nat.reduceAdd, Nat.reduceSub, ofV, ofL, lenA, binA, intBin, fltBin, strBin, cpxBin, unA, convA, convB, convO, pickV, resL, oneA, indexA, indexS, isQuiet, loadA, loadC, storeA, fieldA, partA, sliceA, boundA, buildA, placeA, setAll, appendA, readSl, newEl, AV.cells, AV.solid, AV.one, kill, killM, killL, notInt, Int.reduceToNat, cond_true, cond_false, ↓reduceIte, reduceCtorEq, Nat.reduceLT, Nat.reduceLeDiff, Nat.reduceMul, Nat.reduceEqDiff, exists_eq', putF, implies_true, exists_true_left, tys0, tys1, tys2, tys3, tys4, und0, und1, und2, und3, md47, Try.ntmps47, Try.results47, e5]
    · have h' := of_decide_eq_true h
      exact PostR.pure ⟨by rw [rnd1, if_pos h'], rfl⟩ rfl
    · have h' := of_decide_eq_false h
      exact PostR.pure ⟨by rw [rnd1, if_neg h']; simp, rfl⟩ rfl
  · refine br_intro (fun h => ?_) (fun h => ?_) <;> simp only [q0, q1, q2, q3, q4, q5, q6, q7, q8, q9, zq0, zq1, zq2, zq3, zq4, guardSlot, quietA, nilC, nilA, quietB, St.ev, St.put, St.after, Nat.reduceAdd, Nat.reduceSub, ofV, ofL, lenA, binA, intBin, fltBin, strBin, cpxBin, unA, convA, convB, convO, pickV, resL, oneA, indexA, indexS, isQuiet, loadA, loadC, storeA, fieldA, partA, sliceA, boundA, buildA, placeA, setAll, appendA, readSl, newEl, AV.cells, AV.solid, AV.one, kill, killM, killL, notInt, Int.reduceToNat, cond_true, cond_false, ↓reduceIte, reduceCtorEq, Nat.reduceLT, Nat.reduceLeDiff, Nat.reduceMul, Nat.reduceEqDiff, exists_eq', putF, implies_true, exists_true_left, tys0, tys1, tys2, tys3, tys4, und0, und1, und2, und3, md47, Try.ntmps47, Try.results47, e3, e4, e5, Int.reduceLT, Int.reduceLE, Int.reduceNeg, Int.reduceEq, Int.reduceGT, Int.reduceGE, decide_true, decide_false, beq_self_eq_true, bne_self_eq_false, Int.reduceBEq, Int.reduceBNe, Int.reduceAdd, Int.reduceSub]
    · have h' := of_decide_eq_true h
      exact PostR.pure ⟨by rw [rnd2, if_pos (Or.inl h')], rfl⟩ rfl
    · have h' := of_decide_eq_false h
      refine br_intro (fun g => ?_) (fun g => ?_) <;> simp only [q0, q1, q2, q3, q4, q5, q6, q7, q8, q9, zq0, zq1, zq2, zq3, zq4, guardSlot, quietA, nilC, nilA, quietB, St.ev, St.put, St.after, Nat.reduceAdd, Nat.reduceSub, ofV, ofL, lenA, binA, intBin, fltBin, strBin, cpxBin, unA, convA, convB, convO, pickV, resL, oneA, indexA, indexS, isQuiet, loadA, loadC, storeA, fieldA, partA, sliceA, boundA, buildA, placeA, setAll, appendA, readSl, newEl, AV.cells, AV.solid, AV.one, kill, killM, killL, notInt, Int.reduceToNat, cond_true, cond_false, ↓reduceIte, reduceCtorEq, Nat.reduceLT, Nat.reduceLeDiff, Nat.reduceMul, Nat.reduceEqDiff, exists_eq', putF, implies_true, exists_true_left, tys0, tys1, tys2, tys3, tys4, und0, und1, und2, und3, md47, Try.ntmps47, Try.results47, e3, e4, e5, Int.reduceLT, Int.reduceLE, Int.reduceNeg, Int.reduceEq, Int.reduceGT, Int.reduceGE, decide_true, decide_false, beq_self_eq_true, bne_self_eq_false, Int.reduceBEq, Int.reduceBNe, Int.reduceAdd, Int.reduceSub]
      · have g' := eq_of_beq g
        refine ⟨by decide, ?_⟩
        refine br_intro (fun i => ?_) (fun i => ?_) <;> simp only [q0, q1, q2, q3, q4, q5, q6, q7, q8, q9, zq0, zq1, zq2, zq3, zq4, guardSlot, quietA, nilC, nilA, quietB, St.ev, St.put, St.after, Nat.reduceAdd, Nat.reduceSub, ofV, ofL, lenA, binA, intBin, fltBin, strBin, cpxBin, unA, convA, convB, convO, pickV, resL, oneA, indexA, indexS, isQuiet, loadA, loadC, storeA, fieldA, partA, sliceA, boundA, buildA, placeA, setAll, appendA, readSl, newEl, AV.cells, AV.solid, AV.one, kill, killM, killL, notInt, Int.reduceToNat, cond_true, cond_false, ↓reduceIte, reduceCtorEq, Nat.reduceLT, Nat.reduceLeDiff, Nat.reduceMul, Nat.reduceEqDiff, exists_eq', putF, implies_true, exists_true_left, tys0, tys1, tys2, tys3, tys4, und0, und1, und2, und3, md47, Try.ntmps47, Try.results47, e3, e4, e5, Int.reduceLT, Int.reduceLE, Int.reduceNeg, Int.reduceEq, Int.reduceGT, Int.reduceGE, decide_true, decide_false, beq_self_eq_true, bne_self_eq_false, Int.reduceBEq, Int.reduceBNe, Int.reduceAdd, Int.reduceSub]
        · have i' := eq_of_beq i
          exact PostR.pure ⟨by rw [rnd2, if_pos (Or.inr ⟨g', i'⟩)], rfl⟩ rfl
        · have i' := ne_of_beq_false i
          exact PostR.pure ⟨by rw [rnd2, if_neg (by rintro (x | ⟨_, x⟩); exact h' x; exact i' x)]; simp, rfl⟩ rfl
      · have g' := ne_of_beq_false g
        exact PostR.pure ⟨by rw [rnd2, if_neg (by rintro (x | ⟨x, _⟩); exact h' x; exact g' x)]; simp, rfl⟩ rfl
  · refine br_intro (fun h => ?_) (fun h => ?_) <;> simp only [q0, q1, q2, q3, q4, q5, q6, q7, q8, q9, zq0, zq1, zq2, zq3, zq4, guardSlot, quietA, nilC, nilA, quietB, St.ev, St.put, St.after, Nat.reduceAdd, Nat.reduceSub, ofV, ofL, lenA, binA, intBin, fltBin, strBin, cpxBin, unA, convA, convB, convO, pickV, resL, oneA, indexA, indexS, isQuiet, loadA, loadC, storeA, fieldA, partA, sliceA, boundA, buildA, placeA, setAll, appendA, readSl, newEl, AV.cells, AV.solid, AV.one, kill, killM, killL, notInt, Int.reduceToNat, cond_true, cond_false, ↓reduceIte, reduceCtorEq, Nat.reduceLT, Nat.reduceLeDiff, Nat.reduceMul, Nat.reduceEqDiff, exists_eq', putF, implies_true, exists_true_left, tys0, tys1, tys2, tys3, tys4, und0, und1, und2, und3, md47, Try.ntmps47, Try.results47, e5]
    · have h' := of_decide_eq_true h
      exact PostR.pure ⟨by rw [rnd3, if_pos h'], rfl⟩ rfl
    · have h' := of_decide_eq_false h
      exact PostR.pure ⟨by rw [rnd3, if_neg h']; simp, rfl⟩ rfl

theorem ex_tail (R c : Int) (hR : 0 ≤ R) (hc : 0 ≤ c) : ∀ (bs rs : List Int), Asc bs → rs.length = bs.length → (∀ r ∈ rs, 0 ≤ r ∧ r ≤ R) → (∀ b ∈ bs, 0 ≤ b) → 0 ≤ exF bs rs c ∧ exF bs rs c ≤ c * R
  | [], _, _, _, _, _ => by
    have := mul_nn hc hR
    simp only [exF]; omega
  | b :: bs, rs, ha, hl, hr, hb => by
    have hm := mul_nn hc hR
    have hb0 := hb b (by simp)
    by_cases h : c ≤ b
    · rw [ex_zero bs rs b c h]; omega
    · have := ex_bounds R c bs rs b ha (by simpa using hl) hr (by omega)
      have h2 : (c - b) * R ≤ c * R := Int.mul_le_mul_of_nonneg_right (by omega) hR
      omega
theorem Asc.tail {l : List Int} (h : Asc l) : Asc l.tail := by
  match l, h with
  | [], _ => trivial
  | [_], _ => trivial
  | _ :: _ :: _, h => exact h.2
theorem Asc.drop : ∀ (i : Nat) {l : List Int}, Asc l → Asc (l.drop i)
  | 0, l, h => by simpa using h
  | i + 1, [], h => by simp [Asc]
  | i + 1, a :: l, h => by rw [List.drop_succ_cons]; exact Asc.drop i (by simpa using h.tail)
theorem Scl.tails {bs rs : List Int} (S : Scl bs rs) {c : Int} (hc : 0 ≤ c) (i : Nat) : 0 ≤ exF (bs.drop i) (rs.drop i) c :=
  (ex_tail 10000 c (by omega) hc _ _ (S.asc.drop i) (by simp [S.len]) (fun r hr => S.rate r (List.mem_of_mem_drop hr)) (fun b hb => (S.top b (List.mem_of_mem_drop hb)).1)).1
theorem ex_at {bs rs : List Int} (c : Int) (i : Nat) (h1 : i < bs.length) (h2 : i < rs.length) : exF (bs.drop i) (rs.drop i) c = if c ≤ bs[i] then 0 else (nxt (bs.drop (i + 1)) c - bs[i]) * rs[i] + exF (bs.drop (i + 1)) (rs.drop (i + 1)) c := by
  rw [drop_at bs i h1, drop_at rs i h2]; rfl

def sclB (bs rs : List Int) : Blk := { ty := 34, w := 2, els := [.agg [.ro (ints bs), .ro (ints rs)]] }
set_option maxHeartbeats 4000000 in
theorem exact_call {bs rs : List Int} (S : Scl bs rs) (c : Int) (h0 : 0 ≤ c) (h1 : c ≤ 1000000000000) : CallA Try.prog 63 [.agg [.ro (ints bs), .ro (ints rs)], .int .i64 c] [] (Ret (.int .i64 (exF bs rs c)) []) := by
  have hl := S.len
  have hcap := S.cap
  have hE := S.ex h0
  have hE2 : c * 10000 ≤ 10000000000000000 := by omega
  refine CallP.out (t := .mk) (go_in (md := md63) mixed Try.func63 rfl go63 (by kernel_rfl) ?_)
  simp only [q0, q1, q2, q3, q4, q5, q6, q7, q8, q9, zq0, zq1, zq2, zq3, zq4, guardSlot, quietA, nilC, nilA, quietB, St.ev, St.put, St.after, Nat.reduceAdd, Nat.reduceSub, ofV, ofL, lenA, binA, intBin, fltBin, strBin, cpxBin, unA, convA, convB, convO, pickV, resL, oneA, indexA, indexS, isQuiet, loadA, loadC, storeA, fieldA, partA, sliceA, boundA, buildA, placeA, setAll, appendA, readSl, newEl, AV.cells, AV.solid, AV.one, kill, killM, killL, notInt, Int.reduceToNat, cond_true, cond_false, ↓reduceIte, reduceCtorEq, Nat.reduceLT, Nat.reduceLeDiff, Nat.reduceMul, Nat.reduceEqDiff, exists_eq', putF, implies_true, exists_true_left, tys0, tys1, tys2, tys3, tys4, und0, und1, und2, und3, md63, Try.ntmps63, Try.results63]
  refine go_round (md := md63) mixed (by kernel_rfl) (fun i : {i : Nat // i ≤ bs.length ∧ exF (bs.drop i) (rs.drop i) c ≤ exF bs rs c} => ⟨[.any, .int .i64 c, .ptr 0 0 0, .any, .any, .int .i64 (exF bs rs c - exF (bs.drop i.1) (rs.drop i.1) c), .any, .any, .any, .any, .ro (ints bs), .int .i64 bs.length, .int .i64 i.1, .any, .any, .any, .any, .any, .any, .any, .any, .any, .any, .any, .any, .any, .any, .any, .any, .any, .any, .any, .any, .any, .any, .any, .any, .any, .any, .any, .any, .any, .any, .any, .any, .any, .any, .any], [sclB bs rs]⟩) (fun i => bs.length - i.1) ⟨0, by simp⟩ ?_ ?_
  · exact weak_drop (by simp) (by simp [DropHp, ints_below, flts_below, sclB, allBelow_cons, allBelow_nil, below, belowM, belowL]) (by simp [DropTm, DropV, below, belowM, belowL, sclB, allBelow_cons, allBelow_nil, below, belowM, belowL])
  · intro ⟨i, hi, ht⟩
    have tl0 := S.tails h0 i
    simp only [q0, q1, q2, q3, q4, q5, q6, q7, q8, q9, zq0, zq1, zq2, zq3, zq4, guardSlot, quietA, nilC, nilA, quietB, St.ev, St.put, St.after, Nat.reduceAdd, Nat.reduceSub, ofV, ofL, lenA, binA, intBin, fltBin, strBin, cpxBin, unA, convA, convB, convO, pickV, resL, oneA, indexA, indexS, isQuiet, loadA, loadC, storeA, fieldA, partA, sliceA, boundA, buildA, placeA, setAll, appendA, readSl, newEl, AV.cells, AV.solid, AV.one, kill, killM, killL, notInt, Int.reduceToNat, cond_true, cond_false, ↓reduceIte, reduceCtorEq, Nat.reduceLT, Nat.reduceLeDiff, Nat.reduceMul, Nat.reduceEqDiff, exists_eq', putF, implies_true, exists_true_left, tys0, tys1, tys2, tys3, tys4, und0, und1, und2, und3, md63, Try.ntmps63, Try.results63, sclB]
    refine br_intro (fun h => ?_) (fun h => ?_) <;> simp only [q0, q1, q2, q3, q4, q5, q6, q7, q8, q9, zq0, zq1, zq2, zq3, zq4, guardSlot, quietA, nilC, nilA, quietB, St.ev, St.put, St.after, Nat.reduceAdd, Nat.reduceSub, ofV, ofL, lenA, binA, intBin, fltBin, strBin, cpxBin, unA, convA, convB, convO, pickV, resL, oneA, indexA, indexS, isQuiet, loadA, loadC, storeA, fieldA, partA, sliceA, boundA, buildA, placeA, setAll, appendA, readSl, newEl, AV.cells, AV.solid, AV.one, kill, killM, killL, notInt, Int.reduceToNat, cond_true, cond_false, ↓reduceIte, reduceCtorEq, Nat.reduceLT, Nat.reduceLeDiff, Nat.reduceMul, Nat.reduceEqDiff, exists_eq', putF, implies_true, exists_true_left, tys0, tys1, tys2, tys3, tys4, und0, und1, und2, und3, md63, Try.ntmps63, Try.results63, sclB]
    · have hi' : i < bs.length := by simpa using h
      have hi2 : i < rs.length := by omega
      have eat := ex_at c i hi' hi2
      have tl1 := S.tails h0 (i + 1)
      have b0 := S.top bs[i] (List.getElem_mem hi')
      refine ⟨hi', ?_⟩
      refine br_intro (fun hb => ?_) (fun hb => ?_) <;> simp only [q0, q1, q2, q3, q4, q5, q6, q7, q8, q9, zq0, zq1, zq2, zq3, zq4, guardSlot, quietA, nilC, nilA, quietB, St.ev, St.put, St.after, Nat.reduceAdd, Nat.reduceSub, ofV, ofL, lenA, binA, intBin, fltBin, strBin, cpxBin, unA, convA, convB, convO, pickV, resL, oneA, indexA, indexS, isQuiet, loadA, loadC, storeA, fieldA, partA, sliceA, boundA, buildA, placeA, setAll, appendA, readSl, newEl, AV.cells, AV.solid, AV.one, kill, killM, killL, notInt, Int.reduceToNat, cond_true, cond_false, ↓reduceIte, reduceCtorEq, Nat.reduceLT, Nat.reduceLeDiff, Nat.reduceMul, Nat.reduceEqDiff, exists_eq', putF, implies_true, exists_true_left, tys0, tys1, tys2, tys3, tys4, und0, und1, und2, und3, md63, Try.ntmps63, Try.results63, sclB, w64_succ i (show i < 9223372036854775807 by omega)]
      · have hb' := of_decide_eq_true hb
        rw [if_pos hb'] at eat
        exact PostR.pure ⟨by rw [eat]; simp, rfl⟩ rfl
      · have hb' := of_decide_eq_false hb
        rw [if_neg hb'] at eat
        have r0 := S.rate rs[i] (List.getElem_mem hi2)
        have ei : IntKind.i64.wrap ((i : Int) + 1) = ((i + 1 : Nat) : Int) := w64_succ i (by omega)
        have fin : ∀ to : Int, to = nxt (bs.drop (i + 1)) c → bs[i] ≤ to → to ≤ c → IntKind.i64.wrap (to - bs[i]) = to - bs[i] ∧ IntKind.i64.wrap ((to - bs[i]) * rs[i]) = (to - bs[i]) * rs[i] ∧
            IntKind.i64.wrap (exF bs rs c - exF (bs.drop i) (rs.drop i) c + (to - bs[i]) * rs[i]) = exF bs rs c - exF (bs.drop (i + 1)) (rs.drop (i + 1)) c ∧ exF (bs.drop (i + 1)) (rs.drop (i + 1)) c ≤ exF bs rs c := by
          intro to e1 g1 g2
          rw [← e1] at eat
          have p0 := mul_nn (show 0 ≤ to - bs[i] by omega) r0.1
          exact ⟨w64 (by omega) (by omega), w64 (by omega) (by omega), by rw [w64 (by omega) (by omega)]; omega, by omega⟩
        refine br_intro (fun hn => ?_) (fun hn => ?_) <;> simp only [q0, q1, q2, q3, q4, q5, q6, q7, q8, q9, zq0, zq1, zq2, zq3, zq4, guardSlot, quietA, nilC, nilA, quietB, St.ev, St.put, St.after, Nat.reduceAdd, Nat.reduceSub, ofV, ofL, lenA, binA, intBin, fltBin, strBin, cpxBin, unA, convA, convB, convO, pickV, resL, oneA, indexA, indexS, isQuiet, loadA, loadC, storeA, fieldA, partA, sliceA, boundA, buildA, placeA, setAll, appendA, readSl, newEl, AV.cells, AV.solid, AV.one, kill, killM, killL, notInt, Int.reduceToNat, cond_true, cond_false, ↓reduceIte, reduceCtorEq, Nat.reduceLT, Nat.reduceLeDiff, Nat.reduceMul, Nat.reduceEqDiff, exists_eq', putF, implies_true, exists_true_left, tys0, tys1, tys2, tys3, tys4, und0, und1, und2, und3, md63, Try.ntmps63, Try.results63, sclB, ei]
        · have hn' : i + 1 < bs.length := by have := of_decide_eq_true hn; omega
          have en : bs.drop (i + 1) = bs[i + 1] :: bs.drop (i + 2) := drop_at bs (i + 1) hn'
          have hs := (asc_get bs).1 S.asc i hn'
          rw [getD_at bs 0 i (by omega), getD_at bs 0 (i + 1) hn'] at hs
          refine ⟨hn', rfl, ?_⟩
          simp only [q0, q1, q2, q3, q4, q5, q6, q7, q8, q9, zq0, zq1, zq2, zq3, zq4, guardSlot, quietA, nilC, nilA, quietB, St.ev, St.put, St.after, Nat.reduceAdd, Nat.reduceSub, ofV, ofL, lenA, binA, intBin, fltBin, strBin, cpxBin, unA, convA, convB, convO, pickV, resL, oneA, indexA, indexS, isQuiet, loadA, loadC, storeA, fieldA, partA, sliceA, boundA, buildA, placeA, setAll, appendA, readSl, newEl, AV.cells, AV.solid, AV.one, kill, killM, killL, notInt, Int.reduceToNat, cond_true, cond_false, ↓reduceIte, reduceCtorEq, Nat.reduceLT, Nat.reduceLeDiff, Nat.reduceMul, Nat.reduceEqDiff, exists_eq', putF, implies_true, exists_true_left, tys0, tys1, tys2, tys3, tys4, und0, und1, und2, und3, md63, Try.ntmps63, Try.results63, sclB, minA]
          obtain ⟨f1, f2, f3, f4⟩ := fin (if bs[i + 1] < c then bs[i + 1] else c) (by rw [en]; rfl) (by split <;> omega) (by split <;> omega)
          generalize (if bs[i + 1] < c then bs[i + 1] else c) = to at f1 f2 f3 ⊢
          refine ⟨hi2, ⟨i + 1, by omega, f4⟩, by show bs.length - (i + 1) < _; omega, ?_⟩
          exact weak_drop (by simp) (by simp [DropHp, ints_below, flts_below, f1, f2, f3, ei, sclB, allBelow_cons, allBelow_nil, below, belowM, belowL]) (by simp [DropTm, DropV, below, belowM, belowL, f1, f2, f3, ei, sclB, allBelow_cons, allBelow_nil, below, belowM, belowL])
        · have hn' : i + 1 = bs.length := by have := of_decide_eq_false hn; omega
          have en : bs.drop (i + 1) = [] := List.drop_of_length_le (by omega)
          obtain ⟨f1, f2, f3, f4⟩ := fin c (by rw [en]; rfl) (by omega) (by omega)
          refine ⟨by omega, ⟨i + 1, by omega, f4⟩, by show bs.length - (i + 1) < _; omega, ?_⟩
          exact weak_drop (by simp) (by simp [DropHp, ints_below, flts_below, f1, f2, f3, ei, sclB, allBelow_cons, allBelow_nil, below, belowM, belowL]) (by simp [DropTm, DropV, below, belowM, belowL, f1, f2, f3, ei, sclB, allBelow_cons, allBelow_nil, below, belowM, belowL])
    · have hi' : i = bs.length := by simp at h; omega
      subst hi'
      exact PostR.pure ⟨by rw [List.drop_length]; simp [exF], rfl⟩ rfl
end Go.Proofs.Ytdlddnnnfjnabaa
