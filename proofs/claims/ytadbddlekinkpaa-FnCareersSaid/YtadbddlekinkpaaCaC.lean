/- Numbers chosen by bytes; months that spans have.-/
import Derived.Test.YtadbddlekinkpaaTsD
import Derived.Test.YtadbddlekinkpaaMathS
import Derived.IntWalk
import Derived.Test.YtadbddlekinkpaaCaA
import Derived.Test.YtadbddlekinkpaaCaB
import Derived.Test.YtadbddlekinkpaaAbsM3
set_option maxRecDepth 10000
set_option maxHeartbeats 4000000
set_option linter.unusedSimpArgs false
set_option linter.unusedVariables false
namespace Go.Proofs.Ytadbddlekinkpaa
open Go Go.Abs

theorem tdiv_nn {a b : Int} (ha : 0 ≤ a) : a.tdiv b = a / b := Int.tdiv_eq_ediv_of_nonneg ha
theorem tmod_nn {a b : Int} (ha : 0 ≤ a) : a.tmod b = a % b := Int.tmod_eq_emod_of_nonneg ha

theorem rounded_call (a b w : Int) (ha : 0 ≤ a) (ha2 : a ≤ 4000000000000000000) (hb : 0 < b) (hb2 : b ≤ 4000000000000000000) (h0 : 0 ≤ w) (h3 : w ≤ 3) : CallA Try.prog 31 [.int .i64 a, .int .i64 b, .int .i64 w] [] (Ret (.int .i64 (rnd a b w)) []) := by
  have m1 := Int.emod_nonneg a (show b ≠ 0 by omega)
  have m2 := Int.emod_lt_of_pos a hb
  have d1 : 0 ≤ a / b := Int.ediv_nonneg ha (by omega)
  have d2 : a / b ≤ a := Int.ediv_le_self b ha
  have e1 : IntKind.i64.wrap (a.tdiv b) = a / b := by rw [tdiv_nn ha, w64 (by omega) (by omega)]
  have e2 : a.tmod b = a % b := tmod_nn ha
  have e3 : IntKind.i64.wrap (b - a % b) = b - a % b := w64 (by omega) (by omega)
  have e4 : (a / b).tmod 2 = a / b % 2 := tmod_nn d1
  have e5 : IntKind.i64.wrap (a / b + 1) = a / b + 1 := w64 (by omega) (by omega)
  have hb' : b ≠ 0 := by omega
  rcases ways h0 h3 with rfl | rfl | rfl | rfl
  all_goals
    refine CallP.out (t := .mk) (go_in (md := md31) mixed Try.func31 rfl go31 (by kernel_rfl) ?_)
    simp only [q0, q1, q2, q3, q4, q5, q6, q7, q8, q9, zq0, zq1, zq2, zq3, guardSlot, quietA, nilC, nilA, quietB, St.ev, St.put, St.after, Nat.reduceAdd, Nat.reduceSub, List.replicate_succ, ofV, ofL, lenA, binA, intBin, fltBin, strBin, cpxBin, unA, convA, convB, convO, pickV, resL, oneA, indexA, indexS, isQuiet, loadA, loadC, storeA, fieldA, partA, sliceA, boundA, buildA, placeA, setAll, appendA, readSl, newEl, AV.cells, AV.solid, AV.one, kill, killM, killL, notInt, Int.reduceToNat, cond_true, cond_false, ↓reduceIte, reduceCtorEq, Nat.reduceLT, Nat.reduceLeDiff, Nat.reduceMul, Nat.reduceEqDiff, exists_eq', putF, implies_true, exists_true_left, tys0, tys1, tys2, tys3, und0, und1, und2, md31, Try.ntmps31, Try.results31, e1, e2, e3, e4, e5, Int.reduceLT, Int.reduceLE, Int.reduceNeg, Int.reduceEq, Int.reduceGT, Int.reduceGE, decide_true, decide_false, beq_self_eq_true, bne_self_eq_false, Int.reduceBEq, Int.reduceBNe, Int.reduceAdd, Int.reduceSub]
    refine ⟨hb', hb', ?_⟩
  · exact PostR.pure ⟨by rw [rnd0], rfl⟩ rfl
  · refine br_intro (fun h => ?_) (fun h => ?_) <;> simp only [q0, q1, q2, q3, q4, q5, q6, q7, q8, q9, zq0, zq1, zq2, zq3, guardSlot, quietA, nilC, nilA, quietB, St.ev, St.put, St.after, Nat.reduceAdd, Nat.reduceSub, List.replicate_succ, ofV, ofL, lenA, binA, intBin, fltBin, strBin, cpxBin, unA, convA, convB, convO, pickV, resL, oneA, indexA, indexS, isQuiet, loadA, loadC, storeA, fieldA, partA, sliceA, boundA, buildA, placeA, setAll, appendA, readSl, newEl, AV.cells, AV.solid, AV.one, kill, killM, killL, notInt, Int.reduceToNat, cond_true, cond_false, ↓reduceIte, reduceCtorEq, Nat.reduceLT, Nat.reduceLeDiff, Nat.reduceMul, Nat.reduceEqDiff, exists_eq', putF, implies_true, exists_true_left, tys0, tys1, tys2, tys3, und0, und1, und2, md31, Try.ntmps31, Try.results31, e5]
    · have h' := of_decide_eq_true h
      exact PostR.pure ⟨by rw [rnd1, if_pos h'], rfl⟩ rfl
    · have h' := of_decide_eq_false h
      exact PostR.pure ⟨by rw [rnd1, if_neg h']; simp, rfl⟩ rfl
  · refine br_intro (fun h => ?_) (fun h => ?_) <;> simp only [q0, q1, q2, q3, q4, q5, q6, q7, q8, q9, zq0, zq1, zq2, zq3, guardSlot, quietA, nilC, nilA, quietB, St.ev, St.put, St.after, Nat.reduceAdd, Nat.reduceSub, List.replicate_succ, ofV, ofL, lenA, binA, intBin, fltBin, strBin, cpxBin, unA, convA, convB, convO, pickV, resL, oneA, indexA, indexS, isQuiet, loadA, loadC, storeA, fieldA, partA, sliceA, boundA, buildA, placeA, setAll, appendA, readSl, newEl, AV.cells, AV.solid, AV.one, kill, killM, killL, notInt, Int.reduceToNat, cond_true, cond_false, ↓reduceIte, reduceCtorEq, Nat.reduceLT, Nat.reduceLeDiff, Nat.reduceMul, Nat.reduceEqDiff, exists_eq', putF, implies_true, exists_true_left, tys0, tys1, tys2, tys3, und0, und1, und2, md31, Try.ntmps31, Try.results31, e3, e4, e5, Int.reduceLT, Int.reduceLE, Int.reduceNeg, Int.reduceEq, Int.reduceGT, Int.reduceGE, decide_true, decide_false, beq_self_eq_true, bne_self_eq_false, Int.reduceBEq, Int.reduceBNe, Int.reduceAdd, Int.reduceSub]
    · have h' := of_decide_eq_true h
      exact PostR.pure ⟨by rw [rnd2, if_pos (Or.inl h')], rfl⟩ rfl
    · have h' := of_decide_eq_false h
      refine br_intro (fun g => ?_) (fun g => ?_) <;> simp only [q0, q1, q2, q3, q4, q5, q6, q7, q8, q9, zq0, zq1, zq2, zq3, guardSlot, quietA, nilC, nilA, quietB, St.ev, St.put, St.after, Nat.reduceAdd, Nat.reduceSub, List.replicate_succ, ofV, ofL, lenA, binA, intBin, fltBin, strBin, cpxBin, unA, convA, convB, convO, pickV, resL, oneA, indexA, indexS, isQuiet, loadA, loadC, storeA, fieldA, partA, sliceA, boundA, buildA, placeA, setAll, appendA, readSl, newEl, AV.cells, AV.solid, AV.one, kill, killM, killL, notInt, Int.reduceToNat, cond_true, cond_false, ↓reduceIte, reduceCtorEq, Nat.reduceLT, Nat.reduceLeDiff, Nat.reduceMul, Nat.reduceEqDiff, exists_eq', putF, implies_true, exists_true_left, tys0, tys1, tys2, tys3, und0, und1, und2, md31, Try.ntmps31, Try.results31, e3, e4, e5, Int.reduceLT, Int.reduceLE, Int.reduceNeg, Int.reduceEq, Int.reduceGT, Int.reduceGE, decide_true, decide_false, beq_self_eq_true, bne_self_eq_false, Int.reduceBEq, Int.reduceBNe, Int.reduceAdd, Int.reduceSub]
      · have g' := eq_of_beq g
        refine ⟨by decide, ?_⟩
        refine br_intro (fun i => ?_) (fun i => ?_) <;> simp only [q0, q1, q2, q3, q4, q5, q6, q7, q8, q9, zq0, zq1, zq2, zq3, guardSlot, quietA, nilC, nilA, quietB, St.ev, St.put, St.after, Nat.reduceAdd, Nat.reduceSub, List.replicate_succ, ofV, ofL, lenA, binA, intBin, fltBin, strBin, cpxBin, unA, convA, convB, convO, pickV, resL, oneA, indexA, indexS, isQuiet, loadA, loadC, storeA, fieldA, partA, sliceA, boundA, buildA, placeA, setAll, appendA, readSl, newEl, AV.cells, AV.solid, AV.one, kill, killM, killL, notInt, Int.reduceToNat, cond_true, cond_false, ↓reduceIte, reduceCtorEq, Nat.reduceLT, Nat.reduceLeDiff, Nat.reduceMul, Nat.reduceEqDiff, exists_eq', putF, implies_true, exists_true_left, tys0, tys1, tys2, tys3, und0, und1, und2, md31, Try.ntmps31, Try.results31, e3, e4, e5, Int.reduceLT, Int.reduceLE, Int.reduceNeg, Int.reduceEq, Int.reduceGT, Int.reduceGE, decide_true, decide_false, beq_self_eq_true, bne_self_eq_false, Int.reduceBEq, Int.reduceBNe, Int.reduceAdd, Int.reduceSub]
        · have i' := eq_of_beq i
          exact PostR.pure ⟨by rw [rnd2, if_pos (Or.inr ⟨g', i'⟩)], rfl⟩ rfl
        · have i' := ne_of_beq_false i
          exact PostR.pure ⟨by rw [rnd2, if_neg (by rintro (x | ⟨_, x⟩); exact h' x; exact i' x)]; simp, rfl⟩ rfl
      · have g' := ne_of_beq_false g
        exact PostR.pure ⟨by rw [rnd2, if_neg (by rintro (x | ⟨x, _⟩); exact h' x; exact g' x)]; simp, rfl⟩ rfl
  · refine br_intro (fun h => ?_) (fun h => ?_) <;> simp only [q0, q1, q2, q3, q4, q5, q6, q7, q8, q9, zq0, zq1, zq2, zq3, guardSlot, quietA, nilC, nilA, quietB, St.ev, St.put, St.after, Nat.reduceAdd, Nat.reduceSub, List.replicate_succ, ofV, ofL, lenA, binA, intBin, fltBin, strBin, cpxBin, unA, convA, convB, convO, pickV, resL, oneA, indexA, indexS, isQuiet, loadA, loadC, storeA, fieldA, partA, sliceA, boundA, buildA, placeA, setAll, appendA, readSl, newEl, AV.cells, AV.solid, AV.one, kill, killM, killL, notInt, Int.reduceToNat, cond_true, cond_false, ↓reduceIte, reduceCtorEq, Nat.reduceLT, Nat.reduceLeDiff, Nat.reduceMul, Nat.reduceEqDiff, exists_eq', putF, implies_true, exists_true_left, tys0, tys1, tys2, tys3, und0, und1, und2, md31, Try.ntmps31, Try.results31, e5]
    · have h' := of_decide_eq_true h
      exact PostR.pure ⟨by rw [rnd3, if_pos h'], rfl⟩ rfl
    · have h' := of_decide_eq_false h
      exact PostR.pure ⟨by rw [rnd3, if_neg h']; simp, rfl⟩ rfl

def byteL (l : List Int) : Prop := ∀ x ∈ l, 0 ≤ x ∧ x ≤ 255
def srcB (code : List Int) (a : Nat) (sd : Int) : Blk := { ty := 61, w := 3, els := [.agg [.ro (kint .u8 code), .int .i64 a, .int .u64 sd]] }
theorem low255 (x : Int) : 0 ≤ IntKind.i64.wrap (IntKind.u64.wrap (((BitVec.ofInt IntKind.u64.bits x &&& BitVec.ofInt IntKind.u64.bits 255).toNat : Nat) : Int)) ∧ IntKind.i64.wrap (IntKind.u64.wrap (((BitVec.ofInt IntKind.u64.bits x &&& BitVec.ofInt IntKind.u64.bits 255).toNat : Nat) : Int)) ≤ 255 := by
  have h : (BitVec.ofInt IntKind.u64.bits x &&& BitVec.ofInt IntKind.u64.bits 255).toNat ≤ 255 := by
    rw [BitVec.toNat_and]
    exact Nat.and_le_right
  generalize (BitVec.ofInt IntKind.u64.bits x &&& BitVec.ofInt IntKind.u64.bits 255).toNat = n at h ⊢
  rw [IntWalk.u64_in _ (by omega), w64 (by omega) (by omega)]
  omega
theorem u8i64 {x : Int} (h : 0 ≤ x ∧ x ≤ 255) : IntKind.i64.wrap x = x := w64 (by omega) (by omega)

theorem next_call (code : List Int) (hc : byteL code) (hl : code.length ≤ 1048576) (a : Nat) (ha : a ≤ 1000000000000) (sd : Int) :
    CallA Try.prog 36 [.ptr 0 0 0] [srcB code a sd] (fun r hp => ∃ n sd' : Int, (0 ≤ n ∧ n ≤ 255) ∧ r = .int .i64 n ∧ hp = [srcB code (a + 1) sd']) := by
  have e1 : IntKind.i64.wrap ((a : Int) + 1) = ((a + 1 : Nat) : Int) := w64_succ a (by omega)
  refine CallP.out (t := .mk) (go_in (md := md36) mixed Try.func36 rfl go36 (by kernel_rfl) ?_)
  simp only [q0, q1, q2, q3, q4, q5, q6, q7, q8, q9, zq0, zq1, zq2, zq3, guardSlot, quietA, nilC, nilA, quietB, St.ev, St.put, St.after, Nat.reduceAdd, Nat.reduceSub, List.replicate_succ, ofV, ofL, lenA, binA, intBin, fltBin, strBin, cpxBin, unA, convA, convB, convO, pickV, resL, oneA, indexA, indexS, isQuiet, loadA, loadC, storeA, fieldA, partA, sliceA, boundA, buildA, placeA, setAll, appendA, readSl, newEl, AV.cells, AV.solid, AV.one, kill, killM, killL, notInt, Int.reduceToNat, cond_true, cond_false, ↓reduceIte, reduceCtorEq, Nat.reduceLT, Nat.reduceLeDiff, Nat.reduceMul, Nat.reduceEqDiff, exists_eq', putF, implies_true, exists_true_left, tys0, tys1, tys2, tys3, und0, und1, und2, md36, Try.ntmps36, Try.results36, srcB, kint_len]
  refine br_intro (fun h => ?_) (fun h => ?_) <;> simp only [q0, q1, q2, q3, q4, q5, q6, q7, q8, q9, zq0, zq1, zq2, zq3, guardSlot, quietA, nilC, nilA, quietB, St.ev, St.put, St.after, Nat.reduceAdd, Nat.reduceSub, List.replicate_succ, ofV, ofL, lenA, binA, intBin, fltBin, strBin, cpxBin, unA, convA, convB, convO, pickV, resL, oneA, indexA, indexS, isQuiet, loadA, loadC, storeA, fieldA, partA, sliceA, boundA, buildA, placeA, setAll, appendA, readSl, newEl, AV.cells, AV.solid, AV.one, kill, killM, killL, notInt, Int.reduceToNat, cond_true, cond_false, ↓reduceIte, reduceCtorEq, Nat.reduceLT, Nat.reduceLeDiff, Nat.reduceMul, Nat.reduceEqDiff, exists_eq', putF, implies_true, exists_true_left, tys0, tys1, tys2, tys3, und0, und1, und2, md36, Try.ntmps36, Try.results36, srcB, kint_len, kint_get, e1]
  · have h' := of_decide_eq_true h
    have hi : a < code.length := by omega
    have b0 := hc code[a] (List.getElem_mem hi)
    refine ⟨hi, ?_⟩
    rw [u8i64 b0]
    refine br_yes (decide_eq_true (by omega)) ?_
    simp only [q0, q1, q2, q3, q4, q5, q6, q7, q8, q9, zq0, zq1, zq2, zq3, guardSlot, quietA, nilC, nilA, quietB, St.ev, St.put, St.after, Nat.reduceAdd, Nat.reduceSub, List.replicate_succ, ofV, ofL, lenA, binA, intBin, fltBin, strBin, cpxBin, unA, convA, convB, convO, pickV, resL, oneA, indexA, indexS, isQuiet, loadA, loadC, storeA, fieldA, partA, sliceA, boundA, buildA, placeA, setAll, appendA, readSl, newEl, AV.cells, AV.solid, AV.one, kill, killM, killL, notInt, Int.reduceToNat, cond_true, cond_false, ↓reduceIte, reduceCtorEq, Nat.reduceLT, Nat.reduceLeDiff, Nat.reduceMul, Nat.reduceEqDiff, exists_eq', putF, implies_true, exists_true_left, tys0, tys1, tys2, tys3, und0, und1, und2, md36, Try.ntmps36, Try.results36, srcB]
    exact PostR.tell [0] (hp2 := [srcB code (a + 1) _]) (by decide) (by decide) (by decide) ⟨⟨rfl, rfl⟩, trivial⟩ rfl rfl ⟨code[a], _, b0, rfl, rfl⟩
  · have h' := of_decide_eq_false h
    refine br_no (decide_eq_false (by omega)) ?_
    simp only [q0, q1, q2, q3, q4, q5, q6, q7, q8, q9, zq0, zq1, zq2, zq3, guardSlot, quietA, nilC, nilA, quietB, St.ev, St.put, St.after, Nat.reduceAdd, Nat.reduceSub, List.replicate_succ, ofV, ofL, lenA, binA, intBin, fltBin, strBin, cpxBin, unA, convA, convB, convO, pickV, resL, oneA, indexA, indexS, isQuiet, loadA, loadC, storeA, fieldA, partA, sliceA, boundA, buildA, placeA, setAll, appendA, readSl, newEl, AV.cells, AV.solid, AV.one, kill, killM, killL, notInt, Int.reduceToNat, cond_true, cond_false, ↓reduceIte, reduceCtorEq, Nat.reduceLT, Nat.reduceLeDiff, Nat.reduceMul, Nat.reduceEqDiff, exists_eq', putF, implies_true, exists_true_left, tys0, tys1, tys2, tys3, und0, und1, und2, md36, Try.ntmps36, Try.results36, srcB, Int.reduceLT, Int.reduceLE, Int.reduceNeg, Int.reduceEq, Int.reduceGT, Int.reduceGE, decide_true, decide_false, beq_self_eq_true, bne_self_eq_false, Int.reduceBEq, Int.reduceBNe, Int.reduceAdd, Int.reduceSub]
    exact PostR.tell [0] (hp2 := [srcB code (a + 1) _]) (by decide) (by decide) (by decide) ⟨⟨rfl, rfl⟩, trivial⟩ rfl rfl ⟨_, _, low255 _, rfl, rfl⟩

theorem pick_call (code : List Int) (hc : byteL code) (hl : code.length ≤ 1048576) (a : Nat) (ha : a ≤ 1000000000) (sd : Int) (m : Int) (h1 : 1 ≤ m) (h2 : m ≤ 1000000) :
    CallA Try.prog 22 [.ptr 0 0 0, .int .i64 m] [srcB code a sd] (fun r hp => ∃ (x : Int) (a' : Nat) (sd' : Int), (0 ≤ x ∧ x < m) ∧ a' ≤ a + 2 ∧ r = .int .i64 x ∧ hp = [srcB code a' sd']) := by
  refine CallP.out (t := .mk) (go_in (md := md22) mixed Try.func22 rfl go22 (by kernel_rfl) ?_)
  simp only [q0, q1, q2, q3, q4, q5, q6, q7, q8, q9, zq0, zq1, zq2, zq3, guardSlot, quietA, nilC, nilA, quietB, St.ev, St.put, St.after, Nat.reduceAdd, Nat.reduceSub, List.replicate_succ, ofV, ofL, lenA, binA, intBin, fltBin, strBin, cpxBin, unA, convA, convB, convO, pickV, resL, oneA, indexA, indexS, isQuiet, loadA, loadC, storeA, fieldA, partA, sliceA, boundA, buildA, placeA, setAll, appendA, readSl, newEl, AV.cells, AV.solid, AV.one, kill, killM, killL, notInt, Int.reduceToNat, cond_true, cond_false, ↓reduceIte, reduceCtorEq, Nat.reduceLT, Nat.reduceLeDiff, Nat.reduceMul, Nat.reduceEqDiff, exists_eq', putF, implies_true, exists_true_left, tys0, tys1, tys2, tys3, und0, und1, und2, md22, Try.ntmps22, Try.results22]
  refine br_intro (fun h => ?_) (fun h => ?_) <;> simp only [q0, q1, q2, q3, q4, q5, q6, q7, q8, q9, zq0, zq1, zq2, zq3, guardSlot, quietA, nilC, nilA, quietB, St.ev, St.put, St.after, Nat.reduceAdd, Nat.reduceSub, List.replicate_succ, ofV, ofL, lenA, binA, intBin, fltBin, strBin, cpxBin, unA, convA, convB, convO, pickV, resL, oneA, indexA, indexS, isQuiet, loadA, loadC, storeA, fieldA, partA, sliceA, boundA, buildA, placeA, setAll, appendA, readSl, newEl, AV.cells, AV.solid, AV.one, kill, killM, killL, notInt, Int.reduceToNat, cond_true, cond_false, ↓reduceIte, reduceCtorEq, Nat.reduceLT, Nat.reduceLeDiff, Nat.reduceMul, Nat.reduceEqDiff, exists_eq', putF, implies_true, exists_true_left, tys0, tys1, tys2, tys3, und0, und1, und2, md22, Try.ntmps22, Try.results22]
  · have h' := of_decide_eq_true h
    exact PostR.tell [0] (hp2 := [srcB code a sd]) (by decide) (by decide) (by decide) ⟨⟨rfl, rfl⟩, trivial⟩ rfl rfl ⟨0, a, sd, by omega, by omega, rfl, rfl⟩
  · have h' := of_decide_eq_false h
    refine call_by (next_call code hc hl a (by omega) sd) ?_
    rintro r hp' ⟨n, sd', hn, rfl, rfl⟩
    simp only [q0, q1, q2, q3, q4, q5, q6, q7, q8, q9, zq0, zq1, zq2, zq3, guardSlot, quietA, nilC, nilA, quietB, St.ev, St.put, St.after, Nat.reduceAdd, Nat.reduceSub, List.replicate_succ, ofV, ofL, lenA, binA, intBin, fltBin, strBin, cpxBin, unA, convA, convB, convO, pickV, resL, oneA, indexA, indexS, isQuiet, loadA, loadC, storeA, fieldA, partA, sliceA, boundA, buildA, placeA, setAll, appendA, readSl, newEl, AV.cells, AV.solid, AV.one, kill, killM, killL, notInt, Int.reduceToNat, cond_true, cond_false, ↓reduceIte, reduceCtorEq, Nat.reduceLT, Nat.reduceLeDiff, Nat.reduceMul, Nat.reduceEqDiff, exists_eq', putF, implies_true, exists_true_left, tys0, tys1, tys2, tys3, und0, und1, und2, md22, Try.ntmps22, Try.results22]
    refine br_intro (fun g => ?_) (fun g => ?_) <;> simp only [q0, q1, q2, q3, q4, q5, q6, q7, q8, q9, zq0, zq1, zq2, zq3, guardSlot, quietA, nilC, nilA, quietB, St.ev, St.put, St.after, Nat.reduceAdd, Nat.reduceSub, List.replicate_succ, ofV, ofL, lenA, binA, intBin, fltBin, strBin, cpxBin, unA, convA, convB, convO, pickV, resL, oneA, indexA, indexS, isQuiet, loadA, loadC, storeA, fieldA, partA, sliceA, boundA, buildA, placeA, setAll, appendA, readSl, newEl, AV.cells, AV.solid, AV.one, kill, killM, killL, notInt, Int.reduceToNat, cond_true, cond_false, ↓reduceIte, reduceCtorEq, Nat.reduceLT, Nat.reduceLeDiff, Nat.reduceMul, Nat.reduceEqDiff, exists_eq', putF, implies_true, exists_true_left, tys0, tys1, tys2, tys3, und0, und1, und2, md22, Try.ntmps22, Try.results22]
    · refine call_by (next_call code hc hl (a + 1) (by omega) sd') ?_
      rintro r hp' ⟨k, sd2, hk, rfl, rfl⟩
      have e1 : IntKind.i64.wrap (n * 256) = n * 256 := w64 (by omega) (by omega)
      have e2 : IntKind.i64.wrap (n * 256 + k) = n * 256 + k := w64 (by omega) (by omega)
      have e3 : (n * 256 + k).tmod m = (n * 256 + k) % m := Int.tmod_eq_emod_of_nonneg (by omega)
      have b1 := Int.emod_nonneg (n * 256 + k) (show m ≠ 0 by omega)
      have b2 := Int.emod_lt_of_pos (n * 256 + k) (show 0 < m by omega)
      simp only [q0, q1, q2, q3, q4, q5, q6, q7, q8, q9, zq0, zq1, zq2, zq3, guardSlot, quietA, nilC, nilA, quietB, St.ev, St.put, St.after, Nat.reduceAdd, Nat.reduceSub, List.replicate_succ, ofV, ofL, lenA, binA, intBin, fltBin, strBin, cpxBin, unA, convA, convB, convO, pickV, resL, oneA, indexA, indexS, isQuiet, loadA, loadC, storeA, fieldA, partA, sliceA, boundA, buildA, placeA, setAll, appendA, readSl, newEl, AV.cells, AV.solid, AV.one, kill, killM, killL, notInt, Int.reduceToNat, cond_true, cond_false, ↓reduceIte, reduceCtorEq, Nat.reduceLT, Nat.reduceLeDiff, Nat.reduceMul, Nat.reduceEqDiff, exists_eq', putF, implies_true, exists_true_left, tys0, tys1, tys2, tys3, und0, und1, und2, md22, Try.ntmps22, Try.results22, e1, e2, e3]
      exact ⟨by omega, PostR.tell [0] (hp2 := [srcB code (a + 1 + 1) sd2]) (by decide) (by decide) (by decide) ⟨⟨rfl, rfl⟩, trivial⟩ rfl rfl ⟨_, a + 1 + 1, sd2, ⟨b1, b2⟩, by omega, rfl, rfl⟩⟩
    · have e3 : n.tmod m = n % m := Int.tmod_eq_emod_of_nonneg (by omega)
      have b1 := Int.emod_nonneg n (show m ≠ 0 by omega)
      have b2 := Int.emod_lt_of_pos n (show 0 < m by omega)
      refine ⟨by omega, ?_⟩
      rw [e3]
      exact PostR.tell [0] (hp2 := [srcB code (a + 1) sd']) (by decide) (by decide) (by decide) ⟨⟨rfl, rfl⟩, trivial⟩ rfl rfl ⟨_, a + 1, sd', ⟨b1, b2⟩, by omega, rfl, rfl⟩

theorem l00From_call (code : List Int) : CallA Try.prog 21 [.ro (kint .u8 code)] [] (Ret (.ptr 0 0 0) [srcB code 0 0]) := by
  refine CallP.out (t := .mk) (go_in (md := md21) mixed Try.func21 rfl go21 (by kernel_rfl) ?_)
  simp only [q0, q1, q2, q3, q4, q5, q6, q7, q8, q9, zq0, zq1, zq2, zq3, guardSlot, quietA, nilC, nilA, quietB, St.ev, St.put, St.after, Nat.reduceAdd, Nat.reduceSub, List.replicate_succ, ofV, ofL, lenA, binA, intBin, fltBin, strBin, cpxBin, unA, convA, convB, convO, pickV, resL, oneA, indexA, indexS, isQuiet, loadA, loadC, storeA, fieldA, partA, sliceA, boundA, buildA, placeA, setAll, appendA, readSl, newEl, AV.cells, AV.solid, AV.one, kill, killM, killL, notInt, Int.reduceToNat, cond_true, cond_false, ↓reduceIte, reduceCtorEq, Nat.reduceLT, Nat.reduceLeDiff, Nat.reduceMul, Nat.reduceEqDiff, exists_eq', putF, implies_true, exists_true_left, tys0, tys1, tys2, tys3, und0, und1, und2, md21, Try.ntmps21, Try.results21]
  exact PostR.tell [0] (hp2 := [srcB code 0 0]) (by decide) (by decide) (by decide) ⟨⟨rfl, rfl⟩, trivial⟩ rfl rfl ⟨rfl, rfl⟩
theorem srcB_below (N : Nat) (code : List Int) (a : Nat) (sd : Int) : allBelow N (srcB code a sd).els = true := rfl
theorem srcB_kill (code : List Int) (a : Nat) (sd : Int) (b : Nat) : ({ ty := (srcB code a sd).ty, w := (srcB code a sd).w, els := List.map (kill b) (srcB code a sd).els, live := (srcB code a sd).live } : Blk) = srcB code a sd := rfl
theorem pick_at {code : List Int} (hc : byteL code) (hl : code.length ≤ 1048576) {a : Nat} (ha : a ≤ 1000000000) {sd : Int} {m : Int} (h1 : 1 ≤ m) (h2 : m ≤ 1000000) {rest : List Blk} {Q : AV → List Blk → Prop} {t : Tok Q}
    (hQ : ∀ (x : Int) (a' : Nat) (sd' : Int), (0 ≤ x ∧ x < m) → a' ≤ a + 2 → Q (.int .i64 x) (srcB code a' sd' :: rest)) : CallP Try.prog 22 [.ptr 0 0 0, .int .i64 m] (srcB code a sd :: rest) Q t := by
  refine call_handedQ [0] (pick_call code hc hl a ha sd m h1 h2) (by decide) ⟨⟨rfl, rfl⟩, trivial⟩ rfl rfl ?_
  rintro r hps' ⟨x, a', sd', hx, ha', rfl, rfl⟩
  refine ⟨by intro q hq; simp at hq; subst hq; rfl, ?_⟩
  have := hQ x a' sd' hx ha'
  simpa [putF, ren, renM, renL] using this
def at8 (l : List Int) (k n : Int) : Int := if n ≤ 1 ∨ (l.length : Int) ≤ k then 0 else l.getD k.toNat 0 % n
theorem at8_low {l : List Int} {k n : Int} (hn : 1 ≤ n) : 0 ≤ at8 l k n ∧ at8 l k n < n := by
  unfold at8
  split
  · omega
  · have h1 := Int.emod_nonneg (l.getD k.toNat 0) (show n ≠ 0 by omega)
    have h2 := Int.emod_lt_of_pos (l.getD k.toNat 0) (show 0 < n by omega)
    omega
theorem r8At_call (l : List Int) (hc : byteL l) (hl : l.length ≤ 1048576) (k n : Int) (hk : 0 ≤ k) (hk2 : k ≤ 1000000000) : CallA Try.prog 5 [.ro (kint .u8 l), .int .i64 k, .int .i64 n] [] (Ret (.int .i64 (at8 l k n)) []) := by
  refine CallP.out (t := .mk) (go_in (md := md5) mixed Try.func5 rfl go5 (by kernel_rfl) ?_)
  simp only [q0, q1, q2, q3, q4, q5, q6, q7, q8, q9, zq0, zq1, zq2, zq3, guardSlot, quietA, nilC, nilA, quietB, St.ev, St.put, St.after, Nat.reduceAdd, Nat.reduceSub, List.replicate_succ, ofV, ofL, lenA, binA, intBin, fltBin, strBin, cpxBin, unA, convA, convB, convO, pickV, resL, oneA, indexA, indexS, isQuiet, loadA, loadC, storeA, fieldA, partA, sliceA, boundA, buildA, placeA, setAll, appendA, readSl, newEl, AV.cells, AV.solid, AV.one, kill, killM, killL, notInt, Int.reduceToNat, cond_true, cond_false, ↓reduceIte, reduceCtorEq, Nat.reduceLT, Nat.reduceLeDiff, Nat.reduceMul, Nat.reduceEqDiff, exists_eq', putF, implies_true, exists_true_left, tys0, tys1, tys2, tys3, und0, und1, und2, md5, Try.ntmps5, Try.results5, kint_len]
  refine br_intro (fun h => ?_) (fun h => ?_) <;> simp only [q0, q1, q2, q3, q4, q5, q6, q7, q8, q9, zq0, zq1, zq2, zq3, guardSlot, quietA, nilC, nilA, quietB, St.ev, St.put, St.after, Nat.reduceAdd, Nat.reduceSub, List.replicate_succ, ofV, ofL, lenA, binA, intBin, fltBin, strBin, cpxBin, unA, convA, convB, convO, pickV, resL, oneA, indexA, indexS, isQuiet, loadA, loadC, storeA, fieldA, partA, sliceA, boundA, buildA, placeA, setAll, appendA, readSl, newEl, AV.cells, AV.solid, AV.one, kill, killM, killL, notInt, Int.reduceToNat, cond_true, cond_false, ↓reduceIte, reduceCtorEq, Nat.reduceLT, Nat.reduceLeDiff, Nat.reduceMul, Nat.reduceEqDiff, exists_eq', putF, implies_true, exists_true_left, tys0, tys1, tys2, tys3, und0, und1, und2, md5, Try.ntmps5, Try.results5, kint_len]
  · exact PostR.pure ⟨by rw [at8, if_pos (.inl (of_decide_eq_true h))], rfl⟩ rfl
  · have h' := of_decide_eq_false h
    refine br_intro (fun g => ?_) (fun g => ?_) <;> simp only [q0, q1, q2, q3, q4, q5, q6, q7, q8, q9, zq0, zq1, zq2, zq3, guardSlot, quietA, nilC, nilA, quietB, St.ev, St.put, St.after, Nat.reduceAdd, Nat.reduceSub, List.replicate_succ, ofV, ofL, lenA, binA, intBin, fltBin, strBin, cpxBin, unA, convA, convB, convO, pickV, resL, oneA, indexA, indexS, isQuiet, loadA, loadC, storeA, fieldA, partA, sliceA, boundA, buildA, placeA, setAll, appendA, readSl, newEl, AV.cells, AV.solid, AV.one, kill, killM, killL, notInt, Int.reduceToNat, cond_true, cond_false, ↓reduceIte, reduceCtorEq, Nat.reduceLT, Nat.reduceLeDiff, Nat.reduceMul, Nat.reduceEqDiff, exists_eq', putF, implies_true, exists_true_left, tys0, tys1, tys2, tys3, und0, und1, und2, md5, Try.ntmps5, Try.results5, kint_len, kint_get]
    · exact PostR.pure ⟨by rw [at8, if_pos (.inr (of_decide_eq_true g))], rfl⟩ rfl
    · have g' := of_decide_eq_false g
      have hi : k.toNat < l.length := by omega
      have b0 := hc l[k.toNat] (List.getElem_mem hi)
      have e1 : (l[k.toNat]).tmod n = l[k.toNat] % n := Int.tmod_eq_emod_of_nonneg b0.1
      refine ⟨hk, hi, ?_⟩
      rw [u8i64 b0]
      refine ⟨by omega, ?_⟩
      rw [e1]
      exact PostR.pure ⟨by rw [at8, if_neg (by omega), getD_at l 0 _ hi], rfl⟩ rfl
theorem r8Long_call (l m : List Int) : CallA Try.prog 4 [.ro (kint .u8 l), .ro (kint .u8 m)] [] (Ret (.bool (decide (48 < (l.length : Int)) || decide (48 < (m.length : Int)))) []) := by
  refine CallP.out (t := .mk) (go_in (md := md4) mixed Try.func4 rfl go4 (by kernel_rfl) ?_)
  simp only [q0, q1, q2, q3, q4, q5, q6, q7, q8, q9, zq0, zq1, zq2, zq3, guardSlot, quietA, nilC, nilA, quietB, St.ev, St.put, St.after, Nat.reduceAdd, Nat.reduceSub, List.replicate_succ, ofV, ofL, lenA, binA, intBin, fltBin, strBin, cpxBin, unA, convA, convB, convO, pickV, resL, oneA, indexA, indexS, isQuiet, loadA, loadC, storeA, fieldA, partA, sliceA, boundA, buildA, placeA, setAll, appendA, readSl, newEl, AV.cells, AV.solid, AV.one, kill, killM, killL, notInt, Int.reduceToNat, cond_true, cond_false, ↓reduceIte, reduceCtorEq, Nat.reduceLT, Nat.reduceLeDiff, Nat.reduceMul, Nat.reduceEqDiff, exists_eq', putF, implies_true, exists_true_left, tys0, tys1, tys2, tys3, und0, und1, und2, md4, Try.ntmps4, Try.results4, kint_len]
  refine br_intro (fun h => ?_) (fun h => ?_) <;> simp only [q0, q1, q2, q3, q4, q5, q6, q7, q8, q9, zq0, zq1, zq2, zq3, guardSlot, quietA, nilC, nilA, quietB, St.ev, St.put, St.after, Nat.reduceAdd, Nat.reduceSub, List.replicate_succ, ofV, ofL, lenA, binA, intBin, fltBin, strBin, cpxBin, unA, convA, convB, convO, pickV, resL, oneA, indexA, indexS, isQuiet, loadA, loadC, storeA, fieldA, partA, sliceA, boundA, buildA, placeA, setAll, appendA, readSl, newEl, AV.cells, AV.solid, AV.one, kill, killM, killL, notInt, Int.reduceToNat, cond_true, cond_false, ↓reduceIte, reduceCtorEq, Nat.reduceLT, Nat.reduceLeDiff, Nat.reduceMul, Nat.reduceEqDiff, exists_eq', putF, implies_true, exists_true_left, tys0, tys1, tys2, tys3, und0, und1, und2, md4, Try.ntmps4, Try.results4, kint_len]
  · exact PostR.pure ⟨by rw [h]; rfl, rfl⟩ rfl
  · exact PostR.pure ⟨by rw [h]; rfl, rfl⟩ rfl
def intB (xs : List Int) : Blk := { ty := 2, w := 1, els := ints xs }
structure DrB (n : Nat) (most : Int) (xs : List Int) (a : Nat) : Prop where
  len : xs.length ≤ n
  ok : ∀ x ∈ xs, 0 ≤ x ∧ x < most
  at_ : a ≤ 2 * xs.length
theorem DrB.next {n : Nat} {most : Int} {xs : List Int} {a a' : Nat} {x : Int} (D : DrB n most xs a) (hl : xs.length < n) (hx : 0 ≤ x ∧ x < most) (ha : a' ≤ a + 2) : DrB n most (xs ++ [x]) a' :=
  ⟨by simp; omega, fun y hy => by
    rcases List.mem_append.1 hy with h | h
    · exact D.ok y h
    · rw [List.mem_singleton.1 h]; exact hx, by have := D.at_; simp; omega⟩
theorem below0_call (code : List Int) (hc : byteL code) (hl : code.length ≤ 1048576) (n : Nat) (hn : n ≤ 1000) (most : Int) (h1 : 1 ≤ most) (h2 : most ≤ 1000000) :
    CallA Try.prog 9 [.ro (kint .u8 code), .int .i64 n, .int .i64 most] [] (fun r hp => ∃ xs : List Int, xs.length = n ∧ (∀ x ∈ xs, 0 ≤ x ∧ x < most) ∧ r = .sl 0 0 n ∧ hp = [intB xs]) := by
  refine CallP.out (t := .mk) (go_in (md := md9) mixed Try.func9 rfl go9 (by kernel_rfl) ?_)
  simp only [q0, q1, q2, q3, q4, q5, q6, q7, q8, q9, zq0, zq1, zq2, zq3, guardSlot, quietA, nilC, nilA, quietB, St.ev, St.put, St.after, Nat.reduceAdd, Nat.reduceSub, List.replicate_succ, ofV, ofL, lenA, binA, intBin, fltBin, strBin, cpxBin, unA, convA, convB, convO, pickV, resL, oneA, indexA, indexS, isQuiet, loadA, loadC, storeA, fieldA, partA, sliceA, boundA, buildA, placeA, setAll, appendA, readSl, newEl, AV.cells, AV.solid, AV.one, kill, killM, killL, notInt, Int.reduceToNat, cond_true, cond_false, ↓reduceIte, reduceCtorEq, Nat.reduceLT, Nat.reduceLeDiff, Nat.reduceMul, Nat.reduceEqDiff, exists_eq', putF, implies_true, exists_true_left, tys0, tys1, tys2, tys3, und0, und1, und2, md9, Try.ntmps9, Try.results9]
  refine call_new (l00From_call code) rfl (by intro q hq; simp at hq; subst hq; rfl) ?_
  simp only [q0, q1, q2, q3, q4, q5, q6, q7, q8, q9, zq0, zq1, zq2, zq3, guardSlot, quietA, nilC, nilA, quietB, St.ev, St.put, St.after, Nat.reduceAdd, Nat.reduceSub, List.replicate_succ, ofV, ofL, lenA, binA, intBin, fltBin, strBin, cpxBin, unA, convA, convB, convO, pickV, resL, oneA, indexA, indexS, isQuiet, loadA, loadC, storeA, fieldA, partA, sliceA, boundA, buildA, placeA, setAll, appendA, readSl, newEl, AV.cells, AV.solid, AV.one, kill, killM, killL, notInt, Int.reduceToNat, cond_true, cond_false, ↓reduceIte, reduceCtorEq, Nat.reduceLT, Nat.reduceLeDiff, Nat.reduceMul, Nat.reduceEqDiff, exists_eq', putF, implies_true, exists_true_left, tys0, tys1, tys2, tys3, und0, und1, und2, md9, Try.ntmps9, Try.results9, ren, renM, renL]
  refine go_round (md := md9) mixed (by kernel_rfl) (fun p : {p : List Int × Nat × Int // DrB n most p.1 p.2.1} => ⟨[.any, .int .i64 ((n : Int) - p.1.1.length), .int .i64 most, .any, .any, .any, .any, .ptr 0 0 0, .sl 1 0 p.1.1.length, .any, .any, .any, .any, .any, .any, .any, .any, .any, .any, .any, .any, .any, .any, .any, .any], [srcB code p.1.2.1 p.1.2.2, intB p.1.1]⟩) (fun p => n - p.1.1.length) ⟨([], 0, 0), ⟨by simp, by simp, by simp⟩⟩ ?_ ?_
  · exact weak_drop (by simp) (by simp [DropHp, ints_below, flts_below, srcB_below, intB, ints, allBelow_cons, allBelow_nil, below, belowM, belowL]) (by simp [DropTm, DropV, below, belowM, belowL, srcB_below, intB, ints, allBelow_cons, allBelow_nil, below, belowM, belowL])
  rintro ⟨⟨xs, a, sd⟩, D⟩
  have D1 := D.len
  have D2 := D.at_
  simp only [] at D1 D2
  simp only [q0, q1, q2, q3, q4, q5, q6, q7, q8, q9, zq0, zq1, zq2, zq3, guardSlot, quietA, nilC, nilA, quietB, St.ev, St.put, St.after, Nat.reduceAdd, Nat.reduceSub, List.replicate_succ, ofV, ofL, lenA, binA, intBin, fltBin, strBin, cpxBin, unA, convA, convB, convO, pickV, resL, oneA, indexA, indexS, isQuiet, loadA, loadC, storeA, fieldA, partA, sliceA, boundA, buildA, placeA, setAll, appendA, readSl, newEl, AV.cells, AV.solid, AV.one, kill, killM, killL, notInt, Int.reduceToNat, cond_true, cond_false, ↓reduceIte, reduceCtorEq, Nat.reduceLT, Nat.reduceLeDiff, Nat.reduceMul, Nat.reduceEqDiff, exists_eq', putF, implies_true, exists_true_left, tys0, tys1, tys2, tys3, und0, und1, und2, md9, Try.ntmps9, Try.results9, intB, ints_len]
  refine br_intro (fun g => ?_) (fun g => ?_) <;> simp only [q0, q1, q2, q3, q4, q5, q6, q7, q8, q9, zq0, zq1, zq2, zq3, guardSlot, quietA, nilC, nilA, quietB, St.ev, St.put, St.after, Nat.reduceAdd, Nat.reduceSub, List.replicate_succ, ofV, ofL, lenA, binA, intBin, fltBin, strBin, cpxBin, unA, convA, convB, convO, pickV, resL, oneA, indexA, indexS, isQuiet, loadA, loadC, storeA, fieldA, partA, sliceA, boundA, buildA, placeA, setAll, appendA, readSl, newEl, AV.cells, AV.solid, AV.one, kill, killM, killL, notInt, Int.reduceToNat, cond_true, cond_false, ↓reduceIte, reduceCtorEq, Nat.reduceLT, Nat.reduceLeDiff, Nat.reduceMul, Nat.reduceEqDiff, exists_eq', putF, implies_true, exists_true_left, tys0, tys1, tys2, tys3, und0, und1, und2, md9, Try.ntmps9, Try.results9, intB, ints_len]
  · have hR : xs.length < n := by have := of_decide_eq_true g; omega
    refine pick_at hc hl (by omega) h1 h2 (fun x a2 sd2 hx ha2 => ?_)
    simp only [q0, q1, q2, q3, q4, q5, q6, q7, q8, q9, zq0, zq1, zq2, zq3, guardSlot, quietA, nilC, nilA, quietB, St.ev, St.put, St.after, Nat.reduceAdd, Nat.reduceSub, List.replicate_succ, ofV, ofL, lenA, binA, intBin, fltBin, strBin, cpxBin, unA, convA, convB, convO, pickV, resL, oneA, indexA, indexS, isQuiet, loadA, loadC, storeA, fieldA, partA, sliceA, boundA, buildA, placeA, setAll, appendA, readSl, newEl, AV.cells, AV.solid, AV.one, kill, killM, killL, notInt, Int.reduceToNat, cond_true, cond_false, ↓reduceIte, reduceCtorEq, Nat.reduceLT, Nat.reduceLeDiff, Nat.reduceMul, Nat.reduceEqDiff, exists_eq', putF, implies_true, exists_true_left, tys0, tys1, tys2, tys3, und0, und1, und2, md9, Try.ntmps9, Try.results9, intB, ints_len, allW_int, fits, List.isEmpty_cons, brk_false, Nat.reduceMul, srcB_kill]
    have ek : IntKind.i64.wrap ((n : Int) - xs.length - 1) = (n : Int) - (xs ++ [x]).length := by rw [w64 (by omega) (by omega)]; simp; omega
    have el : xs.length + 1 = (xs ++ [x]).length := by simp
    have DN := D.next hR hx ha2
    refine ⟨by omega, ⟨(xs ++ [x], a2, sd2), DN⟩, by show n - (xs ++ [x]).length < _; rw [← el]; omega, ?_⟩
    show Weak 0 _ ⟨_, _⟩
    rw [ek, el]
    dsimp only
    generalize xs ++ [x] = ys
    exact weak_drop (by simp) (by simp [DropHp, ints_below, flts_below, srcB_below, intB, allBelow_cons, allBelow_nil, below, belowM, belowL]) (by simp [DropTm, DropV, below, belowM, belowL, srcB_below, intB, allBelow_cons, allBelow_nil, below, belowM, belowL])
  · have hR : xs.length = n := by have := of_decide_eq_false g; omega
    refine PostR.tell [1] (hp2 := [intB xs]) (by decide) (by decide) (by decide) ⟨⟨congrArg some (renB_flat (r := intB xs) (ints_below _ _)).symm, ints_below _ _⟩, trivial⟩ ?_ rfl ⟨xs, hR, D.ok, rfl, rfl⟩
    rw [hR]; rfl
theorem below_call (code : List Int) (hc : byteL code) (hl : code.length ≤ 1048576) (n : Nat) (hn : n ≤ 1000) (most : Int) (h1 : 1 ≤ most) (h2 : most ≤ 1000000) :
    CallA Try.prog 9 [.ro (kint .u8 code), .int .i64 n, .int .i64 most] [] (fun r hp => ∃ xs : List Int, xs.length = n ∧ (∀ x ∈ xs, 0 ≤ x ∧ x < most) ∧ r = .ro (ints xs) ∧ hp = []) := by
  refine (CallA.freezeQ 2 (below0_call code hc hl n hn most h1 h2)).mono ?_
  rintro r hp ⟨r0, new, ⟨xs, e, ok, rfl, rfl⟩, rfl, rfl⟩
  refine ⟨xs, e, ok, ?_, rfl⟩
  subst e
  rw [view_sl]
  simp [intB, ints_len, map_view_ints, take_ints]
def bls (B : List Bool) : List AV := B.map .bool
theorem bls_len (B : List Bool) : (bls B).length = B.length := List.length_map _
theorem bls_get (B : List Bool) (i : Nat) (h : i < (bls B).length) : (bls B)[i] = .bool (B[i]'(by rw [bls_len] at h; exact h)) := by simp [bls]
theorem bls_set (B : List Bool) (i : Nat) (b : Bool) : (bls B).set i (.bool b) = bls (B.set i b) := by unfold bls; rw [List.map_set]
theorem bls_below (N : Nat) (B : List Bool) : allBelow N (bls B) = true := by simp [allBelow, bls, below, belowM, belowL]
theorem bls_none (n : Nat) : List.replicate n (AV.bool false) = bls (mon [] n) := by
  refine List.ext_getElem (by simp [bls, mon]) fun i h1 h2 => ?_
  rw [List.getElem_replicate, bls_get, mon_get]
  rfl
theorem bls_zero : List.replicate 1500 (AV.bool false) = bls (mon [] 1500) := bls_none 1500
structure Spans (P : List (Int × Int)) : Prop where
  one : 1 ≤ P.length
  most : P.length ≤ 24
  ok : ∀ p ∈ P, 0 ≤ p.1 ∧ p.1 < p.2 ∧ p.2 ≤ 1500
end Go.Proofs.Ytadbddlekinkpaa
