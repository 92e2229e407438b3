/- Accounts: helpers of the law on what is paid. -/
import Derived.Test.YtimnfechlomkpaaLibI1
import Derived.Test.YtimnfechlomkpaaChP
import Derived.Test.YtimnfechlomkpaaAbsM4
import Derived.IntWalk
set_option maxRecDepth 10000
set_option maxHeartbeats 4000000
set_option linter.unusedSimpArgs false
set_option linter.unusedVariables false
namespace Go.Proofs.Ytimnfechlomkpaa
open Go Go.Abs
def intB (xs : List Int) : Blk := { ty := 2, w := 1, els := ints xs }
theorem l00In_call (a b c : Int) : CallA Try.prog 25 [.int .i64 a, .int .i64 b, .int .i64 c] [] (Ret (.bool (inR b c a)) []) := by
  refine CallP.out (t := .mk) (go_in (md := md25) mixed Try.func25 rfl go25 (by kernel_rfl) ?_)
  simp only [q0, q1, q2, q3, q4, q5, q6, q7, q8, q9, zq0, zq1, zq2, zq3, zq4, guardSlot, quietA, nilC, nilA, quietB, St.ev, St.put, St.after, Nat.reduceAdd, Nat.reduceSub, ofV, ofL, lenA, binA, intBin, fltBin, strBin, cpxBin, unA, convA, convB, convO, pickV, resL, oneA, indexA, indexS, isQuiet, loadA, loadC, storeA, fieldA, partA, sliceA, boundA, buildA, placeA, setAll, appendA, readSl, newEl, AV.cells, AV.solid, AV.one, kill, killM, killL, notInt, Int.reduceToNat, cond_true, cond_false, ↓reduceIte, reduceCtorEq, Nat.reduceLT, Nat.reduceLeDiff, Nat.reduceMul, Nat.reduceEqDiff, exists_eq', putF, implies_true, exists_true_left, tys0, tys1, tys2, tys3, und0, und1, und2, md25, Try.ntmps25, Try.results25]
  refine br_intro (fun h => ?_) (fun h => ?_) <;> simp only [q0, q1, q2, q3, q4, q5, q6, q7, q8, q9, zq0, zq1, zq2, zq3, zq4, guardSlot, quietA, nilC, nilA, quietB, St.ev, St.put, St.after, Nat.reduceAdd, Nat.reduceSub, ofV, ofL, lenA, binA, intBin, fltBin, strBin, cpxBin, unA, convA, convB, convO, pickV, resL, oneA, indexA, indexS, isQuiet, loadA, loadC, storeA, fieldA, partA, sliceA, boundA, buildA, placeA, setAll, appendA, readSl, newEl, AV.cells, AV.solid, AV.one, kill, killM, killL, notInt, Int.reduceToNat, cond_true, cond_false, ↓reduceIte, reduceCtorEq, Nat.reduceLT, Nat.reduceLeDiff, Nat.reduceMul, Nat.reduceEqDiff, exists_eq', putF, implies_true, exists_true_left, tys0, tys1, tys2, tys3, und0, und1, und2, md25, Try.ntmps25, Try.results25]
  · exact PostR.pure ⟨by simp at h; simp [inR, h], rfl⟩ rfl
  · exact PostR.pure ⟨by simp at h; simp [inR]; omega, rfl⟩ rfl
def byteL (l : List Int) : Prop := ∀ x ∈ l, 0 ≤ x ∧ x ≤ 255
def srcB (code : List Int) (a : Nat) (sd : Int) : Blk := { ty := 59, w := 3, els := [.agg [.ro (kint .u8 code), .int .i64 a, .int .u64 sd]] }
theorem low255 (x : Int) : 0 ≤ IntKind.i64.wrap (IntKind.u64.wrap (((BitVec.ofInt IntKind.u64.bits x &&& BitVec.ofInt IntKind.u64.bits 255).toNat : Nat) : Int)) ∧ IntKind.i64.wrap (IntKind.u64.wrap (((BitVec.ofInt IntKind.u64.bits x &&& BitVec.ofInt IntKind.u64.bits 255).toNat : Nat) : Int)) ≤ 255 := by
  have h : (BitVec.ofInt IntKind.u64.bits x &&& BitVec.ofInt IntKind.u64.bits 255).toNat ≤ 255 := by
    rw [BitVec.toNat_and]
    exact Nat.and_le_right
  generalize (BitVec.ofInt IntKind.u64.bits x &&& BitVec.ofInt IntKind.u64.bits 255).toNat = n at h ⊢
  rw [IntWalk.u64_in _ (by omega), w64 (by omega) (by omega)]
  omega
theorem u8i64 {x : Int} (h : 0 ≤ x ∧ x ≤ 255) : IntKind.i64.wrap x = x := w64 (by omega) (by omega)
theorem next_call (code : List Int) (hc : byteL code) (hl : code.length ≤ 1048576) (a : Nat) (ha : a ≤ 1000000000000) (sd : Int) :
    CallA Try.prog 38 [.ptr 0 0 0] [srcB code a sd] (fun r hp => ∃ n sd' : Int, (0 ≤ n ∧ n ≤ 255) ∧ r = .int .i64 n ∧ hp = [srcB code (a + 1) sd']) := by
  have e1 : IntKind.i64.wrap ((a : Int) + 1) = ((a + 1 : Nat) : Int) := w64_succ a (by omega)
  refine CallP.out (t := .mk) (go_in (md := md38) mixed Try.func38 rfl go38 (by kernel_rfl) ?_)
  simp only [q0, q1, q2, q3, q4, q5, q6, q7, q8, q9, zq0, zq1, zq2, zq3, zq4, guardSlot, quietA, nilC, nilA, quietB, St.ev, St.put, St.after, Nat.reduceAdd, Nat.reduceSub, ofV, ofL, lenA, binA, intBin, fltBin, strBin, cpxBin, unA, convA, convB, convO, pickV, resL, oneA, indexA, indexS, isQuiet, loadA, loadC, storeA, fieldA, partA, sliceA, boundA, buildA, placeA, setAll, appendA, readSl, newEl, AV.cells, AV.solid, AV.one, kill, killM, killL, notInt, Int.reduceToNat, cond_true, cond_false, ↓reduceIte, reduceCtorEq, Nat.reduceLT, Nat.reduceLeDiff, Nat.reduceMul, Nat.reduceEqDiff, exists_eq', putF, implies_true, exists_true_left, tys0, tys1, tys2, tys3, und0, und1, und2, md38, Try.ntmps38, Try.results38, srcB, kint_len]
  refine br_intro (fun h => ?_) (fun h => ?_) <;> simp only [q0, q1, q2, q3, q4, q5, q6, q7, q8, q9, zq0, zq1, zq2, zq3, zq4, guardSlot, quietA, nilC, nilA, quietB, St.ev, St.put, St.after, Nat.reduceAdd, Nat.reduceSub, ofV, ofL, lenA, binA, intBin, fltBin, strBin, cpxBin, unA, convA, convB, convO, pickV, resL, oneA, indexA, indexS, isQuiet, loadA, loadC, storeA, fieldA, partA, sliceA, boundA, buildA, placeA, setAll, appendA, readSl, newEl, AV.cells, AV.solid, AV.one, kill, killM, killL, notInt, Int.reduceToNat, cond_true, cond_false, ↓reduceIte, reduceCtorEq, Nat.reduceLT, Nat.reduceLeDiff, Nat.reduceMul, Nat.reduceEqDiff, exists_eq', putF, implies_true, exists_true_left, tys0, tys1, tys2, tys3, und0, und1, und2, md38, Try.ntmps38, Try.results38, srcB, kint_len, kint_get, e1]
  · have h' := of_decide_eq_true h
    have hi : a < code.length := by omega
    have b0 := hc code[a] (List.getElem_mem hi)
    refine ⟨hi, ?_⟩
    rw [u8i64 b0]
    refine br_yes (decide_eq_true (by omega)) ?_
    simp only [q0, q1, q2, q3, q4, q5, q6, q7, q8, q9, zq0, zq1, zq2, zq3, zq4, guardSlot, quietA, nilC, nilA, quietB, St.ev, St.put, St.after, Nat.reduceAdd, Nat.reduceSub, ofV, ofL, lenA, binA, intBin, fltBin, strBin, cpxBin, unA, convA, convB, convO, pickV, resL, oneA, indexA, indexS, isQuiet, loadA, loadC, storeA, fieldA, partA, sliceA, boundA, buildA, placeA, setAll, appendA, readSl, newEl, AV.cells, AV.solid, AV.one, kill, killM, killL, notInt, Int.reduceToNat, cond_true, cond_false, ↓reduceIte, reduceCtorEq, Nat.reduceLT, Nat.reduceLeDiff, Nat.reduceMul, Nat.reduceEqDiff, exists_eq', putF, implies_true, exists_true_left, tys0, tys1, tys2, tys3, und0, und1, und2, md38, Try.ntmps38, Try.results38, srcB]
    exact PostR.tell [0] (hp2 := [srcB code (a + 1) _]) (by decide) (by decide) (by decide) ⟨⟨rfl, rfl⟩, trivial⟩ rfl rfl ⟨code[a], _, b0, rfl, rfl⟩
  · have h' := of_decide_eq_false h
    refine br_no (decide_eq_false (by omega)) ?_
    simp only [q0, q1, q2, q3, q4, q5, q6, q7, q8, q9, zq0, zq1, zq2, zq3, zq4, guardSlot, quietA, nilC, nilA, quietB, St.ev, St.put, St.after, Nat.reduceAdd, Nat.reduceSub, ofV, ofL, lenA, binA, intBin, fltBin, strBin, cpxBin, unA, convA, convB, convO, pickV, resL, oneA, indexA, indexS, isQuiet, loadA, loadC, storeA, fieldA, partA, sliceA, boundA, buildA, placeA, setAll, appendA, readSl, newEl, AV.cells, AV.solid, AV.one, kill, killM, killL, notInt, Int.reduceToNat, cond_true, cond_false, ↓reduceIte, reduceCtorEq, Nat.reduceLT, Nat.reduceLeDiff, Nat.reduceMul, Nat.reduceEqDiff, exists_eq', putF, implies_true, exists_true_left, tys0, tys1, tys2, tys3, und0, und1, und2, md38, Try.ntmps38, Try.results38, srcB, Int.reduceLT, Int.reduceLE, Int.reduceNeg, Int.reduceEq, Int.reduceGT, Int.reduceGE, decide_true, decide_false, beq_self_eq_true, bne_self_eq_false, Int.reduceBEq, Int.reduceBNe, Int.reduceAdd, Int.reduceSub]
    exact PostR.tell [0] (hp2 := [srcB code (a + 1) _]) (by decide) (by decide) (by decide) ⟨⟨rfl, rfl⟩, trivial⟩ rfl rfl ⟨_, _, low255 _, rfl, rfl⟩
theorem pick_call (code : List Int) (hc : byteL code) (hl : code.length ≤ 1048576) (a : Nat) (ha : a ≤ 1000000000) (sd : Int) (m : Int) (h1 : 1 ≤ m) (h2 : m ≤ 1000000) :
    CallA Try.prog 17 [.ptr 0 0 0, .int .i64 m] [srcB code a sd] (fun r hp => ∃ (x : Int) (a' : Nat) (sd' : Int), (0 ≤ x ∧ x < m) ∧ a' ≤ a + 2 ∧ r = .int .i64 x ∧ hp = [srcB code a' sd']) := by
  refine CallP.out (t := .mk) (go_in (md := md17) mixed Try.func17 rfl go17 (by kernel_rfl) ?_)
  simp only [q0, q1, q2, q3, q4, q5, q6, q7, q8, q9, zq0, zq1, zq2, zq3, zq4, guardSlot, quietA, nilC, nilA, quietB, St.ev, St.put, St.after, Nat.reduceAdd, Nat.reduceSub, ofV, ofL, lenA, binA, intBin, fltBin, strBin, cpxBin, unA, convA, convB, convO, pickV, resL, oneA, indexA, indexS, isQuiet, loadA, loadC, storeA, fieldA, partA, sliceA, boundA, buildA, placeA, setAll, appendA, readSl, newEl, AV.cells, AV.solid, AV.one, kill, killM, killL, notInt, Int.reduceToNat, cond_true, cond_false, ↓reduceIte, reduceCtorEq, Nat.reduceLT, Nat.reduceLeDiff, Nat.reduceMul, Nat.reduceEqDiff, exists_eq', putF, implies_true, exists_true_left, tys0, tys1, tys2, tys3, und0, und1, und2, md17, Try.ntmps17, Try.results17]
  refine br_intro (fun h => ?_) (fun h => ?_) <;> simp only [q0, q1, q2, q3, q4, q5, q6, q7, q8, q9, zq0, zq1, zq2, zq3, zq4, guardSlot, quietA, nilC, nilA, quietB, St.ev, St.put, St.after, Nat.reduceAdd, Nat.reduceSub, ofV, ofL, lenA, binA, intBin, fltBin, strBin, cpxBin, unA, convA, convB, convO, pickV, resL, oneA, indexA, indexS, isQuiet, loadA, loadC, storeA, fieldA, partA, sliceA, boundA, buildA, placeA, setAll, appendA, readSl, newEl, AV.cells, AV.solid, AV.one, kill, killM, killL, notInt, Int.reduceToNat, cond_true, cond_false, ↓reduceIte, reduceCtorEq, Nat.reduceLT, Nat.reduceLeDiff, Nat.reduceMul, Nat.reduceEqDiff, exists_eq', putF, implies_true, exists_true_left, tys0, tys1, tys2, tys3, und0, und1, und2, md17, Try.ntmps17, Try.results17]
  · have h' := of_decide_eq_true h
    exact PostR.tell [0] (hp2 := [srcB code a sd]) (by decide) (by decide) (by decide) ⟨⟨rfl, rfl⟩, trivial⟩ rfl rfl ⟨0, a, sd, by omega, by omega, rfl, rfl⟩
  · have h' := of_decide_eq_false h
    refine call_by (next_call code hc hl a (by omega) sd) ?_
    rintro r hp' ⟨n, sd', hn, rfl, rfl⟩
    simp only [q0, q1, q2, q3, q4, q5, q6, q7, q8, q9, zq0, zq1, zq2, zq3, zq4, guardSlot, quietA, nilC, nilA, quietB, St.ev, St.put, St.after, Nat.reduceAdd, Nat.reduceSub, ofV, ofL, lenA, binA, intBin, fltBin, strBin, cpxBin, unA, convA, convB, convO, pickV, resL, oneA, indexA, indexS, isQuiet, loadA, loadC, storeA, fieldA, partA, sliceA, boundA, buildA, placeA, setAll, appendA, readSl, newEl, AV.cells, AV.solid, AV.one, kill, killM, killL, notInt, Int.reduceToNat, cond_true, cond_false, ↓reduceIte, reduceCtorEq, Nat.reduceLT, Nat.reduceLeDiff, Nat.reduceMul, Nat.reduceEqDiff, exists_eq', putF, implies_true, exists_true_left, tys0, tys1, tys2, tys3, und0, und1, und2, md17, Try.ntmps17, Try.results17]
    refine br_intro (fun g => ?_) (fun g => ?_) <;> simp only [q0, q1, q2, q3, q4, q5, q6, q7, q8, q9, zq0, zq1, zq2, zq3, zq4, guardSlot, quietA, nilC, nilA, quietB, St.ev, St.put, St.after, Nat.reduceAdd, Nat.reduceSub, ofV, ofL, lenA, binA, intBin, fltBin, strBin, cpxBin, unA, convA, convB, convO, pickV, resL, oneA, indexA, indexS, isQuiet, loadA, loadC, storeA, fieldA, partA, sliceA, boundA, buildA, placeA, setAll, appendA, readSl, newEl, AV.cells, AV.solid, AV.one, kill, killM, killL, notInt, Int.reduceToNat, cond_true, cond_false, ↓reduceIte, reduceCtorEq, Nat.reduceLT, Nat.reduceLeDiff, Nat.reduceMul, Nat.reduceEqDiff, exists_eq', putF, implies_true, exists_true_left, tys0, tys1, tys2, tys3, und0, und1, und2, md17, Try.ntmps17, Try.results17]
    · refine call_by (next_call code hc hl (a + 1) (by omega) sd') ?_
      rintro r hp' ⟨k, sd2, hk, rfl, rfl⟩
      have e1 : IntKind.i64.wrap (n * 256) = n * 256 := w64 (by omega) (by omega)
      have e2 : IntKind.i64.wrap (n * 256 + k) = n * 256 + k := w64 (by omega) (by omega)
      have e3 : (n * 256 + k).tmod m = (n * 256 + k) % m := Int.tmod_eq_emod_of_nonneg (by omega)
      have b1 := Int.emod_nonneg (n * 256 + k) (show m ≠ 0 by omega)
      have b2 := Int.emod_lt_of_pos (n * 256 + k) (show 0 < m by omega)
      simp only [q0, q1, q2, q3, q4, q5, q6, q7, q8, q9, zq0, zq1, zq2, zq3, zq4, guardSlot, quietA, nilC, nilA, quietB, St.ev, St.put, St.after, Nat.reduceAdd, Nat.reduceSub, ofV, ofL, lenA, binA, intBin, fltBin, strBin, cpxBin, unA, convA, convB, convO, pickV, resL, oneA, indexA, indexS, isQuiet, loadA, loadC, storeA, fieldA, partA, sliceA, boundA, buildA, placeA, setAll, appendA, readSl, newEl, AV.cells, AV.solid, AV.one, kill, killM, killL, notInt, Int.reduceToNat, cond_true, cond_false, ↓reduceIte, reduceCtorEq, Nat.reduceLT, Nat.reduceLeDiff, Nat.reduceMul, Nat.reduceEqDiff, exists_eq', putF, implies_true, exists_true_left, tys0, tys1, tys2, tys3, und0, und1, und2, md17, Try.ntmps17, Try.results17, e1, e2, e3]
      exact ⟨by omega, PostR.tell [0] (hp2 := [srcB code (a + 1 + 1) sd2]) (by decide) (by decide) (by decide) ⟨⟨rfl, rfl⟩, trivial⟩ rfl rfl ⟨_, a + 1 + 1, sd2, ⟨b1, b2⟩, by omega, rfl, rfl⟩⟩
    · have e3 : n.tmod m = n % m := Int.tmod_eq_emod_of_nonneg (by omega)
      have b1 := Int.emod_nonneg n (show m ≠ 0 by omega)
      have b2 := Int.emod_lt_of_pos n (show 0 < m by omega)
      refine ⟨by omega, ?_⟩
      rw [e3]
      exact PostR.tell [0] (hp2 := [srcB code (a + 1) sd']) (by decide) (by decide) (by decide) ⟨⟨rfl, rfl⟩, trivial⟩ rfl rfl ⟨_, a + 1, sd', ⟨b1, b2⟩, by omega, rfl, rfl⟩
theorem l00From_call (code : List Int) : CallA Try.prog 16 [.ro (kint .u8 code)] [] (Ret (.ptr 0 0 0) [srcB code 0 0]) := by
  refine CallP.out (t := .mk) (go_in (md := md16) mixed Try.func16 rfl go16 (by kernel_rfl) ?_)
  simp only [q0, q1, q2, q3, q4, q5, q6, q7, q8, q9, zq0, zq1, zq2, zq3, zq4, guardSlot, quietA, nilC, nilA, quietB, St.ev, St.put, St.after, Nat.reduceAdd, Nat.reduceSub, ofV, ofL, lenA, binA, intBin, fltBin, strBin, cpxBin, unA, convA, convB, convO, pickV, resL, oneA, indexA, indexS, isQuiet, loadA, loadC, storeA, fieldA, partA, sliceA, boundA, buildA, placeA, setAll, appendA, readSl, newEl, AV.cells, AV.solid, AV.one, kill, killM, killL, notInt, Int.reduceToNat, cond_true, cond_false, ↓reduceIte, reduceCtorEq, Nat.reduceLT, Nat.reduceLeDiff, Nat.reduceMul, Nat.reduceEqDiff, exists_eq', putF, implies_true, exists_true_left, tys0, tys1, tys2, tys3, und0, und1, und2, md16, Try.ntmps16, Try.results16]
  exact PostR.tell [0] (hp2 := [srcB code 0 0]) (by decide) (by decide) (by decide) ⟨⟨rfl, rfl⟩, trivial⟩ rfl rfl ⟨rfl, rfl⟩
theorem srcB_below (N : Nat) (code : List Int) (a : Nat) (sd : Int) : allBelow N (srcB code a sd).els = true := rfl
theorem srcB_kill (code : List Int) (a : Nat) (sd : Int) (b : Nat) : ({ ty := (srcB code a sd).ty, w := (srcB code a sd).w, els := List.map (kill b) (srcB code a sd).els, live := (srcB code a sd).live } : Blk) = srcB code a sd := rfl
theorem pick_at {code : List Int} (hc : byteL code) (hl : code.length ≤ 1048576) {a : Nat} (ha : a ≤ 1000000000) {sd : Int} {m : Int} (h1 : 1 ≤ m) (h2 : m ≤ 1000000) {rest : List Blk} {Q : AV → List Blk → Prop} {t : Tok Q}
    (hQ : ∀ (x : Int) (a' : Nat) (sd' : Int), (0 ≤ x ∧ x < m) → a' ≤ a + 2 → Q (.int .i64 x) (srcB code a' sd' :: rest)) : CallP Try.prog 17 [.ptr 0 0 0, .int .i64 m] (srcB code a sd :: rest) Q t := by
  refine call_handedQ [0] (pick_call code hc hl a ha sd m h1 h2) (by decide) ⟨⟨rfl, rfl⟩, trivial⟩ rfl rfl ?_
  rintro r hps' ⟨x, a', sd', hx, ha', rfl, rfl⟩
  refine ⟨by intro q hq; simp at hq; subst hq; rfl, ?_⟩
  have := hQ x a' sd' hx ha'
  simpa [putF, ren, renM, renL] using this
theorem b10Long_call (l m : List Int) : CallA Try.prog 4 [.ro (kint .u8 l), .ro (kint .u8 m)] [] (Ret (.bool (decide (1048576 < (l.length : Int)) || decide (1048576 < (m.length : Int)))) []) := by
  refine CallP.out (t := .mk) (go_in (md := md4) mixed Try.func4 rfl go4 (by kernel_rfl) ?_)
  simp only [q0, q1, q2, q3, q4, q5, q6, q7, q8, q9, zq0, zq1, zq2, zq3, zq4, guardSlot, quietA, nilC, nilA, quietB, St.ev, St.put, St.after, Nat.reduceAdd, Nat.reduceSub, ofV, ofL, lenA, binA, intBin, fltBin, strBin, cpxBin, unA, convA, convB, convO, pickV, resL, oneA, indexA, indexS, isQuiet, loadA, loadC, storeA, fieldA, partA, sliceA, boundA, buildA, placeA, setAll, appendA, readSl, newEl, AV.cells, AV.solid, AV.one, kill, killM, killL, notInt, Int.reduceToNat, cond_true, cond_false, ↓reduceIte, reduceCtorEq, Nat.reduceLT, Nat.reduceLeDiff, Nat.reduceMul, Nat.reduceEqDiff, exists_eq', putF, implies_true, exists_true_left, tys0, tys1, tys2, tys3, und0, und1, und2, md4, Try.ntmps4, Try.results4, kint_len]
  refine br_intro (fun h => ?_) (fun h => ?_) <;> simp only [q0, q1, q2, q3, q4, q5, q6, q7, q8, q9, zq0, zq1, zq2, zq3, zq4, guardSlot, quietA, nilC, nilA, quietB, St.ev, St.put, St.after, Nat.reduceAdd, Nat.reduceSub, ofV, ofL, lenA, binA, intBin, fltBin, strBin, cpxBin, unA, convA, convB, convO, pickV, resL, oneA, indexA, indexS, isQuiet, loadA, loadC, storeA, fieldA, partA, sliceA, boundA, buildA, placeA, setAll, appendA, readSl, newEl, AV.cells, AV.solid, AV.one, kill, killM, killL, notInt, Int.reduceToNat, cond_true, cond_false, ↓reduceIte, reduceCtorEq, Nat.reduceLT, Nat.reduceLeDiff, Nat.reduceMul, Nat.reduceEqDiff, exists_eq', putF, implies_true, exists_true_left, tys0, tys1, tys2, tys3, und0, und1, und2, md4, Try.ntmps4, Try.results4, kint_len]
  · exact PostR.pure ⟨by rw [h]; rfl, rfl⟩ rfl
  · exact PostR.pure ⟨by rw [h]; rfl, rfl⟩ rfl
def at10 (l : List Int) (k n : Int) : Int := if n ≤ 1 then 0 else if k < (l.length : Int) then l.getD k.toNat 0 % n else (k * 37 + 11) % n
theorem at10_low {l : List Int} {k n : Int} (hn : 1 ≤ n) : 0 ≤ at10 l k n ∧ at10 l k n < n := by
  unfold at10
  split
  · omega
  · split
    · exact ⟨Int.emod_nonneg _ (by omega), Int.emod_lt_of_pos _ (by omega)⟩
    · exact ⟨Int.emod_nonneg _ (by omega), Int.emod_lt_of_pos _ (by omega)⟩
theorem at10_call (l : List Int) (hc : byteL l) (hl : l.length ≤ 1048576) (k n : Int) (hk : 0 ≤ k) (hk2 : k ≤ 1000) (n1 : 1 ≤ n) (n2 : n ≤ 1000) : CallA Try.prog 6 [.ro (kint .u8 l), .int .i64 k, .int .i64 n] [] (Ret (.int .i64 (at10 l k n)) []) := by
  by_cases h1 : n ≤ 1
  · rw [at10, if_pos h1]
    refine CallP.out (t := .mk) (go_in (md := md6) mixed Try.func6 rfl go6 (by kernel_rfl) ?_)
    simp only [q0, q1, q2, q3, q4, q5, q6, q7, q8, q9, zq0, zq1, zq2, zq3, zq4, guardSlot, quietA, nilC, nilA, quietB, St.ev, St.put, St.after, Nat.reduceAdd, Nat.reduceSub, ofV, ofL, lenA, binA, intBin, fltBin, strBin, cpxBin, unA, convA, convB, convO, pickV, resL, oneA, indexA, indexS, isQuiet, loadA, loadC, storeA, fieldA, partA, sliceA, boundA, buildA, placeA, setAll, appendA, readSl, newEl, AV.cells, AV.solid, AV.one, kill, killM, killL, notInt, Int.reduceToNat, cond_true, cond_false, ↓reduceIte, reduceCtorEq, Nat.reduceLT, Nat.reduceLeDiff, Nat.reduceMul, Nat.reduceEqDiff, exists_eq', putF, implies_true, exists_true_left, tys0, tys1, tys2, tys3, und0, und1, und2, md6, Try.ntmps6, Try.results6, kint_len]
    refine br_yes (by first | exact decide_eq_true (by omega) | (simp only [bne_iff_ne, beq_iff_eq, ne_eq]; omega)) ?_; simp only [q0, q1, q2, q3, q4, q5, q6, q7, q8, q9, zq0, zq1, zq2, zq3, zq4, guardSlot, quietA, nilC, nilA, quietB, St.ev, St.put, St.after, Nat.reduceAdd, Nat.reduceSub, ofV, ofL, lenA, binA, intBin, fltBin, strBin, cpxBin, unA, convA, convB, convO, pickV, resL, oneA, indexA, indexS, isQuiet, loadA, loadC, storeA, fieldA, partA, sliceA, boundA, buildA, placeA, setAll, appendA, readSl, newEl, AV.cells, AV.solid, AV.one, kill, killM, killL, notInt, Int.reduceToNat, cond_true, cond_false, ↓reduceIte, reduceCtorEq, Nat.reduceLT, Nat.reduceLeDiff, Nat.reduceMul, Nat.reduceEqDiff, exists_eq', putF, implies_true, exists_true_left, tys0, tys1, tys2, tys3, und0, und1, und2, md6, Try.ntmps6, Try.results6, kint_len]
    exact PostR.pure ⟨rfl, rfl⟩ rfl
  · by_cases h2 : k < (l.length : Int)
    · have hi : k.toNat < l.length := by omega
      have b := hc _ (List.getElem_mem hi)
      have m1 := Int.emod_nonneg (l[k.toNat]) (show n ≠ 0 by omega)
      have m2 := Int.emod_lt_of_pos (l[k.toNat]) (show 0 < n by omega)
      have e1 : IntKind.i64.wrap (l[k.toNat]) = l[k.toNat] := w64 (by omega) (by omega)
      have e2 : (l[k.toNat]).tmod n = l[k.toNat] % n := Int.tmod_eq_emod_of_nonneg b.1
      rw [at10, if_neg h1, if_pos h2, getD_at l 0 _ hi]
      refine CallP.out (t := .mk) (go_in (md := md6) mixed Try.func6 rfl go6 (by kernel_rfl) ?_)
      simp only [q0, q1, q2, q3, q4, q5, q6, q7, q8, q9, zq0, zq1, zq2, zq3, zq4, guardSlot, quietA, nilC, nilA, quietB, St.ev, St.put, St.after, Nat.reduceAdd, Nat.reduceSub, ofV, ofL, lenA, binA, intBin, fltBin, strBin, cpxBin, unA, convA, convB, convO, pickV, resL, oneA, indexA, indexS, isQuiet, loadA, loadC, storeA, fieldA, partA, sliceA, boundA, buildA, placeA, setAll, appendA, readSl, newEl, AV.cells, AV.solid, AV.one, kill, killM, killL, notInt, Int.reduceToNat, cond_true, cond_false, ↓reduceIte, reduceCtorEq, Nat.reduceLT, Nat.reduceLeDiff, Nat.reduceMul, Nat.reduceEqDiff, exists_eq', putF, implies_true, exists_true_left, tys0, tys1, tys2, tys3, und0, und1, und2, md6, Try.ntmps6, Try.results6, kint_len]
      refine br_no (by first | exact decide_eq_false (by omega) | exact beq_false_of_ne (by omega) | (simp only [bne_eq_false_iff_eq, beq_eq_false_iff_ne, ne_eq]; omega)) ?_; simp only [q0, q1, q2, q3, q4, q5, q6, q7, q8, q9, zq0, zq1, zq2, zq3, zq4, guardSlot, quietA, nilC, nilA, quietB, St.ev, St.put, St.after, Nat.reduceAdd, Nat.reduceSub, ofV, ofL, lenA, binA, intBin, fltBin, strBin, cpxBin, unA, convA, convB, convO, pickV, resL, oneA, indexA, indexS, isQuiet, loadA, loadC, storeA, fieldA, partA, sliceA, boundA, buildA, placeA, setAll, appendA, readSl, newEl, AV.cells, AV.solid, AV.one, kill, killM, killL, notInt, Int.reduceToNat, cond_true, cond_false, ↓reduceIte, reduceCtorEq, Nat.reduceLT, Nat.reduceLeDiff, Nat.reduceMul, Nat.reduceEqDiff, exists_eq', putF, implies_true, exists_true_left, tys0, tys1, tys2, tys3, und0, und1, und2, md6, Try.ntmps6, Try.results6, kint_len]
      refine br_yes (by first | exact decide_eq_true (by omega) | (simp only [bne_iff_ne, beq_iff_eq, ne_eq]; omega)) ?_; simp only [q0, q1, q2, q3, q4, q5, q6, q7, q8, q9, zq0, zq1, zq2, zq3, zq4, guardSlot, quietA, nilC, nilA, quietB, St.ev, St.put, St.after, Nat.reduceAdd, Nat.reduceSub, ofV, ofL, lenA, binA, intBin, fltBin, strBin, cpxBin, unA, convA, convB, convO, pickV, resL, oneA, indexA, indexS, isQuiet, loadA, loadC, storeA, fieldA, partA, sliceA, boundA, buildA, placeA, setAll, appendA, readSl, newEl, AV.cells, AV.solid, AV.one, kill, killM, killL, notInt, Int.reduceToNat, cond_true, cond_false, ↓reduceIte, reduceCtorEq, Nat.reduceLT, Nat.reduceLeDiff, Nat.reduceMul, Nat.reduceEqDiff, exists_eq', putF, implies_true, exists_true_left, tys0, tys1, tys2, tys3, und0, und1, und2, md6, Try.ntmps6, Try.results6, kint_len, kint_get]
      refine ⟨hk, hi, ?_⟩
      simp only [q0, q1, q2, q3, q4, q5, q6, q7, q8, q9, zq0, zq1, zq2, zq3, zq4, guardSlot, quietA, nilC, nilA, quietB, St.ev, St.put, St.after, Nat.reduceAdd, Nat.reduceSub, ofV, ofL, lenA, binA, intBin, fltBin, strBin, cpxBin, unA, convA, convB, convO, pickV, resL, oneA, indexA, indexS, isQuiet, loadA, loadC, storeA, fieldA, partA, sliceA, boundA, buildA, placeA, setAll, appendA, readSl, newEl, AV.cells, AV.solid, AV.one, kill, killM, killL, notInt, Int.reduceToNat, cond_true, cond_false, ↓reduceIte, reduceCtorEq, Nat.reduceLT, Nat.reduceLeDiff, Nat.reduceMul, Nat.reduceEqDiff, exists_eq', putF, implies_true, exists_true_left, tys0, tys1, tys2, tys3, und0, und1, und2, md6, Try.ntmps6, Try.results6, kint_len, kint_get, e1, e2]
      refine ⟨by omega, ?_⟩
      exact PostR.pure ⟨rfl, rfl⟩ rfl
    · have m1 := Int.emod_nonneg (k * 37 + 11) (show n ≠ 0 by omega)
      have m2 := Int.emod_lt_of_pos (k * 37 + 11) (show 0 < n by omega)
      have e1 : IntKind.i64.wrap (k * 37) = k * 37 := w64 (by omega) (by omega)
      have e2 : IntKind.i64.wrap (k * 37 + 11) = k * 37 + 11 := w64 (by omega) (by omega)
      have e3 : (k * 37 + 11).tmod n = (k * 37 + 11) % n := Int.tmod_eq_emod_of_nonneg (by omega)
      rw [at10, if_neg h1, if_neg h2]
      refine CallP.out (t := .mk) (go_in (md := md6) mixed Try.func6 rfl go6 (by kernel_rfl) ?_)
      simp only [q0, q1, q2, q3, q4, q5, q6, q7, q8, q9, zq0, zq1, zq2, zq3, zq4, guardSlot, quietA, nilC, nilA, quietB, St.ev, St.put, St.after, Nat.reduceAdd, Nat.reduceSub, ofV, ofL, lenA, binA, intBin, fltBin, strBin, cpxBin, unA, convA, convB, convO, pickV, resL, oneA, indexA, indexS, isQuiet, loadA, loadC, storeA, fieldA, partA, sliceA, boundA, buildA, placeA, setAll, appendA, readSl, newEl, AV.cells, AV.solid, AV.one, kill, killM, killL, notInt, Int.reduceToNat, cond_true, cond_false, ↓reduceIte, reduceCtorEq, Nat.reduceLT, Nat.reduceLeDiff, Nat.reduceMul, Nat.reduceEqDiff, exists_eq', putF, implies_true, exists_true_left, tys0, tys1, tys2, tys3, und0, und1, und2, md6, Try.ntmps6, Try.results6, kint_len]
      refine br_no (by first | exact decide_eq_false (by omega) | exact beq_false_of_ne (by omega) | (simp only [bne_eq_false_iff_eq, beq_eq_false_iff_ne, ne_eq]; omega)) ?_; simp only [q0, q1, q2, q3, q4, q5, q6, q7, q8, q9, zq0, zq1, zq2, zq3, zq4, guardSlot, quietA, nilC, nilA, quietB, St.ev, St.put, St.after, Nat.reduceAdd, Nat.reduceSub, ofV, ofL, lenA, binA, intBin, fltBin, strBin, cpxBin, unA, convA, convB, convO, pickV, resL, oneA, indexA, indexS, isQuiet, loadA, loadC, storeA, fieldA, partA, sliceA, boundA, buildA, placeA, setAll, appendA, readSl, newEl, AV.cells, AV.solid, AV.one, kill, killM, killL, notInt, Int.reduceToNat, cond_true, cond_false, ↓reduceIte, reduceCtorEq, Nat.reduceLT, Nat.reduceLeDiff, Nat.reduceMul, Nat.reduceEqDiff, exists_eq', putF, implies_true, exists_true_left, tys0, tys1, tys2, tys3, und0, und1, und2, md6, Try.ntmps6, Try.results6, kint_len]
      refine br_no (by first | exact decide_eq_false (by omega) | exact beq_false_of_ne (by omega) | (simp only [bne_eq_false_iff_eq, beq_eq_false_iff_ne, ne_eq]; omega)) ?_; simp only [q0, q1, q2, q3, q4, q5, q6, q7, q8, q9, zq0, zq1, zq2, zq3, zq4, guardSlot, quietA, nilC, nilA, quietB, St.ev, St.put, St.after, Nat.reduceAdd, Nat.reduceSub, ofV, ofL, lenA, binA, intBin, fltBin, strBin, cpxBin, unA, convA, convB, convO, pickV, resL, oneA, indexA, indexS, isQuiet, loadA, loadC, storeA, fieldA, partA, sliceA, boundA, buildA, placeA, setAll, appendA, readSl, newEl, AV.cells, AV.solid, AV.one, kill, killM, killL, notInt, Int.reduceToNat, cond_true, cond_false, ↓reduceIte, reduceCtorEq, Nat.reduceLT, Nat.reduceLeDiff, Nat.reduceMul, Nat.reduceEqDiff, exists_eq', putF, implies_true, exists_true_left, tys0, tys1, tys2, tys3, und0, und1, und2, md6, Try.ntmps6, Try.results6, kint_len, e1, e2, e3]
      refine ⟨by omega, ?_⟩
      exact PostR.pure ⟨rfl, rfl⟩ rfl
def Sml (m : Int) (l : List Int) : Prop := ∀ x ∈ l, 0 ≤ x ∧ x < m
theorem Sml.at_ {m : Int} {l : List Int} (h : Sml m l) {i : Nat} (hi : i < l.length) : 0 ≤ l.getD i 0 ∧ l.getD i 0 < m := by
  rw [getD_at l 0 i hi]; exact h _ (List.getElem_mem hi)
theorem Sml.all {m : Int} {l : List Int} (h : Sml m l) (lo hi : Int) (h1 : lo ≤ 0) (h2 : m ≤ hi + 1) : l.all (inR lo hi) = true :=
  List.all_eq_true.2 fun x hx => inR_yes (by have := h x hx; omega) (by have := h x hx; omega)
def sumI (l : List Int) : Int := l.foldr (· + ·) 0
theorem sumI_snoc (l : List Int) (x : Int) : sumI (l ++ [x]) = sumI l + x := by
  unfold sumI
  induction l with
  | nil => simp
  | cons a l ih => simp only [List.cons_append, List.foldr_cons, ih]; omega
theorem sumI_take (l : List Int) (i : Nat) (h : i < l.length) : sumI (l.take (i + 1)) = sumI (l.take i) + l[i] := by
  rw [gtake_snoc _ _ h, sumI_snoc]
theorem Sml.sum {m : Int} {l : List Int} (h : Sml m l) : 0 ≤ sumI l ∧ sumI l ≤ m * l.length := by
  unfold sumI
  induction l with
  | nil => simp
  | cons x l ih =>
    have h1 := h x (by simp)
    have h2 := ih fun y hy => h y (by simp [hy])
    have e : m * ((x :: l).length : Int) = m * l.length + m := by rw [List.length_cons, Int.natCast_add, Int.mul_add]; omega
    rw [e, List.foldr_cons]
    omega
theorem Sml.take {m : Int} {l : List Int} (h : Sml m l) (i : Nat) : Sml m (l.take i) := fun x hx => h x (List.mem_of_mem_take hx)
theorem Sml.sumT {l : List Int} (h : Sml 2000 l) (hl : l.length ≤ 10) (i : Nat) : 0 ≤ sumI (l.take i) ∧ sumI (l.take i) ≤ 20000 := by
  have h1 := (h.take i).sum
  have h2 : (l.take i).length ≤ 10 := by simp; omega
  omega
theorem total_call (xs : List Int) (hx : Sml 2000 xs) (hl : xs.length ≤ 10) : CallA Try.prog 19 [.ro (ints xs)] [] (Ret (.int .i64 (sumI xs)) []) := by
  refine CallP.out (t := .mk) (go_in (md := md19) mixed Try.func19 rfl go19 (by kernel_rfl) ?_)
  simp only [q0, q1, q2, q3, q4, q5, q6, q7, q8, q9, zq0, zq1, zq2, zq3, zq4, guardSlot, quietA, nilC, nilA, quietB, St.ev, St.put, St.after, Nat.reduceAdd, Nat.reduceSub, ofV, ofL, lenA, binA, intBin, fltBin, strBin, cpxBin, unA, convA, convB, convO, pickV, resL, oneA, indexA, indexS, isQuiet, loadA, loadC, storeA, fieldA, partA, sliceA, boundA, buildA, placeA, setAll, appendA, readSl, newEl, AV.cells, AV.solid, AV.one, kill, killM, killL, notInt, Int.reduceToNat, cond_true, cond_false, ↓reduceIte, reduceCtorEq, Nat.reduceLT, Nat.reduceLeDiff, Nat.reduceMul, Nat.reduceEqDiff, exists_eq', putF, implies_true, exists_true_left, tys0, tys1, tys2, tys3, und0, und1, und2, md19, Try.ntmps19, Try.results19]
  refine go_round (md := md19) mixed (by kernel_rfl) (fun i : {i : Nat // i ≤ xs.length} => ⟨[.any, .any, .any, .int .i64 (sumI (xs.take i.1)), .any, .any, .ro (ints xs), .int .i64 xs.length, .int .i64 i.1, .any, .any, .any, .any, .any, .any, .any, .any], []⟩) (fun i => xs.length - i.1) ⟨0, by simp⟩ ?_ ?_
  · exact weak_drop (by simp) (by simp [DropHp, ints_below, flts_below, sumI]) (by simp [DropTm, DropV, below, belowM, belowL, sumI])
  · intro ⟨i, hi⟩
    simp only [q0, q1, q2, q3, q4, q5, q6, q7, q8, q9, zq0, zq1, zq2, zq3, zq4, guardSlot, quietA, nilC, nilA, quietB, St.ev, St.put, St.after, Nat.reduceAdd, Nat.reduceSub, ofV, ofL, lenA, binA, intBin, fltBin, strBin, cpxBin, unA, convA, convB, convO, pickV, resL, oneA, indexA, indexS, isQuiet, loadA, loadC, storeA, fieldA, partA, sliceA, boundA, buildA, placeA, setAll, appendA, readSl, newEl, AV.cells, AV.solid, AV.one, kill, killM, killL, notInt, Int.reduceToNat, cond_true, cond_false, ↓reduceIte, reduceCtorEq, Nat.reduceLT, Nat.reduceLeDiff, Nat.reduceMul, Nat.reduceEqDiff, exists_eq', putF, implies_true, exists_true_left, tys0, tys1, tys2, tys3, und0, und1, und2, md19, Try.ntmps19, Try.results19]
    refine br_intro (fun h => ?_) (fun h => ?_) <;> simp only [q0, q1, q2, q3, q4, q5, q6, q7, q8, q9, zq0, zq1, zq2, zq3, zq4, guardSlot, quietA, nilC, nilA, quietB, St.ev, St.put, St.after, Nat.reduceAdd, Nat.reduceSub, ofV, ofL, lenA, binA, intBin, fltBin, strBin, cpxBin, unA, convA, convB, convO, pickV, resL, oneA, indexA, indexS, isQuiet, loadA, loadC, storeA, fieldA, partA, sliceA, boundA, buildA, placeA, setAll, appendA, readSl, newEl, AV.cells, AV.solid, AV.one, kill, killM, killL, notInt, Int.reduceToNat, cond_true, cond_false, ↓reduceIte, reduceCtorEq, Nat.reduceLT, Nat.reduceLeDiff, Nat.reduceMul, Nat.reduceEqDiff, exists_eq', putF, implies_true, exists_true_left, tys0, tys1, tys2, tys3, und0, und1, und2, md19, Try.ntmps19, Try.results19]
    · have hi' : i < xs.length := by simpa using h
      repeat (refine ⟨?_, ?_⟩; focus first | omega | (simp only [List.length_set, ints_len, flts_len, List.length_map, List.length_append, List.length_cons, List.length_nil]; omega))
      refine ⟨⟨i + 1, by omega⟩, by show xs.length - (i + 1) < _; omega, ?_⟩
      have b1 := hx.sumT hl (i + 1)
      have e2 := sumI_take xs i hi'
      have e1 : IntKind.i64.wrap (sumI (xs.take i) + xs[i]) = sumI (xs.take (i + 1)) := by rw [← e2]; exact w64 (by omega) (by omega)
      exact weak_drop (by simp) (by simp [DropHp, ints_below, flts_below, w64_succ i (by omega), e1]) (by simp [DropTm, DropV, below, belowM, belowL, w64_succ i (by omega), e1])
    · have hi' : i = xs.length := by simp at h; omega
      subst hi'
      rw [List.take_length]
      exact PostR.ret
def rngL (f : Nat → Int) (n : Nat) : List Int := (List.range n).map f
theorem rngL_len (f : Nat → Int) (n : Nat) : (rngL f n).length = n := by simp [rngL]
theorem rngL_succ (f : Nat → Int) (n : Nat) : rngL f n ++ [f n] = rngL f (n + 1) := by simp [rngL, List.range_succ]
theorem rngL_get (f : Nat → Int) (n i : Nat) (h : i < n) : (rngL f n).getD i 0 = f i := by simp [rngL, h]
theorem view_in {hp : List Blk} {i n : Nat} {W : List Int} (h : hp[i]? = some (intB W)) (hl : W.length = n) : view 2 hp (.sl i 0 n) = .ro (ints W) := by
  subst hl
  rw [view_sl, h]
  simp [intB, map_view_ints, take_ints, ints_len]
theorem view_i2 {hp : List Blk} {k : IntKind} {n : Int} : view 2 hp (.int k n) = .int k n := view_int _ _ _ _
theorem subG_subs {σ : List Nat} {hp l : List Blk} (hn : σ.Nodup) (S : SubG (fun i => σ.getD i 0) σ.length hp σ l) : Sub σ hp l where
  nodup := hn
  len := S.len
  blk := fun i r hr => by
    obtain ⟨h1, h2⟩ := S.get i r hr
    exact ⟨_, h1, rfl, fun hl => ⟨hl, rfl, rfl, by simpa [allBelow] using h2⟩⟩
theorem call_subG {P : Program} {f : FuncId} {args : List AV} {hp : List Blk} {Q : AV → List Blk → Prop} {t : Tok Q} (σ : List Nat) {args' : List AV} {hps hps' : List Blk} {r : AV} (h : CallA P f args' hps (Ret r hps')) (hn : σ.Nodup) (S : SubG (fun i => σ.getD i 0) σ.length hp σ hps) (ha : args = args'.map (ren fun i => σ.getD i 0)) (hb : args'.all (below σ.length) = true)
    {hp2 : List Blk} (he : subHp σ hp hps' = hp2) (hQ : Q (ren (upName σ hp.length) r) hp2) : CallP P f args hp Q t := by
  refine call_at (CallA.sub σ (subG_subs hn S) ha hb (h.mono ?_))
  rintro r' hp' ⟨rfl, rfl⟩
  rw [he]
  exact hQ
theorem b10Ints_call (xs : List Int) (hm : xs.length ≤ 1048576) : CallA Try.prog 10 [.ro (ints xs), .ro (ints xs)] [] (Ret (.bool true) []) := by
  refine CallP.out (t := .mk) (go_in (md := md10) mixed Try.func10 rfl go10 (by kernel_rfl) ?_)
  simp only [q0, q1, q2, q3, q4, q5, q6, q7, q8, q9, zq0, zq1, zq2, zq3, zq4, guardSlot, quietA, nilC, nilA, quietB, St.ev, St.put, St.after, Nat.reduceAdd, Nat.reduceSub, ofV, ofL, lenA, binA, intBin, fltBin, strBin, cpxBin, unA, convA, convB, convO, pickV, resL, oneA, indexA, indexS, isQuiet, loadA, loadC, storeA, fieldA, partA, sliceA, boundA, buildA, placeA, setAll, appendA, readSl, newEl, AV.cells, AV.solid, AV.one, kill, killM, killL, notInt, Int.reduceToNat, cond_true, cond_false, ↓reduceIte, reduceCtorEq, Nat.reduceLT, Nat.reduceLeDiff, Nat.reduceMul, Nat.reduceEqDiff, exists_eq', putF, implies_true, exists_true_left, tys0, tys1, tys2, tys3, und0, und1, und2, md10, Try.ntmps10, Try.results10, bne_self_eq_false]
  refine go_round (md := md10) mixed (by kernel_rfl) (fun i : {i : Nat // i ≤ xs.length} => ⟨[.ro (ints xs), .ro (ints xs), .any, .any, .any, .any, .any, .any, .any, .any, .any, .any, .int .i64 xs.length, .int .i64 i.1, .any, .any, .any, .any, .any, .any, .any, .any, .any, .any, .any, .any], []⟩) (fun i => xs.length - i.1) ⟨0, by omega⟩ ?_ ?_
  · exact weak_drop (by simp) (by simp [DropHp, ints_below, flts_below]) (by simp [DropTm, DropV, below, belowM, belowL])
  rintro ⟨i, hi⟩
  simp only [q0, q1, q2, q3, q4, q5, q6, q7, q8, q9, zq0, zq1, zq2, zq3, zq4, guardSlot, quietA, nilC, nilA, quietB, St.ev, St.put, St.after, Nat.reduceAdd, Nat.reduceSub, ofV, ofL, lenA, binA, intBin, fltBin, strBin, cpxBin, unA, convA, convB, convO, pickV, resL, oneA, indexA, indexS, isQuiet, loadA, loadC, storeA, fieldA, partA, sliceA, boundA, buildA, placeA, setAll, appendA, readSl, newEl, AV.cells, AV.solid, AV.one, kill, killM, killL, notInt, Int.reduceToNat, cond_true, cond_false, ↓reduceIte, reduceCtorEq, Nat.reduceLT, Nat.reduceLeDiff, Nat.reduceMul, Nat.reduceEqDiff, exists_eq', putF, implies_true, exists_true_left, tys0, tys1, tys2, tys3, und0, und1, und2, md10, Try.ntmps10, Try.results10]
  refine br_intro (fun h => ?_) (fun h => ?_) <;> simp only [q0, q1, q2, q3, q4, q5, q6, q7, q8, q9, zq0, zq1, zq2, zq3, zq4, guardSlot, quietA, nilC, nilA, quietB, St.ev, St.put, St.after, Nat.reduceAdd, Nat.reduceSub, ofV, ofL, lenA, binA, intBin, fltBin, strBin, cpxBin, unA, convA, convB, convO, pickV, resL, oneA, indexA, indexS, isQuiet, loadA, loadC, storeA, fieldA, partA, sliceA, boundA, buildA, placeA, setAll, appendA, readSl, newEl, AV.cells, AV.solid, AV.one, kill, killM, killL, notInt, Int.reduceToNat, cond_true, cond_false, ↓reduceIte, reduceCtorEq, Nat.reduceLT, Nat.reduceLeDiff, Nat.reduceMul, Nat.reduceEqDiff, exists_eq', putF, implies_true, exists_true_left, tys0, tys1, tys2, tys3, und0, und1, und2, md10, Try.ntmps10, Try.results10]
  · have hi' : i < xs.length := by have := of_decide_eq_true h; omega
    have hI : (i : Int) < (xs.length : Int) := by omega
    simp only [q0, q1, q2, q3, q4, q5, q6, q7, q8, q9, zq0, zq1, zq2, zq3, zq4, guardSlot, quietA, nilC, nilA, quietB, St.ev, St.put, St.after, Nat.reduceAdd, Nat.reduceSub, ofV, ofL, lenA, binA, intBin, fltBin, strBin, cpxBin, unA, convA, convB, convO, pickV, resL, oneA, indexA, indexS, isQuiet, loadA, loadC, storeA, fieldA, partA, sliceA, boundA, buildA, placeA, setAll, appendA, readSl, newEl, AV.cells, AV.solid, AV.one, kill, killM, killL, notInt, Int.reduceToNat, cond_true, cond_false, ↓reduceIte, reduceCtorEq, Nat.reduceLT, Nat.reduceLeDiff, Nat.reduceMul, Nat.reduceEqDiff, exists_eq', putF, implies_true, exists_true_left, tys0, tys1, tys2, tys3, und0, und1, und2, md10, Try.ntmps10, Try.results10, hi', hI, bne_self_eq_false]
    refine ⟨⟨i + 1, by omega⟩, by show xs.length - (i + 1) < _; omega, ?_⟩
    exact weak_drop (by simp) (by simp [DropHp, ints_below, flts_below, w64_succ i (by omega)]) (by simp [DropTm, DropV, below, belowM, belowL, w64_succ i (by omega)])
  · exact PostR.pure ⟨rfl, rfl⟩ rfl
theorem lp_weak {P : Program} {n0 : Nat} {c : Code} {Q : Ex → St → Prop} {st st2 : St} {t : Tok (c, Q)} (hw : Weak n0 st st2) (h : Lp P n0 c Q t st2) : Lp P n0 c Q t st := by
  delta Lp at h ⊢
  intro E0 hp0 E a hn hs
  obtain ⟨E2, he, hs2⟩ := hw _ E0 hp0 E a hn hs
  rw [← he]
  exact h E0 hp0 E2 a hn hs2
def sndC : Code → Code
  | .seq _ b => b
  | c => c
theorem nilD_zero (l : List AV) : l.map (nilD 0) = l := by
  have : ∀ a ∈ l, nilD 0 a = id a := fun _ _ => rfl
  rw [List.map_congr_left this, List.map_id]
def allAny : List AV → Bool
  | [] => true
  | .any :: l => allAny l
  | _ => false
theorem frzTm_rest {new : List Blk} {N : Nat} : ∀ {l l2 : List AV}, l.length = l2.length → allAny l2 = true → FrzTm new N l l2
  | [], [], _, _ => trivial
  | a :: l, .any :: l2, h1, h2 => ⟨.inl (.inl rfl), frzTm_rest (by simpa using h1) h2⟩
  | [], _ :: _, h1, _ => by simp at h1
  | _ :: _, [], h1, _ => by simp at h1
end Go.Proofs.Ytimnfechlomkpaa
