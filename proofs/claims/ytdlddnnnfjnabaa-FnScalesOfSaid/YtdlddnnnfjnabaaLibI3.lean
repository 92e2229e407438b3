/- Scales: what the program answers of them. -/
import Derived.Test.YtdlddnnnfjnabaaLibI2
set_option maxRecDepth 10000
set_option maxHeartbeats 1000000
set_option linter.unusedSimpArgs false
set_option linter.unusedVariables false
namespace Go.Proofs.Ytdlddnnnfjnabaa
open Go Go.Abs

theorem due_call {bs rs : List Int} (S : Scl bs rs) (c w : Int) (h0 : 0 ≤ c) (h1 : c ≤ 1000000000000) (w0 : 0 ≤ w) (w3 : w ≤ 3) : CallA Try.prog 67 [.agg [.ro (ints bs), .ro (ints rs)], .int .i64 c, .int .i64 w] [] (Ret (.int .i64 (dueF bs rs c w)) []) := by
  have hE := S.ex h0
  refine CallP.out (t := .mk) (go_in (md := md67) mixed Try.func67 rfl go67 (by kernel_rfl) ?_)
  simp only [q0, q1, q2, q3, q4, q5, q6, q7, q8, q9, zq0, zq1, zq2, zq3, zq4, guardSlot, quietA, nilC, nilA, quietB, St.ev, St.put, St.after, Nat.reduceAdd, Nat.reduceSub, ofV, ofL, lenA, binA, intBin, fltBin, strBin, cpxBin, unA, convA, convB, convO, pickV, resL, oneA, indexA, indexS, isQuiet, loadA, loadC, storeA, fieldA, partA, sliceA, boundA, buildA, placeA, setAll, appendA, readSl, newEl, AV.cells, AV.solid, AV.one, kill, killM, killL, notInt, Int.reduceToNat, cond_true, cond_false, ↓reduceIte, reduceCtorEq, Nat.reduceLT, Nat.reduceLeDiff, Nat.reduceMul, Nat.reduceEqDiff, exists_eq', putF, implies_true, exists_true_left, tys0, tys1, tys2, tys3, tys4, und0, und1, und2, und3, md67, Try.ntmps67, Try.results67]
  refine call_ret (exact_call S c h0 h1) rfl rfl ?_
  simp only [q0, q1, q2, q3, q4, q5, q6, q7, q8, q9, zq0, zq1, zq2, zq3, zq4, guardSlot, quietA, nilC, nilA, quietB, St.ev, St.put, St.after, Nat.reduceAdd, Nat.reduceSub, ofV, ofL, lenA, binA, intBin, fltBin, strBin, cpxBin, unA, convA, convB, convO, pickV, resL, oneA, indexA, indexS, isQuiet, loadA, loadC, storeA, fieldA, partA, sliceA, boundA, buildA, placeA, setAll, appendA, readSl, newEl, AV.cells, AV.solid, AV.one, kill, killM, killL, notInt, Int.reduceToNat, cond_true, cond_false, ↓reduceIte, reduceCtorEq, Nat.reduceLT, Nat.reduceLeDiff, Nat.reduceMul, Nat.reduceEqDiff, exists_eq', putF, implies_true, exists_true_left, tys0, tys1, tys2, tys3, tys4, und0, und1, und2, und3, md67, Try.ntmps67, Try.results67]
  refine call_ret (rounded_call (exF bs rs c) 10000 w hE.1 (by omega) (by omega) (by omega) w0 w3) rfl rfl ?_
  simp only [q0, q1, q2, q3, q4, q5, q6, q7, q8, q9, zq0, zq1, zq2, zq3, zq4, guardSlot, quietA, nilC, nilA, quietB, St.ev, St.put, St.after, Nat.reduceAdd, Nat.reduceSub, ofV, ofL, lenA, binA, intBin, fltBin, strBin, cpxBin, unA, convA, convB, convO, pickV, resL, oneA, indexA, indexS, isQuiet, loadA, loadC, storeA, fieldA, partA, sliceA, boundA, buildA, placeA, setAll, appendA, readSl, newEl, AV.cells, AV.solid, AV.one, kill, killM, killL, notInt, Int.reduceToNat, cond_true, cond_false, ↓reduceIte, reduceCtorEq, Nat.reduceLT, Nat.reduceLeDiff, Nat.reduceMul, Nat.reduceEqDiff, exists_eq', putF, implies_true, exists_true_left, tys0, tys1, tys2, tys3, tys4, und0, und1, und2, und3, md67, Try.ntmps67, Try.results67]
  exact PostR.pure ⟨rfl, rfl⟩ rfl
theorem isAsked_call {bs rs : List Int} (S : Scl bs rs) (c w : Int) : CallA Try.prog 62 [.agg [.ro (ints bs), .ro (ints rs)], .int .i64 c, .int .i64 w] [] (Ret (.bool (inR 0 1000000000000 c && inR 0 3 w)) []) := by
  have hl := S.len
  have hcap := S.cap
  refine CallP.out (t := .mk) (go_in (md := md62) mixed Try.func62 rfl go62 (by kernel_rfl) ?_)
  simp only [q0, q1, q2, q3, q4, q5, q6, q7, q8, q9, zq0, zq1, zq2, zq3, zq4, guardSlot, quietA, nilC, nilA, quietB, St.ev, St.put, St.after, Nat.reduceAdd, Nat.reduceSub, ofV, ofL, lenA, binA, intBin, fltBin, strBin, cpxBin, unA, convA, convB, convO, pickV, resL, oneA, indexA, indexS, isQuiet, loadA, loadC, storeA, fieldA, partA, sliceA, boundA, buildA, placeA, setAll, appendA, readSl, newEl, AV.cells, AV.solid, AV.one, kill, killM, killL, notInt, Int.reduceToNat, cond_true, cond_false, ↓reduceIte, reduceCtorEq, Nat.reduceLT, Nat.reduceLeDiff, Nat.reduceMul, Nat.reduceEqDiff, exists_eq', putF, implies_true, exists_true_left, tys0, tys1, tys2, tys3, tys4, und0, und1, und2, und3, md62, Try.ntmps62, Try.results62]
  refine call_ret (validScale_call bs rs (by omega) (by omega)) rfl rfl ?_
  rw [S.ok]
  simp only [q0, q1, q2, q3, q4, q5, q6, q7, q8, q9, zq0, zq1, zq2, zq3, zq4, guardSlot, quietA, nilC, nilA, quietB, St.ev, St.put, St.after, Nat.reduceAdd, Nat.reduceSub, ofV, ofL, lenA, binA, intBin, fltBin, strBin, cpxBin, unA, convA, convB, convO, pickV, resL, oneA, indexA, indexS, isQuiet, loadA, loadC, storeA, fieldA, partA, sliceA, boundA, buildA, placeA, setAll, appendA, readSl, newEl, AV.cells, AV.solid, AV.one, kill, killM, killL, notInt, Int.reduceToNat, cond_true, cond_false, ↓reduceIte, reduceCtorEq, Nat.reduceLT, Nat.reduceLeDiff, Nat.reduceMul, Nat.reduceEqDiff, exists_eq', putF, implies_true, exists_true_left, tys0, tys1, tys2, tys3, tys4, und0, und1, und2, und3, md62, Try.ntmps62, Try.results62]
  refine call_ret (isAmount_call c) rfl rfl ?_
  simp only [q0, q1, q2, q3, q4, q5, q6, q7, q8, q9, zq0, zq1, zq2, zq3, zq4, guardSlot, quietA, nilC, nilA, quietB, St.ev, St.put, St.after, Nat.reduceAdd, Nat.reduceSub, ofV, ofL, lenA, binA, intBin, fltBin, strBin, cpxBin, unA, convA, convB, convO, pickV, resL, oneA, indexA, indexS, isQuiet, loadA, loadC, storeA, fieldA, partA, sliceA, boundA, buildA, placeA, setAll, appendA, readSl, newEl, AV.cells, AV.solid, AV.one, kill, killM, killL, notInt, Int.reduceToNat, cond_true, cond_false, ↓reduceIte, reduceCtorEq, Nat.reduceLT, Nat.reduceLeDiff, Nat.reduceMul, Nat.reduceEqDiff, exists_eq', putF, implies_true, exists_true_left, tys0, tys1, tys2, tys3, tys4, und0, und1, und2, und3, md62, Try.ntmps62, Try.results62]
  refine br_intro (fun h => ?_) (fun h => ?_) <;> simp only [q0, q1, q2, q3, q4, q5, q6, q7, q8, q9, zq0, zq1, zq2, zq3, zq4, guardSlot, quietA, nilC, nilA, quietB, St.ev, St.put, St.after, Nat.reduceAdd, Nat.reduceSub, ofV, ofL, lenA, binA, intBin, fltBin, strBin, cpxBin, unA, convA, convB, convO, pickV, resL, oneA, indexA, indexS, isQuiet, loadA, loadC, storeA, fieldA, partA, sliceA, boundA, buildA, placeA, setAll, appendA, readSl, newEl, AV.cells, AV.solid, AV.one, kill, killM, killL, notInt, Int.reduceToNat, cond_true, cond_false, ↓reduceIte, reduceCtorEq, Nat.reduceLT, Nat.reduceLeDiff, Nat.reduceMul, Nat.reduceEqDiff, exists_eq', putF, implies_true, exists_true_left, tys0, tys1, tys2, tys3, tys4, und0, und1, und2, und3, md62, Try.ntmps62, Try.results62]
  · refine call_ret (isRound_call w) rfl rfl ?_
    simp only [q0, q1, q2, q3, q4, q5, q6, q7, q8, q9, zq0, zq1, zq2, zq3, zq4, guardSlot, quietA, nilC, nilA, quietB, St.ev, St.put, St.after, Nat.reduceAdd, Nat.reduceSub, ofV, ofL, lenA, binA, intBin, fltBin, strBin, cpxBin, unA, convA, convB, convO, pickV, resL, oneA, indexA, indexS, isQuiet, loadA, loadC, storeA, fieldA, partA, sliceA, boundA, buildA, placeA, setAll, appendA, readSl, newEl, AV.cells, AV.solid, AV.one, kill, killM, killL, notInt, Int.reduceToNat, cond_true, cond_false, ↓reduceIte, reduceCtorEq, Nat.reduceLT, Nat.reduceLeDiff, Nat.reduceMul, Nat.reduceEqDiff, exists_eq', putF, implies_true, exists_true_left, tys0, tys1, tys2, tys3, tys4, und0, und1, und2, und3, md62, Try.ntmps62, Try.results62]
    exact PostR.pure ⟨by rw [h]; rfl, rfl⟩ rfl
  · exact PostR.pure ⟨by rw [h]; rfl, rfl⟩ rfl
theorem asked {c w : Int} (h0 : 0 ≤ c) (h1 : c ≤ 1000000000000) (w0 : 0 ≤ w) (w3 : w ≤ 3) : (inR 0 1000000000000 c && inR 0 3 w) = true := by rw [inR_yes h0 h1, inR_yes w0 w3]; rfl
theorem isAsked_yes {bs rs : List Int} (S : Scl bs rs) {c w : Int} (h0 : 0 ≤ c) (h1 : c ≤ 1000000000000) (w0 : 0 ≤ w) (w3 : w ≤ 3) : CallA Try.prog 62 [.agg [.ro (ints bs), .ro (ints rs)], .int .i64 c, .int .i64 w] [] (Ret (.bool true) []) := by
  have := isAsked_call S c w
  rwa [asked h0 h1 w0 w3] at this
theorem dueOf_call {bs rs : List Int} (S : Scl bs rs) (c w : Int) (h0 : 0 ≤ c) (h1 : c ≤ 1000000000000) (w0 : 0 ≤ w) (w3 : w ≤ 3) : CallA Try.prog 22 [.agg [.ro (ints bs), .ro (ints rs)], .int .i64 c, .int .i64 w] [] (Ret (.tup [.int .i64 (dueF bs rs c w), .bool true]) []) := by
  refine CallP.out (t := .mk) (go_in (md := md22) mixed Try.func22 rfl go22 (by kernel_rfl) ?_)
  simp only [q0, q1, q2, q3, q4, q5, q6, q7, q8, q9, zq0, zq1, zq2, zq3, zq4, guardSlot, quietA, nilC, nilA, quietB, St.ev, St.put, St.after, Nat.reduceAdd, Nat.reduceSub, ofV, ofL, lenA, binA, intBin, fltBin, strBin, cpxBin, unA, convA, convB, convO, pickV, resL, oneA, indexA, indexS, isQuiet, loadA, loadC, storeA, fieldA, partA, sliceA, boundA, buildA, placeA, setAll, appendA, readSl, newEl, AV.cells, AV.solid, AV.one, kill, killM, killL, notInt, Int.reduceToNat, cond_true, cond_false, ↓reduceIte, reduceCtorEq, Nat.reduceLT, Nat.reduceLeDiff, Nat.reduceMul, Nat.reduceEqDiff, exists_eq', putF, implies_true, exists_true_left, tys0, tys1, tys2, tys3, tys4, und0, und1, und2, und3, md22, Try.ntmps22, Try.results22]
  refine call_ret (isAsked_yes S h0 h1 w0 w3) rfl rfl ?_
  simp only [q0, q1, q2, q3, q4, q5, q6, q7, q8, q9, zq0, zq1, zq2, zq3, zq4, guardSlot, quietA, nilC, nilA, quietB, St.ev, St.put, St.after, Nat.reduceAdd, Nat.reduceSub, ofV, ofL, lenA, binA, intBin, fltBin, strBin, cpxBin, unA, convA, convB, convO, pickV, resL, oneA, indexA, indexS, isQuiet, loadA, loadC, storeA, fieldA, partA, sliceA, boundA, buildA, placeA, setAll, appendA, readSl, newEl, AV.cells, AV.solid, AV.one, kill, killM, killL, notInt, Int.reduceToNat, cond_true, cond_false, ↓reduceIte, reduceCtorEq, Nat.reduceLT, Nat.reduceLeDiff, Nat.reduceMul, Nat.reduceEqDiff, exists_eq', putF, implies_true, exists_true_left, tys0, tys1, tys2, tys3, tys4, und0, und1, und2, und3, md22, Try.ntmps22, Try.results22]
  refine call_ret (due_call S c w h0 h1 w0 w3) rfl rfl ?_
  simp only [q0, q1, q2, q3, q4, q5, q6, q7, q8, q9, zq0, zq1, zq2, zq3, zq4, guardSlot, quietA, nilC, nilA, quietB, St.ev, St.put, St.after, Nat.reduceAdd, Nat.reduceSub, ofV, ofL, lenA, binA, intBin, fltBin, strBin, cpxBin, unA, convA, convB, convO, pickV, resL, oneA, indexA, indexS, isQuiet, loadA, loadC, storeA, fieldA, partA, sliceA, boundA, buildA, placeA, setAll, appendA, readSl, newEl, AV.cells, AV.solid, AV.one, kill, killM, killL, notInt, Int.reduceToNat, cond_true, cond_false, ↓reduceIte, reduceCtorEq, Nat.reduceLT, Nat.reduceLeDiff, Nat.reduceMul, Nat.reduceEqDiff, exists_eq', putF, implies_true, exists_true_left, tys0, tys1, tys2, tys3, tys4, und0, und1, und2, und3, md22, Try.ntmps22, Try.results22]
  exact PostR.pure ⟨rfl, rfl⟩ rfl
def rtF : List Int → List Int → Int → Int → Int
  | b :: bs, r :: rs, c, o => rtF bs rs c (if b ≤ c then r else o)
  | _, _, _, o => o
theorem rtF_at {bs rs : List Int} (c o : Int) (i : Nat) (h1 : i < bs.length) (h2 : i < rs.length) : rtF (bs.drop i) (rs.drop i) c o = rtF (bs.drop (i + 1)) (rs.drop (i + 1)) c (if bs[i] ≤ c then rs[i] else o) := by
  rw [drop_at bs i h1, drop_at rs i h2]; rfl
theorem rtF_above (c : Int) : ∀ (bs rs : List Int) (o : Int), Asc bs → (∀ b ∈ bs.head?, c < b) → rtF bs rs c o = o
  | [], _, _, _, _ => by simp [rtF]
  | _ :: _, [], _, _, _ => by simp [rtF]
  | b :: bs, r :: rs, o, ha, h => by
    have hb : c < b := h b rfl
    simp only [rtF]
    rw [if_neg (by omega)]
    refine rtF_above c bs rs o ha.tail ?_
    intro b' hb'
    cases bs with
    | nil => simp at hb'
    | cons b2 bs =>
      simp at hb'
      subst hb'
      have := ha.1
      omega
theorem rtF_rtG (c : Int) : ∀ (bs rs : List Int) (b o : Int), Asc (b :: bs) → b ≤ c → rs.length = bs.length + 1 → rtF (b :: bs) rs c o = rtG (b :: bs) rs c
  | [], [r], b, o, _, hb, _ => by simp [rtF, rtG, hb]
  | b' :: bs, r :: rs, b, o, ha, hb, hl => by
    show rtF (b' :: bs) rs c (if b ≤ c then r else o) = (if b' ≤ c then rtG (b' :: bs) rs c else r)
    rw [if_pos hb]
    by_cases h : b' ≤ c
    · rw [if_pos h]; exact rtF_rtG c bs rs b' r ha.2 h (by simpa using hl)
    · rw [if_neg h]; exact rtF_above c _ _ _ ha.2 (by simp; omega)
  | [], [], _, _, _, _, hl => by simp at hl
  | [], _ :: _ :: _, _, _, _, _, hl => by simp at hl
  | _ :: _, [], _, _, _, _, hl => by simp at hl
theorem Scl.rtF {bs rs : List Int} (S : Scl bs rs) {c : Int} (hc : 0 ≤ c) : rtF bs rs c 0 = rtG bs rs c := by
  obtain ⟨tl, rfl, hl⟩ := S.split
  exact rtF_rtG c tl rs 0 0 S.asc hc hl
theorem Scl.rt {bs rs : List Int} (S : Scl bs rs) (c : Int) : 0 ≤ rtG bs rs c ∧ rtG bs rs c ≤ 10000 := rt_bounds 10000 c (by omega) bs rs S.rate

theorem rate_call {bs rs : List Int} (S : Scl bs rs) (c : Int) (h0 : 0 ≤ c) : CallA Try.prog 60 [.agg [.ro (ints bs), .ro (ints rs)], .int .i64 c] [] (Ret (.int .i64 (rtG bs rs c)) []) := by
  have hl := S.len
  have hcap := S.cap
  refine CallP.out (t := .mk) (go_in (md := md60) mixed Try.func60 rfl go60 (by kernel_rfl) ?_)
  simp only [q0, q1, q2, q3, q4, q5, q6, q7, q8, q9, zq0, zq1, zq2, zq3, zq4, guardSlot, quietA, nilC, nilA, quietB, St.ev, St.put, St.after, Nat.reduceAdd, Nat.reduceSub, ofV, ofL, lenA, binA, intBin, fltBin, strBin, cpxBin, unA, convA, convB, convO, pickV, resL, oneA, indexA, indexS, isQuiet, loadA, loadC, storeA, fieldA, partA, sliceA, boundA, buildA, placeA, setAll, appendA, readSl, newEl, AV.cells, AV.solid, AV.one, kill, killM, killL, notInt, Int.reduceToNat, cond_true, cond_false, ↓reduceIte, reduceCtorEq, Nat.reduceLT, Nat.reduceLeDiff, Nat.reduceMul, Nat.reduceEqDiff, exists_eq', putF, implies_true, exists_true_left, tys0, tys1, tys2, tys3, tys4, und0, und1, und2, und3, md60, Try.ntmps60, Try.results60]
  refine go_round (md := md60) mixed (by kernel_rfl) (fun i : {i : Nat × Int // i.1 ≤ bs.length ∧ rtF (bs.drop i.1) (rs.drop i.1) c i.2 = rtG bs rs c} => ⟨[.any, .int .i64 c, .ptr 0 0 0, .any, .any, .int .i64 i.1.2, .any, .any, .any, .ro (ints bs), .int .i64 bs.length, .int .i64 i.1.1, .any, .any, .any, .any, .any, .any, .any, .any, .any, .any, .any, .any, .any, .any], [sclB bs rs]⟩) (fun i => bs.length - i.1.1) ⟨(0, 0), by simp, by simpa using S.rtF h0⟩ ?_ ?_
  · exact weak_drop (by simp) (by simp [DropHp, ints_below, flts_below, sclB, allBelow_cons, allBelow_nil, below, belowM, belowL]) (by simp [DropTm, DropV, below, belowM, belowL, sclB, allBelow_cons, allBelow_nil, below, belowM, belowL])
  · intro ⟨⟨i, o⟩, hi, ht⟩
    simp only [q0, q1, q2, q3, q4, q5, q6, q7, q8, q9, zq0, zq1, zq2, zq3, zq4, guardSlot, quietA, nilC, nilA, quietB, St.ev, St.put, St.after, Nat.reduceAdd, Nat.reduceSub, ofV, ofL, lenA, binA, intBin, fltBin, strBin, cpxBin, unA, convA, convB, convO, pickV, resL, oneA, indexA, indexS, isQuiet, loadA, loadC, storeA, fieldA, partA, sliceA, boundA, buildA, placeA, setAll, appendA, readSl, newEl, AV.cells, AV.solid, AV.one, kill, killM, killL, notInt, Int.reduceToNat, cond_true, cond_false, ↓reduceIte, reduceCtorEq, Nat.reduceLT, Nat.reduceLeDiff, Nat.reduceMul, Nat.reduceEqDiff, exists_eq', putF, implies_true, exists_true_left, tys0, tys1, tys2, tys3, tys4, und0, und1, und2, und3, md60, Try.ntmps60, Try.results60, sclB]
    refine br_intro (fun h => ?_) (fun h => ?_) <;> simp only [q0, q1, q2, q3, q4, q5, q6, q7, q8, q9, zq0, zq1, zq2, zq3, zq4, guardSlot, quietA, nilC, nilA, quietB, St.ev, St.put, St.after, Nat.reduceAdd, Nat.reduceSub, ofV, ofL, lenA, binA, intBin, fltBin, strBin, cpxBin, unA, convA, convB, convO, pickV, resL, oneA, indexA, indexS, isQuiet, loadA, loadC, storeA, fieldA, partA, sliceA, boundA, buildA, placeA, setAll, appendA, readSl, newEl, AV.cells, AV.solid, AV.one, kill, killM, killL, notInt, Int.reduceToNat, cond_true, cond_false, ↓reduceIte, reduceCtorEq, Nat.reduceLT, Nat.reduceLeDiff, Nat.reduceMul, Nat.reduceEqDiff, exists_eq', putF, implies_true, exists_true_left, tys0, tys1, tys2, tys3, tys4, und0, und1, und2, und3, md60, Try.ntmps60, Try.results60, sclB]
    · have hi' : i < bs.length := by simpa using h
      have hi2 : i < rs.length := by omega
      rw [rtF_at c o i hi' hi2] at ht
      refine ⟨hi', ?_⟩
      refine br_intro (fun hb => ?_) (fun hb => ?_) <;> simp only [q0, q1, q2, q3, q4, q5, q6, q7, q8, q9, zq0, zq1, zq2, zq3, zq4, guardSlot, quietA, nilC, nilA, quietB, St.ev, St.put, St.after, Nat.reduceAdd, Nat.reduceSub, ofV, ofL, lenA, binA, intBin, fltBin, strBin, cpxBin, unA, convA, convB, convO, pickV, resL, oneA, indexA, indexS, isQuiet, loadA, loadC, storeA, fieldA, partA, sliceA, boundA, buildA, placeA, setAll, appendA, readSl, newEl, AV.cells, AV.solid, AV.one, kill, killM, killL, notInt, Int.reduceToNat, cond_true, cond_false, ↓reduceIte, reduceCtorEq, Nat.reduceLT, Nat.reduceLeDiff, Nat.reduceMul, Nat.reduceEqDiff, exists_eq', putF, implies_true, exists_true_left, tys0, tys1, tys2, tys3, tys4, und0, und1, und2, und3, md60, Try.ntmps60, Try.results60, sclB]
      · have hb' := of_decide_eq_true hb
        rw [if_pos hb'] at ht
        refine ⟨hi2, ⟨(i + 1, rs[i]), by show i + 1 ≤ _; omega, ht⟩, by show bs.length - (i + 1) < bs.length - i; omega, ?_⟩
        exact weak_drop (by simp) (by simp [DropHp, ints_below, flts_below, w64_succ i (by omega), sclB, allBelow_cons, allBelow_nil, below, belowM, belowL]) (by simp [DropTm, DropV, below, belowM, belowL, w64_succ i (by omega), sclB, allBelow_cons, allBelow_nil, below, belowM, belowL])
      · have hb' := of_decide_eq_false hb
        rw [if_neg hb'] at ht
        refine ⟨⟨(i + 1, o), by show i + 1 ≤ _; omega, ht⟩, by show bs.length - (i + 1) < bs.length - i; omega, ?_⟩
        exact weak_drop (by simp) (by simp [DropHp, ints_below, flts_below, w64_succ i (by omega), sclB, allBelow_cons, allBelow_nil, below, belowM, belowL]) (by simp [DropTm, DropV, below, belowM, belowL, w64_succ i (by omega), sclB, allBelow_cons, allBelow_nil, below, belowM, belowL])
    · have hi' : i = bs.length := by simp at h; omega
      subst hi'
      rw [List.drop_length] at ht
      exact PostR.pure ⟨by rw [← ht]; simp [rtF], rfl⟩ rfl
theorem divisor_call (a b : Nat) (ha : a ≤ 4000000000000000000) (hb : b ≤ 4000000000000000000) : CallA Try.prog 64 [.int .i64 a, .int .i64 b] [] (Ret (.int .i64 (Nat.gcd a b)) []) := by
  refine CallP.out (t := .mk) (go_in (md := md64) mixed Try.func64 rfl go64 (by kernel_rfl) ?_)
  simp only [q0, q1, q2, q3, q4, q5, q6, q7, q8, q9, zq0, zq1, zq2, zq3, zq4, guardSlot, quietA, nilC, nilA, quietB, St.ev, St.put, St.after, Nat.reduceAdd, Nat.reduceSub, ofV, ofL, lenA, binA, intBin, fltBin, strBin, cpxBin, unA, convA, convB, convO, pickV, resL, oneA, indexA, indexS, isQuiet, loadA, loadC, storeA, fieldA, partA, sliceA, boundA, buildA, placeA, setAll, appendA, readSl, newEl, AV.cells, AV.solid, AV.one, kill, killM, killL, notInt, Int.reduceToNat, cond_true, cond_false, ↓reduceIte, reduceCtorEq, Nat.reduceLT, Nat.reduceLeDiff, Nat.reduceMul, Nat.reduceEqDiff, exists_eq', putF, implies_true, exists_true_left, tys0, tys1, tys2, tys3, tys4, und0, und1, und2, und3, md64, Try.ntmps64, Try.results64]
  refine go_round (md := md64) mixed (by kernel_rfl) (fun i : {i : Nat × Nat // Nat.gcd i.1 i.2 = Nat.gcd a b} => ⟨[.int .i64 i.1.1, .int .i64 i.1.2, .any, .any, .any, .any, .any, .any, .any, .any, .any, .any], []⟩) (fun i => i.1.2) ⟨(a, b), rfl⟩ ?_ ?_
  · exact weak_drop (by simp) (by simp [DropHp, ints_below, flts_below]) (by simp [DropTm, DropV, below, belowM, belowL])
  · intro ⟨⟨x, y⟩, he⟩
    simp only [q0, q1, q2, q3, q4, q5, q6, q7, q8, q9, zq0, zq1, zq2, zq3, zq4, guardSlot, quietA, nilC, nilA, quietB, St.ev, St.put, St.after, Nat.reduceAdd, Nat.reduceSub, ofV, ofL, lenA, binA, intBin, fltBin, strBin, cpxBin, unA, convA, convB, convO, pickV, resL, oneA, indexA, indexS, isQuiet, loadA, loadC, storeA, fieldA, partA, sliceA, boundA, buildA, placeA, setAll, appendA, readSl, newEl, AV.cells, AV.solid, AV.one, kill, killM, killL, notInt, Int.reduceToNat, cond_true, cond_false, ↓reduceIte, reduceCtorEq, Nat.reduceLT, Nat.reduceLeDiff, Nat.reduceMul, Nat.reduceEqDiff, exists_eq', putF, implies_true, exists_true_left, tys0, tys1, tys2, tys3, tys4, und0, und1, und2, und3, md64, Try.ntmps64, Try.results64]
    refine br_intro (fun h => ?_) (fun h => ?_) <;> simp only [q0, q1, q2, q3, q4, q5, q6, q7, q8, q9, zq0, zq1, zq2, zq3, zq4, guardSlot, quietA, nilC, nilA, quietB, St.ev, St.put, St.after, Nat.reduceAdd, Nat.reduceSub, ofV, ofL, lenA, binA, intBin, fltBin, strBin, cpxBin, unA, convA, convB, convO, pickV, resL, oneA, indexA, indexS, isQuiet, loadA, loadC, storeA, fieldA, partA, sliceA, boundA, buildA, placeA, setAll, appendA, readSl, newEl, AV.cells, AV.solid, AV.one, kill, killM, killL, notInt, Int.reduceToNat, cond_true, cond_false, ↓reduceIte, reduceCtorEq, Nat.reduceLT, Nat.reduceLeDiff, Nat.reduceMul, Nat.reduceEqDiff, exists_eq', putF, implies_true, exists_true_left, tys0, tys1, tys2, tys3, tys4, und0, und1, und2, und3, md64, Try.ntmps64, Try.results64]
    · have hy : y ≠ 0 := by simpa using h
      refine ⟨by omega, ⟨(y, x % y), by rw [← he]; show Nat.gcd y (x % y) = Nat.gcd x y; rw [Nat.gcd_comm x y, Nat.gcd_rec y x, Nat.gcd_comm]⟩, Nat.mod_lt _ (by omega), ?_⟩
      have e : ((x : Int)).tmod (y : Int) = ((x % y : Nat) : Int) := by rw [tmod_nn (by omega)]; rfl
      exact weak_drop (by simp) (by simp [DropHp, ints_below, flts_below, e]) (by simp [DropTm, DropV, below, belowM, belowL, e])
    · have hy : y = 0 := by simpa using h
      subst hy
      exact PostR.pure ⟨by rw [← he]; simp, rfl⟩ rfl

theorem meanRate_call {bs rs : List Int} (S : Scl bs rs) (c : Int) (h0 : 0 < c) (h1 : c ≤ 100000000000) : ∃ p q g : Int, CallA Try.prog 19 [.agg [.ro (ints bs), .ro (ints rs)], .int .i64 c] [] (Ret (.tup [.int .i64 p, .int .i64 q, .bool true]) []) ∧ 0 ≤ p ∧ 0 < q ∧ 0 < g ∧ p * g = exF bs rs c ∧ q * g = 10000 * c := by
  have hE := S.ex (show 0 ≤ c by omega)
  obtain ⟨e, he⟩ := Int.eq_ofNat_of_zero_le hE.1
  obtain ⟨d, hd⟩ := Int.eq_ofNat_of_zero_le (show 0 ≤ 10000 * c by omega)
  have hdp : 0 < d := by omega
  have g0 : 0 < Nat.gcd e d := Nat.gcd_pos_of_pos_right e hdp
  have g1 := Nat.gcd_dvd_left e d
  have g2 := Nat.gcd_dvd_right e d
  have k1 : e / Nat.gcd e d ≤ e := Nat.div_le_self _ _
  have k2 : d / Nat.gcd e d ≤ d := Nat.div_le_self _ _
  have k3 : 0 < d / Nat.gcd e d := Nat.div_pos (Nat.le_of_dvd hdp g2) g0
  have m1 : e / Nat.gcd e d * Nat.gcd e d = e := Nat.div_mul_cancel g1
  have m2 : d / Nat.gcd e d * Nat.gcd e d = d := Nat.div_mul_cancel g2
  have t1 : (e : Int).tdiv (Nat.gcd e d : Int) = ((e / Nat.gcd e d : Nat) : Int) := by rw [tdiv_nn (by omega)]; rfl
  have t2 : (d : Int).tdiv (Nat.gcd e d : Int) = ((d / Nat.gcd e d : Nat) : Int) := by rw [tdiv_nn (by omega)]; rfl
  have dc := divisor_call e d (by omega) (by omega)
  generalize e / Nat.gcd e d = x at k1 m1 t1
  generalize d / Nat.gcd e d = y at k2 k3 m2 t2
  generalize Nat.gcd e d = g at g0 m1 m2 t1 t2 dc
  have c1 : e ≤ 1000000000000000 := by omega
  have c2 : d ≤ 1000000000000000 := by omega
  have w1 : IntKind.i64.wrap (x : Int) = (x : Int) := w64 (by omega) (by omega)
  have w2 : IntKind.i64.wrap (y : Int) = (y : Int) := w64 (by omega) (by omega)
  have w3 : IntKind.i64.wrap (10000 * c) = (d : Int) := by rw [w64 (by omega) (by omega), hd]
  refine ⟨(x : Int), (y : Int), (g : Int), ?_, by omega, by omega, by omega, ?_, ?_⟩
  · refine CallP.out (t := .mk) (go_in (md := md19) mixed Try.func19 rfl go19 (by kernel_rfl) ?_)
    simp only [q0, q1, q2, q3, q4, q5, q6, q7, q8, q9, zq0, zq1, zq2, zq3, zq4, guardSlot, quietA, nilC, nilA, quietB, St.ev, St.put, St.after, Nat.reduceAdd, Nat.reduceSub, ofV, ofL, lenA, binA, intBin, fltBin, strBin, cpxBin, unA, convA, convB, convO, pickV, resL, oneA, indexA, indexS, isQuiet, loadA, loadC, storeA, fieldA, partA, sliceA, boundA, buildA, placeA, setAll, appendA, readSl, newEl, AV.cells, AV.solid, AV.one, kill, killM, killL, notInt, Int.reduceToNat, cond_true, cond_false, ↓reduceIte, reduceCtorEq, Nat.reduceLT, Nat.reduceLeDiff, Nat.reduceMul, Nat.reduceEqDiff, exists_eq', putF, implies_true, exists_true_left, tys0, tys1, tys2, tys3, tys4, und0, und1, und2, und3, md19, Try.ntmps19, Try.results19]
    refine call_ret (isAsked_yes (c := c) (w := 0) S (by omega) (by omega) (by omega) (by omega)) rfl rfl ?_
    simp only [q0, q1, q2, q3, q4, q5, q6, q7, q8, q9, zq0, zq1, zq2, zq3, zq4, guardSlot, quietA, nilC, nilA, quietB, St.ev, St.put, St.after, Nat.reduceAdd, Nat.reduceSub, ofV, ofL, lenA, binA, intBin, fltBin, strBin, cpxBin, unA, convA, convB, convO, pickV, resL, oneA, indexA, indexS, isQuiet, loadA, loadC, storeA, fieldA, partA, sliceA, boundA, buildA, placeA, setAll, appendA, readSl, newEl, AV.cells, AV.solid, AV.one, kill, killM, killL, notInt, Int.reduceToNat, cond_true, cond_false, ↓reduceIte, reduceCtorEq, Nat.reduceLT, Nat.reduceLeDiff, Nat.reduceMul, Nat.reduceEqDiff, exists_eq', putF, implies_true, exists_true_left, tys0, tys1, tys2, tys3, tys4, und0, und1, und2, und3, md19, Try.ntmps19, Try.results19]
    refine br_no (beq_false_of_ne (show c ≠ 0 by omega)) ?_
    simp only [q0, q1, q2, q3, q4, q5, q6, q7, q8, q9, zq0, zq1, zq2, zq3, zq4, guardSlot, quietA, nilC, nilA, quietB, St.ev, St.put, St.after, Nat.reduceAdd, Nat.reduceSub, ofV, ofL, lenA, binA, intBin, fltBin, strBin, cpxBin, unA, convA, convB, convO, pickV, resL, oneA, indexA, indexS, isQuiet, loadA, loadC, storeA, fieldA, partA, sliceA, boundA, buildA, placeA, setAll, appendA, readSl, newEl, AV.cells, AV.solid, AV.one, kill, killM, killL, notInt, Int.reduceToNat, cond_true, cond_false, ↓reduceIte, reduceCtorEq, Nat.reduceLT, Nat.reduceLeDiff, Nat.reduceMul, Nat.reduceEqDiff, exists_eq', putF, implies_true, exists_true_left, tys0, tys1, tys2, tys3, tys4, und0, und1, und2, und3, md19, Try.ntmps19, Try.results19]
    refine call_ret (exact_call S c (by omega) (by omega)) rfl rfl ?_
    simp only [q0, q1, q2, q3, q4, q5, q6, q7, q8, q9, zq0, zq1, zq2, zq3, zq4, guardSlot, quietA, nilC, nilA, quietB, St.ev, St.put, St.after, Nat.reduceAdd, Nat.reduceSub, ofV, ofL, lenA, binA, intBin, fltBin, strBin, cpxBin, unA, convA, convB, convO, pickV, resL, oneA, indexA, indexS, isQuiet, loadA, loadC, storeA, fieldA, partA, sliceA, boundA, buildA, placeA, setAll, appendA, readSl, newEl, AV.cells, AV.solid, AV.one, kill, killM, killL, notInt, Int.reduceToNat, cond_true, cond_false, ↓reduceIte, reduceCtorEq, Nat.reduceLT, Nat.reduceLeDiff, Nat.reduceMul, Nat.reduceEqDiff, exists_eq', putF, implies_true, exists_true_left, tys0, tys1, tys2, tys3, tys4, und0, und1, und2, und3, md19, Try.ntmps19, Try.results19, w3]
    rw [he]
    refine call_ret dc rfl rfl ?_
    have gn : (g : Int) ≠ 0 := by omega
    have t1' : (Int.ofNat e).tdiv (g : Int) = (x : Int) := t1
    simp only [q0, q1, q2, q3, q4, q5, q6, q7, q8, q9, zq0, zq1, zq2, zq3, zq4, guardSlot, quietA, nilC, nilA, quietB, St.ev, St.put, St.after, Nat.reduceAdd, Nat.reduceSub, ofV, ofL, lenA, binA, intBin, fltBin, strBin, cpxBin, unA, convA, convB, convO, pickV, resL, oneA, indexA, indexS, isQuiet, loadA, loadC, storeA, fieldA, partA, sliceA, boundA, buildA, placeA, setAll, appendA, readSl, newEl, AV.cells, AV.solid, AV.one, kill, killM, killL, notInt, Int.reduceToNat, cond_true, cond_false, ↓reduceIte, reduceCtorEq, Nat.reduceLT, Nat.reduceLeDiff, Nat.reduceMul, Nat.reduceEqDiff, exists_eq', putF, implies_true, exists_true_left, tys0, tys1, tys2, tys3, tys4, und0, und1, und2, und3, md19, Try.ntmps19, Try.results19, t1, t1', t2, w1, w2]
    refine ⟨gn, gn, ?_⟩
    exact PostR.pure ⟨rfl, rfl⟩ rfl
  · rw [he, ← Int.natCast_mul, m1]
  · rw [hd, ← Int.natCast_mul, m2]

end Go.Proofs.Ytdlddnnnfjnabaa
