/- The law FnFunds: what is drawn. -/
import Derived.Test.YtobjnmdofgbacaaFuS
set_option maxRecDepth 10000
set_option maxHeartbeats 16000000
set_option linter.unusedSimpArgs false
set_option linter.unusedVariables false
namespace Go.Proofs.Ytobjnmdofgbacaa
open Go Go.Abs

theorem lp_weak {P : Program} {n0 : Nat} {c : Code} {Q : Ex → St → Prop} {st st2 : St} {t : Tok (c, Q)} (hw : Weak n0 st st2) (h : Lp P n0 c Q t st2) : Lp P n0 c Q t st := by
  delta Lp at h ⊢
  intro E0 hp0 E a hn hs
  obtain ⟨E2, he, hs2⟩ := hw _ E0 hp0 E a hn hs
  rw [← he]
  exact h E0 hp0 E2 a hn hs2
def sndC : Code → Code
  | .seq _ b => b
  | c => c
theorem nilD_zero (l : List AV) : l.map (nilD 0) = l := by
  have : ∀ a ∈ l, nilD 0 a = id a := fun _ _ => rfl
  rw [List.map_congr_left this, List.map_id]
theorem frzTm_fl {new : List Blk} {b n : Nat} {xs : List Nat} {l l2 : List AV} (hb : new[b]? = some (fltB xs)) (hn : xs.length = n) (h : FrzTm new 0 l l2) : FrzTm new 0 (.sl b 0 n :: l) (.ro (flts xs) :: l2) := by
  have hlt : b < new.length := (List.getElem?_eq_some_iff.1 hb).1
  refine ⟨.inl (.inr (.inr ⟨2, 1, .sl b 0 n, by simp [ren, renM, renL], by simp [below, belowM, belowL, hlt], ?_⟩)), h⟩
  have e : view 2 new (.sl b 0 n) = .ro (flts xs) := by
    subst hn
    simp [view_sl, hb, map_view_flts, take_flts, flts_len, fltB]
  rw [e]
  show _ = AV.ro ((flts xs).map (nilD 0))
  rw [nilD_zero]
def allAny : List AV → Bool
  | [] => true
  | .any :: l => allAny l
  | _ => false
theorem frzTm_rest {new : List Blk} {N : Nat} : ∀ {l l2 : List AV}, l.length = l2.length → allAny l2 = true → FrzTm new N l l2
  | [], [], _, _ => trivial
  | a :: l, .any :: l2, h1, h2 => ⟨.inl (.inl rfl), frzTm_rest (by simpa using h1) h2⟩
  | [], _ :: _, h1, _ => by simp at h1
  | _ :: _, [], h1, _ => by simp at h1
def aZ (cd : List Int) (j : Nat) : Int := 1 + at10 cd (j : Int) 20
def bZ (cd : List Int) (j : Nat) : Int := at10 cd (10 + (j : Int)) 20
def iL (cd : List Int) (i : Nat) : List Nat := (List.range i).map fun j => iF (aZ cd j)
def oL (cd : List Int) (i : Nat) : List Nat := (List.range i).map fun j => iF (bZ cd j)
theorem iL_len (cd : List Int) (i : Nat) : (iL cd i).length = i := by simp [iL]
theorem oL_len (cd : List Int) (i : Nat) : (oL cd i).length = i := by simp [oL]
theorem iL_succ (cd : List Int) (i : Nat) : iL cd i ++ [iF (aZ cd i)] = iL cd (i + 1) := by simp [iL, List.range_succ]
theorem oL_succ (cd : List Int) (i : Nat) : oL cd i ++ [iF (bZ cd i)] = oL cd (i + 1) := by simp [oL, List.range_succ]
theorem zL_succ (i : Nat) : zL i ++ [0] = zL (i + 1) := by simp [zL, List.range_succ]
def T7 (m : List Int) (is os : List Nat) (n : Nat) : Prop := Lp Try.prog 0 (sndC (sndC (sndC (sndC (sndC (sndC (sndC (Try.f3.body.getD .skip)))))))) (retQ Try.prog Try.f3 0 (Ret (.bool true) [])) .mk
  ⟨[.any, .ro (kint .u8 m), .any, .any, .any, .int .i64 (n : Int), .ro (flts is), .ro (flts os), .ro (flts (zL n)), .any, .any, .any, .any, .any, .any, .any, .any, .any, .any, .any, .any, .any, .any, .any, .any, .any, .any, .any, .any, .any, .any, .any, .any, .any, .any, .any, .any, .any, .any, .any, .any, .any, .any, .any, .any, .any, .any, .any, .any, .any, .any, .any, .any, .any, .any, .any, .any, .any, .any, .any, .any, .any, .any, .any, .any, .any, .any, .any, .any, .any, .any, .any, .any, .any, .any, .any, .any, .any, .any, .any, .any, .any, .any, .any, .any, .any, .any, .any, .any, .any, .any, .any, .any, .any, .any, .any, .any, .any, .any, .any, .any, .any, .any, .any, .any, .any, .any, .any, .any, .any, .any, .any, .any, .any, .any, .any, .any, .any, .any, .any, .any, .any, .any, .any, .any, .any, .any, .any, .any, .any, .any, .any, .any, .any, .any, .any, .any, .any, .any, .any, .any, .any, .any, .any, .any, .any, .any, .any, .any, .any, .any, .any, .any, .any, .any, .any, .any, .any, .any, .any, .any, .any, .any, .any, .any, .any, .any, .any, .any, .any, .any, .any, .any, .any, .any, .any, .any, .any, .any, .any, .any, .any, .any, .any, .any, .any, .any, .any, .any, .any, .any, .any, .any, .any, .any, .any, .any, .any, .any, .any, .any, .any, .any, .any, .any, .any, .any, .any, .any, .any, .any, .any, .any, .any, .any, .any, .any, .any, .any, .any, .any, .any, .any, .any, .any, .any, .any, .any, .any, .any, .any, .any, .any, .any, .any, .any, .any, .any, .any, .any, .any, .any, .any, .any, .any, .any, .any, .any, .any, .any, .any, .any, .any, .any, .any, .any, .any, .any, .any, .any, .any, .any, .any, .any, .any, .any, .any, .any, .any, .any, .any, .any, .any, .any, .any, .any, .any, .any, .any, .any, .any, .any, .any, .any, .any, .any, .any, .any, .any, .any, .any, .any, .any, .any, .any, .any, .any, .any, .any, .any, .any, .any, .any, .any, .any, .any, .any, .any, .any, .any, .any, .any, .any, .any, .any, .any, .any, .any, .any, .any, .any, .any, .any, .any, .any, .any, .any, .any, .any, .any, .any, .any, .any, .any, .any, .any, .any, .any, .any, .any, .any, .any, .any, .any, .any, .any, .any, .any, .any, .any, .any, .any, .any], []⟩
theorem funds_law (cd m : List Int) (hc : byteL cd) (hm : byteL m) (l1 : cd.length ≤ 1048576) (l2 : m.length ≤ 1048576) (tail : ∀ n, 1 ≤ n → n ≤ 8 → T7 m (iL cd n) (oL cd n) n) : CallA Try.prog 3 [.ro (kint .u8 cd), .ro (kint .u8 m)] [] (Ret (.bool true) []) := by
  refine CallP.out (t := .mk) (go_pieces Try.func3 rfl go3 ?_)
  refine lp_seq (md := md3) mixed (by kernel_rfl) (fun Z hZ => ?_); simp only [q0, q1, q2, q3, q4, q5, q6, q7, q8, q9, zq0, zq1, zq2, zq3, zq4, guardSlot, quietA, nilC, nilA, quietB, St.ev, St.put, St.after, Nat.reduceAdd, Nat.reduceSub, ofV, ofL, lenA, binA, intBin, fltBin, strBin, cpxBin, unA, convA, convB, convO, pickV, resL, oneA, indexA, indexS, isQuiet, loadA, loadC, storeA, fieldA, partA, sliceA, boundA, buildA, placeA, setAll, appendA, readSl, newEl, AV.cells, AV.solid, AV.one, kill, killM, killL, notInt, Int.reduceToNat, cond_true, cond_false, ↓reduceIte, reduceCtorEq, Nat.reduceLT, Nat.reduceLeDiff, Nat.reduceMul, Nat.reduceEqDiff, exists_eq', putF, implies_true, exists_true_left, tys0, tys1, tys2, und0, und1, md3, Try.ntmps3, Try.results3]
  refine hZ _ ?_; clear hZ; clear Z; refine lp_seq (md := md3) mixed (by kernel_rfl) (fun Z hZ => ?_); simp only [q0, q1, q2, q3, q4, q5, q6, q7, q8, q9, zq0, zq1, zq2, zq3, zq4, guardSlot, quietA, nilC, nilA, quietB, St.ev, St.put, St.after, Nat.reduceAdd, Nat.reduceSub, ofV, ofL, lenA, binA, intBin, fltBin, strBin, cpxBin, unA, convA, convB, convO, pickV, resL, oneA, indexA, indexS, isQuiet, loadA, loadC, storeA, fieldA, partA, sliceA, boundA, buildA, placeA, setAll, appendA, readSl, newEl, AV.cells, AV.solid, AV.one, kill, killM, killL, notInt, Int.reduceToNat, cond_true, cond_false, ↓reduceIte, reduceCtorEq, Nat.reduceLT, Nat.reduceLeDiff, Nat.reduceMul, Nat.reduceEqDiff, exists_eq', putF, implies_true, exists_true_left, tys0, tys1, tys2, und0, und1, md3, Try.ntmps3, Try.results3]
  refine call_ret (b10Long_call cd m) rfl rfl ?_
  simp only [q0, q1, q2, q3, q4, q5, q6, q7, q8, q9, zq0, zq1, zq2, zq3, zq4, guardSlot, quietA, nilC, nilA, quietB, St.ev, St.put, St.after, Nat.reduceAdd, Nat.reduceSub, ofV, ofL, lenA, binA, intBin, fltBin, strBin, cpxBin, unA, convA, convB, convO, pickV, resL, oneA, indexA, indexS, isQuiet, loadA, loadC, storeA, fieldA, partA, sliceA, boundA, buildA, placeA, setAll, appendA, readSl, newEl, AV.cells, AV.solid, AV.one, kill, killM, killL, notInt, Int.reduceToNat, cond_true, cond_false, ↓reduceIte, reduceCtorEq, Nat.reduceLT, Nat.reduceLeDiff, Nat.reduceMul, Nat.reduceEqDiff, exists_eq', putF, implies_true, exists_true_left, tys0, tys1, tys2, und0, und1, md3, Try.ntmps3, Try.results3]
  refine br_no (by simp only [Bool.or_eq_false_iff, decide_eq_false_iff_not]; omega) ?_
  simp only [q0, q1, q2, q3, q4, q5, q6, q7, q8, q9, zq0, zq1, zq2, zq3, zq4, guardSlot, quietA, nilC, nilA, quietB, St.ev, St.put, St.after, Nat.reduceAdd, Nat.reduceSub, ofV, ofL, lenA, binA, intBin, fltBin, strBin, cpxBin, unA, convA, convB, convO, pickV, resL, oneA, indexA, indexS, isQuiet, loadA, loadC, storeA, fieldA, partA, sliceA, boundA, buildA, placeA, setAll, appendA, readSl, newEl, AV.cells, AV.solid, AV.one, kill, killM, killL, notInt, Int.reduceToNat, cond_true, cond_false, ↓reduceIte, reduceCtorEq, Nat.reduceLT, Nat.reduceLeDiff, Nat.reduceMul, Nat.reduceEqDiff, exists_eq', putF, implies_true, exists_true_left, tys0, tys1, tys2, und0, und1, md3, Try.ntmps3, Try.results3]
  refine hZ _ ?_; clear hZ; clear Z; refine lp_seq (md := md3) mixed (by kernel_rfl) (fun Z hZ => ?_); simp only [q0, q1, q2, q3, q4, q5, q6, q7, q8, q9, zq0, zq1, zq2, zq3, zq4, guardSlot, quietA, nilC, nilA, quietB, St.ev, St.put, St.after, Nat.reduceAdd, Nat.reduceSub, ofV, ofL, lenA, binA, intBin, fltBin, strBin, cpxBin, unA, convA, convB, convO, pickV, resL, oneA, indexA, indexS, isQuiet, loadA, loadC, storeA, fieldA, partA, sliceA, boundA, buildA, placeA, setAll, appendA, readSl, newEl, AV.cells, AV.solid, AV.one, kill, killM, killL, notInt, Int.reduceToNat, cond_true, cond_false, ↓reduceIte, reduceCtorEq, Nat.reduceLT, Nat.reduceLeDiff, Nat.reduceMul, Nat.reduceEqDiff, exists_eq', putF, implies_true, exists_true_left, tys0, tys1, tys2, und0, und1, md3, Try.ntmps3, Try.results3]
  refine call_ret (at10_call m hm l2 0 8 (by omega) (by omega) (by omega) (by omega)) rfl rfl ?_
  have R := at10_low (l := m) (k := 0) (n := 8) (by omega)
  obtain ⟨k, hk⟩ := Int.eq_ofNat_of_zero_le R.1
  rw [hk]
  rw [hk] at R
  clear hk
  have e1 : IntKind.i64.wrap (1 + (k : Int)) = ((k + 1 : Nat) : Int) := by rw [w64 (by omega) (by omega)]; omega
  simp only [q0, q1, q2, q3, q4, q5, q6, q7, q8, q9, zq0, zq1, zq2, zq3, zq4, guardSlot, quietA, nilC, nilA, quietB, St.ev, St.put, St.after, Nat.reduceAdd, Nat.reduceSub, ofV, ofL, lenA, binA, intBin, fltBin, strBin, cpxBin, unA, convA, convB, convO, pickV, resL, oneA, indexA, indexS, isQuiet, loadA, loadC, storeA, fieldA, partA, sliceA, boundA, buildA, placeA, setAll, appendA, readSl, newEl, AV.cells, AV.solid, AV.one, kill, killM, killL, notInt, Int.reduceToNat, cond_true, cond_false, ↓reduceIte, reduceCtorEq, Nat.reduceLT, Nat.reduceLeDiff, Nat.reduceMul, Nat.reduceEqDiff, exists_eq', putF, implies_true, exists_true_left, tys0, tys1, tys2, und0, und1, md3, Try.ntmps3, Try.results3, e1]
  have tl := tail (k + 1) (by omega) (by omega)
  have n8 : k + 1 ≤ 8 := by omega
  have n1 : 1 ≤ k + 1 := by omega
  clear tail e1 R
  generalize k + 1 = n at *
  refine hZ _ ?_; clear hZ; clear Z; refine lp_seq (md := md3) mixed (by kernel_rfl) (fun Z hZ => ?_); simp only [q0, q1, q2, q3, q4, q5, q6, q7, q8, q9, zq0, zq1, zq2, zq3, zq4, guardSlot, quietA, nilC, nilA, quietB, St.ev, St.put, St.after, Nat.reduceAdd, Nat.reduceSub, ofV, ofL, lenA, binA, intBin, fltBin, strBin, cpxBin, unA, convA, convB, convO, pickV, resL, oneA, indexA, indexS, isQuiet, loadA, loadC, storeA, fieldA, partA, sliceA, boundA, buildA, placeA, setAll, appendA, readSl, newEl, AV.cells, AV.solid, AV.one, kill, killM, killL, notInt, Int.reduceToNat, cond_true, cond_false, ↓reduceIte, reduceCtorEq, Nat.reduceLT, Nat.reduceLeDiff, Nat.reduceMul, Nat.reduceEqDiff, exists_eq', putF, implies_true, exists_true_left, tys0, tys1, tys2, und0, und1, md3, Try.ntmps3, Try.results3]
  refine hZ _ ?_; clear hZ; clear Z; refine lp_seq (md := md3) mixed (by kernel_rfl) (fun Z hZ => ?_); simp only [q0, q1, q2, q3, q4, q5, q6, q7, q8, q9, zq0, zq1, zq2, zq3, zq4, guardSlot, quietA, nilC, nilA, quietB, St.ev, St.put, St.after, Nat.reduceAdd, Nat.reduceSub, ofV, ofL, lenA, binA, intBin, fltBin, strBin, cpxBin, unA, convA, convB, convO, pickV, resL, oneA, indexA, indexS, isQuiet, loadA, loadC, storeA, fieldA, partA, sliceA, boundA, buildA, placeA, setAll, appendA, readSl, newEl, AV.cells, AV.solid, AV.one, kill, killM, killL, notInt, Int.reduceToNat, cond_true, cond_false, ↓reduceIte, reduceCtorEq, Nat.reduceLT, Nat.reduceLeDiff, Nat.reduceMul, Nat.reduceEqDiff, exists_eq', putF, implies_true, exists_true_left, tys0, tys1, tys2, und0, und1, md3, Try.ntmps3, Try.results3]
  refine hZ _ ?_; clear hZ; clear Z; refine lp_seq (md := md3) mixed (by kernel_rfl) (fun Z hZ => ?_); simp only [q0, q1, q2, q3, q4, q5, q6, q7, q8, q9, zq0, zq1, zq2, zq3, zq4, guardSlot, quietA, nilC, nilA, quietB, St.ev, St.put, St.after, Nat.reduceAdd, Nat.reduceSub, ofV, ofL, lenA, binA, intBin, fltBin, strBin, cpxBin, unA, convA, convB, convO, pickV, resL, oneA, indexA, indexS, isQuiet, loadA, loadC, storeA, fieldA, partA, sliceA, boundA, buildA, placeA, setAll, appendA, readSl, newEl, AV.cells, AV.solid, AV.one, kill, killM, killL, notInt, Int.reduceToNat, cond_true, cond_false, ↓reduceIte, reduceCtorEq, Nat.reduceLT, Nat.reduceLeDiff, Nat.reduceMul, Nat.reduceEqDiff, exists_eq', putF, implies_true, exists_true_left, tys0, tys1, tys2, und0, und1, md3, Try.ntmps3, Try.results3]
  refine hZ _ ?_; clear hZ; clear Z; refine lp_seq (md := md3) mixed (by kernel_rfl) (fun Z hZ => ?_); simp only [q0, q1, q2, q3, q4, q5, q6, q7, q8, q9, zq0, zq1, zq2, zq3, zq4, guardSlot, quietA, nilC, nilA, quietB, St.ev, St.put, St.after, Nat.reduceAdd, Nat.reduceSub, ofV, ofL, lenA, binA, intBin, fltBin, strBin, cpxBin, unA, convA, convB, convO, pickV, resL, oneA, indexA, indexS, isQuiet, loadA, loadC, storeA, fieldA, partA, sliceA, boundA, buildA, placeA, setAll, appendA, readSl, newEl, AV.cells, AV.solid, AV.one, kill, killM, killL, notInt, Int.reduceToNat, cond_true, cond_false, ↓reduceIte, reduceCtorEq, Nat.reduceLT, Nat.reduceLeDiff, Nat.reduceMul, Nat.reduceEqDiff, exists_eq', putF, implies_true, exists_true_left, tys0, tys1, tys2, und0, und1, md3, Try.ntmps3, Try.results3]
  refine go_round (md := md3) mixed (by kernel_rfl) (fun i : {i : Nat // i ≤ n} => ⟨[.ro (kint .u8 cd), .ro (kint .u8 m), .any, .any, .any, .int .i64 (n : Int), .sl 0 0 i.1, .sl 1 0 i.1, .sl 2 0 i.1, .int .i64 (i.1 : Int), .any, .any, .any, .any, .any, .any, .any, .any, .any, .any, .any, .any, .any, .any, .any, .any, .any, .any, .any, .any, .any, .any, .any, .any, .any, .any, .any, .any, .any, .any, .any, .any, .any, .any, .any, .any, .any, .any, .any, .any, .any, .any, .any, .any, .any, .any, .any, .any, .any, .any, .any, .any, .any, .any, .any, .any, .any, .any, .any, .any, .any, .any, .any, .any, .any, .any, .any, .any, .any, .any, .any, .any, .any, .any, .any, .any, .any, .any, .any, .any, .any, .any, .any, .any, .any, .any, .any, .any, .any, .any, .any, .any, .any, .any, .any, .any, .any, .any, .any, .any, .any, .any, .any, .any, .any, .any, .any, .any, .any, .any, .any, .any, .any, .any, .any, .any, .any, .any, .any, .any, .any, .any, .any, .any, .any, .any, .any, .any, .any, .any, .any, .any, .any, .any, .any, .any, .any, .any, .any, .any, .any, .any, .any, .any, .any, .any, .any, .any, .any, .any, .any, .any, .any, .any, .any, .any, .any, .any, .any, .any, .any, .any, .any, .any, .any, .any, .any, .any, .any, .any, .any, .any, .any, .any, .any, .any, .any, .any, .any, .any, .any, .any, .any, .any, .any, .any, .any, .any, .any, .any, .any, .any, .any, .any, .any, .any, .any, .any, .any, .any, .any, .any, .any, .any, .any, .any, .any, .any, .any, .any, .any, .any, .any, .any, .any, .any, .any, .any, .any, .any, .any, .any, .any, .any, .any, .any, .any, .any, .any, .any, .any, .any, .any, .any, .any, .any, .any, .any, .any, .any, .any, .any, .any, .any, .any, .any, .any, .any, .any, .any, .any, .any, .any, .any, .any, .any, .any, .any, .any, .any, .any, .any, .any, .any, .any, .any, .any, .any, .any, .any, .any, .any, .any, .any, .any, .any, .any, .any, .any, .any, .any, .any, .any, .any, .any, .any, .any, .any, .any, .any, .any, .any, .any, .any, .any, .any, .any, .any, .any, .any, .any, .any, .any, .any, .any, .any, .any, .any, .any, .any, .any, .any, .any, .any, .any, .any, .any, .any, .any, .any, .any, .any, .any, .any, .any, .any, .any, .any, .any, .any, .any, .any, .any, .any, .any, .any, .any, .any, .any, .any, .any, .any, .any], [fltB (iL cd i.1), fltB (oL cd i.1), fltB (zL i.1)]⟩) (fun i => n - i.1) ⟨0, Nat.zero_le _⟩ ?_ ?_
  · have z1 : iL cd 0 = [] := rfl
    have z2 : oL cd 0 = [] := rfl
    have z3 : zL 0 = [] := rfl
    have zf : flts [] = [] := rfl
    rw [z1, z2, z3]
    simp only [fltB, zf]
    exact weak_drop (by simp) (by simp [DropHp, ints_below, flts_below, zf, allBelow_cons, allBelow_nil, below, belowM, belowL]) (by simp [DropTm, DropV, below, belowM, belowL, zf, allBelow_cons, allBelow_nil, below, belowM, belowL])
  rintro ⟨i, hi⟩
  simp only [q0, q1, q2, q3, q4, q5, q6, q7, q8, q9, zq0, zq1, zq2, zq3, zq4, guardSlot, quietA, nilC, nilA, quietB, St.ev, St.put, St.after, Nat.reduceAdd, Nat.reduceSub, ofV, ofL, lenA, binA, intBin, fltBin, strBin, cpxBin, unA, convA, convB, convO, pickV, resL, oneA, indexA, indexS, isQuiet, loadA, loadC, storeA, fieldA, partA, sliceA, boundA, buildA, placeA, setAll, appendA, readSl, newEl, AV.cells, AV.solid, AV.one, kill, killM, killL, notInt, Int.reduceToNat, cond_true, cond_false, ↓reduceIte, reduceCtorEq, Nat.reduceLT, Nat.reduceLeDiff, Nat.reduceMul, Nat.reduceEqDiff, exists_eq', putF, implies_true, exists_true_left, tys0, tys1, tys2, und0, und1, md3, Try.ntmps3, Try.results3]
  refine br_intro (fun h => ?_) (fun h => ?_) <;> simp only [q0, q1, q2, q3, q4, q5, q6, q7, q8, q9, zq0, zq1, zq2, zq3, zq4, guardSlot, quietA, nilC, nilA, quietB, St.ev, St.put, St.after, Nat.reduceAdd, Nat.reduceSub, ofV, ofL, lenA, binA, intBin, fltBin, strBin, cpxBin, unA, convA, convB, convO, pickV, resL, oneA, indexA, indexS, isQuiet, loadA, loadC, storeA, fieldA, partA, sliceA, boundA, buildA, placeA, setAll, appendA, readSl, newEl, AV.cells, AV.solid, AV.one, kill, killM, killL, notInt, Int.reduceToNat, cond_true, cond_false, ↓reduceIte, reduceCtorEq, Nat.reduceLT, Nat.reduceLeDiff, Nat.reduceMul, Nat.reduceEqDiff, exists_eq', putF, implies_true, exists_true_left, tys0, tys1, tys2, und0, und1, md3, Try.ntmps3, Try.results3]
  · have hi' : i < n := by have := of_decide_eq_true h; omega
    refine call_ret (at10_call cd hc l1 i 20 (by omega) (by omega) (by omega) (by omega)) rfl rfl ?_
    have R := at10_low (l := cd) (k := (i : Int)) (n := 20) (by omega)
    have R2 := at10_low (l := cd) (k := 10 + (i : Int)) (n := 20) (by omega)
    have e3 : IntKind.i64.wrap (1 + at10 cd i 20) = 1 + at10 cd i 20 := w64 (by omega) (by omega)
    have e4 : IntKind.i64.wrap (10 + (i : Int)) = 10 + (i : Int) := w64 (by omega) (by omega)
    have il := iL_len cd i
    have ol := oL_len cd i
    have zl := zL_len i
    simp only [q0, q1, q2, q3, q4, q5, q6, q7, q8, q9, zq0, zq1, zq2, zq3, zq4, guardSlot, quietA, nilC, nilA, quietB, St.ev, St.put, St.after, Nat.reduceAdd, Nat.reduceSub, ofV, ofL, lenA, binA, intBin, fltBin, strBin, cpxBin, unA, convA, convB, convO, pickV, resL, oneA, indexA, indexS, isQuiet, loadA, loadC, storeA, fieldA, partA, sliceA, boundA, buildA, placeA, setAll, appendA, readSl, newEl, AV.cells, AV.solid, AV.one, kill, killM, killL, notInt, Int.reduceToNat, cond_true, cond_false, ↓reduceIte, reduceCtorEq, Nat.reduceLT, Nat.reduceLeDiff, Nat.reduceMul, Nat.reduceEqDiff, exists_eq', putF, implies_true, exists_true_left, tys0, tys1, tys2, und0, und1, md3, Try.ntmps3, Try.results3, e3, e4, fltB, flts_len, il, ol, zl, f0, allW_int, fits, List.isEmpty_cons, brk_false, Nat.reduceMul]
    refine ⟨flts_allW [_], by omega, ?_⟩
    refine call_ret (at10_call cd hc l1 (10 + i) 20 (by omega) (by omega) (by omega) (by omega)) rfl rfl ?_
    simp only [q0, q1, q2, q3, q4, q5, q6, q7, q8, q9, zq0, zq1, zq2, zq3, zq4, guardSlot, quietA, nilC, nilA, quietB, St.ev, St.put, St.after, Nat.reduceAdd, Nat.reduceSub, ofV, ofL, lenA, binA, intBin, fltBin, strBin, cpxBin, unA, convA, convB, convO, pickV, resL, oneA, indexA, indexS, isQuiet, loadA, loadC, storeA, fieldA, partA, sliceA, boundA, buildA, placeA, setAll, appendA, readSl, newEl, AV.cells, AV.solid, AV.one, kill, killM, killL, notInt, Int.reduceToNat, cond_true, cond_false, ↓reduceIte, reduceCtorEq, Nat.reduceLT, Nat.reduceLeDiff, Nat.reduceMul, Nat.reduceEqDiff, exists_eq', putF, implies_true, exists_true_left, tys0, tys1, tys2, und0, und1, md3, Try.ntmps3, Try.results3, e3, e4, fltB, flts_len, il, ol, zl, f0, allW_int, fits, List.isEmpty_cons, brk_false, Nat.reduceMul]
    refine ⟨flts_allW [_], by omega, flts_allW [_], by omega, ⟨i + 1, by omega⟩, by show n - (i + 1) < n - i; omega, ?_⟩
    have s1 : iL cd i ++ [canon .f32 (FloatKind.nearest .f32 (1 + at10 cd i 20))] = iL cd (i + 1) := iL_succ cd i
    have s2 : oL cd i ++ [canon .f32 (FloatKind.nearest .f32 (at10 cd (10 + i) 20))] = oL cd (i + 1) := oL_succ cd i
    simp only [s1, s2, zL_succ]
    exact weak_drop (by simp) (by simp [DropHp, ints_below, flts_below, w64_succ i (by omega), fltB, allBelow_cons, allBelow_nil, below, belowM, belowL]) (by simp [DropTm, DropV, below, belowM, belowL, w64_succ i (by omega), fltB, allBelow_cons, allBelow_nil, below, belowM, belowL])
  · have hi' : i = n := by have := of_decide_eq_false h; omega
    subst hi'
    refine hZ _ ?_
    clear hZ; clear Z
    refine lp_weak ?_ tl
    refine weak_freeze (K := []) (new := [fltB (iL cd i), fltB (oL cd i), fltB (zL i)]) (Nat.zero_le _) (by
      intro q hq
      simp only [List.mem_cons, List.not_mem_nil, or_false] at hq
      rcases hq with rfl | rfl | rfl <;> exact flts_below _ _) trivial ?_
    refine frzTm_any (frzTm_keep rfl (frzTm_any (frzTm_any (frzTm_any (frzTm_keep rfl (frzTm_fl rfl (iL_len _ _) (frzTm_fl rfl (oL_len _ _) (frzTm_fl rfl (zL_len _) (frzTm_rest rfl rfl)))))))))
end Go.Proofs.Ytobjnmdofgbacaa
