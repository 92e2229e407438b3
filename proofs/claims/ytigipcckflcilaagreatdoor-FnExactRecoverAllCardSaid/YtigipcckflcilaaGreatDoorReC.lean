/- Marks in saved ones that lie in memory one after the other. -/
import Derived.Test.YtigipcckflcilaaGreatDoorReA
set_option maxRecDepth 10000
set_option maxHeartbeats 8000000
set_option linter.unusedSimpArgs false
set_option linter.unusedVariables false
namespace Go.Proofs.YtigipcckflcilaaGreatDoor
open Go Go.Abs

def mt (k : Nat) : List UInt8 := 109 :: Lib.decDigits k
theorem markText_call (k : Nat) (h0 : 1 ≤ k) (h1 : k ≤ 9223372036854775807) : CallA Tryz.prog 68 [.int .i64 k] [] (Ret (.str (mt k)) []) := by
  refine CallP.out (t := .mk) (go_in (md := md68) mixed Tryz.func68 rfl go68 (by kernel_rfl) ?_)
  simp only [q0, q1, q2, q3, q4, q5, q6, q7, q8, q9, zq0, zq1, zq2, zq3, zq4, guardSlot, quietA, nilC, nilA, quietB, St.ev, St.put, St.after, Nat.reduceAdd, Nat.reduceSub, ofV, ofL, lenA, binA, intBin, fltBin, strBin, cpxBin, unA, convA, convB, convO, pickV, resL, oneA, indexA, indexS, isQuiet, loadA, loadC, storeA, fieldA, partA, sliceA, boundA, buildA, placeA, setAll, appendA, readSl, newEl, AV.cells, AV.solid, AV.one, kill, killM, killL, notInt, Int.reduceToNat, cond_true, cond_false, ↓reduceIte, reduceCtorEq, Nat.reduceLT, Nat.reduceLeDiff, Nat.reduceMul, Nat.reduceEqDiff, exists_eq', putF, implies_true, exists_true_left, tys0, tys1, tys2, und0, und1, md68, Tryz.ntmps68, Tryz.results68]
  refine br_no (by first | exact decide_eq_false (by omega) | exact beq_false_of_ne (by omega) | (simp only [bne_eq_false_iff_eq, beq_eq_false_iff_ne, ne_eq]; omega)) ?_; simp only [q0, q1, q2, q3, q4, q5, q6, q7, q8, q9, zq0, zq1, zq2, zq3, zq4, guardSlot, quietA, nilC, nilA, quietB, St.ev, St.put, St.after, Nat.reduceAdd, Nat.reduceSub, ofV, ofL, lenA, binA, intBin, fltBin, strBin, cpxBin, unA, convA, convB, convO, pickV, resL, oneA, indexA, indexS, isQuiet, loadA, loadC, storeA, fieldA, partA, sliceA, boundA, buildA, placeA, setAll, appendA, readSl, newEl, AV.cells, AV.solid, AV.one, kill, killM, killL, notInt, Int.reduceToNat, cond_true, cond_false, ↓reduceIte, reduceCtorEq, Nat.reduceLT, Nat.reduceLeDiff, Nat.reduceMul, Nat.reduceEqDiff, exists_eq', putF, implies_true, exists_true_left, tys0, tys1, tys2, und0, und1, md68, Tryz.ntmps68, Tryz.results68]
  refine go_round (md := md68) mixed (by kernel_rfl) (fun p : {p : List UInt8 × Nat // DecI k (p.1, (p.2 : Int)) ∧ (p.1 = [] → p.2 ≠ 0)} => ⟨[.int .i64 p.1.2, .any, .any, .str p.1.1, .any, .any, .any, .any, .any, .any, .any, .any, .any, .any, .any, .any, .any, .any, .any, .any], []⟩) (fun p => p.1.2) ⟨([], k), ⟨by simp [decS], by simp; omega, by simp, by show (-9223372036854775808 : Int) ≤ (k : Int); omega, by show (k : Int) ≤ 9223372036854775807; omega⟩, fun _ => by show k ≠ 0; omega⟩ ?_ ?_
  · exact weak_drop (by simp) (by simp [DropHp, ints_below, flts_below]) (by simp [DropTm, DropV, below, belowM, belowL])
  rintro ⟨⟨out, r⟩, hI, hz⟩
  have hI' := hI
  obtain ⟨hd, hp, hl, hr0, hr1⟩ := hI'
  dsimp only at hd hp hl hr0 hr1 hz
  have hk : r % 10 < 10 := Nat.mod_lt _ (by omega)
  have e3 := digit_byte (r % 10) hk
  simp only [q0, q1, q2, q3, q4, q5, q6, q7, q8, q9, zq0, zq1, zq2, zq3, zq4, guardSlot, quietA, nilC, nilA, quietB, St.ev, St.put, St.after, Nat.reduceAdd, Nat.reduceSub, ofV, ofL, lenA, binA, intBin, fltBin, strBin, cpxBin, unA, convA, convB, convO, pickV, resL, oneA, indexA, indexS, isQuiet, loadA, loadC, storeA, fieldA, partA, sliceA, boundA, buildA, placeA, setAll, appendA, readSl, newEl, AV.cells, AV.solid, AV.one, kill, killM, killL, notInt, Int.reduceToNat, cond_true, cond_false, ↓reduceIte, reduceCtorEq, Nat.reduceLT, Nat.reduceLeDiff, Nat.reduceMul, Nat.reduceEqDiff, exists_eq', putF, implies_true, exists_true_left, tys0, tys1, tys2, und0, und1, md68, Tryz.ntmps68, Tryz.results68]
  refine br_intro (fun h => ?_) (fun h => ?_) <;> simp only [q0, q1, q2, q3, q4, q5, q6, q7, q8, q9, zq0, zq1, zq2, zq3, zq4, guardSlot, quietA, nilC, nilA, quietB, St.ev, St.put, St.after, Nat.reduceAdd, Nat.reduceSub, ofV, ofL, lenA, binA, intBin, fltBin, strBin, cpxBin, unA, convA, convB, convO, pickV, resL, oneA, indexA, indexS, isQuiet, loadA, loadC, storeA, fieldA, partA, sliceA, boundA, buildA, placeA, setAll, appendA, readSl, newEl, AV.cells, AV.solid, AV.one, kill, killM, killL, notInt, Int.reduceToNat, cond_true, cond_false, ↓reduceIte, reduceCtorEq, Nat.reduceLT, Nat.reduceLeDiff, Nat.reduceMul, Nat.reduceEqDiff, exists_eq', putF, implies_true, exists_true_left, tys0, tys1, tys2, und0, und1, md68, Tryz.ntmps68, Tryz.results68, Int.reduceLT, Int.reduceLE, Int.reduceNeg, Int.reduceEq, Int.reduceGT, Int.reduceGE, decide_true, decide_false, beq_self_eq_true, bne_self_eq_false, Int.reduceBEq, Int.reduceBNe, Int.reduceAdd, Int.reduceSub]
  · have h' : 0 < r := by have := of_decide_eq_true h; omega
    have e1 : (r : Int).tmod 10 = ((r % 10 : Nat) : Int) := by rw [Int.tmod_eq_emod_of_nonneg (by omega)]; omega
    have e2 : IntKind.i64.wrap (48 + ((r % 10 : Nat) : Int)) = 48 + ((r % 10 : Nat) : Int) := w64 (by omega) (by omega)
    have e5 : IntKind.u8.wrap (48 + ((r % 10 : Nat) : Int)) = 48 + ((r % 10 : Nat) : Int) := w8 (by omega) (by omega)
    have e6 : (r : Int).tdiv 10 = ((r / 10 : Nat) : Int) := by rw [Int.tdiv_eq_ediv_of_nonneg (by omega)]; omega
    have e4 : IntKind.i64.wrap ((r / 10 : Nat) : Int) = ((r / 10 : Nat) : Int) := w64 (by omega) (by omega)
    have nx : DecI k (UInt8.ofNat (48 + r % 10) :: out, ((r / 10 : Nat) : Int)) := by
      have := hI.next (.inr (show (r : Int) ≠ 0 by omega))
      dsimp only at this
      rw [e6] at this
      exact this
    refine ⟨by decide, ⟨5, rfl, Tryz.underlying5⟩, [UInt8.ofNat (48 + r % 10)], by rw [e1, e2, e5, ← e3]; rfl, rfl, by simp; omega, by decide, ⟨(UInt8.ofNat (48 + r % 10) :: out, r / 10), nx, fun e => by simp at e⟩, by show r / 10 < r; omega, ?_⟩
    rw [e6, e4]
    show Weak 0 _ ⟨_, _⟩
    exact weak_drop (by simp) (by simp [DropHp, ints_below, flts_below]) (by simp [DropTm, DropV, below, belowM, belowL])
  · have h' : r = 0 := by have := of_decide_eq_false h; omega
    refine ⟨by omega, PostR.pure ⟨?_, rfl⟩ rfl⟩
    subst h'
    have : out = Lib.decDigits k := by
      have hd' : decS 0 out = Lib.decDigits k := hd
      rw [← hd']
      unfold decS
      rw [if_neg]
      rintro (e | e)
      · exact hz e rfl
      · exact e rfl
    rw [this]
    rfl
def mtI (k : Int) : List UInt8 := mt k.toNat
theorem markTextI_call (k : Int) (h0 : 1 ≤ k) (h1 : k ≤ 9223372036854775807) : CallA Tryz.prog 68 [.int .i64 k] [] (Ret (.str (mtI k)) []) := by
  have h := markText_call k.toNat (by omega) (by omega)
  rw [Int.toNat_of_nonneg (by omega)] at h
  exact h
def mkX (k : Int) (x : Sav) : Sav := (mtI k, mkRs (k + 1) x.2.1, marks (nxRs (k + 1) x.2.1) x.2.2.length)
def nxX (k : Int) (x : Sav) : Int := nxRs (k + 1) x.2.1 + x.2.2.length
def mkL (k : Int) : List Sav → List Sav
  | [] => []
  | x :: L => mkX k x :: mkL (nxX k x) L
def nxL (k : Int) : List Sav → Int
  | [] => k
  | x :: L => nxL (nxX k x) L
theorem mkX_wid (k : Int) (x : Sav) : widS (mkX k x) = widS x := by simp [widS, mkX, mkRs_len]
theorem mkL_len : ∀ (L : List Sav) (k : Int), (mkL k L).length = L.length
  | [], _ => rfl
  | x :: L, k => by simp [mkL, mkL_len L]
theorem mkL_snoc (x : Sav) : ∀ (L : List Sav) (k : Int), mkL k (L ++ [x]) = mkL k L ++ [mkX (nxL k L) x]
  | [], _ => rfl
  | y :: L, k => by simp [mkL, nxL, mkL_snoc x L]
theorem nxL_snoc (x : Sav) : ∀ (L : List Sav) (k : Int), nxL k (L ++ [x]) = nxX (nxL k L) x
  | [], _ => rfl
  | y :: L, k => by simp [nxL, nxL_snoc x L]
theorem nxX_is (k : Int) (x : Sav) : nxX k x = k + 1 + 4 * x.2.1.length + sumL x.2.1 + x.2.2.length := by unfold nxX; rw [nxRs_is]
theorem nxX_le {k : Int} {x : Sav} (h : sizS x ≤ 1048576) : k < nxX k x ∧ nxX k x ≤ k + 5000000 := by
  have hs : x.1.length + (x.2.1.length + sumL x.2.1) + x.2.2.length ≤ 1048576 := h
  rw [nxX_is]
  omega
theorem nxL_le : ∀ (L : List Sav) (k : Int), (∀ x ∈ L, sizS x ≤ 1048576) → k ≤ nxL k L ∧ nxL k L ≤ k + 5000000 * L.length
  | [], k, _ => by simp [nxL]
  | x :: L, k, h => by
    have h1 := nxX_le (k := k) (h x (by simp))
    have h2 := nxL_le L (nxX k x) (fun y hy => h y (by simp [hy]))
    simp only [nxL, List.length_cons]
    omega
theorem mkL_get : ∀ (L : List Sav) (k : Int) (i : Nat) (h : i < L.length) (h2 : i < (mkL k L).length), (mkL k L)[i] = mkX (nxL k (L.take i)) L[i]
  | [], _, _, h, _ => absurd h (by simp)
  | x :: L, k, 0, _, _ => rfl
  | x :: L, k, i + 1, h, h2 => by
    simp only [List.take_succ_cons, nxL, mkL, List.getElem_cons_succ]
    exact mkL_get L _ i (by simpa using h) _
theorem elsS_app (Q : List Sav) : ∀ (P : List Sav) (b : Nat), elsS b (P ++ Q) = elsS b P ++ elsS (b + offS P) Q
  | [], b => by simp [elsS, offS]
  | x :: P, b => by
    simp only [List.cons_append, elsS, offS, elsS_app Q P]
    rw [show b + widS x + offS P = b + (widS x + offS P) by omega]
theorem blkS_app (Q : List Sav) : ∀ (P : List Sav) (b : Nat), blkS b (P ++ Q) = blkS b P ++ blkS (b + offS P) Q
  | [], b => by simp [blkS, offS]
  | x :: P, b => by
    simp only [List.cons_append, blkS, offS, blkS_app Q P, List.append_assoc]
    rw [show b + widS x + offS P = b + (widS x + offS P) by omega]
theorem eqSavedS_self (L : List Sav) (hL : L.length ≤ 8) (hv : ∀ x ∈ L, sizS x ≤ 1048576) : CallA Tryz.prog 30 [.ro (L.map savA), .ro (L.map savA)] [] (Ret (.bool true) []) := by
  refine CallP.out (t := .mk) (go_in (md := md30) mixed Tryz.func30 rfl go30 (by kernel_rfl) ?_)
  simp only [q0, q1, q2, q3, q4, q5, q6, q7, q8, q9, zq0, zq1, zq2, zq3, zq4, guardSlot, quietA, nilC, nilA, quietB, St.ev, St.put, St.after, Nat.reduceAdd, Nat.reduceSub, ofV, ofL, lenA, binA, intBin, fltBin, strBin, cpxBin, unA, convA, convB, convO, pickV, resL, oneA, indexA, indexS, isQuiet, loadA, loadC, storeA, fieldA, partA, sliceA, boundA, buildA, placeA, setAll, appendA, readSl, newEl, AV.cells, AV.solid, AV.one, kill, killM, killL, notInt, Int.reduceToNat, cond_true, cond_false, ↓reduceIte, reduceCtorEq, Nat.reduceLT, Nat.reduceLeDiff, Nat.reduceMul, Nat.reduceEqDiff, exists_eq', putF, implies_true, exists_true_left, tys0, tys1, tys2, und0, und1, md30, Tryz.ntmps30, Tryz.results30, List.length_map, bne_self_eq_false]
  refine go_round (md := md30) mixed (by kernel_rfl) (fun i : {i : Nat // i ≤ L.length} => ⟨[.ro (L.map savA), .ro (L.map savA), .any, .any, .any, .int .i64 i.1, .any, .any, .any, .any, .any, .any, .any, .any, .any, .any, .any, .any, .any, .any, .any, .any, .any, .any, .any, .any, .any], []⟩) (fun i => L.length - i.1) ⟨0, by omega⟩ ?_ ?_
  · exact weak_drop (by simp) (by simp [DropHp, ints_below, flts_below]) (by simp [DropTm, DropV, below, belowM, belowL])
  rintro ⟨i, hi⟩
  simp only [q0, q1, q2, q3, q4, q5, q6, q7, q8, q9, zq0, zq1, zq2, zq3, zq4, guardSlot, quietA, nilC, nilA, quietB, St.ev, St.put, St.after, Nat.reduceAdd, Nat.reduceSub, ofV, ofL, lenA, binA, intBin, fltBin, strBin, cpxBin, unA, convA, convB, convO, pickV, resL, oneA, indexA, indexS, isQuiet, loadA, loadC, storeA, fieldA, partA, sliceA, boundA, buildA, placeA, setAll, appendA, readSl, newEl, AV.cells, AV.solid, AV.one, kill, killM, killL, notInt, Int.reduceToNat, cond_true, cond_false, ↓reduceIte, reduceCtorEq, Nat.reduceLT, Nat.reduceLeDiff, Nat.reduceMul, Nat.reduceEqDiff, exists_eq', putF, implies_true, exists_true_left, tys0, tys1, tys2, und0, und1, md30, Tryz.ntmps30, Tryz.results30, List.length_map, List.getElem_map]
  refine br_intro (fun h => ?_) (fun h => ?_) <;> simp only [q0, q1, q2, q3, q4, q5, q6, q7, q8, q9, zq0, zq1, zq2, zq3, zq4, guardSlot, quietA, nilC, nilA, quietB, St.ev, St.put, St.after, Nat.reduceAdd, Nat.reduceSub, ofV, ofL, lenA, binA, intBin, fltBin, strBin, cpxBin, unA, convA, convB, convO, pickV, resL, oneA, indexA, indexS, isQuiet, loadA, loadC, storeA, fieldA, partA, sliceA, boundA, buildA, placeA, setAll, appendA, readSl, newEl, AV.cells, AV.solid, AV.one, kill, killM, killL, notInt, Int.reduceToNat, cond_true, cond_false, ↓reduceIte, reduceCtorEq, Nat.reduceLT, Nat.reduceLeDiff, Nat.reduceMul, Nat.reduceEqDiff, exists_eq', putF, implies_true, exists_true_left, tys0, tys1, tys2, und0, und1, md30, Tryz.ntmps30, Tryz.results30, List.length_map, List.getElem_map]
  · have hi' : i < L.length := by have := of_decide_eq_true h; omega
    have hI : (i : Int) < (L.length : Int) := by omega
    have er := eqSaved_self L[i] (hv _ (List.getElem_mem hi'))
    unfold savA at er
    simp only [q0, q1, q2, q3, q4, q5, q6, q7, q8, q9, zq0, zq1, zq2, zq3, zq4, guardSlot, quietA, nilC, nilA, quietB, St.ev, St.put, St.after, Nat.reduceAdd, Nat.reduceSub, ofV, ofL, lenA, binA, intBin, fltBin, strBin, cpxBin, unA, convA, convB, convO, pickV, resL, oneA, indexA, indexS, isQuiet, loadA, loadC, storeA, fieldA, partA, sliceA, boundA, buildA, placeA, setAll, appendA, readSl, newEl, AV.cells, AV.solid, AV.one, kill, killM, killL, notInt, Int.reduceToNat, cond_true, cond_false, ↓reduceIte, reduceCtorEq, Nat.reduceLT, Nat.reduceLeDiff, Nat.reduceMul, Nat.reduceEqDiff, exists_eq', putF, implies_true, exists_true_left, tys0, tys1, tys2, und0, und1, md30, Tryz.ntmps30, Tryz.results30, List.length_map, List.getElem_map, savA, hi', hI]
    refine callr_ret er rfl rfl ?_
    simp only [q0, q1, q2, q3, q4, q5, q6, q7, q8, q9, zq0, zq1, zq2, zq3, zq4, guardSlot, quietA, nilC, nilA, quietB, St.ev, St.put, St.after, Nat.reduceAdd, Nat.reduceSub, ofV, ofL, lenA, binA, intBin, fltBin, strBin, cpxBin, unA, convA, convB, convO, pickV, resL, oneA, indexA, indexS, isQuiet, loadA, loadC, storeA, fieldA, partA, sliceA, boundA, buildA, placeA, setAll, appendA, readSl, newEl, AV.cells, AV.solid, AV.one, kill, killM, killL, notInt, Int.reduceToNat, cond_true, cond_false, ↓reduceIte, reduceCtorEq, Nat.reduceLT, Nat.reduceLeDiff, Nat.reduceMul, Nat.reduceEqDiff, exists_eq', putF, implies_true, exists_true_left, tys0, tys1, tys2, und0, und1, md30, Tryz.ntmps30, Tryz.results30, List.length_map, List.getElem_map, savA, hi', hI]
    refine ⟨⟨i + 1, by omega⟩, by show L.length - (i + 1) < _; omega, ?_⟩
    exact weak_drop (by simp) (by simp [DropHp, ints_below, flts_below, w64_succ i (by omega)]) (by simp [DropTm, DropV, below, belowM, belowL, w64_succ i (by omega)])
  · exact PostR.pure ⟨rfl, rfl⟩ rfl
theorem heldSavedS_call (L : List Sav) (k : Int) (h0 : 1 ≤ k) (h1 : k ≤ 100000000) (hL : L.length ≤ 8) (hv : ∀ x ∈ L, sizS x ≤ 1048576) : CallA Tryz.prog 32 [.ro ((mkL k L).map savA), .int .i64 k] [] (Ret (.int .i64 (nxL k L)) []) := by
  have ll : (mkL k L).length = L.length := mkL_len L k
  refine CallP.out (t := .mk) (go_in (md := md32) mixed Tryz.func32 rfl go32 (by kernel_rfl) ?_)
  simp only [q0, q1, q2, q3, q4, q5, q6, q7, q8, q9, zq0, zq1, zq2, zq3, zq4, guardSlot, quietA, nilC, nilA, quietB, St.ev, St.put, St.after, Nat.reduceAdd, Nat.reduceSub, ofV, ofL, lenA, binA, intBin, fltBin, strBin, cpxBin, unA, convA, convB, convO, pickV, resL, oneA, indexA, indexS, isQuiet, loadA, loadC, storeA, fieldA, partA, sliceA, boundA, buildA, placeA, setAll, appendA, readSl, newEl, AV.cells, AV.solid, AV.one, kill, killM, killL, notInt, Int.reduceToNat, cond_true, cond_false, ↓reduceIte, reduceCtorEq, Nat.reduceLT, Nat.reduceLeDiff, Nat.reduceMul, Nat.reduceEqDiff, exists_eq', putF, implies_true, exists_true_left, tys0, tys1, tys2, und0, und1, md32, Tryz.ntmps32, Tryz.results32, List.length_map, ll]
  refine go_round (md := md32) mixed (by kernel_rfl) (fun i : {i : Nat // i ≤ L.length} => ⟨[.ro ((mkL k L).map savA), .int .i64 (nxL k (L.take i.1)), .any, .any, .any, .int .i64 i.1, .any, .any, .any, .any, .any, .any, .any, .any, .any, .any, .any, .any, .any, .any, .any, .any, .any, .any, .any, .any, .any, .any, .any, .any, .any, .any, .any, .any, .any, .any, .any, .any, .any, .any, .any], []⟩) (fun i => L.length - i.1) ⟨0, Nat.zero_le _⟩ ?_ ?_
  · refine weak_same rfl ?_
    simp [SameTm, nxL]
  · intro ⟨i, hi⟩
    dsimp only
    simp only [q0, q1, q2, q3, q4, q5, q6, q7, q8, q9, zq0, zq1, zq2, zq3, zq4, guardSlot, quietA, nilC, nilA, quietB, St.ev, St.put, St.after, Nat.reduceAdd, Nat.reduceSub, ofV, ofL, lenA, binA, intBin, fltBin, strBin, cpxBin, unA, convA, convB, convO, pickV, resL, oneA, indexA, indexS, isQuiet, loadA, loadC, storeA, fieldA, partA, sliceA, boundA, buildA, placeA, setAll, appendA, readSl, newEl, AV.cells, AV.solid, AV.one, kill, killM, killL, notInt, Int.reduceToNat, cond_true, cond_false, ↓reduceIte, reduceCtorEq, Nat.reduceLT, Nat.reduceLeDiff, Nat.reduceMul, Nat.reduceEqDiff, exists_eq', putF, implies_true, exists_true_left, tys0, tys1, tys2, und0, und1, md32, Tryz.ntmps32, Tryz.results32, List.length_map, ll, List.getElem_map]
    refine br_intro (fun g => ?_) (fun g => ?_) <;> simp only [q0, q1, q2, q3, q4, q5, q6, q7, q8, q9, zq0, zq1, zq2, zq3, zq4, guardSlot, quietA, nilC, nilA, quietB, St.ev, St.put, St.after, Nat.reduceAdd, Nat.reduceSub, ofV, ofL, lenA, binA, intBin, fltBin, strBin, cpxBin, unA, convA, convB, convO, pickV, resL, oneA, indexA, indexS, isQuiet, loadA, loadC, storeA, fieldA, partA, sliceA, boundA, buildA, placeA, setAll, appendA, readSl, newEl, AV.cells, AV.solid, AV.one, kill, killM, killL, notInt, Int.reduceToNat, cond_true, cond_false, ↓reduceIte, reduceCtorEq, Nat.reduceLT, Nat.reduceLeDiff, Nat.reduceMul, Nat.reduceEqDiff, exists_eq', putF, implies_true, exists_true_left, tys0, tys1, tys2, und0, und1, md32, Tryz.ntmps32, Tryz.results32, List.length_map, ll, List.getElem_map]
    · have g : i < L.length := by have := of_decide_eq_true g; omega
      have gi : (i : Int) < L.length := by omega
      have nl := nxL_le (L.take i) k (fun x hx => hv x (List.mem_of_mem_take hx))
      have tl : (L.take i).length = i := by rw [List.length_take]; omega
      rw [tl] at nl
      have ns : nxL k (L.take (i + 1)) = nxX (nxL k (L.take i)) L[i] := by rw [List.take_succ_eq_append_getElem g, nxL_snoc]
      have E0 : ∀ h, (mkL k L)[i]'h = mkX (nxL k (L.take i)) L[i] := fun h => mkL_get L k i g h
      have hx := hv _ (List.getElem_mem g)
      generalize hk : nxL k (L.take i) = m at *
      generalize L[i] = x at *
      have hs : x.1.length + (x.2.1.length + sumL x.2.1) + x.2.2.length ≤ 1048576 := hx
      have nr := nxRs_is x.2.1 (m + 1)
      have w1 : IntKind.i64.wrap (m + 1) = m + 1 := w64 (by omega) (by omega)
      have n1 : decide (nxRs (m + 1) x.2.1 < 0) = false := decide_eq_false (by omega)
      have n2 : decide (nxRs (m + 1) x.2.1 + (x.2.2.length : Int) < 0) = false := decide_eq_false (by omega)
      have ew : IntKind.i64.wrap ((i : Int) + 1) = i + 1 := w64 (by omega) (by omega)
      have hm := markTextI_call m (by omega) (by omega)
      have hr := heldRuleS_call x.2.1 (m + 1) (by omega) (by omega) (by omega)
      have hj := heldInt64S_call x.2.2.length (nxRs (m + 1) x.2.1) (by omega) (by omega)
      simp only [q0, q1, q2, q3, q4, q5, q6, q7, q8, q9, zq0, zq1, zq2, zq3, zq4, guardSlot, quietA, nilC, nilA, quietB, St.ev, St.put, St.after, Nat.reduceAdd, Nat.reduceSub, ofV, ofL, lenA, binA, intBin, fltBin, strBin, cpxBin, unA, convA, convB, convO, pickV, resL, oneA, indexA, indexS, isQuiet, loadA, loadC, storeA, fieldA, partA, sliceA, boundA, buildA, placeA, setAll, appendA, readSl, newEl, AV.cells, AV.solid, AV.one, kill, killM, killL, notInt, Int.reduceToNat, cond_true, cond_false, ↓reduceIte, reduceCtorEq, Nat.reduceLT, Nat.reduceLeDiff, Nat.reduceMul, Nat.reduceEqDiff, exists_eq', putF, implies_true, exists_true_left, tys0, tys1, tys2, und0, und1, md32, Tryz.ntmps32, Tryz.results32, List.length_map, ll, List.getElem_map, E0, mkX, savA, g, gi]
      refine callr_ret hm rfl rfl ?_
      have b0 : (!(mtI m == mtI m)) = false := by rw [beq_self_eq_true]; rfl
      simp only [q0, q1, q2, q3, q4, q5, q6, q7, q8, q9, zq0, zq1, zq2, zq3, zq4, guardSlot, quietA, nilC, nilA, quietB, St.ev, St.put, St.after, Nat.reduceAdd, Nat.reduceSub, ofV, ofL, lenA, binA, intBin, fltBin, strBin, cpxBin, unA, convA, convB, convO, pickV, resL, oneA, indexA, indexS, isQuiet, loadA, loadC, storeA, fieldA, partA, sliceA, boundA, buildA, placeA, setAll, appendA, readSl, newEl, AV.cells, AV.solid, AV.one, kill, killM, killL, notInt, Int.reduceToNat, cond_true, cond_false, ↓reduceIte, reduceCtorEq, Nat.reduceLT, Nat.reduceLeDiff, Nat.reduceMul, Nat.reduceEqDiff, exists_eq', putF, implies_true, exists_true_left, tys0, tys1, tys2, und0, und1, md32, Tryz.ntmps32, Tryz.results32, List.length_map, ll, List.getElem_map, E0, mkX, savA, g, gi, w1, b0, bne_self_eq_false]
      refine call_ret hr rfl rfl ?_
      simp only [q0, q1, q2, q3, q4, q5, q6, q7, q8, q9, zq0, zq1, zq2, zq3, zq4, guardSlot, quietA, nilC, nilA, quietB, St.ev, St.put, St.after, Nat.reduceAdd, Nat.reduceSub, ofV, ofL, lenA, binA, intBin, fltBin, strBin, cpxBin, unA, convA, convB, convO, pickV, resL, oneA, indexA, indexS, isQuiet, loadA, loadC, storeA, fieldA, partA, sliceA, boundA, buildA, placeA, setAll, appendA, readSl, newEl, AV.cells, AV.solid, AV.one, kill, killM, killL, notInt, Int.reduceToNat, cond_true, cond_false, ↓reduceIte, reduceCtorEq, Nat.reduceLT, Nat.reduceLeDiff, Nat.reduceMul, Nat.reduceEqDiff, exists_eq', putF, implies_true, exists_true_left, tys0, tys1, tys2, und0, und1, md32, Tryz.ntmps32, Tryz.results32, List.length_map, ll, List.getElem_map, E0, mkX, savA, g, gi, n1]
      refine call_ret hj rfl rfl ?_
      simp only [q0, q1, q2, q3, q4, q5, q6, q7, q8, q9, zq0, zq1, zq2, zq3, zq4, guardSlot, quietA, nilC, nilA, quietB, St.ev, St.put, St.after, Nat.reduceAdd, Nat.reduceSub, ofV, ofL, lenA, binA, intBin, fltBin, strBin, cpxBin, unA, convA, convB, convO, pickV, resL, oneA, indexA, indexS, isQuiet, loadA, loadC, storeA, fieldA, partA, sliceA, boundA, buildA, placeA, setAll, appendA, readSl, newEl, AV.cells, AV.solid, AV.one, kill, killM, killL, notInt, Int.reduceToNat, cond_true, cond_false, ↓reduceIte, reduceCtorEq, Nat.reduceLT, Nat.reduceLeDiff, Nat.reduceMul, Nat.reduceEqDiff, exists_eq', putF, implies_true, exists_true_left, tys0, tys1, tys2, und0, und1, md32, Tryz.ntmps32, Tryz.results32, List.length_map, ll, List.getElem_map, E0, mkX, savA, g, gi, n2]
      refine ⟨⟨i + 1, by omega⟩, by show L.length - (i + 1) < L.length - i; omega, ?_⟩
      refine weak_same rfl ?_
      simp [SameTm, ew, ns, nxX]
    · have g : i = L.length := by have := of_decide_eq_false g; omega
      subst g
      rw [List.take_length]
      exact PostR.ret
def mxS (k : Int) (L : List Sav) (i : Nat) : List Sav := mkL k (L.take i) ++ L.drop i
theorem mxS_at (k : Int) (L : List Sav) (i : Nat) (h : i < L.length) : mxS k L i = mkL k (L.take i) ++ L[i] :: L.drop (i + 1) ∧ mxS k L (i + 1) = mkL k (L.take i) ++ mkX (nxL k (L.take i)) L[i] :: L.drop (i + 1) := by
  unfold mxS
  constructor
  · rw [List.drop_eq_getElem_cons h]
  · rw [List.take_succ_eq_append_getElem h, mkL_snoc, List.append_assoc]; rfl
theorem elsS_mid {P Q : List Sav} {x y : Sav} {b i : Nat} (hi : P.length = i) (hw : widS y = widS x) : (∀ h, (elsS b (P ++ x :: Q))[i]'h = savN (b + offS P) x) ∧ (elsS b (P ++ x :: Q)).set i (savN (b + offS P) y) = elsS b (P ++ y :: Q) := by
  have e : ∀ z, elsS b (P ++ z :: Q) = elsS b P ++ (savN (b + offS P) z :: elsS (b + offS P + widS z) Q) := fun z => elsS_app _ _ _
  have hl := elsS_len P b
  constructor
  · intro h
    simp only [e]
    rw [List.getElem_append_right (by omega)]
    simp [hl, hi]
  · rw [e, e, List.set_append_right _ _ (by omega), hl, hi, Nat.sub_self, List.set_cons_zero, hw]
theorem heap_mid (A T : List Blk) (P Q : List Sav) (x : Sav) (B : Blk) (b : Nat) : A ++ (B :: (blkS b (P ++ x :: Q) ++ T)) = (A ++ B :: blkS b P) ++ (rulB (elsR (b + offS P + 1) x.2.1) :: (x.2.1.map ifsB ++ (intB x.2.2 :: (blkS (b + offS P + widS x) Q ++ T)))) := by
  rw [blkS_app]
  show A ++ (B :: (blkS b P ++ ((encR (b + offS P) x.2.1 ++ [intB x.2.2]) ++ blkS (b + offS P + widS x) Q) ++ T)) = _
  simp [encR]
theorem mid_get (A V : List Blk) (X q : Blk) (W : List Rul) {n : Nat} (h : W.length = n) : (A ++ (X :: (W.map ifsB ++ (q :: V))))[A.length + 1 + n]? = some q := by
  rw [List.getElem?_append_right (by omega), show A.length + 1 + n - A.length = n + 1 by omega, List.getElem?_cons_succ, List.getElem?_append_right (by rw [List.length_map]; omega), List.length_map, h, Nat.sub_self]
  rfl
theorem mid_set (A V : List Blk) (X q y : Blk) (W : List Rul) {n : Nat} (h : W.length = n) : (A ++ (X :: (W.map ifsB ++ (q :: V)))).set (A.length + 1 + n) y = A ++ (X :: (W.map ifsB ++ (y :: V))) := by
  rw [List.set_append_right _ _ (by omega), show A.length + 1 + n - A.length = n + 1 by omega, List.set_cons_succ, List.set_append_right _ _ (by rw [List.length_map]; omega), List.length_map, h, Nat.sub_self]
  rfl
theorem get_mid (A W V : List Blk) (B : Blk) : ((A ++ B :: W) ++ V)[A.length]? = some B := by
  rw [List.append_assoc, List.getElem?_append_right (Nat.le_refl _), Nat.sub_self]
  rfl
theorem markSavedS_call (A T : List Blk) (L : List Sav) (k : Int) (h0 : 1 ≤ k) (h1 : k ≤ 100000000) (hL : L.length ≤ 8) (hv : ∀ x ∈ L, sizS x ≤ 1048576) : CallA Tryz.prog 31 [.sl A.length 0 L.length, .int .i64 k] (A ++ (savB (elsS (A.length + 1) L) :: (blkS (A.length + 1) L ++ T))) (Ret (.int .i64 (nxL k L)) (A ++ (savB (elsS (A.length + 1) (mkL k L)) :: (blkS (A.length + 1) (mkL k L) ++ T)))) := by
  refine CallP.out (t := .mk) (go_in (md := md31) mixed Tryz.func31 rfl go31 (by kernel_rfl) ?_)
  simp only [q0, q1, q2, q3, q4, q5, q6, q7, q8, q9, zq0, zq1, zq2, zq3, zq4, guardSlot, quietA, nilC, nilA, quietB, St.ev, St.put, St.after, Nat.reduceAdd, Nat.reduceSub, ofV, ofL, lenA, binA, intBin, fltBin, strBin, cpxBin, unA, convA, convB, convO, pickV, resL, oneA, indexA, indexS, isQuiet, loadA, loadC, storeA, fieldA, partA, sliceA, boundA, buildA, placeA, setAll, appendA, readSl, newEl, AV.cells, AV.solid, AV.one, kill, killM, killL, notInt, Int.reduceToNat, cond_true, cond_false, ↓reduceIte, reduceCtorEq, Nat.reduceLT, Nat.reduceLeDiff, Nat.reduceMul, Nat.reduceEqDiff, exists_eq', putF, implies_true, exists_true_left, tys0, tys1, tys2, und0, und1, md31, Tryz.ntmps31, Tryz.results31]
  refine go_round (md := md31) mixed (by kernel_rfl) (fun i : {i : Nat // i ≤ L.length} => ⟨[.sl A.length 0 L.length, .int .i64 (nxL k (L.take i.1)), .any, .any, .any, .int .i64 i.1, .any, .any, .any, .any, .any, .any, .any, .any, .any, .any, .any, .any, .any, .any, .any, .any, .any, .any, .any, .any, .any, .any, .any, .any, .any, .any, .any, .any, .any], A ++ (savB (elsS (A.length + 1) (mxS k L i.1)) :: (blkS (A.length + 1) (mxS k L i.1) ++ T))⟩) (fun i => L.length - i.1) ⟨0, Nat.zero_le _⟩ ?_ ?_
  · refine weak_same (by simp [mxS, mkL]) ?_
    simp [SameTm, nxL]
  · intro ⟨i, hi⟩
    dsimp only
    simp only [q0, q1, q2, q3, q4, q5, q6, q7, q8, q9, zq0, zq1, zq2, zq3, zq4, guardSlot, quietA, nilC, nilA, quietB, St.ev, St.put, St.after, Nat.reduceAdd, Nat.reduceSub, ofV, ofL, lenA, binA, intBin, fltBin, strBin, cpxBin, unA, convA, convB, convO, pickV, resL, oneA, indexA, indexS, isQuiet, loadA, loadC, storeA, fieldA, partA, sliceA, boundA, buildA, placeA, setAll, appendA, readSl, newEl, AV.cells, AV.solid, AV.one, kill, killM, killL, notInt, Int.reduceToNat, cond_true, cond_false, ↓reduceIte, reduceCtorEq, Nat.reduceLT, Nat.reduceLeDiff, Nat.reduceMul, Nat.reduceEqDiff, exists_eq', putF, implies_true, exists_true_left, tys0, tys1, tys2, und0, und1, md31, Tryz.ntmps31, Tryz.results31, get_at, set_at]
    refine br_intro (fun g => ?_) (fun g => ?_) <;> simp only [q0, q1, q2, q3, q4, q5, q6, q7, q8, q9, zq0, zq1, zq2, zq3, zq4, guardSlot, quietA, nilC, nilA, quietB, St.ev, St.put, St.after, Nat.reduceAdd, Nat.reduceSub, ofV, ofL, lenA, binA, intBin, fltBin, strBin, cpxBin, unA, convA, convB, convO, pickV, resL, oneA, indexA, indexS, isQuiet, loadA, loadC, storeA, fieldA, partA, sliceA, boundA, buildA, placeA, setAll, appendA, readSl, newEl, AV.cells, AV.solid, AV.one, kill, killM, killL, notInt, Int.reduceToNat, cond_true, cond_false, ↓reduceIte, reduceCtorEq, Nat.reduceLT, Nat.reduceLeDiff, Nat.reduceMul, Nat.reduceEqDiff, exists_eq', putF, implies_true, exists_true_left, tys0, tys1, tys2, und0, und1, md31, Tryz.ntmps31, Tryz.results31, get_at, set_at]
    · have g : i < L.length := by have := of_decide_eq_true g; omega
      have gi : (i : Int) < L.length := by omega
      have nl := nxL_le (L.take i) k (fun x hx => hv x (List.mem_of_mem_take hx))
      have tl : (L.take i).length = i := by rw [List.length_take]; omega
      have pl : (mkL k (L.take i)).length = i := by rw [mkL_len, tl]
      have ql : (L.drop (i + 1)).length = L.length - (i + 1) := by rw [List.length_drop]
      rw [tl] at nl
      have ns : nxL k (L.take (i + 1)) = nxX (nxL k (L.take i)) L[i] := by rw [List.take_succ_eq_append_getElem g, nxL_snoc]
      obtain ⟨m1, m2⟩ := mxS_at k L i g
      have hx := hv _ (List.getElem_mem g)
      rw [m1]
      generalize mkL k (L.take i) = P at *
      generalize L.drop (i + 1) = Q at *
      generalize hk : nxL k (L.take i) = m at *
      generalize L[i] = x at *
      have hs : x.1.length + (x.2.1.length + sumL x.2.1) + x.2.2.length ≤ 1048576 := hx
      have nr := nxRs_is x.2.1 (m + 1)
      have w1 : IntKind.i64.wrap (m + 1) = m + 1 := w64 (by omega) (by omega)
      have ew : IntKind.i64.wrap ((i : Int) + 1) = i + 1 := w64 (by omega) (by omega)
      have hm := markTextI_call m (by omega) (by omega)
      obtain ⟨E0, E1⟩ := elsS_mid (Q := Q) (b := A.length + 1) (x := x) (y := mkX m x) pl (mkX_wid m x)
      have el : (elsS (A.length + 1) (P ++ x :: Q)).length = L.length := by rw [elsS_len, List.length_append, List.length_cons]; omega
      refine call_ret hm rfl rfl ?_
      simp only [q0, q1, q2, q3, q4, q5, q6, q7, q8, q9, zq0, zq1, zq2, zq3, zq4, guardSlot, quietA, nilC, nilA, quietB, St.ev, St.put, St.after, Nat.reduceAdd, Nat.reduceSub, ofV, ofL, lenA, binA, intBin, fltBin, strBin, cpxBin, unA, convA, convB, convO, pickV, resL, oneA, indexA, indexS, isQuiet, loadA, loadC, storeA, fieldA, partA, sliceA, boundA, buildA, placeA, setAll, appendA, readSl, newEl, AV.cells, AV.solid, AV.one, kill, killM, killL, notInt, Int.reduceToNat, cond_true, cond_false, ↓reduceIte, reduceCtorEq, Nat.reduceLT, Nat.reduceLeDiff, Nat.reduceMul, Nat.reduceEqDiff, exists_eq', putF, implies_true, exists_true_left, tys0, tys1, tys2, und0, und1, md31, Tryz.ntmps31, Tryz.results31, get_at, set_at, savB, E0, savN, List.length_set, el, List.getElem_set_self, List.set_set, gi, g, w1]
      have l1 : (A ++ ({ ty := 32, w := 3, els := (elsS (A.length + 1) (P ++ x :: Q)).set i (.agg [.str (mtI m), .sl (A.length + 1 + offS P) 0 x.2.1.length, .sl (A.length + 1 + offS P + 1 + x.2.1.length) 0 x.2.2.length]) } : Blk) :: blkS (A.length + 1) P).length = A.length + 1 + offS P := by rw [List.length_append, List.length_cons, blkS_len]; omega
      have mr := markRuleS_call (A ++ ({ ty := 32, w := 3, els := (elsS (A.length + 1) (P ++ x :: Q)).set i (.agg [.str (mtI m), .sl (A.length + 1 + offS P) 0 x.2.1.length, .sl (A.length + 1 + offS P + 1 + x.2.1.length) 0 x.2.2.length]) } : Blk) :: blkS (A.length + 1) P) (intB x.2.2 :: (blkS (A.length + 1 + offS P + widS x) Q ++ T)) x.2.1 (m + 1) (by omega) (by omega) (by omega)
      have gm := fun W => mid_get (A ++ ({ ty := 32, w := 3, els := (elsS (A.length + 1) (P ++ x :: Q)).set i (.agg [.str (mtI m), .sl (A.length + 1 + offS P) 0 x.2.1.length, .sl (A.length + 1 + offS P + 1 + x.2.1.length) 0 x.2.2.length]) } : Blk) :: blkS (A.length + 1) P) (blkS (A.length + 1 + offS P + widS x) Q ++ T) W (intB x.2.2) (mkRs (m + 1) x.2.1) (mkRs_len _ _)
      have sm := fun W y => mid_set (A ++ ({ ty := 32, w := 3, els := (elsS (A.length + 1) (P ++ x :: Q)).set i (.agg [.str (mtI m), .sl (A.length + 1 + offS P) 0 x.2.1.length, .sl (A.length + 1 + offS P + 1 + x.2.1.length) 0 x.2.2.length]) } : Blk) :: blkS (A.length + 1) P) (blkS (A.length + 1 + offS P + widS x) Q ++ T) W (intB x.2.2) y (mkRs (m + 1) x.2.1) (mkRs_len _ _)
      rw [l1] at mr
      simp only [l1] at gm sm
      rw [heap_mid A T P Q x]
      refine call_at (mr.mono ?_)
      rintro r hp ⟨rfl, rfl⟩
      simp only [q0, q1, q2, q3, q4, q5, q6, q7, q8, q9, zq0, zq1, zq2, zq3, zq4, guardSlot, quietA, nilC, nilA, quietB, St.ev, St.put, St.after, Nat.reduceAdd, Nat.reduceSub, ofV, ofL, lenA, binA, intBin, fltBin, strBin, cpxBin, unA, convA, convB, convO, pickV, resL, oneA, indexA, indexS, isQuiet, loadA, loadC, storeA, fieldA, partA, sliceA, boundA, buildA, placeA, setAll, appendA, readSl, newEl, AV.cells, AV.solid, AV.one, kill, killM, killL, notInt, Int.reduceToNat, cond_true, cond_false, ↓reduceIte, reduceCtorEq, Nat.reduceLT, Nat.reduceLeDiff, Nat.reduceMul, Nat.reduceEqDiff, exists_eq', putF, implies_true, exists_true_left, tys0, tys1, tys2, und0, und1, md31, Tryz.ntmps31, Tryz.results31, get_mid, List.length_set, el, List.getElem_set_self, gi, g]
      refine call_handed [A.length + 1 + offS P + 1 + x.2.1.length] (markInt64S_call x.2.2 (nxRs (m + 1) x.2.1) (by omega) (by omega)) (by simp) ⟨⟨gm _, ints_below _ _⟩, trivial⟩ rfl rfl rfl rfl (by simp [ints_below]) ?_
      simp only [q0, q1, q2, q3, q4, q5, q6, q7, q8, q9, zq0, zq1, zq2, zq3, zq4, guardSlot, quietA, nilC, nilA, quietB, St.ev, St.put, St.after, Nat.reduceAdd, Nat.reduceSub, ofV, ofL, lenA, binA, intBin, fltBin, strBin, cpxBin, unA, convA, convB, convO, pickV, resL, oneA, indexA, indexS, isQuiet, loadA, loadC, storeA, fieldA, partA, sliceA, boundA, buildA, placeA, setAll, appendA, readSl, newEl, AV.cells, AV.solid, AV.one, kill, killM, killL, notInt, Int.reduceToNat, cond_true, cond_false, ↓reduceIte, reduceCtorEq, Nat.reduceLT, Nat.reduceLeDiff, Nat.reduceMul, Nat.reduceEqDiff, exists_eq', putF, implies_true, exists_true_left, tys0, tys1, tys2, und0, und1, md31, Tryz.ntmps31, Tryz.results31, sm]
      refine ⟨⟨i + 1, by omega⟩, by show L.length - (i + 1) < L.length - i; omega, ?_⟩
      refine weak_same ?_ ?_
      · show _ = A ++ (savB (elsS (A.length + 1) (mxS k L (i + 1))) :: (blkS (A.length + 1) (mxS k L (i + 1)) ++ T))
        have ev : savN (A.length + 1 + offS P) (mkX m x) = .agg [.str (mtI m), .sl (A.length + 1 + offS P) 0 x.2.1.length, .sl (A.length + 1 + offS P + 1 + x.2.1.length) 0 x.2.2.length] := by simp [savN, mkX, mkRs_len, marks_len]
        rw [m2, heap_mid A T P Q (mkX m x), ← E1, ev, mkX_wid]
        rfl
      · simp [SameTm, ew, ns, nxX]
    · have g : i = L.length := by have := of_decide_eq_false g; omega
      subst g
      rw [show mxS k L L.length = mkL k L by simp [mxS], List.take_length]
      exact PostR.ret
end Go.Proofs.YtigipcckflcilaaGreatDoor
