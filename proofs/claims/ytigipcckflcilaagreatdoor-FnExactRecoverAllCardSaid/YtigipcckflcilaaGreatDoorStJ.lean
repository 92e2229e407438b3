/- What is stored: both sides. -/
import Derived.Test.YtigipcckflcilaaGreatDoorStI
set_option maxRecDepth 10000
set_option maxHeartbeats 4000000
set_option linter.unusedSimpArgs false
set_option linter.unusedVariables false
namespace Go.Proofs.YtigipcckflcilaaGreatDoor
open Go Go.Abs

def incT : List Int → List UInt8
  | [] => []
  | x :: L => le x.toNat 4 ++ incT L
theorem incT_snoc (x : Int) : ∀ L, incT (L ++ [x]) = incT L ++ le x.toNat 4
  | [] => by simp [incT]
  | y :: L => by rw [List.cons_append, incT, incT_snoc x L, incT, List.append_assoc]
theorem incT_take (L : List Int) (i : Nat) (h : i < L.length) : incT (L.take (i + 1)) = incT (L.take i) ++ le L[i].toNat 4 := by rw [take_snoc _ _ h, incT_snoc]
theorem incT_len : ∀ L, (incT L).length = 4 * L.length
  | [] => rfl
  | x :: L => by rw [incT, List.length_append, le_len, incT_len L, List.length_cons]; omega
def headT (s : Sav) : List UInt8 := [68, 85, 69, 49] ++ le s.1.length 1 ++ s.1 ++ le (rulesT s.2.1).length 2 ++ rulesT s.2.1 ++ le s.2.2.length 1
def bodyT (s : Sav) : List UInt8 := headT s ++ incT s.2.2
def storeT (s : Sav) : List UInt8 := bodyT s ++ le (chk 0 (bodyT s)).toNat 2
structure OkS (s : Sav) : Prop where
  n : s.1.length ≤ 8
  r : rulesB s.2.1 = true
  l : s.2.2.length ≤ 64
  i : ∀ x ∈ s.2.2, 0 ≤ x ∧ x ≤ 1000000000
theorem okS_of {s : Sav} (h : validB s = true) : OkS s := by
  unfold validB nameB incB at h
  simp only [Bool.and_eq_true, decide_eq_true_eq, List.all_eq_true] at h
  exact ⟨h.1.1.2.2, h.1.2, h.2.1.2, fun x hx => inR_iff.1 (h.2.2 x hx)⟩
theorem OkS.text {s : Sav} (h : OkS s) : (rulesT s.2.1).length ≤ 5784 := by
  obtain ⟨h1, h2⟩ := rulesB_ok h.r
  have := rulesT_len s.2.1 h2
  omega
theorem OkS.head {s : Sav} (h : OkS s) : (headT s).length ≤ 5800 := by
  have h1 := h.text
  have h2 := h.n
  unfold headT
  simp only [List.length_append, List.length_cons, List.length_nil, le_len]
  omega
theorem OkS.body {s : Sav} (h : OkS s) : (bodyT s).length ≤ 6100 := by
  have h1 := h.head
  have h2 := h.l
  unfold bodyT
  rw [List.length_append, incT_len]
  omega
theorem stored_call (s : Sav) (h : OkS s) : CallA Tryz.prog 37 [savA s] [] (Ret (.str (storeT s)) []) := by
  obtain ⟨nm, R, L⟩ := s
  have ht := h.text
  have hh := h.head
  have hb := h.body
  have hn := h.n
  have hl := h.l
  have hi := h.i
  obtain ⟨r1, r2⟩ := rulesB_ok h.r
  have rt := rulesText_call R r1 r2
  dsimp only at ht hn hl hi
  unfold savA
  refine CallP.out (t := .mk) (go_in (md := md37) mixed Tryz.func37 rfl go37 (by kernel_rfl) ?_)
  simp only [q0, q1, q2, q3, q4, q5, q6, q7, q8, q9, zq0, zq1, zq2, zq3, zq4, guardSlot, quietA, nilC, nilA, quietB, St.ev, St.put, St.after, Nat.reduceAdd, Nat.reduceSub, ofV, ofL, lenA, binA, intBin, fltBin, strBin, cpxBin, unA, convA, convB, convO, pickV, resL, oneA, indexA, indexS, isQuiet, loadA, loadC, storeA, fieldA, partA, sliceA, boundA, buildA, placeA, setAll, appendA, readSl, newEl, AV.cells, AV.solid, AV.one, kill, killM, killL, notInt, Int.reduceToNat, cond_true, cond_false, ↓reduceIte, reduceCtorEq, Nat.reduceLT, Nat.reduceLeDiff, Nat.reduceMul, Nat.reduceEqDiff, exists_eq', putF, implies_true, exists_true_left, tys0, tys1, tys2, und0, und1, md37, Tryz.ntmps37, Tryz.results37]
  refine call_ret rt rfl rfl ?_
  generalize hT : rulesT R = T at ht
  simp only [q0, q1, q2, q3, q4, q5, q6, q7, q8, q9, zq0, zq1, zq2, zq3, zq4, guardSlot, quietA, nilC, nilA, quietB, St.ev, St.put, St.after, Nat.reduceAdd, Nat.reduceSub, ofV, ofL, lenA, binA, intBin, fltBin, strBin, cpxBin, unA, convA, convB, convO, pickV, resL, oneA, indexA, indexS, isQuiet, loadA, loadC, storeA, fieldA, partA, sliceA, boundA, buildA, placeA, setAll, appendA, readSl, newEl, AV.cells, AV.solid, AV.one, kill, killM, killL, notInt, Int.reduceToNat, cond_true, cond_false, ↓reduceIte, reduceCtorEq, Nat.reduceLT, Nat.reduceLeDiff, Nat.reduceMul, Nat.reduceEqDiff, exists_eq', putF, implies_true, exists_true_left, tys0, tys1, tys2, und0, und1, md37, Tryz.ntmps37, Tryz.results37]
  refine callr_ret (bytesOf_call nm.length 1 (by omega) (by omega)) rfl rfl ?_
  simp only [q0, q1, q2, q3, q4, q5, q6, q7, q8, q9, zq0, zq1, zq2, zq3, zq4, guardSlot, quietA, nilC, nilA, quietB, St.ev, St.put, St.after, Nat.reduceAdd, Nat.reduceSub, ofV, ofL, lenA, binA, intBin, fltBin, strBin, cpxBin, unA, convA, convB, convO, pickV, resL, oneA, indexA, indexS, isQuiet, loadA, loadC, storeA, fieldA, partA, sliceA, boundA, buildA, placeA, setAll, appendA, readSl, newEl, AV.cells, AV.solid, AV.one, kill, killM, killL, notInt, Int.reduceToNat, cond_true, cond_false, ↓reduceIte, reduceCtorEq, Nat.reduceLT, Nat.reduceLeDiff, Nat.reduceMul, Nat.reduceEqDiff, exists_eq', putF, implies_true, exists_true_left, tys0, tys1, tys2, und0, und1, md37, Tryz.ntmps37, Tryz.results37]
  have l1 := le_len nm.length 1
  have l2 := le_len T.length 2
  have l3 := le_len L.length 1
  refine ⟨by first | omega | (simp only [List.length_append, List.length_cons, List.length_nil, List.length_map, List.length_take]; omega), by first | omega | (simp only [List.length_append, List.length_cons, List.length_nil, List.length_map, List.length_take]; omega), ?_⟩
  refine callr_ret (bytesOf_call T.length 2 (by omega) (by omega)) rfl rfl ?_
  simp only [q0, q1, q2, q3, q4, q5, q6, q7, q8, q9, zq0, zq1, zq2, zq3, zq4, guardSlot, quietA, nilC, nilA, quietB, St.ev, St.put, St.after, Nat.reduceAdd, Nat.reduceSub, ofV, ofL, lenA, binA, intBin, fltBin, strBin, cpxBin, unA, convA, convB, convO, pickV, resL, oneA, indexA, indexS, isQuiet, loadA, loadC, storeA, fieldA, partA, sliceA, boundA, buildA, placeA, setAll, appendA, readSl, newEl, AV.cells, AV.solid, AV.one, kill, killM, killL, notInt, Int.reduceToNat, cond_true, cond_false, ↓reduceIte, reduceCtorEq, Nat.reduceLT, Nat.reduceLeDiff, Nat.reduceMul, Nat.reduceEqDiff, exists_eq', putF, implies_true, exists_true_left, tys0, tys1, tys2, und0, und1, md37, Tryz.ntmps37, Tryz.results37]
  refine ⟨by first | omega | (simp only [List.length_append, List.length_cons, List.length_nil, List.length_map, List.length_take]; omega), by first | omega | (simp only [List.length_append, List.length_cons, List.length_nil, List.length_map, List.length_take]; omega), ?_⟩
  refine callr_ret (bytesOf_call L.length 1 (by omega) (by omega)) rfl rfl ?_
  simp only [q0, q1, q2, q3, q4, q5, q6, q7, q8, q9, zq0, zq1, zq2, zq3, zq4, guardSlot, quietA, nilC, nilA, quietB, St.ev, St.put, St.after, Nat.reduceAdd, Nat.reduceSub, ofV, ofL, lenA, binA, intBin, fltBin, strBin, cpxBin, unA, convA, convB, convO, pickV, resL, oneA, indexA, indexS, isQuiet, loadA, loadC, storeA, fieldA, partA, sliceA, boundA, buildA, placeA, setAll, appendA, readSl, newEl, AV.cells, AV.solid, AV.one, kill, killM, killL, notInt, Int.reduceToNat, cond_true, cond_false, ↓reduceIte, reduceCtorEq, Nat.reduceLT, Nat.reduceLeDiff, Nat.reduceMul, Nat.reduceEqDiff, exists_eq', putF, implies_true, exists_true_left, tys0, tys1, tys2, und0, und1, md37, Tryz.ntmps37, Tryz.results37]
  refine ⟨by first | omega | (simp only [List.length_append, List.length_cons, List.length_nil, List.length_map, List.length_take]; omega), ?_⟩
  have hH : 68 :: 85 :: 69 :: 49 :: (le nm.length 1 ++ nm ++ le T.length 2 ++ T ++ le L.length 1) = headT (nm, R, L) := by
    unfold headT
    dsimp only
    rw [hT]
    simp only [List.append_assoc, List.cons_append, List.nil_append]
  have hB : bodyT (nm, R, L) = headT (nm, R, L) ++ incT L := rfl
  have hS : storeT (nm, R, L) = bodyT (nm, R, L) ++ le (chk 0 (bodyT (nm, R, L))).toNat 2 := rfl
  refine go_round (md := md37) mixed (by kernel_rfl) (fun i : {i : Nat // i ≤ L.length} => ⟨[.any, .any, .any, .any, .str (headT (nm, R, L) ++ incT (L.take i.1)), .any, .any, .any, .any, .any, .any, .any, .any, .any, .any, .any, .any, .any, .any, .any, .any, .any, .any, .any, .any, .any, .any, .any, .any, .any, .any, .any, .ro (ints L), .int .i64 L.length, .int .i64 i.1, .any, .any, .any, .any, .any, .any, .any, .any, .any, .any, .any, .any, .any, .any, .any, .any, .any], []⟩) (fun i => L.length - i.1) ⟨0, by omega⟩ ?_ ?_
  · exact weak_drop (by simp) (by simp [DropHp, ints_below, flts_below, ← hH, incT, List.append_nil]) (by simp [DropTm, DropV, below, belowM, belowL, ← hH, incT, List.append_nil])
  rw [hS]
  generalize bodyT (nm, R, L) = B at hb hB
  generalize headT (nm, R, L) = H at hh hB
  rintro ⟨i, hil⟩
  have il := incT_len (L.take i)
  have tk : (L.take i).length = i := by rw [List.length_take]; omega
  have nx := fun h : i < L.length => incT_take L i h
  generalize hI0 : incT (L.take i) = J at il nx
  simp only [q0, q1, q2, q3, q4, q5, q6, q7, q8, q9, zq0, zq1, zq2, zq3, zq4, guardSlot, quietA, nilC, nilA, quietB, St.ev, St.put, St.after, Nat.reduceAdd, Nat.reduceSub, ofV, ofL, lenA, binA, intBin, fltBin, strBin, cpxBin, unA, convA, convB, convO, pickV, resL, oneA, indexA, indexS, isQuiet, loadA, loadC, storeA, fieldA, partA, sliceA, boundA, buildA, placeA, setAll, appendA, readSl, newEl, AV.cells, AV.solid, AV.one, kill, killM, killL, notInt, Int.reduceToNat, cond_true, cond_false, ↓reduceIte, reduceCtorEq, Nat.reduceLT, Nat.reduceLeDiff, Nat.reduceMul, Nat.reduceEqDiff, exists_eq', putF, implies_true, exists_true_left, tys0, tys1, tys2, und0, und1, md37, Tryz.ntmps37, Tryz.results37]
  refine br_intro (fun g => ?_) (fun g => ?_) <;> simp only [q0, q1, q2, q3, q4, q5, q6, q7, q8, q9, zq0, zq1, zq2, zq3, zq4, guardSlot, quietA, nilC, nilA, quietB, St.ev, St.put, St.after, Nat.reduceAdd, Nat.reduceSub, ofV, ofL, lenA, binA, intBin, fltBin, strBin, cpxBin, unA, convA, convB, convO, pickV, resL, oneA, indexA, indexS, isQuiet, loadA, loadC, storeA, fieldA, partA, sliceA, boundA, buildA, placeA, setAll, appendA, readSl, newEl, AV.cells, AV.solid, AV.one, kill, killM, killL, notInt, Int.reduceToNat, cond_true, cond_false, ↓reduceIte, reduceCtorEq, Nat.reduceLT, Nat.reduceLeDiff, Nat.reduceMul, Nat.reduceEqDiff, exists_eq', putF, implies_true, exists_true_left, tys0, tys1, tys2, und0, und1, md37, Tryz.ntmps37, Tryz.results37]
  · have hi' : i < L.length := by have := of_decide_eq_true g; omega
    have hI : (i : Int) < (L.length : Int) := by omega
    have nx := nx hi'
    have ok := hi L[i] (List.getElem_mem hi')
    have l4 := le_len L[i].toNat 4
    have w1 : IntKind.i64.wrap ((i : Int) + 1) = ((i + 1 : Nat) : Int) := by rw [w64 (by omega) (by omega)]; omega
    have bc := bytesOf_call L[i].toNat 4 (by omega) (by omega)
    rw [show ((L[i].toNat : Nat) : Int) = L[i] by omega] at bc
    simp only [q0, q1, q2, q3, q4, q5, q6, q7, q8, q9, zq0, zq1, zq2, zq3, zq4, guardSlot, quietA, nilC, nilA, quietB, St.ev, St.put, St.after, Nat.reduceAdd, Nat.reduceSub, ofV, ofL, lenA, binA, intBin, fltBin, strBin, cpxBin, unA, convA, convB, convO, pickV, resL, oneA, indexA, indexS, isQuiet, loadA, loadC, storeA, fieldA, partA, sliceA, boundA, buildA, placeA, setAll, appendA, readSl, newEl, AV.cells, AV.solid, AV.one, kill, killM, killL, notInt, Int.reduceToNat, cond_true, cond_false, ↓reduceIte, reduceCtorEq, Nat.reduceLT, Nat.reduceLeDiff, Nat.reduceMul, Nat.reduceEqDiff, exists_eq', putF, implies_true, exists_true_left, tys0, tys1, tys2, und0, und1, md37, Tryz.ntmps37, Tryz.results37, hi', hI]
    refine call_ret bc rfl rfl ?_
    simp only [q0, q1, q2, q3, q4, q5, q6, q7, q8, q9, zq0, zq1, zq2, zq3, zq4, guardSlot, quietA, nilC, nilA, quietB, St.ev, St.put, St.after, Nat.reduceAdd, Nat.reduceSub, ofV, ofL, lenA, binA, intBin, fltBin, strBin, cpxBin, unA, convA, convB, convO, pickV, resL, oneA, indexA, indexS, isQuiet, loadA, loadC, storeA, fieldA, partA, sliceA, boundA, buildA, placeA, setAll, appendA, readSl, newEl, AV.cells, AV.solid, AV.one, kill, killM, killL, notInt, Int.reduceToNat, cond_true, cond_false, ↓reduceIte, reduceCtorEq, Nat.reduceLT, Nat.reduceLeDiff, Nat.reduceMul, Nat.reduceEqDiff, exists_eq', putF, implies_true, exists_true_left, tys0, tys1, tys2, und0, und1, md37, Tryz.ntmps37, Tryz.results37, w1]
    refine ⟨by first | omega | (simp only [List.length_append, List.length_cons, List.length_nil, List.length_map, List.length_take]; omega), ⟨i + 1, by omega⟩, by show L.length - (i + 1) < _; omega, ?_⟩
    show Weak 0 _ ⟨_, _⟩
    rw [nx]
    exact weak_drop (by simp) (by simp [DropHp, ints_below, flts_below, List.append_assoc]) (by simp [DropTm, DropV, below, belowM, belowL, List.append_assoc])
  · have hi' : i = L.length := by have := of_decide_eq_false g; omega
    have hJ : H ++ J = B := by rw [hB, ← hI0, hi', List.take_length]
    rw [hJ]
    have ck := chk_in B 0 (by decide) (by decide)
    refine call_ret (implCheck_call 0 B (by decide) (by decide) (by omega)) rfl rfl ?_
    simp only [q0, q1, q2, q3, q4, q5, q6, q7, q8, q9, zq0, zq1, zq2, zq3, zq4, guardSlot, quietA, nilC, nilA, quietB, St.ev, St.put, St.after, Nat.reduceAdd, Nat.reduceSub, ofV, ofL, lenA, binA, intBin, fltBin, strBin, cpxBin, unA, convA, convB, convO, pickV, resL, oneA, indexA, indexS, isQuiet, loadA, loadC, storeA, fieldA, partA, sliceA, boundA, buildA, placeA, setAll, appendA, readSl, newEl, AV.cells, AV.solid, AV.one, kill, killM, killL, notInt, Int.reduceToNat, cond_true, cond_false, ↓reduceIte, reduceCtorEq, Nat.reduceLT, Nat.reduceLeDiff, Nat.reduceMul, Nat.reduceEqDiff, exists_eq', putF, implies_true, exists_true_left, tys0, tys1, tys2, und0, und1, md37, Tryz.ntmps37, Tryz.results37]
    have bc := bytesOf_call (chk 0 B).toNat 2 (by omega) (by omega)
    rw [show (((chk 0 B).toNat : Nat) : Int) = chk 0 B by omega] at bc
    have l4 := le_len (chk 0 B).toNat 2
    refine call_ret bc rfl rfl ?_
    simp only [q0, q1, q2, q3, q4, q5, q6, q7, q8, q9, zq0, zq1, zq2, zq3, zq4, guardSlot, quietA, nilC, nilA, quietB, St.ev, St.put, St.after, Nat.reduceAdd, Nat.reduceSub, ofV, ofL, lenA, binA, intBin, fltBin, strBin, cpxBin, unA, convA, convB, convO, pickV, resL, oneA, indexA, indexS, isQuiet, loadA, loadC, storeA, fieldA, partA, sliceA, boundA, buildA, placeA, setAll, appendA, readSl, newEl, AV.cells, AV.solid, AV.one, kill, killM, killL, notInt, Int.reduceToNat, cond_true, cond_false, ↓reduceIte, reduceCtorEq, Nat.reduceLT, Nat.reduceLeDiff, Nat.reduceMul, Nat.reduceEqDiff, exists_eq', putF, implies_true, exists_true_left, tys0, tys1, tys2, und0, und1, md37, Tryz.ntmps37, Tryz.results37]
    exact ⟨by first | omega | (simp only [List.length_append, List.length_cons, List.length_nil, List.length_map, List.length_take]; omega), PostR.pure ⟨rfl, rfl⟩ rfl⟩

theorem le1 (n : Nat) : le n 1 = [UInt8.ofNat (n % 256)] := by simp [le]
theorem le2 (n : Nat) : le n 2 = [UInt8.ofNat (n % 256), UInt8.ofNat (n / 256 % 256)] := by simp [le]
theorem le4 (n : Nat) : le n 4 = [UInt8.ofNat (n % 256), UInt8.ofNat (n / 256 % 256), UInt8.ofNat (n / 65536 % 256), UInt8.ofNat (n / 16777216 % 256)] := by simp [le]
theorem l07Store_call (s : Sav) (h : OkS s) : CallA Tryz.prog 93 [.rop [.str s.1, .ro (s.2.1.map rulA), .ro (ints s.2.2)]] [] (Ret (.str (storeT s)) []) := by
  obtain ⟨nm, R, L⟩ := s
  have ht := h.text
  have hh := h.head
  have hb := h.body
  have hn := h.n
  have hl := h.l
  have hi := h.i
  have rt := specRulesText_call R h.r
  dsimp only at ht hn hl hi ⊢
  generalize hT : rulesT R = T at ht rt
  have e1 : IntKind.u8.wrap (nm.length : Int) = ((nm.length % 256 : Nat) : Int) := by rw [w8 (by omega) (by omega)]; omega
  refine CallP.out (t := .mk) (go_in (md := md93) mixed Tryz.func93 rfl go93 (by kernel_rfl) ?_)
  have a1 : ∀ k : Int, AllW 1 [AV.int .u8 k] := fun k a ha => by rw [List.mem_singleton.1 ha]; exact ⟨rfl, rfl⟩
  have a2 : ∀ k l : Int, AllW 1 [AV.int .u8 k, AV.int .u8 l] := fun k l a ha => by
    simp only [List.mem_cons, List.not_mem_nil, or_false] at ha
    rcases ha with rfl | rfl <;> exact ⟨rfl, rfl⟩
  have a4 : ∀ k l m n : Int, AllW 1 [AV.int .u8 k, AV.int .u8 l, AV.int .u8 m, AV.int .u8 n] := fun k l m n a ha => by
    simp only [List.mem_cons, List.not_mem_nil, or_false] at ha
    rcases ha with rfl | rfl | rfl | rfl <;> exact ⟨rfl, rfl⟩
  have e2 : IntKind.u8.wrap ((T.length : Int).tmod 256) = ((T.length % 256 : Nat) : Int) := by rw [Int.tmod_eq_emod_of_nonneg (by omega), w8 (by omega) (by omega)]; omega
  have e3 : IntKind.u8.wrap (IntKind.i64.wrap ((T.length : Int).tdiv 256)) = ((T.length / 256 % 256 : Nat) : Int) := by rw [Int.tdiv_eq_ediv_of_nonneg (by omega), w64 (by omega) (by omega), w8 (by omega) (by omega)]; omega
  have e4 : IntKind.u8.wrap (L.length : Int) = ((L.length % 256 : Nat) : Int) := by rw [w8 (by omega) (by omega)]; omega
  simp only [q0, q1, q2, q3, q4, q5, q6, q7, q8, q9, zq0, zq1, zq2, zq3, zq4, guardSlot, quietA, nilC, nilA, quietB, St.ev, St.put, St.after, Nat.reduceAdd, Nat.reduceSub, ofV, ofL, lenA, binA, intBin, fltBin, strBin, cpxBin, unA, convA, convB, convO, pickV, resL, oneA, indexA, indexS, isQuiet, loadA, loadC, storeA, fieldA, partA, sliceA, boundA, buildA, placeA, setAll, appendA, readSl, newEl, AV.cells, AV.solid, AV.one, kill, killM, killL, notInt, Int.reduceToNat, cond_true, cond_false, ↓reduceIte, reduceCtorEq, Nat.reduceLT, Nat.reduceLeDiff, Nat.reduceMul, Nat.reduceEqDiff, exists_eq', putF, implies_true, exists_true_left, tys0, tys1, tys2, und0, und1, md93, Tryz.ntmps93, Tryz.results93, e1, take_byts, byts_kill, byts_len]
  refine ⟨a1 _, by unfold fits; omega, by omega, allW_byts _, by unfold fits; omega, ?_⟩
  refine call_ret rt rfl rfl ?_
  simp only [q0, q1, q2, q3, q4, q5, q6, q7, q8, q9, zq0, zq1, zq2, zq3, zq4, guardSlot, quietA, nilC, nilA, quietB, St.ev, St.put, St.after, Nat.reduceAdd, Nat.reduceSub, ofV, ofL, lenA, binA, intBin, fltBin, strBin, cpxBin, unA, convA, convB, convO, pickV, resL, oneA, indexA, indexS, isQuiet, loadA, loadC, storeA, fieldA, partA, sliceA, boundA, buildA, placeA, setAll, appendA, readSl, newEl, AV.cells, AV.solid, AV.one, kill, killM, killL, notInt, Int.reduceToNat, cond_true, cond_false, ↓reduceIte, reduceCtorEq, Nat.reduceLT, Nat.reduceLeDiff, Nat.reduceMul, Nat.reduceEqDiff, exists_eq', putF, implies_true, exists_true_left, tys0, tys1, tys2, und0, und1, md93, Tryz.ntmps93, Tryz.results93, e2, e3, e4, take_byts, byts_kill, byts_len, Int.reduceLT, Int.reduceLE, Int.reduceNeg, Int.reduceEq, Int.reduceGT, Int.reduceGE, decide_true, decide_false, beq_self_eq_true, bne_self_eq_false, Int.reduceBEq, Int.reduceBNe, Int.reduceAdd, Int.reduceSub]
  have hHl : (headT (nm, R, L)).length = 5 + nm.length + 2 + T.length + 1 := by
    unfold headT
    dsimp only
    rw [hT]
    simp only [List.length_append, List.length_cons, List.length_nil, le_len]
  have hHe : byts (headT (nm, R, L)) = [AV.int .u8 68, .int .u8 85, .int .u8 69, .int .u8 49, .int .u8 ((nm.length % 256 : Nat) : Int)] ++ byts nm ++ [AV.int .u8 ((T.length % 256 : Nat) : Int), .int .u8 ((T.length / 256 % 256 : Nat) : Int)] ++ byts T ++ [.int .u8 ((L.length % 256 : Nat) : Int)] := by
    unfold headT
    dsimp only
    rw [hT, le1, le2, le1]
    simp only [byts_app]
    rw [byteA (Nat.mod_lt nm.length (by decide)), byteA (Nat.mod_lt T.length (by decide)), byteA (Nat.mod_lt (T.length / 256) (by decide)), byteA (Nat.mod_lt L.length (by decide))]
    simp only [List.append_assoc]
    rfl
  refine ⟨by decide, by decide, by omega, a2 _ _, by unfold fits; omega, by omega, by simp only [List.length_map, List.length_append, List.length_cons, List.length_nil, byts_len]; omega, allW_byts _, by unfold fits; omega, by simp only [List.length_map, List.length_append, List.length_cons, List.length_nil, byts_len]; omega, a1 _, by unfold fits; omega, ?_⟩
  have hB : bodyT (nm, R, L) = headT (nm, R, L) ++ incT L := rfl
  have hS : storeT (nm, R, L) = bodyT (nm, R, L) ++ le (chk 0 (bodyT (nm, R, L))).toNat 2 := rfl
  refine go_round (md := md93) mixed (by kernel_rfl) (fun i : {i : Nat // i ≤ L.length} => ⟨[.rop [.str nm, .ro (R.map rulA), .ro (ints L)], .any, .any, .sl 0 0 ((headT (nm, R, L)).length + 4 * i.1), .any, .any, .any, .any, .any, .any, .any, .any, .any, .any, .any, .any, .any, .any, .any, .any, .any, .any, .any, .any, .any, .any, .any, .any, .any, .any, .any, .any, .any, .any, .any, .any, .any, .any, .any, .any, .any, .any, .any, .any, .any, .any, .any, .any, .any, .any, .any, .any, .any, .any, .any, .any, .any, .any, .any, .any, .any, .any, .int .i64 L.length, .int .i64 i.1, .any, .any, .any, .any, .any, .any, .any, .any, .any, .any, .any, .any, .any, .any, .any, .any, .any, .any, .any, .any, .any, .any, .any, .any, .any, .any, .any, .any, .any, .any, .any, .any, .any, .any, .any, .any, .any, .any, .any, .any], [bytB (headT (nm, R, L) ++ incT (L.take i.1))]⟩) (fun i => L.length - i.1) ⟨0, by omega⟩ ?_ ?_
  · show Weak 0 _ ⟨_, _⟩
    rw [List.take_zero, incT, List.append_nil, hHl, bytB, hHe]
    have ki : ∀ (k : IntKind) (n : Int), kill 0 (.int k n) = .int k n := fun _ _ => rfl
    have ab : ∀ (n : Nat) (a b : List AV), allBelow n (a ++ b) = (allBelow n a && allBelow n b) := fun _ _ _ => List.all_append
    exact weak_drop (by simp) (by simp [DropHp, ints_below, flts_below, bytB, List.map_append, List.map_cons, List.map_nil, ki, byts_kill, byts_below, ab, List.append_assoc, allBelow_cons, allBelow_nil, below, belowM, belowL]) (by simp [DropTm, DropV, below, belowM, belowL, bytB, List.map_append, List.map_cons, List.map_nil, ki, byts_kill, byts_below, ab, List.append_assoc, allBelow_cons, allBelow_nil, below, belowM, belowL])
  rw [hS]
  have hHb := hh
  generalize bodyT (nm, R, L) = B at hb hB
  generalize headT (nm, R, L) = H at hh hB hHb
  clear hHe
  rintro ⟨i, hil⟩
  have il := incT_len (L.take i)
  have tk : (L.take i).length = i := by rw [List.length_take]; omega
  have nx := fun h : i < L.length => incT_take L i h
  generalize hI0 : incT (L.take i) = J at il nx
  have hJl : (H ++ J).length = H.length + 4 * i := by rw [List.length_append]; omega
  have bl := byts_len (H ++ J)
  simp only [q0, q1, q2, q3, q4, q5, q6, q7, q8, q9, zq0, zq1, zq2, zq3, zq4, guardSlot, quietA, nilC, nilA, quietB, St.ev, St.put, St.after, Nat.reduceAdd, Nat.reduceSub, ofV, ofL, lenA, binA, intBin, fltBin, strBin, cpxBin, unA, convA, convB, convO, pickV, resL, oneA, indexA, indexS, isQuiet, loadA, loadC, storeA, fieldA, partA, sliceA, boundA, buildA, placeA, setAll, appendA, readSl, newEl, AV.cells, AV.solid, AV.one, kill, killM, killL, notInt, Int.reduceToNat, cond_true, cond_false, ↓reduceIte, reduceCtorEq, Nat.reduceLT, Nat.reduceLeDiff, Nat.reduceMul, Nat.reduceEqDiff, exists_eq', putF, implies_true, exists_true_left, tys0, tys1, tys2, und0, und1, md93, Tryz.ntmps93, Tryz.results93, bytB]
  refine br_intro (fun g => ?_) (fun g => ?_) <;> simp only [q0, q1, q2, q3, q4, q5, q6, q7, q8, q9, zq0, zq1, zq2, zq3, zq4, guardSlot, quietA, nilC, nilA, quietB, St.ev, St.put, St.after, Nat.reduceAdd, Nat.reduceSub, ofV, ofL, lenA, binA, intBin, fltBin, strBin, cpxBin, unA, convA, convB, convO, pickV, resL, oneA, indexA, indexS, isQuiet, loadA, loadC, storeA, fieldA, partA, sliceA, boundA, buildA, placeA, setAll, appendA, readSl, newEl, AV.cells, AV.solid, AV.one, kill, killM, killL, notInt, Int.reduceToNat, cond_true, cond_false, ↓reduceIte, reduceCtorEq, Nat.reduceLT, Nat.reduceLeDiff, Nat.reduceMul, Nat.reduceEqDiff, exists_eq', putF, implies_true, exists_true_left, tys0, tys1, tys2, und0, und1, md93, Tryz.ntmps93, Tryz.results93, bytB]
  · have hi' : i < L.length := by have := of_decide_eq_true g; omega
    have hI : (i : Int) < (L.length : Int) := by omega
    have nx := nx hi'
    have ok := hi L[i] (List.getElem_mem hi')
    have w1 : IntKind.i64.wrap ((i : Int) + 1) = ((i + 1 : Nat) : Int) := by rw [w64 (by omega) (by omega)]; omega
    have f1 : IntKind.u8.wrap (L[i].tmod 256) = ((L[i].toNat % 256 : Nat) : Int) := by rw [Int.tmod_eq_emod_of_nonneg (by omega), w8 (by omega) (by omega)]; omega
    have f2 : IntKind.u8.wrap ((IntKind.i64.wrap (L[i].tdiv 256)).tmod 256) = ((L[i].toNat / 256 % 256 : Nat) : Int) := by rw [Int.tdiv_eq_ediv_of_nonneg (by omega), w64 (by omega) (by omega), Int.tmod_eq_emod_of_nonneg (by omega), w8 (by omega) (by omega)]; omega
    have f3 : IntKind.u8.wrap ((IntKind.i64.wrap (L[i].tdiv 65536)).tmod 256) = ((L[i].toNat / 65536 % 256 : Nat) : Int) := by rw [Int.tdiv_eq_ediv_of_nonneg (by omega), w64 (by omega) (by omega), Int.tmod_eq_emod_of_nonneg (by omega), w8 (by omega) (by omega)]; omega
    have f4 : IntKind.u8.wrap (IntKind.i64.wrap (L[i].tdiv 16777216)) = ((L[i].toNat / 16777216 % 256 : Nat) : Int) := by rw [Int.tdiv_eq_ediv_of_nonneg (by omega), w64 (by omega) (by omega), w8 (by omega) (by omega)]; omega
    simp only [q0, q1, q2, q3, q4, q5, q6, q7, q8, q9, zq0, zq1, zq2, zq3, zq4, guardSlot, quietA, nilC, nilA, quietB, St.ev, St.put, St.after, Nat.reduceAdd, Nat.reduceSub, ofV, ofL, lenA, binA, intBin, fltBin, strBin, cpxBin, unA, convA, convB, convO, pickV, resL, oneA, indexA, indexS, isQuiet, loadA, loadC, storeA, fieldA, partA, sliceA, boundA, buildA, placeA, setAll, appendA, readSl, newEl, AV.cells, AV.solid, AV.one, kill, killM, killL, notInt, Int.reduceToNat, cond_true, cond_false, ↓reduceIte, reduceCtorEq, Nat.reduceLT, Nat.reduceLeDiff, Nat.reduceMul, Nat.reduceEqDiff, exists_eq', putF, implies_true, exists_true_left, tys0, tys1, tys2, und0, und1, md93, Tryz.ntmps93, Tryz.results93, hi', hI, f1, f2, f3, f4, w1, Int.reduceLT, Int.reduceLE, Int.reduceNeg, Int.reduceEq, Int.reduceGT, Int.reduceGE, decide_true, decide_false, beq_self_eq_true, bne_self_eq_false, Int.reduceBEq, Int.reduceBNe, Int.reduceAdd, Int.reduceSub]
    refine ⟨by decide, by decide, by decide, by decide, by decide, by decide, by omega, a4 _ _ _ _, by unfold fits; omega, ⟨i + 1, by omega⟩, by show L.length - (i + 1) < _; omega, ?_⟩
    have hn : byts (le L[i].toNat 4) = [AV.int .u8 ((L[i].toNat % 256 : Nat) : Int), .int .u8 ((L[i].toNat / 256 % 256 : Nat) : Int), .int .u8 ((L[i].toNat / 65536 % 256 : Nat) : Int), .int .u8 ((L[i].toNat / 16777216 % 256 : Nat) : Int)] := by
      rw [le4, byteA (Nat.mod_lt L[i].toNat (by decide)), byteA (Nat.mod_lt (L[i].toNat / 256) (by decide)), byteA (Nat.mod_lt (L[i].toNat / 65536) (by decide)), byteA (Nat.mod_lt (L[i].toNat / 16777216) (by decide))]
      rfl
    show Weak 0 _ ⟨_, _⟩
    rw [← hn, ← byts_app, byts_kill, nx, List.append_assoc, show H.length + 4 * i + 4 = H.length + 4 * (i + 1) by omega]
    exact weak_drop (by simp) (by simp [DropHp, ints_below, flts_below, bytB, byts_below, allBelow_cons, allBelow_nil, below, belowM, belowL]) (by simp [DropTm, DropV, below, belowM, belowL, bytB, byts_below, allBelow_cons, allBelow_nil, below, belowM, belowL])
  · have hi' : i = L.length := by have := of_decide_eq_false g; omega
    have hJ : H ++ J = B := by rw [hB, ← hI0, hi', List.take_length]
    rw [hJ] at hJl ⊢
    refine ⟨⟨5, rfl, Tryz.underlying5⟩, B, by rw [← hJl]; exact take_byts B, hJl, ?_⟩
    have ck := chk_in B 0 (by decide) (by decide)
    refine call_ret (specCheck_call 0 B (by decide) (by decide) (by omega)) rfl rfl ?_
    have g1 : IntKind.u8.wrap ((chk 0 B).tmod 256) = (((chk 0 B).toNat % 256 : Nat) : Int) := by rw [Int.tmod_eq_emod_of_nonneg (by omega), w8 (by omega) (by omega)]; omega
    have g2 : IntKind.u8.wrap (IntKind.i64.wrap ((chk 0 B).tdiv 256)) = (((chk 0 B).toNat / 256 % 256 : Nat) : Int) := by rw [Int.tdiv_eq_ediv_of_nonneg (by omega), w64 (by omega) (by omega), w8 (by omega) (by omega)]; omega
    simp only [q0, q1, q2, q3, q4, q5, q6, q7, q8, q9, zq0, zq1, zq2, zq3, zq4, guardSlot, quietA, nilC, nilA, quietB, St.ev, St.put, St.after, Nat.reduceAdd, Nat.reduceSub, ofV, ofL, lenA, binA, intBin, fltBin, strBin, cpxBin, unA, convA, convB, convO, pickV, resL, oneA, indexA, indexS, isQuiet, loadA, loadC, storeA, fieldA, partA, sliceA, boundA, buildA, placeA, setAll, appendA, readSl, newEl, AV.cells, AV.solid, AV.one, kill, killM, killL, notInt, Int.reduceToNat, cond_true, cond_false, ↓reduceIte, reduceCtorEq, Nat.reduceLT, Nat.reduceLeDiff, Nat.reduceMul, Nat.reduceEqDiff, exists_eq', putF, implies_true, exists_true_left, tys0, tys1, tys2, und0, und1, md93, Tryz.ntmps93, Tryz.results93, g1, g2, Int.reduceLT, Int.reduceLE, Int.reduceNeg, Int.reduceEq, Int.reduceGT, Int.reduceGE, decide_true, decide_false, beq_self_eq_true, bne_self_eq_false, Int.reduceBEq, Int.reduceBNe, Int.reduceAdd, Int.reduceSub]
    have hn : byts (le (chk 0 B).toNat 2) = [AV.int .u8 (((chk 0 B).toNat % 256 : Nat) : Int), .int .u8 (((chk 0 B).toNat / 256 % 256 : Nat) : Int)] := by
      rw [le2, byteA (Nat.mod_lt (chk 0 B).toNat (by decide)), byteA (Nat.mod_lt ((chk 0 B).toNat / 256) (by decide))]
      rfl
    have l4 := le_len (chk 0 B).toNat 2
    refine ⟨by decide, by decide, by rw [byts_len]; omega, a2 _ _, by unfold fits; omega, ⟨5, rfl, Tryz.underlying5⟩, B ++ le (chk 0 B).toNat 2, ?_, by rw [List.length_append]; omega, PostR.pure ⟨rfl, rfl⟩ rfl⟩
    rw [← hn, ← byts_app, byts_kill, show H.length + 4 * i + 2 = (B ++ le (chk 0 B).toNat 2).length by rw [List.length_append]; omega]
    exact take_byts _
end Go.Proofs.YtigipcckflcilaaGreatDoor
