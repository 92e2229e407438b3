/- What is stored: both sides. -/
import Derived.Test.YtigipcckflcilaaGreatDoorStI
set_option maxRecDepth 10000
set_option maxHeartbeats 4000000
set_option linter.unusedSimpArgs false
set_option linter.unusedVariables false
namespace Go.Proofs.YtigipcckflcilaaGreatDoor
open Go Go.Abs

def incT : List Int → List UInt8
  | [] => []
  | x :: L => le x.toNat 4 ++ incT L
theorem incT_snoc (x : Int) : ∀ L, incT (L ++ [x]) = incT L ++ le x.toNat 4
  | [] => by simp [incT]
  | y :: L => by rw [List.cons_append, incT, incT_snoc x L, incT, List.append_assoc]
theorem incT_take (L : List Int) (i : Nat) (h : i < L.length) : incT (L.take (i + 1)) = incT (L.take i) ++ le L[i].toNat 4 := by rw [take_snoc _ _ h, incT_snoc]
theorem incT_len : ∀ L, (incT L).length = 4 * L.length
  | [] => rfl
  | x :: L => by rw [incT, List.length_append, le_len, incT_len L, List.length_cons]; omega
def headT (s : Sav) : List UInt8 := [68, 85, 69, 49] ++ le s.1.length 1 ++ s.1 ++ le (rulesT s.2.1).length 2 ++ rulesT s.2.1 ++ le s.2.2.length 1
def bodyT (s : Sav) : List UInt8 := headT s ++ incT s.2.2
def storeT (s : Sav) : List UInt8 := bodyT s ++ le (chk 0 (bodyT s)).toNat 2
structure OkS (s : Sav) : Prop where
  n : s.1.length ≤ 8
  r : rulesB s.2.1 = true
  l : s.2.2.length ≤ 64
  i : ∀ x ∈ s.2.2, 0 ≤ x ∧ x ≤ 1000000000
theorem okS_of {s : Sav} (h : validB s = true) : OkS s := by
  unfold validB nameB incB at h
  simp only [Bool.and_eq_true, decide_eq_true_eq, List.all_eq_true] at h
  exact ⟨h.1.1.2.2, h.1.2, h.2.1.2, fun x hx => inR_iff.1 (h.2.2 x hx)⟩
theorem OkS.text {s : Sav} (h : OkS s) : (rulesT s.2.1).length ≤ 5784 := by
  obtain ⟨h1, h2⟩ := rulesB_ok h.r
  have := rulesT_len s.2.1 h2
  omega
theorem OkS.head {s : Sav} (h : OkS s) : (headT s).length ≤ 5800 := by
  have h1 := h.text
  have h2 := h.n
  unfold headT
  simp only [List.length_append, List.length_cons, List.length_nil, le_len]
  omega
theorem OkS.body {s : Sav} (h : OkS s) : (bodyT s).length ≤ 6100 := by
  have h1 := h.head
  have h2 := h.l
  unfold bodyT
  rw [List.length_append, incT_len]
  omega
theorem stored_call (s : Sav) (h : OkS s) : CallA Tryz.prog 37 [savA s] [] (Ret (.str (storeT s)) []) := by
  obtain ⟨nm, R, L⟩ := s
  have ht := h.text
  have hh := h.head
  have hb := h.body
  have hn := h.n
  have hl := h.l
  have hi := h.i
  obtain ⟨r1, r2⟩ := rulesB_ok h.r
  have rt := rulesText_call R r1 r2
  dsimp only at ht hn hl hi
  unfold savA
  refine CallP.out (t := .mk) (go_in (md := md37) mixed Tryz.func37 rfl go37 (by kernel_rfl) ?_)
  simp only [q0, q1, q2, q3, q4, q5, q6, q7, q8, q9, zr0, zr1, zr2, zr3, zq0, zq1, zq2, zq3, zq4, Nat.reduceAdd, Nat.reduceSub, lenA, convA, convB, convO, indexA, indexS, Int.reduceToNat, cond_true, cond_false, ↓reduceIte, reduceCtorEq, Nat.reduceLT, Nat.reduceLeDiff, Nat.reduceMul, Nat.reduceEqDiff, exists_eq', implies_true, exists_true_left, tys0, tys1, tys2, und0, und1, md37, Tryz.ntmps37, Tryz.results37]
  refine call_ret rt rfl rfl ?_
  generalize hT : rulesT R = T at ht
  simp only [q0, q1, q2, q3, q4, q5, q6, q7, q8, q9, zr0, zr1, zr2, zr3, zq0, zq1, zq2, zq3, zq4, Nat.reduceAdd, Nat.reduceSub, lenA, convA, convB, convO, indexA, indexS, Int.reduceToNat, cond_true, cond_false, ↓reduceIte, reduceCtorEq, Nat.reduceLT, Nat.reduceLeDiff, Nat.reduceMul, Nat.reduceEqDiff, exists_eq', implies_true, exists_true_left, tys0, tys1, tys2, und0, und1, md37, Tryz.ntmps37, Tryz.results37]
  refine callr_ret (bytesOf_call nm.length 1 (by omega) (by omega)) rfl rfl ?_
  simp only [q0, q1, q2, q3, q4, q5, q6, q7, q8, q9, zr0, zr1, zr2, zr3, zq0, zq1, zq2, zq3, zq4, Nat.reduceAdd, Nat.reduceSub, lenA, convA, convB, convO, indexA, indexS, Int.reduceToNat, cond_true, cond_false, ↓reduceIte, reduceCtorEq, Nat.reduceLT, Nat.reduceLeDiff, Nat.reduceMul, Nat.reduceEqDiff, exists_eq', implies_true, exists_true_left, tys0, tys1, tys2, und0, und1, md37, Tryz.ntmps37, Tryz.results37]
  have l1 := le_len nm.length 1
  have l2 := le_len T.length 2
  have l3 := le_len L.length 1
  refine ⟨by first | omega | (simp only [List.length_append, List.length_cons, List.length_nil, List.length_map, List.length_take]; omega), by first | omega | (simp only [List.length_append, List.length_cons, List.length_nil, List.length_map, List.length_take]; omega), ?_⟩
  refine callr_ret (bytesOf_call T.length 2 (by omega) (by omega)) rfl rfl ?_
  simp only [q0, q1, q2, q3, q4, q5, q6, q7, q8, q9, zr0, zr1, zr2, zr3, zq0, zq1, zq2, zq3, zq4, Nat.reduceAdd, Nat.reduceSub, lenA, convA, convB, convO, indexA, indexS, Int.reduceToNat, cond_true, cond_false, ↓reduceIte, reduceCtorEq, Nat.reduceLT, Nat.reduceLeDiff, Nat.reduceMul, Nat.reduceEqDiff, exists_eq', implies_true, exists_true_left, tys0, tys1, tys2, und0, und1, md37, Tryz.ntmps37, Tryz.results37]
  refine ⟨by first | omega | (simp only [List.length_append, List.length_cons, List.length_nil, List.length_map, List.length_take]; omega), by first | omega | (simp only [List.length_append, List.length_cons, List.length_nil, List.length_map, List.length_take]; omega), ?_⟩
  refine callr_ret (bytesOf_call L.length 1 (by omega) (by omega)) rfl rfl ?_
  simp only [q0, q1, q2, q3, q4, q5, q6, q7, q8, q9, zr0, zr1, zr2, zr3, zq0, zq1, zq2, zq3, zq4, Nat.reduceAdd, Nat.reduceSub, lenA, convA, convB, convO, indexA, indexS, Int.reduceToNat, cond_true, cond_false, ↓reduceIte, reduceCtorEq, Nat.reduceLT, Nat.reduceLeDiff, Nat.reduceMul, Nat.reduceEqDiff, exists_eq', implies_true, exists_true_left, tys0, tys1, tys2, und0, und1, md37, Tryz.ntmps37, Tryz.results37]
  refine ⟨by first | omega | (simp only [List.length_append, List.length_cons, List.length_nil, List.length_map, List.length_take]; omega), ?_⟩
  have hH : 68 :: 85 :: 69 :: 49 :: (le nm.length 1 ++ nm ++ le T.length 2 ++ T ++ le L.length 1) = headT (nm, R, L) := by
    unfold headT
    dsimp only
    rw [hT]
    simp only [List.append_assoc, List.cons_append, List.nil_append]
  have hB : bodyT (nm, R, L) = headT (nm, R, L) ++ incT L := rfl
  have hS : storeT (nm, R, L) = bodyT (nm, R, L) ++ le (chk 0 (bodyT (nm, R, L))).toNat 2 := rfl
  refine go_round (md := md37) mixed (by kernel_rfl) (fun i : {i : Nat // i ≤ L.length} => ⟨[.any, .any, .any, .any, .str (headT (nm, R, L) ++ incT (L.take i.1)), .any, .any, .any, .any, .any, .any, .any, .any, .any, .any, .any, .any, .any, .any, .any, .any, .any, .any, .any, .any, .any, .any, .any, .any, .any, .any, .any, .ro (ints L), .int .i64 L.length, .int .i64 i.1, .any, .any, .any, .any, .any, .any, .any, .any, .any, .any, .any, .any, .any, .any, .any, .any, .any], []⟩) (fun i => L.length - i.1) ⟨0, by omega⟩ ?_ ?_
  · exact weak_drop (by simp) (by simp [DropHp, ints_below, flts_below, ← hH, incT, List.append_nil]) (by simp [DropTm, DropV, below, belowM, belowL, ← hH, incT, List.append_nil])
  rw [hS]
  generalize bodyT (nm, R, L) = B at hb hB
  generalize headT (nm, R, L) = H at hh hB
  rintro ⟨i, hil⟩
  have il := incT_len (L.take i)
  have tk : (L.take i).length = i := by rw [List.length_take]; omega
  have nx := fun h : i < L.length => incT_take L i h
  generalize hI0 : incT (L.take i) = J at il nx
  simp only [q0, q1, q2, q3, q4, q5, q6, q7, q8, q9, zr0, zr1, zr2, zr3, zq0, zq1, zq2, zq3, zq4, Nat.reduceAdd, Nat.reduceSub, lenA, convA, convB, convO, indexA, indexS, Int.reduceToNat, cond_true, cond_false, ↓reduceIte, reduceCtorEq, Nat.reduceLT, Nat.reduceLeDiff, Nat.reduceMul, Nat.reduceEqDiff, exists_eq', implies_true, exists_true_left, tys0, tys1, tys2, und0, und1, md37, Tryz.ntmps37, Tryz.results37]
  refine br_intro (fun g => ?_) (fun g => ?_) <;> simp only [q0, q1, q2, q3, q4, q5, q6, q7, q8, q9, zr0, zr1, zr2, zr3, zq0, zq1, zq2, zq3, zq4, Nat.reduceAdd, Nat.reduceSub, lenA, convA, convB, convO, indexA, indexS, Int.reduceToNat, cond_true, cond_false, ↓reduceIte, reduceCtorEq, Nat.reduceLT, Nat.reduceLeDiff, Nat.reduceMul, Nat.reduceEqDiff, exists_eq', implies_true, exists_true_left, tys0, tys1, tys2, und0, und1, md37, Tryz.ntmps37, Tryz.results37]
  · have hi' : i < L.length := by have := of_decide_eq_true g; omega
    have hI : (i : Int) < (L.length : Int) := by omega
    have nx := nx hi'
    have ok := hi L[i] (List.getElem_mem hi')
    have l4 := le_len L[i].toNat 4
    have w1 : IntKind.i64.wrap ((i : Int) + 1) = ((i + 1 : Nat) : Int) := by rw [w64 (by omega) (by omega)]; omega
    have bc := bytesOf_call L[i].toNat 4 (by omega) (by omega)
    rw [show ((L[i].toNat : Nat) : Int) = L[i] by omega] at bc
    simp only [q0, q1, q2, q3, q4, q5, q6, q7, q8, q9, zr0, zr1, zr2, zr3, zq0, zq1, zq2, zq3, zq4, Nat.reduceAdd, Nat.reduceSub, lenA, convA, convB, convO, indexA, indexS, Int.reduceToNat, cond_true, cond_false, ↓reduceIte, reduceCtorEq, Nat.reduceLT, Nat.reduceLeDiff, Nat.reduceMul, Nat.reduceEqDiff, exists_eq', implies_true, exists_true_left, tys0, tys1, tys2, und0, und1, md37, Tryz.ntmps37, Tryz.results37, hi', hI]
    refine call_ret bc rfl rfl ?_
    simp only [q0, q1, q2, q3, q4, q5, q6, q7, q8, q9, zr0, zr1, zr2, zr3, zq0, zq1, zq2, zq3, zq4, Nat.reduceAdd, Nat.reduceSub, lenA, convA, convB, convO, indexA, indexS, Int.reduceToNat, cond_true, cond_false, ↓reduceIte, reduceCtorEq, Nat.reduceLT, Nat.reduceLeDiff, Nat.reduceMul, Nat.reduceEqDiff, exists_eq', implies_true, exists_true_left, tys0, tys1, tys2, und0, und1, md37, Tryz.ntmps37, Tryz.results37, w1]
    refine ⟨by first | omega | (simp only [List.length_append, List.length_cons, List.length_nil, List.length_map, List.length_take]; omega), ⟨i + 1, by omega⟩, by show L.length - (i + 1) < _; omega, ?_⟩
    show Weak 0 _ ⟨_, _⟩
    rw [nx]
    exact weak_drop (by simp) (by simp [DropHp, ints_below, flts_below, List.append_assoc]) (by simp [DropTm, DropV, below, belowM, belowL, List.append_assoc])
  · have hi' : i = L.length := by have := of_decide_eq_false g; omega
    have hJ : H ++ J = B := by rw [hB, ← hI0, hi', List.take_length]
    rw [hJ]
    have ck := chk_in B 0 (by decide) (by decide)
    refine call_ret (implCheck_call 0 B (by decide) (by decide) (by omega)) rfl rfl ?_
    simp only [q0, q1, q2, q3, q4, q5, q6, q7, q8, q9, zr0, zr1, zr2, zr3, zq0, zq1, zq2, zq3, zq4, Nat.reduceAdd, Nat.reduceSub, lenA, convA, convB, convO, indexA, indexS, Int.reduceToNat, cond_true, cond_false, ↓reduceIte, reduceCtorEq, Nat.reduceLT, Nat.reduceLeDiff, Nat.reduceMul, Nat.reduceEqDiff, exists_eq', implies_true, exists_true_left, tys0, tys1, tys2, und0, und1, md37, Tryz.ntmps37, Tryz.results37]
    have bc := bytesOf_call (chk 0 B).toNat 2 (by omega) (by omega)
    rw [show (((chk 0 B).toNat : Nat) : Int) = chk 0 B by omega] at bc
    have l4 := le_len (chk 0 B).toNat 2
    refine call_ret bc rfl rfl ?_
    simp only [q0, q1, q2, q3, q4, q5, q6, q7, q8, q9, zr0, zr1, zr2, zr3, zq0, zq1, zq2, zq3, zq4, Nat.reduceAdd, Nat.reduceSub, lenA, convA, convB, convO, indexA, indexS, Int.reduceToNat, cond_true, cond_false, ↓reduceIte, reduceCtorEq, Nat.reduceLT, Nat.reduceLeDiff, Nat.reduceMul, Nat.reduceEqDiff, exists_eq', implies_true, exists_true_left, tys0, tys1, tys2, und0, und1, md37, Tryz.ntmps37, Tryz.results37]
    exact ⟨by first | omega | (simp only [List.length_append, List.length_cons, List.length_nil, List.length_map, List.length_take]; omega), PostR.pure ⟨rfl, rfl⟩ rfl⟩

theorem le1 (n : Nat) : le n 1 = [UInt8.ofNat (n % 256)] := by simp [le]
theorem le2 (n : Nat) : le n 2 = [UInt8.ofNat (n % 256), UInt8.ofNat (n / 256 % 256)] := by simp [le]
theorem le4 (n : Nat) : le n 4 = [UInt8.ofNat (n % 256), UInt8.ofNat (n / 256 % 256), UInt8.ofNat (n / 65536 % 256), UInt8.ofNat (n / 16777216 % 256)] := by simp [le]
end Go.Proofs.YtigipcckflcilaaGreatDoor
