/- Texts of numbers and of complex numbers, both ways. -/
import Derived.Test.YtkjabkgmkkcpdaaGreatDoorNmJ
import Derived.Test.YtkjabkgmkkcpdaaGreatDoorAbsM5
import Derived.Lib.CountLaws
import Derived.Lib.Split
import Derived.Lib.IndexMore
import Derived.Lib.Strings
set_option maxRecDepth 10000
set_option maxHeartbeats 4000000
set_option linter.unusedSimpArgs false
set_option linter.unusedVariables false
namespace Go.Proofs.YtkjabkgmkkcpdaaGreatDoor
open Go Go.Abs
theorem index_no (c : UInt8) (t : List UInt8) : ∀ a : List UInt8, c ∉ a → Lib.index a (c :: t) = -1
  | [], _ => rfl
  | x :: a, h => by
    have hx : c ≠ x := fun e => h (by rw [e]; exact List.mem_cons_self)
    have ha : c ∉ a := fun m => h (List.mem_cons_of_mem _ m)
    unfold Lib.index
    rw [if_neg (by simp [List.isPrefixOf, hx]), index_no c t a ha]
    rfl
theorem index_at (c : UInt8) (t b : List UInt8) : ∀ a : List UInt8, c ∉ a → Lib.index (a ++ (c :: t) ++ b) (c :: t) = a.length
  | [], _ => by
    show Lib.index (c :: (t ++ b)) (c :: t) = 0
    unfold Lib.index
    rw [if_pos (by simp [List.isPrefixOf])]
  | x :: a, h => by
    have hx : c ≠ x := fun e => h (by rw [e]; exact List.mem_cons_self)
    have ha : c ∉ a := fun m => h (List.mem_cons_of_mem _ m)
    have ih := index_at c t b a ha
    show Lib.index (x :: (a ++ (c :: t) ++ b)) (c :: t) = _
    unfold Lib.index
    rw [if_neg (by simp [List.isPrefixOf, hx]), ih, if_neg (by simp)]
    simp
theorem words_no (c : UInt8) (t a : List UInt8) (h : c ∉ a) : words (c :: t) a = [a] := by
  have hi : Lib.indexB ⟨a.toArray⟩ ⟨(c :: t).toArray⟩ = -1 := index_no c t a h
  unfold words
  rw [Lib.splitB_miss _ _ _ _ hi]
  rfl
theorem words_at (c : UInt8) (t a b : List UInt8) (h : c ∉ a) : words (c :: t) (a ++ (c :: t) ++ b) = a :: words (c :: t) b := by
  have hi : Lib.indexB ⟨(a ++ (c :: t) ++ b).toArray⟩ ⟨(c :: t).toArray⟩ = (a.length : Nat) := index_at c t b a h
  have h1 : 1 ≤ (⟨(c :: t).toArray⟩ : ByteArray).size := by simp [ByteArray.size]
  have hs : (⟨(c :: t).toArray⟩ : ByteArray).size = (c :: t).length := by simp [ByteArray.size]
  have ex : (⟨(a ++ (c :: t) ++ b).toArray⟩ : ByteArray).extract (a.length + (⟨(c :: t).toArray⟩ : ByteArray).size) (⟨(a ++ (c :: t) ++ b).toArray⟩ : ByteArray).size = ⟨b.toArray⟩ := by
    apply ByteArray.ext
    rw [ByteArray.data_extract]
    apply Array.ext'
    rw [Array.toList_extract, hs]
    show ((a ++ (c :: t) ++ b).extract _ _) = b
    rw [List.extract_eq_take_drop, show a.length + (c :: t).length = (a ++ (c :: t)).length by simp, List.drop_left]
    exact List.take_of_length_le (by simp [ByteArray.size]; omega)
  have ex2 : (⟨(a ++ (c :: t) ++ b).toArray⟩ : ByteArray).extract 0 (a.length + 0) = ⟨a.toArray⟩ := by
    apply ByteArray.ext
    rw [ByteArray.data_extract]
    apply Array.ext'
    rw [Array.toList_extract]
    show ((a ++ (c :: t) ++ b).extract _ _) = a
    rw [List.extract_eq_take_drop]
    simp
  unfold words
  rw [Lib.countB_hit _ _ _ h1 hi, ex, Nat.add_comm 1, Lib.splitB_hit _ _ _ _ _ hi, ex, ex2]
  rfl
theorem words_join (c : UInt8) (t : List UInt8) : ∀ (xs : List (List UInt8)), xs ≠ [] → (∀ x ∈ xs, c ∉ x) → words (c :: t) (Lib.join xs (c :: t)) = xs
  | [], h, _ => absurd rfl h
  | [x], _, h => by rw [Lib.join_one]; exact words_no c t x (h x List.mem_cons_self)
  | x :: y :: r, _, h => by
    have ih := words_join c t (y :: r) (by simp) (fun z hz => h z (List.mem_cons_of_mem _ hz))
    have e : Lib.join (x :: y :: r) (c :: t) = x ++ (c :: t) ++ Lib.join (y :: r) (c :: t) := by
      rw [Lib.join_cons, Lib.join_cons]
      simp [Lib.joinTail]
    rw [e, words_at c t x _ (h x List.mem_cons_self), ih]

theorem strs_kill (b : Nat) (L : List (List UInt8)) : (strs L).map (kill b) = strs L := by
  unfold strs
  rw [List.map_map]
  exact List.map_congr_left fun x _ => rfl

theorem strs_more (b : Nat) (L : List (List UInt8)) (x : List UInt8) : (strs L ++ [AV.str x]).map (kill b) = strs (L ++ [x]) := by
  rw [show strs L ++ [AV.str x] = strs (L ++ [x]) from (strs_app L [x]).symm, strs_kill]

theorem allW_str (x : List UInt8) : AllW 1 [AV.str x] := by
  intro a ha
  rw [List.mem_singleton.1 ha]
  exact ⟨rfl, rfl⟩
theorem back_strs (xs : List (List UInt8)) : (xs.map fun x => (⟨x.toArray⟩ : ByteArray)).map (·.data.toList) = xs := by
  rw [List.map_map]
  exact (List.map_congr_left fun x _ => rfl).trans (List.map_id xs)
theorem joinS_call (xs : List (List UInt8)) (hN : xs.length ≤ 1048576) (hlen : (Lib.join xs [44]).length ≤ 140737488355328) : CallA Tryz.prog 75 [.ro (strs xs), .str [44]] [] (Ret (.str (Lib.join xs [44])) []) := by
  refine join_call go75 [44] xs (fun a c w => strings_Join_none a c _ w) (fun bk o c w hc hb hcap => ?_)
  have := strings_Join bk o c (xs.map fun x => (⟨x.toArray⟩ : ByteArray)) ⟨[44].toArray⟩ w (fun j x hx => by
    simp only [List.getElem?_map, Option.map_eq_some_iff] at hx
    obtain ⟨y, h1, rfl⟩ := hx
    exact hc j y h1) hb (by simp; omega) (by simpa using hcap) (by rw [back_strs]; exact hlen)
  rw [back_strs, List.length_map] at this
  exact this
def strB (l : List (List UInt8)) : Blk := { ty := 9, w := 1, els := strs l }
theorem gMax : Tryz.prog.globalNamed "internal/bytealg.MaxLen" = some 4 := by kernel_rfl
theorem splitS_call (s sep : List UInt8) (h1 : 1 ≤ sep.length) (hs : s.length ≤ 1048576) : CallA Tryz.prog 76 [.str s, .str sep] [] (Ret (.ro (strs (words sep s))) []) :=
  split_call' go76 gMax s sep h1 (by omega) (fun m w hm => strings_Split ⟨s.toArray⟩ ⟨sep.toArray⟩ m w (by rw [size_byts]; omega) hm (by rw [size_byts]; exact h1))
def noneT : List UInt8 := [110, 111, 110, 101]
def wdsT (W : List (List UInt8)) : List UInt8 := if W = [] then noneT else Lib.join W [44]
def OkWds (L : Nat) (W : List (List UInt8)) : Prop := W.length ≤ 256 ∧ ∀ w ∈ W, w.length = L ∧ (44 : UInt8) ∉ w
theorem tail_len {L : Nat} : ∀ (r : List (List UInt8)), (∀ x ∈ r, x.length = L) → (Lib.joinTail [44] r).length = r.length * (L + 1)
  | [], _ => by simp [Lib.joinTail]
  | x :: r, h => by
    have := tail_len r fun y hy => h y (List.mem_cons_of_mem _ hy)
    have e : Lib.joinTail [44] (x :: r) = [44] ++ x ++ Lib.joinTail [44] r := by simp [Lib.joinTail]
    rw [e, List.length_append, this, List.length_append, h x List.mem_cons_self]
    simp only [List.length_cons, List.length_nil, Nat.add_mul, Nat.one_mul]
    omega
theorem join_len {L : Nat} {W : List (List UInt8)} (h : ∀ x ∈ W, x.length = L) : (Lib.join W [44]).length ≤ W.length * (L + 1) ∧ (W ≠ [] → L ≤ (Lib.join W [44]).length) := by
  cases W with
  | nil => exact ⟨by simp [Lib.join], fun e => absurd rfl e⟩
  | cons x r =>
    have h1 := tail_len r fun y hy => h y (List.mem_cons_of_mem _ hy)
    have h2 := h x List.mem_cons_self
    rw [Lib.join_cons, List.length_append, h1, h2, List.length_cons, Nat.succ_mul]
    exact ⟨by omega, fun _ => by omega⟩
theorem listed_call {L : Nat} (hL : L ≤ 16) (W : List (List UInt8)) (h : OkWds L W) : CallA Tryz.prog 48 [.ro (strs W)] [] (Ret (.str (wdsT W)) []) := by
  have hl := (join_len fun x hx => (h.2 x hx).1).1
  have hm : W.length * (L + 1) ≤ 256 * 17 := Nat.mul_le_mul h.1 (by omega)
  refine CallP.out (t := .mk) (go_in (md := md48) mixed Tryz.func48 rfl go48 (by kernel_rfl) ?_)
  simp only [q0, q1, q2, q3, q4, q5, q6, q7, q8, q9, zr0, zr1, zr2, zr3, zq0, zq1, zq2, zq3, zq4, Nat.reduceAdd, Nat.reduceSub, lenA, convA, indexA, flatP, nilI, ifaA, indexS, Int.reduceToNat, cond_true, cond_false, ↓reduceIte, reduceCtorEq, Nat.reduceLT, Nat.reduceLeDiff, Nat.reduceMul, Nat.reduceEqDiff, exists_eq', implies_true, exists_true_left, tys0, tys1, und0, und1, md48, Tryz.ntmps48, Tryz.results48, strs_len]
  refine br_intro (fun e => ?_) (fun e => ?_) <;> simp only [q0, q1, q2, q3, q4, q5, q6, q7, q8, q9, zr0, zr1, zr2, zr3, zq0, zq1, zq2, zq3, zq4, Nat.reduceAdd, Nat.reduceSub, lenA, convA, indexA, flatP, nilI, ifaA, indexS, Int.reduceToNat, cond_true, cond_false, ↓reduceIte, reduceCtorEq, Nat.reduceLT, Nat.reduceLeDiff, Nat.reduceMul, Nat.reduceEqDiff, exists_eq', implies_true, exists_true_left, tys0, tys1, und0, und1, md48, Tryz.ntmps48, Tryz.results48, strs_len]
  · have e' : W = [] := List.length_eq_zero_iff.1 (by have := beq_iff_eq.1 e; omega)
    exact PostR.pure ⟨by rw [wdsT, if_pos e']; rfl, rfl⟩ rfl
  · have e' : ¬ W = [] := fun k => by rw [k] at e; cases e
    refine call_ret (joinS_call W (by have := h.1; omega) (by omega)) rfl rfl ?_
    simp only [q0, q1, q2, q3, q4, q5, q6, q7, q8, q9, zr0, zr1, zr2, zr3, zq0, zq1, zq2, zq3, zq4, Nat.reduceAdd, Nat.reduceSub, lenA, convA, indexA, flatP, nilI, ifaA, indexS, Int.reduceToNat, cond_true, cond_false, ↓reduceIte, reduceCtorEq, Nat.reduceLT, Nat.reduceLeDiff, Nat.reduceMul, Nat.reduceEqDiff, exists_eq', implies_true, exists_true_left, tys0, tys1, und0, und1, md48, Tryz.ntmps48, Tryz.results48]
    exact PostR.pure ⟨by rw [wdsT, if_neg e'], rfl⟩ rfl
theorem wordsOf_call {L : Nat} (h1 : 5 ≤ L) (hL : L ≤ 16) (W : List (List UInt8)) (h : OkWds L W) : CallA Tryz.prog 49 [.str (wdsT W), .int .i64 256] [] (Ret (.tup [.ro (strs W), .bool true]) []) := by
  obtain ⟨hl, hl2⟩ := join_len fun x hx => (h.2 x hx).1
  have hm : W.length * (L + 1) ≤ 256 * 17 := Nat.mul_le_mul h.1 (by omega)
  have w0 : IntKind.i64.wrap (20 * 256) = 5120 := by decide
  by_cases e : W = []
  · subst e
    refine CallA.nilR 2 (r := .tup [.nils, .bool true]) rfl ?_
    refine CallP.out (t := .mk) (go_in (md := md49) mixed Tryz.func49 rfl go49 (by kernel_rfl) ?_)
    simp only [q0, q1, q2, q3, q4, q5, q6, q7, q8, q9, zr0, zr1, zr2, zr3, zq0, zq1, zq2, zq3, zq4, Nat.reduceAdd, Nat.reduceSub, lenA, convA, indexA, flatP, nilI, ifaA, indexS, Int.reduceToNat, cond_true, cond_false, ↓reduceIte, reduceCtorEq, Nat.reduceLT, Nat.reduceLeDiff, Nat.reduceMul, Nat.reduceEqDiff, exists_eq', implies_true, exists_true_left, tys0, tys1, und0, und1, md49, Tryz.ntmps49, Tryz.results49]
    refine br_yes rfl ?_
    simp only [q0, q1, q2, q3, q4, q5, q6, q7, q8, q9, zr0, zr1, zr2, zr3, zq0, zq1, zq2, zq3, zq4, Nat.reduceAdd, Nat.reduceSub, lenA, convA, indexA, flatP, nilI, ifaA, indexS, Int.reduceToNat, cond_true, cond_false, ↓reduceIte, reduceCtorEq, Nat.reduceLT, Nat.reduceLeDiff, Nat.reduceMul, Nat.reduceEqDiff, exists_eq', implies_true, exists_true_left, tys0, tys1, und0, und1, md49, Tryz.ntmps49, Tryz.results49]
    exact PostR.pure ⟨rfl, rfl⟩ rfl
  · have hj := words_join 44 [] W e fun x hx => (h.2 x hx).2
    rw [wdsT, if_neg e]
    have ne : (Lib.join W [44] == noneT) = false := by
      refine beq_eq_false_iff_ne.2 fun k => ?_
      have := hl2 e
      rw [k] at this
      simp [noneT] at this
      omega
    refine CallP.out (t := .mk) (go_in (md := md49) mixed Tryz.func49 rfl go49 (by kernel_rfl) ?_)
    simp only [q0, q1, q2, q3, q4, q5, q6, q7, q8, q9, zr0, zr1, zr2, zr3, zq0, zq1, zq2, zq3, zq4, Nat.reduceAdd, Nat.reduceSub, lenA, convA, indexA, flatP, nilI, ifaA, indexS, Int.reduceToNat, cond_true, cond_false, ↓reduceIte, reduceCtorEq, Nat.reduceLT, Nat.reduceLeDiff, Nat.reduceMul, Nat.reduceEqDiff, exists_eq', implies_true, exists_true_left, tys0, tys1, und0, und1, md49, Tryz.ntmps49, Tryz.results49, show (Lib.join W [44] == 110 :: 111 :: 110 :: 101 :: []) = false from ne, w0]
    refine br_no (by first | exact decide_eq_false (by omega) | exact beq_false_of_ne (by omega) | (simp only [bne_eq_false_iff_eq, beq_eq_false_iff_ne, ne_eq]; omega)) ?_; simp only [q0, q1, q2, q3, q4, q5, q6, q7, q8, q9, zr0, zr1, zr2, zr3, zq0, zq1, zq2, zq3, zq4, Nat.reduceAdd, Nat.reduceSub, lenA, convA, indexA, flatP, nilI, ifaA, indexS, Int.reduceToNat, cond_true, cond_false, ↓reduceIte, reduceCtorEq, Nat.reduceLT, Nat.reduceLeDiff, Nat.reduceMul, Nat.reduceEqDiff, exists_eq', implies_true, exists_true_left, tys0, tys1, und0, und1, md49, Tryz.ntmps49, Tryz.results49]
    refine call_ret (splitS_call (Lib.join W [44]) [44] (by decide) (by omega)) rfl rfl ?_
    simp only [q0, q1, q2, q3, q4, q5, q6, q7, q8, q9, zr0, zr1, zr2, zr3, zq0, zq1, zq2, zq3, zq4, Nat.reduceAdd, Nat.reduceSub, lenA, convA, indexA, flatP, nilI, ifaA, indexS, Int.reduceToNat, cond_true, cond_false, ↓reduceIte, reduceCtorEq, Nat.reduceLT, Nat.reduceLeDiff, Nat.reduceMul, Nat.reduceEqDiff, exists_eq', implies_true, exists_true_left, tys0, tys1, und0, und1, md49, Tryz.ntmps49, Tryz.results49, strs_len, hj]
    refine PostR.pure ⟨?_, rfl⟩ rfl
    rw [decide_eq_true (by have := h.1; omega)]
end Go.Proofs.YtkjabkgmkkcpdaaGreatDoor
