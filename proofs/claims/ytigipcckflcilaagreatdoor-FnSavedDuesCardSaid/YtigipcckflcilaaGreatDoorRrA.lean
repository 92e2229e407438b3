/- Texts of rules that are read: the program's ReadRule. -/
import Derived.Test.YtigipcckflcilaaGreatDoorMmA
import Derived.Test.YtigipcckflcilaaGreatDoorRdA
set_option maxRecDepth 10000
set_option maxHeartbeats 4000000
set_option linter.unusedSimpArgs false
set_option linter.unusedVariables false
namespace Go.Proofs.YtigipcckflcilaaGreatDoor
open Go Go.Abs

theorem gMax : Tryz.prog.globalNamed "internal/bytealg.MaxLen" = some 0 := by kernel_rfl
theorem cutS_call (s sep : List UInt8) (hs : s.length ≤ 1048576) : CallA Tryz.prog 53 [.str s, .str sep] [] (Ret (.tup [.str (Lib.cut s sep).1, .str (Lib.cut s sep).2.1, .bool (Lib.cut s sep).2.2]) []) :=
  cut_call' go53 gMax s sep (fun m w hm => strings_Cut ⟨s.toArray⟩ ⟨sep.toArray⟩ m w (by rw [size_byts]; omega) hm)
theorem trimS_call (s sep : List UInt8) (hs : s.length ≤ 1048576) : CallA Tryz.prog 55 [.str s, .str sep] [] (Ret (.str (Lib.trimSuffix s sep)) []) :=
  trim_call' go55 s sep (fun w => strings_TrimSuffix ⟨s.toArray⟩ ⟨sep.toArray⟩ w (by rw [size_byts]; omega))
theorem splitS_call (s sep : List UInt8) (h1 : 1 ≤ sep.length) (hs : s.length ≤ 1048576) : CallA Tryz.prog 50 [.str s, .str sep] [] (Ret (.ro (strs (words sep s))) []) :=
  split_call' go50 gMax s sep h1 (by omega) (fun m w hm => strings_Split ⟨s.toArray⟩ ⟨sep.toArray⟩ m w (by rw [size_byts]; omega) hm (by rw [size_byts]; exact h1))
theorem decA_get (o : Option Int) : decA o = .tup [.int .i64 (o.getD 0), .bool o.isSome] := by cases o <;> rfl
theorem decV_call (s : List UInt8) (hs : s.length ≤ 1048576) : CallA Tryz.prog 54 [.str s] [] (Ret (.tup [.int .i64 (decV s), .bool (decOf s).isSome]) []) := by
  have := readDecimal_call s hs
  rw [decA_get] at this
  exact this
theorem cut_len (s sep : List UInt8) : (Lib.cut s sep).1.length ≤ s.length ∧ (Lib.cut s sep).2.1.length ≤ s.length := by
  unfold Lib.cut
  split <;> simp
  omega
theorem trim_len (s sep : List UInt8) : (Lib.trimSuffix s sep).length ≤ s.length := by
  unfold Lib.trimSuffix
  split <;> simp
theorem itoa7 {n : Int} (h0 : -999999 ≤ n) (h1 : n ≤ 999999) : (Lib.itoa n).length ≤ 7 := by
  have h2 := dec_len 5 n.natAbs (by have : (10 : Nat) ^ (5 + 1) = 1000000 := by decide
                                    omega)
  rw [itoa_abs]
  split
  · simp; omega
  · omega
theorem join7 : ∀ xs : List Int, (∀ x ∈ xs, -16 ≤ x ∧ x ≤ 16) → (txt [32, 38, 32] xs).length ≤ xs.length * 10
  | [], _ => by rw [txt_zero]; simp
  | [x], h => by
    have := itoa7 (n := x) (by have := h x List.mem_cons_self; omega) (by have := h x List.mem_cons_self; omega)
    unfold txt
    rw [List.map_cons, List.map_nil, Lib.join_one]
    simp; omega
  | x :: y :: r, h => by
    have h1 := itoa7 (n := x) (by have := h x List.mem_cons_self; omega) (by have := h x List.mem_cons_self; omega)
    have h2 := join7 (y :: r) (fun z hz => h z (List.mem_cons_of_mem _ hz))
    unfold txt at h2 ⊢
    simp only [List.map_cons, Lib.join_cons, Lib.joinTail, List.flatten_cons, List.length_append, List.length_cons, List.length_nil] at h2 ⊢
    omega
theorem ruleT_200 {r : Rul} (h : ruleB r = true) : (ruleT r).length ≤ 120 := by
  have o := okV_of h
  have h1 := itoa7 (n := r.1) (by have := o.h; omega) (by have := o.h; omega)
  have h2 := itoa7 (n := r.2.2.1) (by have := o.a; omega) (by have := o.a; omega)
  have h3 := itoa7 (n := r.2.2.2.1) (by have := o.b; omega) (by have := o.b; omega)
  have h4 := itoa7 (n := r.2.2.2.2) (by have := o.c; omega) (by have := o.c; omega)
  have h5 := join7 r.2.1 o.i
  have h6 : (ifsT r.2.1).length ≤ 61 := by
    unfold ifsT
    split
    · simp
    · have := o.n
      simp; omega
  unfold ruleT
  simp only [List.length_append, List.length_cons, List.length_nil]
  omega
theorem ruleOf_long {s : List UInt8} (h : 200 < s.length) : ruleOf s = none := by
  cases hr : ruleOf s with
  | none => rfl
  | some r =>
    obtain ⟨h1, h2⟩ := ruleOf_some hr
    have := ruleT_200 h1
    rw [h2] at this
    omega
theorem implRuleText_call (r : Rul) (hm : r.2.1.length ≤ 1048576) : CallA Tryz.prog 21 [rulA r] [] (Ret (.tup [.str (if ruleB r = true then ruleT r else []), .bool (ruleB r)]) []) := by
  refine CallP.out (t := .mk) (go_in (md := md21) mixed Tryz.func21 rfl go21 (by kernel_rfl) ?_)
  simp only [q0, q1, q2, q3, q4, q5, q6, q7, q8, q9, zr0, zr1, zr2, zr3, zq0, zq1, zq2, zq3, zq4, Nat.reduceAdd, Nat.reduceSub, lenA, convA, indexA, indexS, Int.reduceToNat, cond_true, cond_false, ↓reduceIte, reduceCtorEq, Nat.reduceLT, Nat.reduceLeDiff, Nat.reduceMul, Nat.reduceEqDiff, exists_eq', implies_true, exists_true_left, tys0, tys1, tys2, und0, und1, md21, Tryz.ntmps21, Tryz.results21, rulA]
  refine call_ret (validRule_call r hm) rfl rfl ?_
  simp only [q0, q1, q2, q3, q4, q5, q6, q7, q8, q9, zr0, zr1, zr2, zr3, zq0, zq1, zq2, zq3, zq4, Nat.reduceAdd, Nat.reduceSub, lenA, convA, indexA, indexS, Int.reduceToNat, cond_true, cond_false, ↓reduceIte, reduceCtorEq, Nat.reduceLT, Nat.reduceLeDiff, Nat.reduceMul, Nat.reduceEqDiff, exists_eq', implies_true, exists_true_left, tys0, tys1, tys2, und0, und1, md21, Tryz.ntmps21, Tryz.results21, rulA]
  refine br_intro (fun h => ?_) (fun h => ?_) <;> simp only [q0, q1, q2, q3, q4, q5, q6, q7, q8, q9, zr0, zr1, zr2, zr3, zq0, zq1, zq2, zq3, zq4, Nat.reduceAdd, Nat.reduceSub, lenA, convA, indexA, indexS, Int.reduceToNat, cond_true, cond_false, ↓reduceIte, reduceCtorEq, Nat.reduceLT, Nat.reduceLeDiff, Nat.reduceMul, Nat.reduceEqDiff, exists_eq', implies_true, exists_true_left, tys0, tys1, tys2, und0, und1, md21, Tryz.ntmps21, Tryz.results21]
  · refine call_ret (ruleText_call r (okR_of h)) rfl rfl ?_
    simp only [q0, q1, q2, q3, q4, q5, q6, q7, q8, q9, zr0, zr1, zr2, zr3, zq0, zq1, zq2, zq3, zq4, Nat.reduceAdd, Nat.reduceSub, lenA, convA, indexA, indexS, Int.reduceToNat, cond_true, cond_false, ↓reduceIte, reduceCtorEq, Nat.reduceLT, Nat.reduceLeDiff, Nat.reduceMul, Nat.reduceEqDiff, exists_eq', implies_true, exists_true_left, tys0, tys1, tys2, und0, und1, md21, Tryz.ntmps21, Tryz.results21]
    rw [h]
    exact PostR.pure ⟨rfl, rfl⟩ rfl
  · rw [h]
    exact PostR.pure ⟨rfl, rfl⟩ rfl
end Go.Proofs.YtigipcckflcilaaGreatDoor
