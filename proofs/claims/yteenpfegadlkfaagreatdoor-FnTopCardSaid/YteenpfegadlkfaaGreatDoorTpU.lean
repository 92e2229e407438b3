/- A command on a desk. -/
import Derived.Test.YteenpfegadlkfaaGreatDoorTpQ
set_option maxRecDepth 10000
set_option maxHeartbeats 8000000
set_option linter.unusedSimpArgs false
set_option linter.unusedVariables false
namespace Go.Proofs.YteenpfegadlkfaaGreatDoor
open Go Go.Abs
section
variable {bs rs ps ra bs' rs' ps' ra' : List Int} {q qx : List Nat}
theorem Dok.len (D : Dok bs rs ps ra q) : (1 ≤ bs.length ∧ bs.length ≤ 1000) ∧ (1 ≤ rs.length ∧ rs.length ≤ 1000) ∧ (1 ≤ ps.length ∧ ps.length ≤ 1000) ∧ (1 ≤ ra.length ∧ ra.length ≤ 1000) ∧ (1 ≤ q.length ∧ q.length ≤ 1000) := by
  obtain ⟨h1, h2, h3⟩ := D.b1
  have a := D.pys.one
  have b := D.pys.six
  have c := D.rts.one
  have d := D.rts.six
  have e := D.tab.one
  have f := D.tab.six
  omega
theorem Dok.clone (D : Dok bs rs ps ra q) : CallA Tryz.prog 33 [deskV bs rs ps ra q] [] (Ret (deskV bs rs ps ra q) []) := by
  obtain ⟨a, b, c, d, e⟩ := D.len
  exact cloneDesk_call bs rs ps ra q a b c d e
theorem Dok.vd (D : Dok bs rs ps ra q) : CallA Tryz.prog 13 [deskV bs rs ps ra q] [] (Ret (.bool true) []) := by
  obtain ⟨a, b, c, d, e⟩ := D.len
  have := implValid_call bs rs ps ra q (by omega) (by omega) (by omega) (by omega) (by omega)
  rw [D.val] at this
  exact this
theorem dsk_below (a b c d : List Int) (f : List Nat) : allBelow 0 (dskB a b c d f).els = true := by
  simp [dskB, deskV, allBelow, below, belowM, belowL]
theorem two_below (a b c d : List Int) (f : List Nat) (ws : List (List UInt8)) (bad : Bool) : ∀ b' ∈ [dskB a b c d f, lwB ws bad], allBelow 0 b'.els = true := by
  intro b hb
  simp only [List.mem_cons, List.not_mem_nil, or_false] at hb
  rcases hb with rfl | rfl
  · exact dsk_below _ _ _ _ _
  · exact strs2_below _ _
theorem cmd_part (D : Dok bs rs ps ra q) (D' : Dok bs' rs' ps' ra' qx) (line : List UInt8) (out : List UInt8) (hl : line.length ≤ 1048576)
    (hp : CallA Tryz.prog 66 [.ptr 0 0 0, .ptr 1 0 0] [dskB bs rs ps ra q, lwB (cutA 32 [] line) false] (Ret (.tup [.str out, .bool true, .bool true]) [dskB bs' rs' ps' ra' qx, lwB (cutA 32 [] line) false])) :
    CallA Tryz.prog 34 [deskV bs rs ps ra q, .str line] [] (Ret (.tup [deskV bs' rs' ps' ra' qx, .str out]) []) := by
  have cl := D.clone
  have vd := D'.vd
  have sp := splitF_call 32 line hl
  generalize cutA 32 [] line = ws at *
  have sl := strs_len ws
  unfold deskV at cl vd ⊢
  refine CallP.out (t := .mk) (go_in (md := md34) mixed Tryz.func34 rfl go34 (by kernel_rfl) ?_)
  simp only [q0, q1, q2, q3, q4, q5, q6, q7, q8, q9, zr0, zr1, zr2, zr3, zq0, zq1, zq2, zq3, zq4, Nat.reduceAdd, Nat.reduceSub, lenA, convA, indexA, flatP, nilI, ifaA, indexS, Int.reduceToNat, cond_true, cond_false, ↓reduceIte, reduceCtorEq, Nat.reduceLT, Nat.reduceLeDiff, Nat.reduceMul, Nat.reduceEqDiff, exists_eq', implies_true, exists_true_left, tys0, tys1, tys2, tys3, und0, und1, und2, und3, md34, Tryz.ntmps34, Tryz.results34]
  refine call_ret cl rfl rfl ?_
  simp only [q0, q1, q2, q3, q4, q5, q6, q7, q8, q9, zr0, zr1, zr2, zr3, zq0, zq1, zq2, zq3, zq4, Nat.reduceAdd, Nat.reduceSub, lenA, convA, indexA, flatP, nilI, ifaA, indexS, Int.reduceToNat, cond_true, cond_false, ↓reduceIte, reduceCtorEq, Nat.reduceLT, Nat.reduceLeDiff, Nat.reduceMul, Nat.reduceEqDiff, exists_eq', implies_true, exists_true_left, tys0, tys1, tys2, tys3, und0, und1, und2, und3, md34, Tryz.ntmps34, Tryz.results34]
  refine call_ret sp rfl rfl ?_
  simp only [q0, q1, q2, q3, q4, q5, q6, q7, q8, q9, zr0, zr1, zr2, zr3, zq0, zq1, zq2, zq3, zq4, Nat.reduceAdd, Nat.reduceSub, lenA, convA, indexA, flatP, nilI, ifaA, indexS, Int.reduceToNat, cond_true, cond_false, ↓reduceIte, reduceCtorEq, Nat.reduceLT, Nat.reduceLeDiff, Nat.reduceMul, Nat.reduceEqDiff, exists_eq', implies_true, exists_true_left, tys0, tys1, tys2, tys3, und0, und1, und2, und3, md34, Tryz.ntmps34, Tryz.results34]
  refine call_handed [3, 2] hp (by decide) ⟨⟨rfl, by first | rfl | exact dsk_below _ _ _ _ _⟩, ⟨rfl, by first | rfl | exact strs2_below _ _⟩, trivial⟩ rfl rfl rfl rfl (two_below _ _ _ _ _ _ _) ?_
  simp only [q0, q1, q2, q3, q4, q5, q6, q7, q8, q9, zr0, zr1, zr2, zr3, zq0, zq1, zq2, zq3, zq4, Nat.reduceAdd, Nat.reduceSub, lenA, convA, indexA, flatP, nilI, ifaA, indexS, Int.reduceToNat, cond_true, cond_false, ↓reduceIte, reduceCtorEq, Nat.reduceLT, Nat.reduceLeDiff, Nat.reduceMul, Nat.reduceEqDiff, exists_eq', implies_true, exists_true_left, tys0, tys1, tys2, tys3, und0, und1, und2, und3, md34, Tryz.ntmps34, Tryz.results34, dskB, deskV, lwB, ren, renM, renL, putF, List.length_cons, List.length_nil, sl]
  refine call_ret vd rfl rfl ?_
  simp only [q0, q1, q2, q3, q4, q5, q6, q7, q8, q9, zr0, zr1, zr2, zr3, zq0, zq1, zq2, zq3, zq4, Nat.reduceAdd, Nat.reduceSub, lenA, convA, indexA, flatP, nilI, ifaA, indexS, Int.reduceToNat, cond_true, cond_false, ↓reduceIte, reduceCtorEq, Nat.reduceLT, Nat.reduceLeDiff, Nat.reduceMul, Nat.reduceEqDiff, exists_eq', implies_true, exists_true_left, tys0, tys1, tys2, tys3, und0, und1, und2, und3, md34, Tryz.ntmps34, Tryz.results34, dskB, deskV, lwB, ren, renM, renL, putF, List.length_cons, List.length_nil, sl]
  exact PostR.pure ⟨rfl, rfl⟩ rfl
theorem cmd_plain (D : Dok bs rs ps ra q) (D' : Dok bs' rs' ps' ra' qx) (line : List UInt8) (out : List UInt8) (hl : line.length ≤ 1048576)
    (h3 : (cutA 32 [] line).length < 3)
    (hp : CallA Tryz.prog 66 [.ptr 0 0 0, .ptr 1 0 0] [dskB bs rs ps ra q, lwB (cutA 32 [] line) false] (Ret (.tup [.str [], .bool false, .bool false]) [dskB bs rs ps ra q, lwB (cutA 32 [] line) false]))
    (hq : CallA Tryz.prog 67 [.ptr 0 0 0, .ptr 1 0 0] [dskB bs rs ps ra q, lwB (cutA 32 [] line) false] (Ret (.tup [.str out, .bool true, .bool true]) [dskB bs' rs' ps' ra' qx, lwB (cutA 32 [] line) false])) :
    CallA Tryz.prog 34 [deskV bs rs ps ra q, .str line] [] (Ret (.tup [deskV bs' rs' ps' ra' qx, .str out]) []) := by
  have cl := D.clone
  have vd := D'.vd
  have sp := splitF_call 32 line hl
  generalize cutA 32 [] line = ws at *
  have sl := strs_len ws
  unfold deskV at cl vd ⊢
  refine CallP.out (t := .mk) (go_in (md := md34) mixed Tryz.func34 rfl go34 (by kernel_rfl) ?_)
  simp only [q0, q1, q2, q3, q4, q5, q6, q7, q8, q9, zr0, zr1, zr2, zr3, zq0, zq1, zq2, zq3, zq4, Nat.reduceAdd, Nat.reduceSub, lenA, convA, indexA, flatP, nilI, ifaA, indexS, Int.reduceToNat, cond_true, cond_false, ↓reduceIte, reduceCtorEq, Nat.reduceLT, Nat.reduceLeDiff, Nat.reduceMul, Nat.reduceEqDiff, exists_eq', implies_true, exists_true_left, tys0, tys1, tys2, tys3, und0, und1, und2, und3, md34, Tryz.ntmps34, Tryz.results34]
  refine call_ret cl rfl rfl ?_
  simp only [q0, q1, q2, q3, q4, q5, q6, q7, q8, q9, zr0, zr1, zr2, zr3, zq0, zq1, zq2, zq3, zq4, Nat.reduceAdd, Nat.reduceSub, lenA, convA, indexA, flatP, nilI, ifaA, indexS, Int.reduceToNat, cond_true, cond_false, ↓reduceIte, reduceCtorEq, Nat.reduceLT, Nat.reduceLeDiff, Nat.reduceMul, Nat.reduceEqDiff, exists_eq', implies_true, exists_true_left, tys0, tys1, tys2, tys3, und0, und1, und2, und3, md34, Tryz.ntmps34, Tryz.results34]
  refine call_ret sp rfl rfl ?_
  simp only [q0, q1, q2, q3, q4, q5, q6, q7, q8, q9, zr0, zr1, zr2, zr3, zq0, zq1, zq2, zq3, zq4, Nat.reduceAdd, Nat.reduceSub, lenA, convA, indexA, flatP, nilI, ifaA, indexS, Int.reduceToNat, cond_true, cond_false, ↓reduceIte, reduceCtorEq, Nat.reduceLT, Nat.reduceLeDiff, Nat.reduceMul, Nat.reduceEqDiff, exists_eq', implies_true, exists_true_left, tys0, tys1, tys2, tys3, und0, und1, und2, und3, md34, Tryz.ntmps34, Tryz.results34]
  refine call_handed [3, 2] hp (by decide) ⟨⟨rfl, by first | rfl | exact dsk_below _ _ _ _ _⟩, ⟨rfl, by first | rfl | exact strs2_below _ _⟩, trivial⟩ rfl rfl rfl rfl (two_below _ _ _ _ _ _ _) ?_
  simp only [q0, q1, q2, q3, q4, q5, q6, q7, q8, q9, zr0, zr1, zr2, zr3, zq0, zq1, zq2, zq3, zq4, Nat.reduceAdd, Nat.reduceSub, lenA, convA, indexA, flatP, nilI, ifaA, indexS, Int.reduceToNat, cond_true, cond_false, ↓reduceIte, reduceCtorEq, Nat.reduceLT, Nat.reduceLeDiff, Nat.reduceMul, Nat.reduceEqDiff, exists_eq', implies_true, exists_true_left, tys0, tys1, tys2, tys3, und0, und1, und2, und3, md34, Tryz.ntmps34, Tryz.results34, dskB, deskV, lwB, ren, renM, renL, putF, List.length_cons, List.length_nil, sl]
  refine br_yes (decide_eq_true (by omega)) ?_
  simp only [q0, q1, q2, q3, q4, q5, q6, q7, q8, q9, zr0, zr1, zr2, zr3, zq0, zq1, zq2, zq3, zq4, Nat.reduceAdd, Nat.reduceSub, lenA, convA, indexA, flatP, nilI, ifaA, indexS, Int.reduceToNat, cond_true, cond_false, ↓reduceIte, reduceCtorEq, Nat.reduceLT, Nat.reduceLeDiff, Nat.reduceMul, Nat.reduceEqDiff, exists_eq', implies_true, exists_true_left, tys0, tys1, tys2, tys3, und0, und1, und2, und3, md34, Tryz.ntmps34, Tryz.results34, dskB, deskV, lwB, sl]
  refine call_handed [3, 2] hq (by decide) ⟨⟨rfl, by first | rfl | exact dsk_below _ _ _ _ _⟩, ⟨rfl, by first | rfl | exact strs2_below _ _⟩, trivial⟩ rfl rfl rfl rfl (two_below _ _ _ _ _ _ _) ?_
  simp only [q0, q1, q2, q3, q4, q5, q6, q7, q8, q9, zr0, zr1, zr2, zr3, zq0, zq1, zq2, zq3, zq4, Nat.reduceAdd, Nat.reduceSub, lenA, convA, indexA, flatP, nilI, ifaA, indexS, Int.reduceToNat, cond_true, cond_false, ↓reduceIte, reduceCtorEq, Nat.reduceLT, Nat.reduceLeDiff, Nat.reduceMul, Nat.reduceEqDiff, exists_eq', implies_true, exists_true_left, tys0, tys1, tys2, tys3, und0, und1, und2, und3, md34, Tryz.ntmps34, Tryz.results34, dskB, deskV, lwB, ren, renM, renL, putF, List.length_cons, List.length_nil, sl]
  refine call_ret vd rfl rfl ?_
  simp only [q0, q1, q2, q3, q4, q5, q6, q7, q8, q9, zr0, zr1, zr2, zr3, zq0, zq1, zq2, zq3, zq4, Nat.reduceAdd, Nat.reduceSub, lenA, convA, indexA, flatP, nilI, ifaA, indexS, Int.reduceToNat, cond_true, cond_false, ↓reduceIte, reduceCtorEq, Nat.reduceLT, Nat.reduceLeDiff, Nat.reduceMul, Nat.reduceEqDiff, exists_eq', implies_true, exists_true_left, tys0, tys1, tys2, tys3, und0, und1, und2, und3, md34, Tryz.ntmps34, Tryz.results34, dskB, deskV, lwB, ren, renM, renL, putF, List.length_cons, List.length_nil, sl]
  exact PostR.pure ⟨rfl, rfl⟩ rfl
theorem cmd_double (D : Dok bs rs ps ra q) (line : List UInt8) (out : List UInt8) (hl : line.length ≤ 1048576)
    (h3 : (cutA 32 [] line).length = 3)
    (hp : CallA Tryz.prog 66 [.ptr 0 0 0, .ptr 1 0 0] [dskB bs rs ps ra q, lwB (cutA 32 [] line) false] (Ret (.tup [.str [], .bool false, .bool false]) [dskB bs rs ps ra q, lwB (cutA 32 [] line) false]))
    (hq : CallA Tryz.prog 68 [.ptr 0 0 0, .ptr 1 0 0] [dskB bs rs ps ra q, lwB (cutA 32 [] line) false] (Ret (.tup [.str out, .bool true, .bool true]) [dskB bs rs ps ra q, lwB (cutA 32 [] line) false])) :
    CallA Tryz.prog 34 [deskV bs rs ps ra q, .str line] [] (Ret (.tup [deskV bs rs ps ra q, .str out]) []) := by
  have cl := D.clone
  have vd := D.vd
  have sp := splitF_call 32 line hl
  generalize cutA 32 [] line = ws at *
  have sl := strs_len ws
  unfold deskV at cl vd ⊢
  refine CallP.out (t := .mk) (go_in (md := md34) mixed Tryz.func34 rfl go34 (by kernel_rfl) ?_)
  simp only [q0, q1, q2, q3, q4, q5, q6, q7, q8, q9, zr0, zr1, zr2, zr3, zq0, zq1, zq2, zq3, zq4, Nat.reduceAdd, Nat.reduceSub, lenA, convA, indexA, flatP, nilI, ifaA, indexS, Int.reduceToNat, cond_true, cond_false, ↓reduceIte, reduceCtorEq, Nat.reduceLT, Nat.reduceLeDiff, Nat.reduceMul, Nat.reduceEqDiff, exists_eq', implies_true, exists_true_left, tys0, tys1, tys2, tys3, und0, und1, und2, und3, md34, Tryz.ntmps34, Tryz.results34]
  refine call_ret cl rfl rfl ?_
  simp only [q0, q1, q2, q3, q4, q5, q6, q7, q8, q9, zr0, zr1, zr2, zr3, zq0, zq1, zq2, zq3, zq4, Nat.reduceAdd, Nat.reduceSub, lenA, convA, indexA, flatP, nilI, ifaA, indexS, Int.reduceToNat, cond_true, cond_false, ↓reduceIte, reduceCtorEq, Nat.reduceLT, Nat.reduceLeDiff, Nat.reduceMul, Nat.reduceEqDiff, exists_eq', implies_true, exists_true_left, tys0, tys1, tys2, tys3, und0, und1, und2, und3, md34, Tryz.ntmps34, Tryz.results34]
  refine call_ret sp rfl rfl ?_
  simp only [q0, q1, q2, q3, q4, q5, q6, q7, q8, q9, zr0, zr1, zr2, zr3, zq0, zq1, zq2, zq3, zq4, Nat.reduceAdd, Nat.reduceSub, lenA, convA, indexA, flatP, nilI, ifaA, indexS, Int.reduceToNat, cond_true, cond_false, ↓reduceIte, reduceCtorEq, Nat.reduceLT, Nat.reduceLeDiff, Nat.reduceMul, Nat.reduceEqDiff, exists_eq', implies_true, exists_true_left, tys0, tys1, tys2, tys3, und0, und1, und2, und3, md34, Tryz.ntmps34, Tryz.results34]
  refine call_handed [3, 2] hp (by decide) ⟨⟨rfl, by first | rfl | exact dsk_below _ _ _ _ _⟩, ⟨rfl, by first | rfl | exact strs2_below _ _⟩, trivial⟩ rfl rfl rfl rfl (two_below _ _ _ _ _ _ _) ?_
  simp only [q0, q1, q2, q3, q4, q5, q6, q7, q8, q9, zr0, zr1, zr2, zr3, zq0, zq1, zq2, zq3, zq4, Nat.reduceAdd, Nat.reduceSub, lenA, convA, indexA, flatP, nilI, ifaA, indexS, Int.reduceToNat, cond_true, cond_false, ↓reduceIte, reduceCtorEq, Nat.reduceLT, Nat.reduceLeDiff, Nat.reduceMul, Nat.reduceEqDiff, exists_eq', implies_true, exists_true_left, tys0, tys1, tys2, tys3, und0, und1, und2, und3, md34, Tryz.ntmps34, Tryz.results34, dskB, deskV, lwB, ren, renM, renL, putF, List.length_cons, List.length_nil, sl]
  refine br_no (decide_eq_false (by omega)) ?_
  simp only [q0, q1, q2, q3, q4, q5, q6, q7, q8, q9, zr0, zr1, zr2, zr3, zq0, zq1, zq2, zq3, zq4, Nat.reduceAdd, Nat.reduceSub, lenA, convA, indexA, flatP, nilI, ifaA, indexS, Int.reduceToNat, cond_true, cond_false, ↓reduceIte, reduceCtorEq, Nat.reduceLT, Nat.reduceLeDiff, Nat.reduceMul, Nat.reduceEqDiff, exists_eq', implies_true, exists_true_left, tys0, tys1, tys2, tys3, und0, und1, und2, und3, md34, Tryz.ntmps34, Tryz.results34, dskB, deskV, lwB, sl]
  refine br_yes (by rw [h3]; rfl) ?_
  simp only [q0, q1, q2, q3, q4, q5, q6, q7, q8, q9, zr0, zr1, zr2, zr3, zq0, zq1, zq2, zq3, zq4, Nat.reduceAdd, Nat.reduceSub, lenA, convA, indexA, flatP, nilI, ifaA, indexS, Int.reduceToNat, cond_true, cond_false, ↓reduceIte, reduceCtorEq, Nat.reduceLT, Nat.reduceLeDiff, Nat.reduceMul, Nat.reduceEqDiff, exists_eq', implies_true, exists_true_left, tys0, tys1, tys2, tys3, und0, und1, und2, und3, md34, Tryz.ntmps34, Tryz.results34, dskB, deskV, lwB, sl]
  refine call_handed [3, 2] hq (by decide) ⟨⟨rfl, by first | rfl | exact dsk_below _ _ _ _ _⟩, ⟨rfl, by first | rfl | exact strs2_below _ _⟩, trivial⟩ rfl rfl rfl rfl (two_below _ _ _ _ _ _ _) ?_
  simp only [q0, q1, q2, q3, q4, q5, q6, q7, q8, q9, zr0, zr1, zr2, zr3, zq0, zq1, zq2, zq3, zq4, Nat.reduceAdd, Nat.reduceSub, lenA, convA, indexA, flatP, nilI, ifaA, indexS, Int.reduceToNat, cond_true, cond_false, ↓reduceIte, reduceCtorEq, Nat.reduceLT, Nat.reduceLeDiff, Nat.reduceMul, Nat.reduceEqDiff, exists_eq', implies_true, exists_true_left, tys0, tys1, tys2, tys3, und0, und1, und2, und3, md34, Tryz.ntmps34, Tryz.results34, dskB, deskV, lwB, ren, renM, renL, putF, List.length_cons, List.length_nil, sl]
  refine call_ret vd rfl rfl ?_
  simp only [q0, q1, q2, q3, q4, q5, q6, q7, q8, q9, zr0, zr1, zr2, zr3, zq0, zq1, zq2, zq3, zq4, Nat.reduceAdd, Nat.reduceSub, lenA, convA, indexA, flatP, nilI, ifaA, indexS, Int.reduceToNat, cond_true, cond_false, ↓reduceIte, reduceCtorEq, Nat.reduceLT, Nat.reduceLeDiff, Nat.reduceMul, Nat.reduceEqDiff, exists_eq', implies_true, exists_true_left, tys0, tys1, tys2, tys3, und0, und1, und2, und3, md34, Tryz.ntmps34, Tryz.results34, dskB, deskV, lwB, ren, renM, renL, putF, List.length_cons, List.length_nil, sl]
  exact PostR.pure ⟨rfl, rfl⟩ rfl
theorem cmd_what (D : Dok bs rs ps ra q) (line : List UInt8) (hl : line.length ≤ 1048576)
    (h3 : (cutA 32 [] line).length < 3)
    (hp : CallA Tryz.prog 66 [.ptr 0 0 0, .ptr 1 0 0] [dskB bs rs ps ra q, lwB (cutA 32 [] line) false] (Ret (.tup [.str [], .bool false, .bool false]) [dskB bs rs ps ra q, lwB (cutA 32 [] line) false]))
    (hq : CallA Tryz.prog 67 [.ptr 0 0 0, .ptr 1 0 0] [dskB bs rs ps ra q, lwB (cutA 32 [] line) false] (Ret (.tup [.str [], .bool false, .bool false]) [dskB bs rs ps ra q, lwB (cutA 32 [] line) false])) :
    CallA Tryz.prog 34 [deskV bs rs ps ra q, .str line] [] (Ret (.tup [deskV bs rs ps ra q, .str [119, 104, 97, 116]]) []) := by
  have cl := D.clone
  have vd := D.vd
  have sp := splitF_call 32 line hl
  generalize cutA 32 [] line = ws at *
  have sl := strs_len ws
  unfold deskV at cl vd ⊢
  refine CallP.out (t := .mk) (go_in (md := md34) mixed Tryz.func34 rfl go34 (by kernel_rfl) ?_)
  simp only [q0, q1, q2, q3, q4, q5, q6, q7, q8, q9, zr0, zr1, zr2, zr3, zq0, zq1, zq2, zq3, zq4, Nat.reduceAdd, Nat.reduceSub, lenA, convA, indexA, flatP, nilI, ifaA, indexS, Int.reduceToNat, cond_true, cond_false, ↓reduceIte, reduceCtorEq, Nat.reduceLT, Nat.reduceLeDiff, Nat.reduceMul, Nat.reduceEqDiff, exists_eq', implies_true, exists_true_left, tys0, tys1, tys2, tys3, und0, und1, und2, und3, md34, Tryz.ntmps34, Tryz.results34]
  refine call_ret cl rfl rfl ?_
  simp only [q0, q1, q2, q3, q4, q5, q6, q7, q8, q9, zr0, zr1, zr2, zr3, zq0, zq1, zq2, zq3, zq4, Nat.reduceAdd, Nat.reduceSub, lenA, convA, indexA, flatP, nilI, ifaA, indexS, Int.reduceToNat, cond_true, cond_false, ↓reduceIte, reduceCtorEq, Nat.reduceLT, Nat.reduceLeDiff, Nat.reduceMul, Nat.reduceEqDiff, exists_eq', implies_true, exists_true_left, tys0, tys1, tys2, tys3, und0, und1, und2, und3, md34, Tryz.ntmps34, Tryz.results34]
  refine call_ret sp rfl rfl ?_
  simp only [q0, q1, q2, q3, q4, q5, q6, q7, q8, q9, zr0, zr1, zr2, zr3, zq0, zq1, zq2, zq3, zq4, Nat.reduceAdd, Nat.reduceSub, lenA, convA, indexA, flatP, nilI, ifaA, indexS, Int.reduceToNat, cond_true, cond_false, ↓reduceIte, reduceCtorEq, Nat.reduceLT, Nat.reduceLeDiff, Nat.reduceMul, Nat.reduceEqDiff, exists_eq', implies_true, exists_true_left, tys0, tys1, tys2, tys3, und0, und1, und2, und3, md34, Tryz.ntmps34, Tryz.results34]
  refine call_handed [3, 2] hp (by decide) ⟨⟨rfl, by first | rfl | exact dsk_below _ _ _ _ _⟩, ⟨rfl, by first | rfl | exact strs2_below _ _⟩, trivial⟩ rfl rfl rfl rfl (two_below _ _ _ _ _ _ _) ?_
  simp only [q0, q1, q2, q3, q4, q5, q6, q7, q8, q9, zr0, zr1, zr2, zr3, zq0, zq1, zq2, zq3, zq4, Nat.reduceAdd, Nat.reduceSub, lenA, convA, indexA, flatP, nilI, ifaA, indexS, Int.reduceToNat, cond_true, cond_false, ↓reduceIte, reduceCtorEq, Nat.reduceLT, Nat.reduceLeDiff, Nat.reduceMul, Nat.reduceEqDiff, exists_eq', implies_true, exists_true_left, tys0, tys1, tys2, tys3, und0, und1, und2, und3, md34, Tryz.ntmps34, Tryz.results34, dskB, deskV, lwB, ren, renM, renL, putF, List.length_cons, List.length_nil, sl]
  refine br_yes (decide_eq_true (by omega)) ?_
  simp only [q0, q1, q2, q3, q4, q5, q6, q7, q8, q9, zr0, zr1, zr2, zr3, zq0, zq1, zq2, zq3, zq4, Nat.reduceAdd, Nat.reduceSub, lenA, convA, indexA, flatP, nilI, ifaA, indexS, Int.reduceToNat, cond_true, cond_false, ↓reduceIte, reduceCtorEq, Nat.reduceLT, Nat.reduceLeDiff, Nat.reduceMul, Nat.reduceEqDiff, exists_eq', implies_true, exists_true_left, tys0, tys1, tys2, tys3, und0, und1, und2, und3, md34, Tryz.ntmps34, Tryz.results34, dskB, deskV, lwB, sl]
  refine call_handed [3, 2] hq (by decide) ⟨⟨rfl, by first | rfl | exact dsk_below _ _ _ _ _⟩, ⟨rfl, by first | rfl | exact strs2_below _ _⟩, trivial⟩ rfl rfl rfl rfl (two_below _ _ _ _ _ _ _) ?_
  simp only [q0, q1, q2, q3, q4, q5, q6, q7, q8, q9, zr0, zr1, zr2, zr3, zq0, zq1, zq2, zq3, zq4, Nat.reduceAdd, Nat.reduceSub, lenA, convA, indexA, flatP, nilI, ifaA, indexS, Int.reduceToNat, cond_true, cond_false, ↓reduceIte, reduceCtorEq, Nat.reduceLT, Nat.reduceLeDiff, Nat.reduceMul, Nat.reduceEqDiff, exists_eq', implies_true, exists_true_left, tys0, tys1, tys2, tys3, und0, und1, und2, und3, md34, Tryz.ntmps34, Tryz.results34, dskB, deskV, lwB, ren, renM, renL, putF, List.length_cons, List.length_nil, sl]
  refine br_no (beq_false_of_ne (by omega)) ?_
  simp only [q0, q1, q2, q3, q4, q5, q6, q7, q8, q9, zr0, zr1, zr2, zr3, zq0, zq1, zq2, zq3, zq4, Nat.reduceAdd, Nat.reduceSub, lenA, convA, indexA, flatP, nilI, ifaA, indexS, Int.reduceToNat, cond_true, cond_false, ↓reduceIte, reduceCtorEq, Nat.reduceLT, Nat.reduceLeDiff, Nat.reduceMul, Nat.reduceEqDiff, exists_eq', implies_true, exists_true_left, tys0, tys1, tys2, tys3, und0, und1, und2, und3, md34, Tryz.ntmps34, Tryz.results34, dskB, deskV, lwB, sl]
  refine call_ret cl rfl rfl ?_
  simp only [q0, q1, q2, q3, q4, q5, q6, q7, q8, q9, zr0, zr1, zr2, zr3, zq0, zq1, zq2, zq3, zq4, Nat.reduceAdd, Nat.reduceSub, lenA, convA, indexA, flatP, nilI, ifaA, indexS, Int.reduceToNat, cond_true, cond_false, ↓reduceIte, reduceCtorEq, Nat.reduceLT, Nat.reduceLeDiff, Nat.reduceMul, Nat.reduceEqDiff, exists_eq', implies_true, exists_true_left, tys0, tys1, tys2, tys3, und0, und1, und2, und3, md34, Tryz.ntmps34, Tryz.results34, dskB, deskV, lwB, ren, renM, renL, putF, List.length_cons, List.length_nil, sl]
  exact PostR.pure ⟨rfl, rfl⟩ rfl
end
end Go.Proofs.YteenpfegadlkfaaGreatDoor
