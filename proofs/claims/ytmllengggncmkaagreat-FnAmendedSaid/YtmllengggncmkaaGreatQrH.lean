/- The program's court: what it asks of the rules and of what is known. -/
import Derived.Test.YtmllengggncmkaaGreatQrG
set_option maxRecDepth 10000
set_option maxHeartbeats 8000000
set_option linter.unusedSimpArgs false
set_option linter.unusedVariables false
namespace Go.Proofs.YtmllengggncmkaaGreat
open Go Go.Abs

theorem indexFuncW_call (fid : FuncId) (caps : List AV) (q : Rul → Bool) (hc : caps.all (below 0) = true) (hc2 : caps.all (belowL 0) = true) (R : List Rul) (hq : ∀ x ∈ R, CallA Tryz.prog fid (rulA x :: caps) [] (Ret (.bool (q x)) [])) (hm : R.length ≤ 9223372036854775807) :
    CallA Tryz.prog 64 [.ro (R.map rulA), .fn fid caps] [] (Ret (.int .i64 (findI q R 0)) []) := by
  refine CallP.out (t := .mk) (go_in (md := md64) mixed Tryz.func64 rfl go64 (by kernel_rfl) ?_)
  simp only [q0, q1, q2, q3, q4, q5, q6, q7, q8, q9, zr0, zr1, zr2, zr3, zq0, zq1, zq2, zq3, zq4, Nat.reduceAdd, Nat.reduceSub, lenA, convA, indexA, indexS, Int.reduceToNat, cond_true, cond_false, ↓reduceIte, reduceCtorEq, Nat.reduceLT, Nat.reduceLeDiff, Nat.reduceMul, Nat.reduceEqDiff, exists_eq', implies_true, exists_true_left, tys0, tys1, tys2, tys3, tys4, und0, und1, und2, und3, md64, Tryz.ntmps64, Tryz.results64, List.length_map]
  have hb : below 0 (.fn fid caps) = true := hc2
  have hb2 : ∀ l, below 0 (.ro l) = true := fun _ => rfl
  have hb3 : ∀ k n, below 0 (.int k n) = true := fun _ _ => rfl
  have hb4 : below 0 .any = true := rfl
  refine go_round (md := md64) mixed (by kernel_rfl) (fun i : {i : Nat // i ≤ R.length ∧ findI q R 0 = findI q (R.drop i) i} => ⟨[.ro (R.map rulA), .fn fid caps, .any, .any, .any, .any, .any, .int .i64 R.length, .int .i64 i.1, .any, .any, .any, .any, .any, .any, .any, .any, .any, .any], []⟩) (fun i => R.length - i.1) ⟨0, by simp⟩ ?_ ?_
  · exact weak_drop (by simp) (by simp [DropHp]) (by simp [DropTm, DropV, hb, hb2, hb3, hb4])
  · intro ⟨i, hi, he⟩
    simp only [q0, q1, q2, q3, q4, q5, q6, q7, q8, q9, zr0, zr1, zr2, zr3, zq0, zq1, zq2, zq3, zq4, Nat.reduceAdd, Nat.reduceSub, lenA, convA, indexA, indexS, Int.reduceToNat, cond_true, cond_false, ↓reduceIte, reduceCtorEq, Nat.reduceLT, Nat.reduceLeDiff, Nat.reduceMul, Nat.reduceEqDiff, exists_eq', implies_true, exists_true_left, tys0, tys1, tys2, tys3, tys4, und0, und1, und2, und3, md64, Tryz.ntmps64, Tryz.results64, List.length_map, List.getElem_map]
    refine br_intro (fun h => ?_) (fun h => ?_) <;> simp only [q0, q1, q2, q3, q4, q5, q6, q7, q8, q9, zr0, zr1, zr2, zr3, zq0, zq1, zq2, zq3, zq4, Nat.reduceAdd, Nat.reduceSub, lenA, convA, indexA, indexS, Int.reduceToNat, cond_true, cond_false, ↓reduceIte, reduceCtorEq, Nat.reduceLT, Nat.reduceLeDiff, Nat.reduceMul, Nat.reduceEqDiff, exists_eq', implies_true, exists_true_left, tys0, tys1, tys2, tys3, tys4, und0, und1, und2, und3, md64, Tryz.ntmps64, Tryz.results64, List.length_map, List.getElem_map]
    · have hi' : i < R.length := by have := of_decide_eq_true h; omega
      have hI : (i : Int) < (R.length : Int) := by omega
      have hqi := hq R[i] (List.getElem_mem hi')
      rw [findI_step q R i hi'] at he
      unfold rulA at hqi
      simp only [q0, q1, q2, q3, q4, q5, q6, q7, q8, q9, zr0, zr1, zr2, zr3, zq0, zq1, zq2, zq3, zq4, Nat.reduceAdd, Nat.reduceSub, lenA, convA, indexA, indexS, Int.reduceToNat, cond_true, cond_false, ↓reduceIte, reduceCtorEq, Nat.reduceLT, Nat.reduceLeDiff, Nat.reduceMul, Nat.reduceEqDiff, exists_eq', implies_true, exists_true_left, tys0, tys1, tys2, tys3, tys4, und0, und1, und2, und3, md64, Tryz.ntmps64, Tryz.results64, List.length_map, List.getElem_map, rulA, hi', hI]
      refine call_ret hqi (by rw [List.all_cons, hc]; rfl) rfl ?_
      simp only [q0, q1, q2, q3, q4, q5, q6, q7, q8, q9, zr0, zr1, zr2, zr3, zq0, zq1, zq2, zq3, zq4, Nat.reduceAdd, Nat.reduceSub, lenA, convA, indexA, indexS, Int.reduceToNat, cond_true, cond_false, ↓reduceIte, reduceCtorEq, Nat.reduceLT, Nat.reduceLeDiff, Nat.reduceMul, Nat.reduceEqDiff, exists_eq', implies_true, exists_true_left, tys0, tys1, tys2, tys3, tys4, und0, und1, und2, und3, md64, Tryz.ntmps64, Tryz.results64]
      refine br_intro (fun h2 => ?_) (fun h2 => ?_) <;> simp only [q0, q1, q2, q3, q4, q5, q6, q7, q8, q9, zr0, zr1, zr2, zr3, zq0, zq1, zq2, zq3, zq4, Nat.reduceAdd, Nat.reduceSub, lenA, convA, indexA, indexS, Int.reduceToNat, cond_true, cond_false, ↓reduceIte, reduceCtorEq, Nat.reduceLT, Nat.reduceLeDiff, Nat.reduceMul, Nat.reduceEqDiff, exists_eq', implies_true, exists_true_left, tys0, tys1, tys2, tys3, tys4, und0, und1, und2, und3, md64, Tryz.ntmps64, Tryz.results64]
      · rw [h2] at he
        exact PostR.pure ⟨by rw [he]; rfl, rfl⟩ rfl
      · rw [h2] at he
        refine ⟨⟨i + 1, by omega, he⟩, by show R.length - (i + 1) < _; omega, ?_⟩
        exact weak_drop (by simp) (by simp [DropHp]) (by simp [DropTm, DropV, hb, hb2, hb3, hb4, w64_succ i (by omega)])
    · have hi' : i = R.length := by simp at h; omega
      subst hi'
      rw [List.drop_length] at he
      exact PostR.pure ⟨by rw [he]; rfl, rfl⟩ rfl
theorem containsFuncW_call (fid : FuncId) (caps : List AV) (q : Rul → Bool) (hc : caps.all (below 0) = true) (hc2 : caps.all (belowL 0) = true) (R : List Rul) (hq : ∀ x ∈ R, CallA Tryz.prog fid (rulA x :: caps) [] (Ret (.bool (q x)) [])) (hm : R.length ≤ 9223372036854775807) :
    CallA Tryz.prog 44 [.ro (R.map rulA), .fn fid caps] [] (Ret (.bool (R.any q)) []) := by
  refine CallP.out (t := .mk) (go_in (md := md44) mixed Tryz.func44 rfl go44 (by kernel_rfl) ?_)
  simp only [q0, q1, q2, q3, q4, q5, q6, q7, q8, q9, zr0, zr1, zr2, zr3, zq0, zq1, zq2, zq3, zq4, Nat.reduceAdd, Nat.reduceSub, lenA, convA, indexA, indexS, Int.reduceToNat, cond_true, cond_false, ↓reduceIte, reduceCtorEq, Nat.reduceLT, Nat.reduceLeDiff, Nat.reduceMul, Nat.reduceEqDiff, exists_eq', implies_true, exists_true_left, tys0, tys1, tys2, tys3, tys4, und0, und1, und2, und3, md44, Tryz.ntmps44, Tryz.results44]
  refine call_ret (indexFuncW_call fid caps q hc hc2 R hq hm) (by simpa [below, belowM, belowL] using hc2) rfl ?_
  simp only [q0, q1, q2, q3, q4, q5, q6, q7, q8, q9, zr0, zr1, zr2, zr3, zq0, zq1, zq2, zq3, zq4, Nat.reduceAdd, Nat.reduceSub, lenA, convA, indexA, indexS, Int.reduceToNat, cond_true, cond_false, ↓reduceIte, reduceCtorEq, Nat.reduceLT, Nat.reduceLeDiff, Nat.reduceMul, Nat.reduceEqDiff, exists_eq', implies_true, exists_true_left, tys0, tys1, tys2, tys3, tys4, und0, und1, und2, und3, md44, Tryz.ntmps44, Tryz.results44]
  exact PostR.pure ⟨by rw [← findI_any q R 0], rfl⟩ rfl
theorem isActive_call (r : Rul) (day : Int) : CallA Tryz.prog 52 [rulA r, .int .i64 day] [] (Ret (.bool (onB day r)) []) := by
  unfold rulA onB
  refine CallP.out (t := .mk) (go_in (md := md52) mixed Tryz.func52 rfl go52 (by kernel_rfl) ?_)
  simp only [q0, q1, q2, q3, q4, q5, q6, q7, q8, q9, zr0, zr1, zr2, zr3, zq0, zq1, zq2, zq3, zq4, Nat.reduceAdd, Nat.reduceSub, lenA, convA, indexA, indexS, Int.reduceToNat, cond_true, cond_false, ↓reduceIte, reduceCtorEq, Nat.reduceLT, Nat.reduceLeDiff, Nat.reduceMul, Nat.reduceEqDiff, exists_eq', implies_true, exists_true_left, tys0, tys1, tys2, tys3, tys4, und0, und1, und2, und3, md52, Tryz.ntmps52, Tryz.results52]
  refine br_intro (fun h => ?_) (fun h => ?_) <;> simp only [q0, q1, q2, q3, q4, q5, q6, q7, q8, q9, zr0, zr1, zr2, zr3, zq0, zq1, zq2, zq3, zq4, Nat.reduceAdd, Nat.reduceSub, lenA, convA, indexA, indexS, Int.reduceToNat, cond_true, cond_false, ↓reduceIte, reduceCtorEq, Nat.reduceLT, Nat.reduceLeDiff, Nat.reduceMul, Nat.reduceEqDiff, exists_eq', implies_true, exists_true_left, tys0, tys1, tys2, tys3, tys4, und0, und1, und2, und3, md52, Tryz.ntmps52, Tryz.results52]
  · rw [h, Bool.true_and]; exact PostR.pure ⟨rfl, rfl⟩ (by rfl)
  · rw [h, Bool.false_and]; exact PostR.pure ⟨rfl, rfl⟩ (by rfl)

theorem view_fn (d : Nat) (hp : List Blk) (f : FuncId) (l : List AV) : view (d + 1) hp (.fn f l) = .fn f (l.map (view d hp)) := rfl
theorem view_mv (d : Nat) (hp : List Blk) (f : FuncId) (l : List AV) : view (d + 1) hp (.mv f l) = .mv f (l.map (view d hp)) := rfl
theorem rop_view (d : Nat) (hp : List Blk) (l : List AV) : view d hp (.rop l) = .rop l := by cases d <;> rfl
def crtA (R : List Rul) (idx fs : List Int) (p q : List AV) : AV := .rop [.ro (R.map rulA), .ro (ints idx), .ro (ints fs), .rom p, .rom q]
section
variable {R : List Rul} {idx fs : List Int} {p q : List AV}
theorem isFact_call (hf : fs.length ≤ 1048576) (w : Int) : CallA Tryz.prog 69 [crtA R idx fs p q, .int .i64 w] [] (Ret (.bool (decide (w ∈ fs))) []) := by
  unfold crtA
  refine CallP.out (t := .mk) (go_in (md := md69) mixed Tryz.func69 rfl go69 (by kernel_rfl) ?_)
  simp only [q0, q1, q2, q3, q4, q5, q6, q7, q8, q9, zr0, zr1, zr2, zr3, zq0, zq1, zq2, zq3, zq4, Nat.reduceAdd, Nat.reduceSub, lenA, convA, indexA, indexS, Int.reduceToNat, cond_true, cond_false, ↓reduceIte, reduceCtorEq, Nat.reduceLT, Nat.reduceLeDiff, Nat.reduceMul, Nat.reduceEqDiff, exists_eq', implies_true, exists_true_left, tys0, tys1, tys2, tys3, tys4, und0, und1, und2, und3, md69, Tryz.ntmps69, Tryz.results69]
  refine call_ret (contains_call fs w hf) rfl rfl ?_
  simp only [q0, q1, q2, q3, q4, q5, q6, q7, q8, q9, zr0, zr1, zr2, zr3, zq0, zq1, zq2, zq3, zq4, Nat.reduceAdd, Nat.reduceSub, lenA, convA, indexA, indexS, Int.reduceToNat, cond_true, cond_false, ↓reduceIte, reduceCtorEq, Nat.reduceLT, Nat.reduceLeDiff, Nat.reduceMul, Nat.reduceEqDiff, exists_eq', implies_true, exists_true_left, tys0, tys1, tys2, tys3, tys4, und0, und1, und2, und3, md69, Tryz.ntmps69, Tryz.results69]
  exact PostR.ret
theorem holds1_call (w : Int) : CallA Tryz.prog 96 [.int .i64 w, .rop [crtA R idx fs p q]] [] (Ret (.bool (!lookE w p)) []) := by
  unfold crtA
  refine CallP.out (t := .mk) (go_in (md := md96) mixed Tryz.func96 rfl go96 (by kernel_rfl) ?_)
  simp only [q0, q1, q2, q3, q4, q5, q6, q7, q8, q9, zr0, zr1, zr2, zr3, zq0, zq1, zq2, zq3, zq4, Nat.reduceAdd, Nat.reduceSub, lenA, convA, indexA, indexS, Int.reduceToNat, cond_true, cond_false, ↓reduceIte, reduceCtorEq, Nat.reduceLT, Nat.reduceLeDiff, Nat.reduceMul, Nat.reduceEqDiff, exists_eq', implies_true, exists_true_left, tys0, tys1, tys2, tys3, tys4, und0, und1, und2, und3, md96, Tryz.ntmps96, Tryz.results96]
  exact PostR.ret
theorem fails1_call (w : Int) : CallA Tryz.prog 98 [.int .i64 w, .rop [crtA R idx fs p q]] [] (Ret (.bool (lookE w q)) []) := by
  unfold crtA
  refine CallP.out (t := .mk) (go_in (md := md98) mixed Tryz.func98 rfl go98 (by kernel_rfl) ?_)
  simp only [q0, q1, q2, q3, q4, q5, q6, q7, q8, q9, zr0, zr1, zr2, zr3, zq0, zq1, zq2, zq3, zq4, Nat.reduceAdd, Nat.reduceSub, lenA, convA, indexA, indexS, Int.reduceToNat, cond_true, cond_false, ↓reduceIte, reduceCtorEq, Nat.reduceLT, Nat.reduceLeDiff, Nat.reduceMul, Nat.reduceEqDiff, exists_eq', implies_true, exists_true_left, tys0, tys1, tys2, tys3, tys4, und0, und1, und2, und3, md98, Tryz.ntmps98, Tryz.results98]
  exact PostR.ret
def yP (p : List AV) (w : Int) : Bool := lookE w p
theorem any_notall (xs : List Int) (f : Int → Bool) : (!(xs.any fun w => !f w)) = xs.all f := by
  rw [Bool.eq_iff_iff, Bool.not_eq_true', List.any_eq_false, List.all_eq_true]
  constructor
  · intro h w hw; simpa using h w hw
  · intro h w hw; simpa using h w hw
theorem holds_call (r : Rul) (hr : Wds r.2.1) : CallA Tryz.prog 71 [crtA R idx fs p q, rulA r] [] (Ret (.bool (allG (yP p) r)) []) := by
  have h6 := hr.1
  refine CallP.out (t := .mk) (go_in (md := md71) mixed Tryz.func71 rfl go71 (by kernel_rfl) ?_)
  unfold rulA
  simp only [q0, q1, q2, q3, q4, q5, q6, q7, q8, q9, zr0, zr1, zr2, zr3, zq0, zq1, zq2, zq3, zq4, Nat.reduceAdd, Nat.reduceSub, lenA, convA, indexA, indexS, Int.reduceToNat, cond_true, cond_false, ↓reduceIte, reduceCtorEq, Nat.reduceLT, Nat.reduceLeDiff, Nat.reduceMul, Nat.reduceEqDiff, exists_eq', implies_true, exists_true_left, tys0, tys1, tys2, tys3, tys4, und0, und1, und2, und3, md71, Tryz.ntmps71, Tryz.results71, crtA]
  refine call_lent 3 (by rfl) (containsFuncI_call 96 [.rop [crtA R idx fs p q]] (fun w => !lookE w p) rfl rfl (fun w => holds1_call w) r.2.1 (by omega)) rfl rfl ?_
  simp only [q0, q1, q2, q3, q4, q5, q6, q7, q8, q9, zr0, zr1, zr2, zr3, zq0, zq1, zq2, zq3, zq4, Nat.reduceAdd, Nat.reduceSub, lenA, convA, indexA, indexS, Int.reduceToNat, cond_true, cond_false, ↓reduceIte, reduceCtorEq, Nat.reduceLT, Nat.reduceLeDiff, Nat.reduceMul, Nat.reduceEqDiff, exists_eq', implies_true, exists_true_left, tys0, tys1, tys2, tys3, tys4, und0, und1, und2, und3, md71, Tryz.ntmps71, Tryz.results71]
  rw [any_notall]
  exact PostR.pure ⟨rfl, rfl⟩ (by rfl)
theorem fails_call (r : Rul) (hr : Wds r.2.1) : CallA Tryz.prog 74 [crtA R idx fs p q, rulA r] [] (Ret (.bool (somG (yP q) r)) []) := by
  have h6 := hr.1
  refine CallP.out (t := .mk) (go_in (md := md74) mixed Tryz.func74 rfl go74 (by kernel_rfl) ?_)
  unfold rulA
  simp only [q0, q1, q2, q3, q4, q5, q6, q7, q8, q9, zr0, zr1, zr2, zr3, zq0, zq1, zq2, zq3, zq4, Nat.reduceAdd, Nat.reduceSub, lenA, convA, indexA, indexS, Int.reduceToNat, cond_true, cond_false, ↓reduceIte, reduceCtorEq, Nat.reduceLT, Nat.reduceLeDiff, Nat.reduceMul, Nat.reduceEqDiff, exists_eq', implies_true, exists_true_left, tys0, tys1, tys2, tys3, tys4, und0, und1, und2, und3, md74, Tryz.ntmps74, Tryz.results74, crtA]
  refine call_lent 3 (by rfl) (containsFuncI_call 98 [.rop [crtA R idx fs p q]] (fun w => lookE w q) rfl rfl (fun w => fails1_call w) r.2.1 (by omega)) rfl rfl ?_
  simp only [q0, q1, q2, q3, q4, q5, q6, q7, q8, q9, zr0, zr1, zr2, zr3, zq0, zq1, zq2, zq3, zq4, Nat.reduceAdd, Nat.reduceSub, lenA, convA, indexA, indexS, Int.reduceToNat, cond_true, cond_false, ↓reduceIte, reduceCtorEq, Nat.reduceLT, Nat.reduceLeDiff, Nat.reduceMul, Nat.reduceEqDiff, exists_eq', implies_true, exists_true_left, tys0, tys1, tys2, tys3, tys4, und0, und1, und2, und3, md74, Tryz.ntmps74, Tryz.results74]
  exact PostR.pure ⟨rfl, rfl⟩ (by rfl)

inductive PredK : AV → Prop
  | fn (f : FuncId) (l : List AV) : PredK (.fn f l)
  | mv (f : FuncId) (l : List AV) : PredK (.mv f l)
def callG (g : AV) (args : List AV) (Q : AV → List Blk → Prop) : Prop := match g with
  | .fn f l => CallA Tryz.prog f (args ++ l) [] Q
  | .mv f l => CallA Tryz.prog f (l ++ args) [] Q
  | _ => False
structure Pred (g : AV) (R : List Rul) (h : Rul → Bool) : Prop where
  kind : PredK g
  call : ∀ r ∈ R, callG g [rulA r] (Ret (.bool (h r)) [])
  view : ∀ d hp, view (d + 1) hp g = g
  caps : (match g with | .fn _ l => l | .mv _ l => l | _ => []).all (below 0) = true
theorem some1_call {g : AV} {h : Rul → Bool} (G : Pred g R h) (x : Int) (r : Rul) (hr : r ∈ R) : CallA Tryz.prog 94 [rulA r, .rop [.int .i64 x], .rop [g]] [] (Ret (.bool (r.1 == x && h r)) []) := by
  obtain ⟨kind, call, view, caps⟩ := G
  have c := call r hr
  refine CallP.out (t := .mk) (go_in (md := md94) mixed Tryz.func94 rfl go94 (by kernel_rfl) ?_)
  unfold rulA
  cases kind with
  | fn f l =>
    simp only [callG] at c
    simp only [q0, q1, q2, q3, q4, q5, q6, q7, q8, q9, zr0, zr1, zr2, zr3, zq0, zq1, zq2, zq3, zq4, Nat.reduceAdd, Nat.reduceSub, lenA, convA, indexA, indexS, Int.reduceToNat, cond_true, cond_false, ↓reduceIte, reduceCtorEq, Nat.reduceLT, Nat.reduceLeDiff, Nat.reduceMul, Nat.reduceEqDiff, exists_eq', implies_true, exists_true_left, tys0, tys1, tys2, tys3, tys4, und0, und1, und2, und3, md94, Tryz.ntmps94, Tryz.results94]
    refine br_intro (fun b => ?_) (fun b => ?_) <;> simp only [q0, q1, q2, q3, q4, q5, q6, q7, q8, q9, zr0, zr1, zr2, zr3, zq0, zq1, zq2, zq3, zq4, Nat.reduceAdd, Nat.reduceSub, lenA, convA, indexA, indexS, Int.reduceToNat, cond_true, cond_false, ↓reduceIte, reduceCtorEq, Nat.reduceLT, Nat.reduceLeDiff, Nat.reduceMul, Nat.reduceEqDiff, exists_eq', implies_true, exists_true_left, tys0, tys1, tys2, tys3, tys4, und0, und1, und2, und3, md94, Tryz.ntmps94, Tryz.results94]
    · refine call_ret c (by have c2 : l.all (below 0) = true := caps; simp only [List.cons_append, List.nil_append, List.all_cons]; rw [c2]; rfl) rfl ?_
      simp only [q0, q1, q2, q3, q4, q5, q6, q7, q8, q9, zr0, zr1, zr2, zr3, zq0, zq1, zq2, zq3, zq4, Nat.reduceAdd, Nat.reduceSub, lenA, convA, indexA, indexS, Int.reduceToNat, cond_true, cond_false, ↓reduceIte, reduceCtorEq, Nat.reduceLT, Nat.reduceLeDiff, Nat.reduceMul, Nat.reduceEqDiff, exists_eq', implies_true, exists_true_left, tys0, tys1, tys2, tys3, tys4, und0, und1, und2, und3, md94, Tryz.ntmps94, Tryz.results94]
      rw [b, Bool.true_and]
      exact PostR.pure ⟨rfl, rfl⟩ (by rfl)
    · rw [b, Bool.false_and]
      exact PostR.pure ⟨rfl, rfl⟩ (by rfl)
  | mv f l =>
    simp only [callG] at c
    simp only [q0, q1, q2, q3, q4, q5, q6, q7, q8, q9, zr0, zr1, zr2, zr3, zq0, zq1, zq2, zq3, zq4, Nat.reduceAdd, Nat.reduceSub, lenA, convA, indexA, indexS, Int.reduceToNat, cond_true, cond_false, ↓reduceIte, reduceCtorEq, Nat.reduceLT, Nat.reduceLeDiff, Nat.reduceMul, Nat.reduceEqDiff, exists_eq', implies_true, exists_true_left, tys0, tys1, tys2, tys3, tys4, und0, und1, und2, und3, md94, Tryz.ntmps94, Tryz.results94]
    refine br_intro (fun b => ?_) (fun b => ?_) <;> simp only [q0, q1, q2, q3, q4, q5, q6, q7, q8, q9, zr0, zr1, zr2, zr3, zq0, zq1, zq2, zq3, zq4, Nat.reduceAdd, Nat.reduceSub, lenA, convA, indexA, indexS, Int.reduceToNat, cond_true, cond_false, ↓reduceIte, reduceCtorEq, Nat.reduceLT, Nat.reduceLeDiff, Nat.reduceMul, Nat.reduceEqDiff, exists_eq', implies_true, exists_true_left, tys0, tys1, tys2, tys3, tys4, und0, und1, und2, und3, md94, Tryz.ntmps94, Tryz.results94]
    · refine call_ret c (by have c2 : l.all (below 0) = true := caps; rw [List.all_append, c2]; rfl) rfl ?_
      simp only [q0, q1, q2, q3, q4, q5, q6, q7, q8, q9, zr0, zr1, zr2, zr3, zq0, zq1, zq2, zq3, zq4, Nat.reduceAdd, Nat.reduceSub, lenA, convA, indexA, indexS, Int.reduceToNat, cond_true, cond_false, ↓reduceIte, reduceCtorEq, Nat.reduceLT, Nat.reduceLeDiff, Nat.reduceMul, Nat.reduceEqDiff, exists_eq', implies_true, exists_true_left, tys0, tys1, tys2, tys3, tys4, und0, und1, und2, und3, md94, Tryz.ntmps94, Tryz.results94]
      rw [b, Bool.true_and]
      exact PostR.pure ⟨rfl, rfl⟩ (by rfl)
    · rw [b, Bool.false_and]
      exact PostR.pure ⟨rfl, rfl⟩ (by rfl)
theorem some_call (hR : R.length ≤ 24) {g : AV} {h : Rul → Bool} (G : Pred g R h) (x : Int) : CallA Tryz.prog 70 [crtA R idx fs p q, .int .i64 x, g] [] (Ret (.bool (R.any fun r => r.1 == x && h r)) []) := by
  have k := G.kind
  have v := G.view
  have cc := containsFuncW_call 94 [.rop [.int .i64 x], .rop [g]] (fun r => r.1 == x && h r) rfl rfl R (fun r hr => some1_call G x r hr) (by omega)
  refine CallP.out (t := .mk) (go_in (md := md70) mixed Tryz.func70 rfl go70 (by kernel_rfl) ?_)
  unfold crtA
  cases k with
  | fn f l =>
    simp only [q0, q1, q2, q3, q4, q5, q6, q7, q8, q9, zr0, zr1, zr2, zr3, zq0, zq1, zq2, zq3, zq4, Nat.reduceAdd, Nat.reduceSub, lenA, convA, indexA, indexS, Int.reduceToNat, cond_true, cond_false, ↓reduceIte, reduceCtorEq, Nat.reduceLT, Nat.reduceLeDiff, Nat.reduceMul, Nat.reduceEqDiff, exists_eq', implies_true, exists_true_left, tys0, tys1, tys2, tys3, tys4, und0, und1, und2, und3, md70, Tryz.ntmps70, Tryz.results70]
    refine call_lent 4 (by simp [view_ptr, view_fn, view_ro, view_int, AV.cells, v]) cc rfl rfl ?_
    simp only [q0, q1, q2, q3, q4, q5, q6, q7, q8, q9, zr0, zr1, zr2, zr3, zq0, zq1, zq2, zq3, zq4, Nat.reduceAdd, Nat.reduceSub, lenA, convA, indexA, indexS, Int.reduceToNat, cond_true, cond_false, ↓reduceIte, reduceCtorEq, Nat.reduceLT, Nat.reduceLeDiff, Nat.reduceMul, Nat.reduceEqDiff, exists_eq', implies_true, exists_true_left, tys0, tys1, tys2, tys3, tys4, und0, und1, und2, und3, md70, Tryz.ntmps70, Tryz.results70]
    exact PostR.pure ⟨rfl, rfl⟩ (by rfl)
  | mv f l =>
    simp only [q0, q1, q2, q3, q4, q5, q6, q7, q8, q9, zr0, zr1, zr2, zr3, zq0, zq1, zq2, zq3, zq4, Nat.reduceAdd, Nat.reduceSub, lenA, convA, indexA, indexS, Int.reduceToNat, cond_true, cond_false, ↓reduceIte, reduceCtorEq, Nat.reduceLT, Nat.reduceLeDiff, Nat.reduceMul, Nat.reduceEqDiff, exists_eq', implies_true, exists_true_left, tys0, tys1, tys2, tys3, tys4, und0, und1, und2, und3, md70, Tryz.ntmps70, Tryz.results70]
    refine call_lent 4 (by simp [view_ptr, view_fn, view_ro, view_int, AV.cells, v]) cc rfl rfl ?_
    simp only [q0, q1, q2, q3, q4, q5, q6, q7, q8, q9, zr0, zr1, zr2, zr3, zq0, zq1, zq2, zq3, zq4, Nat.reduceAdd, Nat.reduceSub, lenA, convA, indexA, indexS, Int.reduceToNat, cond_true, cond_false, ↓reduceIte, reduceCtorEq, Nat.reduceLT, Nat.reduceLeDiff, Nat.reduceMul, Nat.reduceEqDiff, exists_eq', implies_true, exists_true_left, tys0, tys1, tys2, tys3, tys4, und0, und1, und2, und3, md70, Tryz.ntmps70, Tryz.results70]
    exact PostR.pure ⟨rfl, rfl⟩ (by rfl)
theorem every1_call {g : AV} {h : Rul → Bool} (G : Pred g R h) (r : Rul) (hr : r ∈ R) : CallA Tryz.prog 97 [rulA r, .rop [g]] [] (Ret (.bool (!h r)) []) := by
  obtain ⟨kind, call, view, caps⟩ := G
  have c := call r hr
  refine CallP.out (t := .mk) (go_in (md := md97) mixed Tryz.func97 rfl go97 (by kernel_rfl) ?_)
  unfold rulA
  cases kind with
  | fn f l =>
    simp only [callG] at c
    simp only [q0, q1, q2, q3, q4, q5, q6, q7, q8, q9, zr0, zr1, zr2, zr3, zq0, zq1, zq2, zq3, zq4, Nat.reduceAdd, Nat.reduceSub, lenA, convA, indexA, indexS, Int.reduceToNat, cond_true, cond_false, ↓reduceIte, reduceCtorEq, Nat.reduceLT, Nat.reduceLeDiff, Nat.reduceMul, Nat.reduceEqDiff, exists_eq', implies_true, exists_true_left, tys0, tys1, tys2, tys3, tys4, und0, und1, und2, und3, md97, Tryz.ntmps97, Tryz.results97]
    refine call_ret c (by have c2 : l.all (below 0) = true := caps; simp only [List.cons_append, List.nil_append, List.all_cons]; rw [c2]; rfl) rfl ?_
    simp only [q0, q1, q2, q3, q4, q5, q6, q7, q8, q9, zr0, zr1, zr2, zr3, zq0, zq1, zq2, zq3, zq4, Nat.reduceAdd, Nat.reduceSub, lenA, convA, indexA, indexS, Int.reduceToNat, cond_true, cond_false, ↓reduceIte, reduceCtorEq, Nat.reduceLT, Nat.reduceLeDiff, Nat.reduceMul, Nat.reduceEqDiff, exists_eq', implies_true, exists_true_left, tys0, tys1, tys2, tys3, tys4, und0, und1, und2, und3, md97, Tryz.ntmps97, Tryz.results97]
    exact PostR.pure ⟨rfl, rfl⟩ (by rfl)
  | mv f l =>
    simp only [callG] at c
    simp only [q0, q1, q2, q3, q4, q5, q6, q7, q8, q9, zr0, zr1, zr2, zr3, zq0, zq1, zq2, zq3, zq4, Nat.reduceAdd, Nat.reduceSub, lenA, convA, indexA, indexS, Int.reduceToNat, cond_true, cond_false, ↓reduceIte, reduceCtorEq, Nat.reduceLT, Nat.reduceLeDiff, Nat.reduceMul, Nat.reduceEqDiff, exists_eq', implies_true, exists_true_left, tys0, tys1, tys2, tys3, tys4, und0, und1, und2, und3, md97, Tryz.ntmps97, Tryz.results97]
    refine call_ret c (by have c2 : l.all (below 0) = true := caps; rw [List.all_append, c2]; rfl) rfl ?_
    simp only [q0, q1, q2, q3, q4, q5, q6, q7, q8, q9, zr0, zr1, zr2, zr3, zq0, zq1, zq2, zq3, zq4, Nat.reduceAdd, Nat.reduceSub, lenA, convA, indexA, indexS, Int.reduceToNat, cond_true, cond_false, ↓reduceIte, reduceCtorEq, Nat.reduceLT, Nat.reduceLeDiff, Nat.reduceMul, Nat.reduceEqDiff, exists_eq', implies_true, exists_true_left, tys0, tys1, tys2, tys3, tys4, und0, und1, und2, und3, md97, Tryz.ntmps97, Tryz.results97]
    exact PostR.pure ⟨rfl, rfl⟩ (by rfl)
theorem every_call (hR : R.length ≤ 24) {g : AV} {h : Rul → Bool} (G : Pred g R h) (x : Int) : CallA Tryz.prog 72 [crtA R idx fs p q, .int .i64 x, g] [] (Ret (.bool (!(R.any fun r => r.1 == x && !h r))) []) := by
  have k := G.kind
  have v := G.view
  have G2 : Pred (.fn 97 [.rop [g]]) R (fun r => !h r) := ⟨.fn _ _, fun r hr => every1_call G r hr, fun d hp => by simp [view_fn, rop_view], rfl⟩
  have cc := some_call (idx := idx) (fs := fs) (p := p) (q := q) hR G2 x
  refine CallP.out (t := .mk) (go_in (md := md72) mixed Tryz.func72 rfl go72 (by kernel_rfl) ?_)
  cases k with
  | fn f l =>
    simp only [q0, q1, q2, q3, q4, q5, q6, q7, q8, q9, zr0, zr1, zr2, zr3, zq0, zq1, zq2, zq3, zq4, Nat.reduceAdd, Nat.reduceSub, lenA, convA, indexA, indexS, Int.reduceToNat, cond_true, cond_false, ↓reduceIte, reduceCtorEq, Nat.reduceLT, Nat.reduceLeDiff, Nat.reduceMul, Nat.reduceEqDiff, exists_eq', implies_true, exists_true_left, tys0, tys1, tys2, tys3, tys4, und0, und1, und2, und3, md72, Tryz.ntmps72, Tryz.results72, crtA]
    refine call_lent 3 (by simp [view_ptr, view_fn, view_ro, view_int, AV.cells, v, crtA, rop_view]) cc rfl rfl ?_
    simp only [q0, q1, q2, q3, q4, q5, q6, q7, q8, q9, zr0, zr1, zr2, zr3, zq0, zq1, zq2, zq3, zq4, Nat.reduceAdd, Nat.reduceSub, lenA, convA, indexA, indexS, Int.reduceToNat, cond_true, cond_false, ↓reduceIte, reduceCtorEq, Nat.reduceLT, Nat.reduceLeDiff, Nat.reduceMul, Nat.reduceEqDiff, exists_eq', implies_true, exists_true_left, tys0, tys1, tys2, tys3, tys4, und0, und1, und2, und3, md72, Tryz.ntmps72, Tryz.results72, crtA]
    exact PostR.pure ⟨rfl, rfl⟩ (by rfl)
  | mv f l =>
    simp only [q0, q1, q2, q3, q4, q5, q6, q7, q8, q9, zr0, zr1, zr2, zr3, zq0, zq1, zq2, zq3, zq4, Nat.reduceAdd, Nat.reduceSub, lenA, convA, indexA, indexS, Int.reduceToNat, cond_true, cond_false, ↓reduceIte, reduceCtorEq, Nat.reduceLT, Nat.reduceLeDiff, Nat.reduceMul, Nat.reduceEqDiff, exists_eq', implies_true, exists_true_left, tys0, tys1, tys2, tys3, tys4, und0, und1, und2, und3, md72, Tryz.ntmps72, Tryz.results72, crtA]
    refine call_lent 3 (by simp [view_ptr, view_fn, view_ro, view_int, AV.cells, v, crtA, rop_view]) cc rfl rfl ?_
    simp only [q0, q1, q2, q3, q4, q5, q6, q7, q8, q9, zr0, zr1, zr2, zr3, zq0, zq1, zq2, zq3, zq4, Nat.reduceAdd, Nat.reduceSub, lenA, convA, indexA, indexS, Int.reduceToNat, cond_true, cond_false, ↓reduceIte, reduceCtorEq, Nat.reduceLT, Nat.reduceLeDiff, Nat.reduceMul, Nat.reduceEqDiff, exists_eq', implies_true, exists_true_left, tys0, tys1, tys2, tys3, tys4, und0, und1, und2, und3, md72, Tryz.ntmps72, Tryz.results72, crtA]
    exact PostR.pure ⟨rfl, rfl⟩ (by rfl)
end
end Go.Proofs.YtmllengggncmkaaGreat
