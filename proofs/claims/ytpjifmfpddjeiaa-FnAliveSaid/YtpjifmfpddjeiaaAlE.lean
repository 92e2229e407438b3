/- Lives: pays, tables that are drawn. -/
import Derived.Test.YtpjifmfpddjeiaaAlD
import Derived.Test.YtpjifmfpddjeiaaAlF
set_option maxRecDepth 10000
set_option maxHeartbeats 8000000
set_option linter.unusedSimpArgs false
set_option linter.unusedVariables false
namespace Go.Proofs.Ytpjifmfpddjeiaa
open Go Go.Abs

def quoF (fund v : Nat) : Nat := fdiv .f32 (iF (fund : Int)) v
structure Pay (fund v : Nat) (n : Nat) : Prop where
  lo : (n : Rat) ≤ fval .f32 (quoF fund v)
  up : fval .f32 (quoF fund v) < (n : Rat) + 1
  n_le : n ≤ 10000
  fin : finB .f32 (quoF fund v) = true
  rn : Rn .f32 ((fund : Rat) / fval .f32 v) (quoF fund v)
theorem pay_call {q : List Nat} (T : Tab q) {r : Nat} (Y : U01 r) (fund : Nat) (hf : fund ≤ 10000) (hv : 1 ≤ fval .f32 (valF q r 0)) : ∃ n, Pay fund (valF q r 0) n ∧ CallA Try.prog 15 [.int .i64 (fund : Int), .ro (flts q), .flt .f32 r] [] (Ret (.tup [.int .i64 (n : Int), .bool true]) []) := by
  have vf := (pr_ok (alv_shs T) T.six (fac_u Y) 0 q.length (Nat.le_refl _)).1
  have vf : finB .f32 (valF q r 0) = true := vf
  have fr := iF_rn (z := (fund : Int)) (by omega)
  have fv := iF_val (z := (fund : Int)) (by omega)
  have fv : fval .f32 (iF (fund : Int)) = (fund : Rat) := fv
  have f0 : (0 : Rat) ≤ (fund : Rat) := by exact_mod_cast Nat.zero_le fund
  have f9 : (fund : Rat) ≤ 10000 := cast_le hf
  have d0 : fval .f32 (valF q r 0) ≠ 0 := by clear T Y; grind
  have hm : (fund : Rat) / fval .f32 (valF q r 0) * fval .f32 (valF q r 0) = (fund : Rat) := Rat.div_mul_cancel d0
  have k0 : 0 ≤ (fund : Rat) / fval .f32 (valF q r 0) := by
    apply Classical.byContradiction
    intro hh
    have h6 := Rat.mul_lt_mul_of_pos_right (show (fund : Rat) / fval .f32 (valF q r 0) < 0 by clear T Y; grind) (show (0 : Rat) < fval .f32 (valF q r 0) by clear T Y; grind)
    clear T Y
    grind
  have k1 : (fund : Rat) / fval .f32 (valF q r 0) ≤ 10000 := by
    have h6 := Rat.mul_le_mul_of_nonneg_left hv k0
    clear T Y
    grind
  have rn : Rn .f32 ((fund : Rat) / fval .f32 (valF q r 0)) (quoF fund (valF q r 0)) := by
    have := rn_div fr.fin vf d0 (by rw [fv, ab_of k0]; exact lt_top32 (t := 14) (by rw [show (14 : Int) = ((14 : Nat) : Int) from rfl, p2_nat]; clear T Y; grind) (by decide))
    rw [fv] at this
    exact this
  have w0 := rn.lo 0 rep0 k0
  have w1 := rn.up 10000 (rep_int .f32 (z := 10000) (by decide)) k1
  obtain ⟨wr, we⟩ := wide_rn rn.fin
  obtain ⟨n, n1, n2, n3⟩ := floor_ok wr.fin (by rw [we]; exact w0) (by rw [we]; clear T Y; grind)
  rw [we] at n1 n2
  have nle : n ≤ 10000 := nat_le_of (by have e1 : ((10000 : Nat) : Rat) = 10000 := rfl; rw [e1]; clear T Y; grind)
  refine ⟨n, ⟨n1, n2, nle, rn.fin, rn⟩, ?_⟩
  have eq_ : fdiv .f32 (canon .f32 (FloatKind.nearest .f32 (fund : Int))) (valF q r 0) = quoF fund (valF q r 0) := rfl
  refine CallP.out (t := .mk) (go_in (md := md15) mixed Try.func15 rfl go15 (by kernel_rfl) ?_)
  simp only [q0, q1, q2, q3, q4, q5, q6, q7, q8, q9, zq0, zq1, zq2, zq3, zq4, guardSlot, quietA, nilC, nilA, quietB, St.ev, St.put, St.after, Nat.reduceAdd, Nat.reduceSub, ofV, ofL, lenA, binA, intBin, fltBin, strBin, cpxBin, unA, convA, convB, convO, pickV, resL, oneA, indexA, indexS, isQuiet, loadA, loadC, storeA, fieldA, partA, sliceA, boundA, buildA, placeA, setAll, appendA, readSl, newEl, AV.cells, AV.solid, AV.one, kill, killM, killL, notInt, Int.reduceToNat, cond_true, cond_false, ↓reduceIte, reduceCtorEq, Nat.reduceLT, Nat.reduceLeDiff, Nat.reduceMul, Nat.reduceEqDiff, exists_eq', putF, implies_true, exists_true_left, tys0, tys1, tys2, und0, und1, und2, md15, Try.ntmps15, Try.results15]
  refine call_ret (annuity_call T Y) rfl rfl ?_
  simp only [q0, q1, q2, q3, q4, q5, q6, q7, q8, q9, zq0, zq1, zq2, zq3, zq4, guardSlot, quietA, nilC, nilA, quietB, St.ev, St.put, St.after, Nat.reduceAdd, Nat.reduceSub, ofV, ofL, lenA, binA, intBin, fltBin, strBin, cpxBin, unA, convA, convB, convO, pickV, resL, oneA, indexA, indexS, isQuiet, loadA, loadC, storeA, fieldA, partA, sliceA, boundA, buildA, placeA, setAll, appendA, readSl, newEl, AV.cells, AV.solid, AV.one, kill, killM, killL, notInt, Int.reduceToNat, cond_true, cond_false, ↓reduceIte, reduceCtorEq, Nat.reduceLT, Nat.reduceLeDiff, Nat.reduceMul, Nat.reduceEqDiff, exists_eq', putF, implies_true, exists_true_left, tys0, tys1, tys2, und0, und1, und2, md15, Try.ntmps15, Try.results15]
  refine call_ret (within_call _ _ _) rfl rfl ?_
  rw [inR_yes (by omega) (by omega)]
  simp only [q0, q1, q2, q3, q4, q5, q6, q7, q8, q9, zq0, zq1, zq2, zq3, zq4, guardSlot, quietA, nilC, nilA, quietB, St.ev, St.put, St.after, Nat.reduceAdd, Nat.reduceSub, ofV, ofL, lenA, binA, intBin, fltBin, strBin, cpxBin, unA, convA, convB, convO, pickV, resL, oneA, indexA, indexS, isQuiet, loadA, loadC, storeA, fieldA, partA, sliceA, boundA, buildA, placeA, setAll, appendA, readSl, newEl, AV.cells, AV.solid, AV.one, kill, killM, killL, notInt, Int.reduceToNat, cond_true, cond_false, ↓reduceIte, reduceCtorEq, Nat.reduceLT, Nat.reduceLeDiff, Nat.reduceMul, Nat.reduceEqDiff, exists_eq', putF, implies_true, exists_true_left, tys0, tys1, tys2, und0, und1, und2, md15, Try.ntmps15, Try.results15, eq_]
  refine call_ret (floor_call _ wr.fin) rfl rfl ?_
  simp only [q0, q1, q2, q3, q4, q5, q6, q7, q8, q9, zq0, zq1, zq2, zq3, zq4, guardSlot, quietA, nilC, nilA, quietB, St.ev, St.put, St.after, Nat.reduceAdd, Nat.reduceSub, ofV, ofL, lenA, binA, intBin, fltBin, strBin, cpxBin, unA, convA, convB, convO, pickV, resL, oneA, indexA, indexS, isQuiet, loadA, loadC, storeA, fieldA, partA, sliceA, boundA, buildA, placeA, setAll, appendA, readSl, newEl, AV.cells, AV.solid, AV.one, kill, killM, killL, notInt, Int.reduceToNat, cond_true, cond_false, ↓reduceIte, reduceCtorEq, Nat.reduceLT, Nat.reduceLeDiff, Nat.reduceMul, Nat.reduceEqDiff, exists_eq', putF, implies_true, exists_true_left, tys0, tys1, tys2, und0, und1, und2, md15, Try.ntmps15, Try.results15, eq_]
  refine ⟨(n : Int), n3, by show -9223372036854775808 ≤ _; omega, by show _ ≤ 9223372036854775807; omega, ?_⟩
  refine call_ret (amount_call (n : Int)) rfl rfl ?_
  rw [inR_yes (by omega) (by omega)]
  simp only [q0, q1, q2, q3, q4, q5, q6, q7, q8, q9, zq0, zq1, zq2, zq3, zq4, guardSlot, quietA, nilC, nilA, quietB, St.ev, St.put, St.after, Nat.reduceAdd, Nat.reduceSub, ofV, ofL, lenA, binA, intBin, fltBin, strBin, cpxBin, unA, convA, convB, convO, pickV, resL, oneA, indexA, indexS, isQuiet, loadA, loadC, storeA, fieldA, partA, sliceA, boundA, buildA, placeA, setAll, appendA, readSl, newEl, AV.cells, AV.solid, AV.one, kill, killM, killL, notInt, Int.reduceToNat, cond_true, cond_false, ↓reduceIte, reduceCtorEq, Nat.reduceLT, Nat.reduceLeDiff, Nat.reduceMul, Nat.reduceEqDiff, exists_eq', putF, implies_true, exists_true_left, tys0, tys1, tys2, und0, und1, und2, md15, Try.ntmps15, Try.results15]
  exact PostR.pure ⟨rfl, rfl⟩ rfl
def six (x : Int) : Nat := fdiv .f32 (iF x) (iF 16)
theorem c16 : iF 16 = 1098907648 := by decide +kernel
theorem six_u {x : Int} (h : 0 ≤ x ∧ x < 9) : U01 (six x) := by
  have fx := iF_rn (z := x) (by omega)
  have vx := iF_val (z := x) (by omega)
  have f6 := iF_rn (z := 16) (by decide)
  have v6 := iF_val (z := 16) (by decide)
  have e16 : ((16 : Int) : Rat) = 16 := rfl
  rw [e16] at v6
  have x0 : (0 : Rat) ≤ (x : Rat) := int_cast_le h.1
  have x9 : (x : Rat) ≤ 9 := int_cast_le (show x ≤ 9 by omega)
  have hm : (x : Rat) / 16 * 16 = (x : Rat) := Rat.div_mul_cancel (by decide)
  have k0 : 0 ≤ (x : Rat) / 16 := by grind
  have k1 : (x : Rat) / 16 ≤ 1 := by grind
  have rn := rn_div fx.fin f6.fin (by rw [v6]; decide) (by rw [vx, v6, ab_of k0]; exact lt_top32 (t := 4) (by rw [show (4 : Int) = ((4 : Nat) : Int) from rfl, p2_nat]; grind) (by decide))
  rw [vx, v6] at rn
  exact ⟨rn.fin, rn.lo 0 rep0 k0, rn.up 1 rep1 k1⟩
structure DrT (n : Nat) (out : List Nat) (a : Nat) : Prop where
  len : out.length ≤ n
  ok : ∀ x ∈ out, U01 x
  at_ : a ≤ 2 + 2 * out.length
theorem DrT.next {n : Nat} {out : List Nat} {a a' : Nat} {x : Nat} (D : DrT n out a) (hl : out.length < n) (hx : U01 x) (ha : a' ≤ a + 2) : DrT n (out ++ [x]) a' :=
  ⟨by simp; omega, fun y hy => by
    rcases List.mem_append.1 hy with h | h
    · exact D.ok y h
    · rw [List.mem_singleton.1 h]; exact hx, by have := D.at_; simp; omega⟩
theorem tab_of {out : List Nat} (hl : out.length ≤ 5) (h : ∀ x ∈ out, U01 x) : Tab (out ++ [one32]) := by
  refine ⟨by simp, by simp; omega, fun i hi => ?_, ?_⟩
  · have : i < out.length + 1 := by simpa using hi
    rw [getD_at (out ++ [one32]) 0 i hi]
    have hm := List.getElem_mem hi
    rcases List.mem_append.1 hm with g | g
    · exact h _ g
    · rw [List.mem_singleton.1 g]; exact u_one
  · have e : (out ++ [one32]).length - 1 = out.length := by simp
    rw [e, List.getD_eq_getElem?_getD, List.getElem?_append_right (Nat.le_refl _), Nat.sub_self]
    rfl
theorem drawTable_call (code : List Int) (hc : byteL code) (hl : code.length ≤ 1048576) (a : Nat) (ha : a = 0) (sd : Int) :
    CallA Try.prog 17 [.ptr 0 0 0] [srcB code a sd] (fun r hp => ∃ (q : List Nat) (a' : Nat) (sd' : Int), Tab q ∧ r = .sl 1 0 q.length ∧ hp = [srcB code a' sd', fltB q]) := by
  subst ha
  refine CallP.out (t := .mk) (go_in (md := md17) mixed Try.func17 rfl go17 (by kernel_rfl) ?_)
  simp only [q0, q1, q2, q3, q4, q5, q6, q7, q8, q9, zq0, zq1, zq2, zq3, zq4, guardSlot, quietA, nilC, nilA, quietB, St.ev, St.put, St.after, Nat.reduceAdd, Nat.reduceSub, ofV, ofL, lenA, binA, intBin, fltBin, strBin, cpxBin, unA, convA, convB, convO, pickV, resL, oneA, indexA, indexS, isQuiet, loadA, loadC, storeA, fieldA, partA, sliceA, boundA, buildA, placeA, setAll, appendA, readSl, newEl, AV.cells, AV.solid, AV.one, kill, killM, killL, notInt, Int.reduceToNat, cond_true, cond_false, ↓reduceIte, reduceCtorEq, Nat.reduceLT, Nat.reduceLeDiff, Nat.reduceMul, Nat.reduceEqDiff, exists_eq', putF, implies_true, exists_true_left, tys0, tys1, tys2, und0, und1, und2, md17, Try.ntmps17, Try.results17]
  refine pick_at hc hl (by omega) (by omega) (by omega) (fun x a1 sd1 hx ha1 => ?_)
  simp only [q0, q1, q2, q3, q4, q5, q6, q7, q8, q9, zq0, zq1, zq2, zq3, zq4, guardSlot, quietA, nilC, nilA, quietB, St.ev, St.put, St.after, Nat.reduceAdd, Nat.reduceSub, ofV, ofL, lenA, binA, intBin, fltBin, strBin, cpxBin, unA, convA, convB, convO, pickV, resL, oneA, indexA, indexS, isQuiet, loadA, loadC, storeA, fieldA, partA, sliceA, boundA, buildA, placeA, setAll, appendA, readSl, newEl, AV.cells, AV.solid, AV.one, kill, killM, killL, notInt, Int.reduceToNat, cond_true, cond_false, ↓reduceIte, reduceCtorEq, Nat.reduceLT, Nat.reduceLeDiff, Nat.reduceMul, Nat.reduceEqDiff, exists_eq', putF, implies_true, exists_true_left, tys0, tys1, tys2, und0, und1, und2, md17, Try.ntmps17, Try.results17]
  obtain ⟨N, hN⟩ : ∃ N : Nat, x = (N : Int) := ⟨x.toNat, by omega⟩
  subst hN
  refine go_round (md := md17) mixed (by kernel_rfl) (fun d : {p : List Nat × Nat × Int // DrT N p.1 p.2.1} => ⟨[.ptr 0 0 0, .any, .any, .sl 1 0 d.1.1.length, .int .i64 ((N : Int) - d.1.1.length), .any, .any, .any, .any, .any, .any, .any, .any, .any, .any, .any, .any, .any, .any, .any, .any, .any, .any, .any], [srcB code d.1.2.1 d.1.2.2, fltB d.1.1]⟩) (fun d => N - d.1.1.length) ⟨([], a1, sd1), ⟨by simp, by simp, by simp; omega⟩⟩ ?_ ?_
  · have zf : flts [] = [] := rfl
    exact weak_drop (by simp) (by simp [DropHp, ints_below, flts_below, srcB_below, fltB, zf, allBelow_cons, allBelow_nil, below, belowM, belowL]) (by simp [DropTm, DropV, below, belowM, belowL, srcB_below, fltB, zf, allBelow_cons, allBelow_nil, below, belowM, belowL])
  rintro ⟨⟨out, a, sd⟩, D⟩
  have D1 := D.len
  have D2 := D.at_
  simp only [] at D1 D2
  simp only [q0, q1, q2, q3, q4, q5, q6, q7, q8, q9, zq0, zq1, zq2, zq3, zq4, guardSlot, quietA, nilC, nilA, quietB, St.ev, St.put, St.after, Nat.reduceAdd, Nat.reduceSub, ofV, ofL, lenA, binA, intBin, fltBin, strBin, cpxBin, unA, convA, convB, convO, pickV, resL, oneA, indexA, indexS, isQuiet, loadA, loadC, storeA, fieldA, partA, sliceA, boundA, buildA, placeA, setAll, appendA, readSl, newEl, AV.cells, AV.solid, AV.one, kill, killM, killL, notInt, Int.reduceToNat, cond_true, cond_false, ↓reduceIte, reduceCtorEq, Nat.reduceLT, Nat.reduceLeDiff, Nat.reduceMul, Nat.reduceEqDiff, exists_eq', putF, implies_true, exists_true_left, tys0, tys1, tys2, und0, und1, und2, md17, Try.ntmps17, Try.results17, fltB, flts_len]
  refine br_intro (fun g => ?_) (fun g => ?_) <;> simp only [q0, q1, q2, q3, q4, q5, q6, q7, q8, q9, zq0, zq1, zq2, zq3, zq4, guardSlot, quietA, nilC, nilA, quietB, St.ev, St.put, St.after, Nat.reduceAdd, Nat.reduceSub, ofV, ofL, lenA, binA, intBin, fltBin, strBin, cpxBin, unA, convA, convB, convO, pickV, resL, oneA, indexA, indexS, isQuiet, loadA, loadC, storeA, fieldA, partA, sliceA, boundA, buildA, placeA, setAll, appendA, readSl, newEl, AV.cells, AV.solid, AV.one, kill, killM, killL, notInt, Int.reduceToNat, cond_true, cond_false, ↓reduceIte, reduceCtorEq, Nat.reduceLT, Nat.reduceLeDiff, Nat.reduceMul, Nat.reduceEqDiff, exists_eq', putF, implies_true, exists_true_left, tys0, tys1, tys2, und0, und1, und2, md17, Try.ntmps17, Try.results17, fltB, flts_len]
  · have hR : out.length < N := by have := of_decide_eq_true g; omega
    refine pick_at hc hl (by omega) (by omega) (by omega) (fun y a2 sd2 hy ha2 => ?_)
    have e6 : canon .f32 1098907648 = iF 16 := by rw [c16]; decide +kernel
    have es : fdiv .f32 (canon .f32 (FloatKind.nearest .f32 y)) (iF 16) = six y := rfl
    simp only [q0, q1, q2, q3, q4, q5, q6, q7, q8, q9, zq0, zq1, zq2, zq3, zq4, guardSlot, quietA, nilC, nilA, quietB, St.ev, St.put, St.after, Nat.reduceAdd, Nat.reduceSub, ofV, ofL, lenA, binA, intBin, fltBin, strBin, cpxBin, unA, convA, convB, convO, pickV, resL, oneA, indexA, indexS, isQuiet, loadA, loadC, storeA, fieldA, partA, sliceA, boundA, buildA, placeA, setAll, appendA, readSl, newEl, AV.cells, AV.solid, AV.one, kill, killM, killL, notInt, Int.reduceToNat, cond_true, cond_false, ↓reduceIte, reduceCtorEq, Nat.reduceLT, Nat.reduceLeDiff, Nat.reduceMul, Nat.reduceEqDiff, exists_eq', putF, implies_true, exists_true_left, tys0, tys1, tys2, und0, und1, und2, md17, Try.ntmps17, Try.results17, fltB, flts_len, allW_int, fits, List.isEmpty_cons, brk_false, Nat.reduceMul, srcB_kill, e6, es]
    have ek : IntKind.i64.wrap ((N : Int) - out.length - 1) = (N : Int) - (out ++ [six y]).length := by rw [w64 (by omega) (by omega)]; simp; omega
    have el : out.length + 1 = (out ++ [six y]).length := by simp
    have DN := D.next hR (six_u hy) ha2
    refine ⟨allW_flt _ _, by omega, ⟨(out ++ [six y], a2, sd2), DN⟩, by show N - (out ++ [six y]).length < _; rw [← el]; omega, ?_⟩
    show Weak 1 _ ⟨_, _⟩
    rw [ek, el]
    dsimp only
    generalize out ++ [six y] = ys
    exact weak_drop (by simp) (by simp [DropHp, ints_below, flts_below, srcB_below, fltB, allBelow_cons, allBelow_nil, below, belowM, belowL]) (by simp [DropTm, DropV, below, belowM, belowL, srcB_below, fltB, allBelow_cons, allBelow_nil, below, belowM, belowL])
  · have hR : out.length = N := by have := of_decide_eq_false g; omega
    have hT := tab_of (out := out) (by omega) D.ok
    have el : out.length + 1 = (out ++ [one32]).length := by simp
    refine ⟨allW_flt _ _, by rw [fits]; omega, ?_⟩
    rw [f1]
    refine PostR.tell [0, 1] (hp2 := [srcB code a sd, fltB (out ++ [one32])]) (by decide) (by decide) (by decide) ⟨⟨rfl, rfl⟩, ⟨congrArg some (renB_flat (r := fltB (out ++ [one32])) (flts_below _ _)).symm, flts_below _ _⟩, trivial⟩ ?_ rfl ⟨out ++ [one32], a, sd, hT, rfl, rfl⟩
    rw [el]; rfl
theorem table0_call (code : List Int) (hc : byteL code) (hl : code.length ≤ 1048576) : CallA Try.prog 5 [.ro (kint .u8 code)] [] (fun r hp => ∃ q : List Nat, Tab q ∧ r = .sl 0 0 q.length ∧ hp = [fltB q]) := by
  refine CallP.out (t := .mk) (go_in (md := md5) mixed Try.func5 rfl go5 (by kernel_rfl) ?_)
  simp only [q0, q1, q2, q3, q4, q5, q6, q7, q8, q9, zq0, zq1, zq2, zq3, zq4, guardSlot, quietA, nilC, nilA, quietB, St.ev, St.put, St.after, Nat.reduceAdd, Nat.reduceSub, ofV, ofL, lenA, binA, intBin, fltBin, strBin, cpxBin, unA, convA, convB, convO, pickV, resL, oneA, indexA, indexS, isQuiet, loadA, loadC, storeA, fieldA, partA, sliceA, boundA, buildA, placeA, setAll, appendA, readSl, newEl, AV.cells, AV.solid, AV.one, kill, killM, killL, notInt, Int.reduceToNat, cond_true, cond_false, ↓reduceIte, reduceCtorEq, Nat.reduceLT, Nat.reduceLeDiff, Nat.reduceMul, Nat.reduceEqDiff, exists_eq', putF, implies_true, exists_true_left, tys0, tys1, tys2, und0, und1, und2, md5, Try.ntmps5, Try.results5]
  refine call_new (l00From_call code) rfl (by intro q hq; simp at hq; subst hq; rfl) ?_
  simp only [q0, q1, q2, q3, q4, q5, q6, q7, q8, q9, zq0, zq1, zq2, zq3, zq4, guardSlot, quietA, nilC, nilA, quietB, St.ev, St.put, St.after, Nat.reduceAdd, Nat.reduceSub, ofV, ofL, lenA, binA, intBin, fltBin, strBin, cpxBin, unA, convA, convB, convO, pickV, resL, oneA, indexA, indexS, isQuiet, loadA, loadC, storeA, fieldA, partA, sliceA, boundA, buildA, placeA, setAll, appendA, readSl, newEl, AV.cells, AV.solid, AV.one, kill, killM, killL, notInt, Int.reduceToNat, cond_true, cond_false, ↓reduceIte, reduceCtorEq, Nat.reduceLT, Nat.reduceLeDiff, Nat.reduceMul, Nat.reduceEqDiff, exists_eq', putF, implies_true, exists_true_left, tys0, tys1, tys2, und0, und1, und2, md5, Try.ntmps5, Try.results5, ren, renM, renL]
  refine call_handedQ [0] (drawTable_call code hc hl 0 rfl 0) (by decide) ⟨⟨rfl, rfl⟩, trivial⟩ rfl rfl ?_
  rintro r hps' ⟨q, a', sd', hT, rfl, rfl⟩
  refine ⟨?_, ?_⟩
  · intro y hy
    simp at hy
    rcases hy with rfl | rfl
    · rfl
    · exact flts_below q 0
  have u1 : upName [0] [srcB code 0 0].length 1 = 1 := rfl
  simp only [q0, q1, q2, q3, q4, q5, q6, q7, q8, q9, zq0, zq1, zq2, zq3, zq4, guardSlot, quietA, nilC, nilA, quietB, St.ev, St.put, St.after, Nat.reduceAdd, Nat.reduceSub, ofV, ofL, lenA, binA, intBin, fltBin, strBin, cpxBin, unA, convA, convB, convO, pickV, resL, oneA, indexA, indexS, isQuiet, loadA, loadC, storeA, fieldA, partA, sliceA, boundA, buildA, placeA, setAll, appendA, readSl, newEl, AV.cells, AV.solid, AV.one, kill, killM, killL, notInt, Int.reduceToNat, cond_true, cond_false, ↓reduceIte, reduceCtorEq, Nat.reduceLT, Nat.reduceLeDiff, Nat.reduceMul, Nat.reduceEqDiff, exists_eq', putF, implies_true, exists_true_left, tys0, tys1, tys2, und0, und1, und2, md5, Try.ntmps5, Try.results5, ren, renM, renL, putF, u1, upName]
  exact PostR.tell [1] (hp2 := [fltB q]) (by decide) (by decide) (by decide) (by simp [SubG, renB, flts_ren, flts_below, fltB]) rfl rfl ⟨q, hT, rfl, rfl⟩
theorem table_call (code : List Int) (hc : byteL code) (hl : code.length ≤ 1048576) : CallA Try.prog 5 [.ro (kint .u8 code)] [] (fun r hp => ∃ q : List Nat, Tab q ∧ r = .ro (flts q) ∧ hp = []) := by
  refine (CallA.freezeQ 2 (table0_call code hc hl)).mono ?_
  rintro r hp ⟨r0, new, ⟨q, hT, rfl, rfl⟩, rfl, rfl⟩
  exact ⟨q, hT, view_fltL rfl, rfl⟩
end Go.Proofs.Ytpjifmfpddjeiaa
