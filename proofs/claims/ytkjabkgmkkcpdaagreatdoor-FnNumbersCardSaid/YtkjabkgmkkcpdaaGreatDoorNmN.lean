/- Numbers that are drawn. -/
import Derived.Test.YtkjabkgmkkcpdaaGreatDoorNmM
set_option maxRecDepth 10000
set_option maxHeartbeats 4000000
set_option linter.unusedSimpArgs false
set_option linter.unusedVariables false
namespace Go.Proofs.YtkjabkgmkkcpdaaGreatDoor
open Go Go.Abs
theorem ok_low {w : Nat} (h : canon .f32 w < 4294967296) : okW (canon .f32 w) := by
  refine ⟨h, fun e => ?_⟩
  rw [canon_isNaN] at e
  rw [canon_of_nan e]
  rfl
theorem ok_num (s : Bool) (m : Nat) (e : Int) : okW (canon .f32 (FloatKind.f32.format.write (.number s m e))) := ok_low (write_lt s m e)
theorem ok_inf (s : Bool) : okW (canon .f32 (FloatKind.f32.format.write (.infinity s))) := by
  refine ok_low (canon_lt (word_lt s (?_ : FloatKind.f32.format.infRung ≤ _)))
  decide +kernel
theorem ok_nan : okW (nanOf .f32) := ⟨by rw [nan32]; decide, fun _ => nan32⟩
theorem ok_fnum {o : Option Ieee.Datum} (h : ∀ s t, o ≠ some (.nan s t)) : okW (fnum .f32 (o.map FloatKind.f32.format.write)) := by
  cases o with
  | none => exact ok_nan
  | some d =>
    cases d with
    | number s m e => exact ok_num s m e
    | infinity s => exact ok_inf s
    | nan s t => exact absurd rfl (h s t)
theorem ok_div (x y : Nat) : okW (fdiv .f32 x y) := by
  refine ok_fnum fun s t => ?_
  cases FloatKind.f32.format.read x <;> cases FloatKind.f32.format.read y <;> simp only [Ieee.Datum.quotient] <;> (try split) <;> (try split) <;> simp
theorem ok_mul (x y : Nat) : okW (fmul .f32 x y) := by
  refine ok_fnum fun s t => ?_
  cases FloatKind.f32.format.read x <;> cases FloatKind.f32.format.read y <;> simp only [Ieee.Datum.product] <;> (try split) <;> simp
def intB (xs : List Int) : Blk := { ty := 2, w := 1, els := ints xs }
theorem among_call (code : List Int) (hc : byteL code) (hl : code.length ≤ 1048576) (a : Nat) (ha : a ≤ 1000000000) (sd : Int) (L : List Int) (h1 : 1 ≤ L.length) (h2 : L.length ≤ 100) :
    CallA Tryz.prog 79 [.ptr 0 0 0, .sl 1 0 L.length] [srcB code a sd, intB L] (fun r hp => ∃ (x : Int) (a' : Nat) (sd' : Int), x ∈ L ∧ a' ≤ a + 2 ∧ r = .int .i64 x ∧ hp = [srcB code a' sd', intB L]) := by
  refine CallP.out (t := .mk) (go_in (md := md79) mixed Tryz.func79 rfl go79 (by kernel_rfl) ?_)
  simp only [q0, q1, q2, q3, q4, q5, q6, q7, q8, q9, zr0, zr1, zr2, zr3, zq0, zq1, zq2, zq3, zq4, Nat.reduceAdd, Nat.reduceSub, lenA, convA, indexA, flatP, nilI, ifaA, indexS, Int.reduceToNat, cond_true, cond_false, ↓reduceIte, reduceCtorEq, Nat.reduceLT, Nat.reduceLeDiff, Nat.reduceMul, Nat.reduceEqDiff, exists_eq', implies_true, exists_true_left, tys0, tys1, und0, und1, md79, Tryz.ntmps79, Tryz.results79]
  refine pick_at hc hl ha (by omega) (by omega) fun x a' sd' hx ha' => ?_
  have hi : x.toNat < L.length := by omega
  have hi2 : x.toNat < (ints L).length := by rw [ints_len]; exact hi
  have hX : x < (L.length : Int) := hx.2
  simp only [q0, q1, q2, q3, q4, q5, q6, q7, q8, q9, zr0, zr1, zr2, zr3, zq0, zq1, zq2, zq3, zq4, Nat.reduceAdd, Nat.reduceSub, lenA, convA, indexA, flatP, nilI, ifaA, indexS, Int.reduceToNat, cond_true, cond_false, ↓reduceIte, reduceCtorEq, Nat.reduceLT, Nat.reduceLeDiff, Nat.reduceMul, Nat.reduceEqDiff, exists_eq', implies_true, exists_true_left, tys0, tys1, und0, und1, md79, Tryz.ntmps79, Tryz.results79, intB, hi, hi2, hX, hx.1]
  exact PostR.same ⟨_, a', sd', List.getElem_mem hi, ha', rfl, rfl⟩
theorem plain_call (code : List Int) (hc : byteL code) (hl : code.length ≤ 1048576) (a : Nat) (ha : a ≤ 100000000) (sd : Int) :
    CallA Tryz.prog 78 [.ptr 0 0 0] [srcB code a sd] (fun r hp => ∃ (x : Nat) (a' : Nat) (sd' : Int), okW x ∧ a' ≤ a + 4 ∧ r = .flt .f32 x ∧ hp = [srcB code a' sd']) := by
  refine CallP.out (t := .mk) (go_in (md := md78) mixed Tryz.func78 rfl go78 (by kernel_rfl) ?_)
  simp only [q0, q1, q2, q3, q4, q5, q6, q7, q8, q9, zr0, zr1, zr2, zr3, zq0, zq1, zq2, zq3, zq4, Nat.reduceAdd, Nat.reduceSub, lenA, convA, indexA, flatP, nilI, ifaA, indexS, Int.reduceToNat, cond_true, cond_false, ↓reduceIte, reduceCtorEq, Nat.reduceLT, Nat.reduceLeDiff, Nat.reduceMul, Nat.reduceEqDiff, exists_eq', implies_true, exists_true_left, tys0, tys1, und0, und1, md78, Tryz.ntmps78, Tryz.results78]
  refine pick_at hc hl (by omega) (by omega) (by omega) fun x a' sd' hx ha' => ?_
  simp only [q0, q1, q2, q3, q4, q5, q6, q7, q8, q9, zr0, zr1, zr2, zr3, zq0, zq1, zq2, zq3, zq4, Nat.reduceAdd, Nat.reduceSub, lenA, convA, indexA, flatP, nilI, ifaA, indexS, Int.reduceToNat, cond_true, cond_false, ↓reduceIte, reduceCtorEq, Nat.reduceLT, Nat.reduceLeDiff, Nat.reduceMul, Nat.reduceEqDiff, exists_eq', implies_true, exists_true_left, tys0, tys1, und0, und1, md78, Tryz.ntmps78, Tryz.results78]
  refine one_at hc hl (by omega) (by omega) (by omega) fun b a2 sd2 ha2 => ?_
  cases b
  · simp only [q0, q1, q2, q3, q4, q5, q6, q7, q8, q9, zr0, zr1, zr2, zr3, zq0, zq1, zq2, zq3, zq4, Nat.reduceAdd, Nat.reduceSub, lenA, convA, indexA, flatP, nilI, ifaA, indexS, Int.reduceToNat, cond_true, cond_false, ↓reduceIte, reduceCtorEq, Nat.reduceLT, Nat.reduceLeDiff, Nat.reduceMul, Nat.reduceEqDiff, exists_eq', implies_true, exists_true_left, tys0, tys1, und0, und1, md78, Tryz.ntmps78, Tryz.results78]
    exact PostR.tell [0] (hp2 := [srcB code a2 sd2]) (by decide) (by decide) (by decide) ⟨⟨rfl, rfl⟩, trivial⟩ rfl rfl ⟨_, a2, sd2, ok_div _ _, by omega, rfl, rfl⟩
  · simp only [q0, q1, q2, q3, q4, q5, q6, q7, q8, q9, zr0, zr1, zr2, zr3, zq0, zq1, zq2, zq3, zq4, Nat.reduceAdd, Nat.reduceSub, lenA, convA, indexA, flatP, nilI, ifaA, indexS, Int.reduceToNat, cond_true, cond_false, ↓reduceIte, reduceCtorEq, Nat.reduceLT, Nat.reduceLeDiff, Nat.reduceMul, Nat.reduceEqDiff, exists_eq', implies_true, exists_true_left, tys0, tys1, und0, und1, md78, Tryz.ntmps78, Tryz.results78]
    exact PostR.tell [0] (hp2 := [srcB code a2 sd2]) (by decide) (by decide) (by decide) ⟨⟨rfl, rfl⟩, trivial⟩ rfl rfl ⟨_, a2, sd2, ok_div _ _, by omega, rfl, rfl⟩
theorem plain_at {code : List Int} (hc : byteL code) (hl : code.length ≤ 1048576) {a : Nat} (ha : a ≤ 100000000) {sd : Int} {rest : List Blk} {Q : AV → List Blk → Prop} {t : Tok Q}
    (hQ : ∀ (x a' : Nat) (sd' : Int), okW x → a' ≤ a + 4 → Q (.flt .f32 x) (srcB code a' sd' :: rest)) : CallP Tryz.prog 78 [.ptr 0 0 0] (srcB code a sd :: rest) Q t := by
  refine call_handedQ [0] (plain_call code hc hl a ha sd) (by decide) ⟨⟨rfl, rfl⟩, trivial⟩ rfl rfl ?_
  rintro r hps' ⟨x, a', sd', hx, ha', rfl, rfl⟩
  refine ⟨by intro q hq; simp at hq; subst hq; rfl, ?_⟩
  have := hQ x a' sd' hx ha'
  simpa [putF, ren, renM, renL] using this
theorem among_at {code : List Int} (hc : byteL code) (hl : code.length ≤ 1048576) {a : Nat} (ha : a ≤ 1000000000) {sd : Int} {L : List Int} (h1 : 1 ≤ L.length) (h2 : L.length ≤ 100) {n : Nat} (hn : n = L.length) {bk : Blk} (hb : bk = intB L) {Q : AV → List Blk → Prop} {t : Tok Q}
    (hQ : ∀ (x : Int) (a' : Nat) (sd' : Int), x ∈ L → a' ≤ a + 2 → Q (.int .i64 x) [srcB code a' sd', intB L]) : CallP Tryz.prog 79 [.ptr 0 0 0, .sl 1 0 n] [srcB code a sd, bk] Q t := by
  subst hn
  subst hb
  refine call_handedQ [0, 1] (among_call code hc hl a ha sd L h1 h2) (by decide) ⟨⟨rfl, rfl⟩, ⟨rfl, by simp [intB, ints_below]⟩, trivial⟩ rfl rfl ?_
  rintro r hps' ⟨x, a', sd', hx, ha', rfl, rfl⟩
  refine ⟨by intro q hq; simp at hq; rcases hq with rfl | rfl <;> first | rfl | simp [intB, ints_below], ?_⟩
  have := hQ x a' sd' hx ha'
  simpa [putF, ren, renM, renL, intB, ints_ren] using this
theorem from_at {n : Int} (h0 : 0 ≤ n) (h1 : n < 4294967296) {hp : List Blk} {Q : AV → List Blk → Prop} {t : Tok Q} (hQ : ∀ x, okW x → Q (.flt .f32 x) hp) : CallP Tryz.prog 52 [.int .i64 n] hp Q t := by
  have e : IntKind.u32.wrap n = n := Int.emod_eq_of_lt h0 h1
  refine call_ret (r := .flt .f32 (canon .f32 n.toNat)) ?_ rfl rfl (hQ _ (ok_canon (by omega)))
  refine CallP.out (t := .mk) (go_in (md := md52) mixed Tryz.func52 rfl go52 (by kernel_rfl) ?_)
  simp only [q0, q1, q2, q3, q4, q5, q6, q7, q8, q9, zr0, zr1, zr2, zr3, zq0, zq1, zq2, zq3, zq4, Nat.reduceAdd, Nat.reduceSub, lenA, convA, indexA, flatP, nilI, ifaA, indexS, Int.reduceToNat, cond_true, cond_false, ↓reduceIte, reduceCtorEq, Nat.reduceLT, Nat.reduceLeDiff, Nat.reduceMul, Nat.reduceEqDiff, exists_eq', implies_true, exists_true_left, tys0, tys1, und0, und1, md52, Tryz.ntmps52, Tryz.results52, e]
  refine call_ret (frombits_int n) rfl rfl ?_
  simp only [q0, q1, q2, q3, q4, q5, q6, q7, q8, q9, zr0, zr1, zr2, zr3, zq0, zq1, zq2, zq3, zq4, Nat.reduceAdd, Nat.reduceSub, lenA, convA, indexA, flatP, nilI, ifaA, indexS, Int.reduceToNat, cond_true, cond_false, ↓reduceIte, reduceCtorEq, Nat.reduceLT, Nat.reduceLeDiff, Nat.reduceMul, Nat.reduceEqDiff, exists_eq', implies_true, exists_true_left, tys0, tys1, und0, und1, md52, Tryz.ntmps52, Tryz.results52]
  exact PostR.pure ⟨rfl, rfl⟩ rfl
def odds : List Int := 0 :: 2147483648 :: 2139095040 :: 4286578688 :: 2143289344 :: 1 :: 2139095039 :: 8388608 :: 8388607 :: 2147483649 :: []
def scals : List Int := 8388608 :: 2130706432 :: 1610612736 :: 536870912 :: []
theorem odds_in : ∀ x ∈ odds, 0 ≤ x ∧ x < 4294967296 := by decide
theorem scals_in : ∀ x ∈ scals, 0 ≤ x ∧ x < 4294967296 := by decide
theorem float_call (code : List Int) (hc : byteL code) (hl : code.length ≤ 1048576) (a : Nat) (ha : a ≤ 10000000) (sd : Int) :
    CallA Tryz.prog 53 [.ptr 0 0 0] [srcB code a sd] (fun r hp => ∃ (x : Nat) (a' : Nat) (sd' : Int), okW x ∧ a' ≤ a + 12 ∧ r = .flt .f32 x ∧ hp = [srcB code a' sd']) := by
  refine CallP.out (t := .mk) (go_in (md := md53) mixed Tryz.func53 rfl go53 (by kernel_rfl) ?_)
  simp only [q0, q1, q2, q3, q4, q5, q6, q7, q8, q9, zr0, zr1, zr2, zr3, zq0, zq1, zq2, zq3, zq4, Nat.reduceAdd, Nat.reduceSub, lenA, convA, indexA, flatP, nilI, ifaA, indexS, Int.reduceToNat, cond_true, cond_false, ↓reduceIte, reduceCtorEq, Nat.reduceLT, Nat.reduceLeDiff, Nat.reduceMul, Nat.reduceEqDiff, exists_eq', implies_true, exists_true_left, tys0, tys1, und0, und1, md53, Tryz.ntmps53, Tryz.results53]
  refine one_at hc hl (by omega) (by omega) (by omega) fun b a1 sd1 ha1 => ?_
  cases b
  · simp only [q0, q1, q2, q3, q4, q5, q6, q7, q8, q9, zr0, zr1, zr2, zr3, zq0, zq1, zq2, zq3, zq4, Nat.reduceAdd, Nat.reduceSub, lenA, convA, indexA, flatP, nilI, ifaA, indexS, Int.reduceToNat, cond_true, cond_false, ↓reduceIte, reduceCtorEq, Nat.reduceLT, Nat.reduceLeDiff, Nat.reduceMul, Nat.reduceEqDiff, exists_eq', implies_true, exists_true_left, tys0, tys1, und0, und1, md53, Tryz.ntmps53, Tryz.results53]
    refine plain_at hc hl (by omega) fun x a2 sd2 hx ha2 => ?_
    simp only [q0, q1, q2, q3, q4, q5, q6, q7, q8, q9, zr0, zr1, zr2, zr3, zq0, zq1, zq2, zq3, zq4, Nat.reduceAdd, Nat.reduceSub, lenA, convA, indexA, flatP, nilI, ifaA, indexS, Int.reduceToNat, cond_true, cond_false, ↓reduceIte, reduceCtorEq, Nat.reduceLT, Nat.reduceLeDiff, Nat.reduceMul, Nat.reduceEqDiff, exists_eq', implies_true, exists_true_left, tys0, tys1, und0, und1, md53, Tryz.ntmps53, Tryz.results53]
    exact PostR.tell [0] (hp2 := [srcB code a2 sd2]) (by decide) (by decide) (by decide) ⟨⟨rfl, rfl⟩, trivial⟩ rfl rfl ⟨_, a2, sd2, hx, by omega, rfl, rfl⟩
  simp only [q0, q1, q2, q3, q4, q5, q6, q7, q8, q9, zr0, zr1, zr2, zr3, zq0, zq1, zq2, zq3, zq4, Nat.reduceAdd, Nat.reduceSub, lenA, convA, indexA, flatP, nilI, ifaA, indexS, Int.reduceToNat, cond_true, cond_false, ↓reduceIte, reduceCtorEq, Nat.reduceLT, Nat.reduceLeDiff, Nat.reduceMul, Nat.reduceEqDiff, exists_eq', implies_true, exists_true_left, tys0, tys1, und0, und1, md53, Tryz.ntmps53, Tryz.results53]
  refine pick_at hc hl (by omega) (by omega) (by omega) fun k a2 sd2 hk ha2 => ?_
  simp only [q0, q1, q2, q3, q4, q5, q6, q7, q8, q9, zr0, zr1, zr2, zr3, zq0, zq1, zq2, zq3, zq4, Nat.reduceAdd, Nat.reduceSub, lenA, convA, indexA, flatP, nilI, ifaA, indexS, Int.reduceToNat, cond_true, cond_false, ↓reduceIte, reduceCtorEq, Nat.reduceLT, Nat.reduceLeDiff, Nat.reduceMul, Nat.reduceEqDiff, exists_eq', implies_true, exists_true_left, tys0, tys1, und0, und1, md53, Tryz.ntmps53, Tryz.results53]
  refine br_intro (fun k0 => ?_) (fun k0 => ?_) <;> simp only [q0, q1, q2, q3, q4, q5, q6, q7, q8, q9, zr0, zr1, zr2, zr3, zq0, zq1, zq2, zq3, zq4, Nat.reduceAdd, Nat.reduceSub, lenA, convA, indexA, flatP, nilI, ifaA, indexS, Int.reduceToNat, cond_true, cond_false, ↓reduceIte, reduceCtorEq, Nat.reduceLT, Nat.reduceLeDiff, Nat.reduceMul, Nat.reduceEqDiff, exists_eq', implies_true, exists_true_left, tys0, tys1, und0, und1, md53, Tryz.ntmps53, Tryz.results53]
  · refine among_at (L := odds) hc hl (by omega) (by decide) (by decide) rfl rfl fun x a3 sd3 hx ha3 => ?_
    have ho := odds_in x hx
    simp only [q0, q1, q2, q3, q4, q5, q6, q7, q8, q9, zr0, zr1, zr2, zr3, zq0, zq1, zq2, zq3, zq4, Nat.reduceAdd, Nat.reduceSub, lenA, convA, indexA, flatP, nilI, ifaA, indexS, Int.reduceToNat, cond_true, cond_false, ↓reduceIte, reduceCtorEq, Nat.reduceLT, Nat.reduceLeDiff, Nat.reduceMul, Nat.reduceEqDiff, exists_eq', implies_true, exists_true_left, tys0, tys1, und0, und1, md53, Tryz.ntmps53, Tryz.results53]
    refine from_at ho.1 ho.2 fun y hy => ?_
    simp only [q0, q1, q2, q3, q4, q5, q6, q7, q8, q9, zr0, zr1, zr2, zr3, zq0, zq1, zq2, zq3, zq4, Nat.reduceAdd, Nat.reduceSub, lenA, convA, indexA, flatP, nilI, ifaA, indexS, Int.reduceToNat, cond_true, cond_false, ↓reduceIte, reduceCtorEq, Nat.reduceLT, Nat.reduceLeDiff, Nat.reduceMul, Nat.reduceEqDiff, exists_eq', implies_true, exists_true_left, tys0, tys1, und0, und1, md53, Tryz.ntmps53, Tryz.results53]
    exact PostR.tell [0] (hp2 := [srcB code a3 sd3]) (by decide) (by decide) (by decide) ⟨⟨rfl, rfl⟩, trivial⟩ rfl rfl ⟨_, a3, sd3, hy, by omega, rfl, rfl⟩
  refine br_intro (fun k1 => ?_) (fun k1 => ?_) <;> simp only [q0, q1, q2, q3, q4, q5, q6, q7, q8, q9, zr0, zr1, zr2, zr3, zq0, zq1, zq2, zq3, zq4, Nat.reduceAdd, Nat.reduceSub, lenA, convA, indexA, flatP, nilI, ifaA, indexS, Int.reduceToNat, cond_true, cond_false, ↓reduceIte, reduceCtorEq, Nat.reduceLT, Nat.reduceLeDiff, Nat.reduceMul, Nat.reduceEqDiff, exists_eq', implies_true, exists_true_left, tys0, tys1, und0, und1, md53, Tryz.ntmps53, Tryz.results53]
  · refine pick_at hc hl (by omega) (by omega) (by omega) fun x a3 sd3 hx ha3 => ?_
    simp only [q0, q1, q2, q3, q4, q5, q6, q7, q8, q9, zr0, zr1, zr2, zr3, zq0, zq1, zq2, zq3, zq4, Nat.reduceAdd, Nat.reduceSub, lenA, convA, indexA, flatP, nilI, ifaA, indexS, Int.reduceToNat, cond_true, cond_false, ↓reduceIte, reduceCtorEq, Nat.reduceLT, Nat.reduceLeDiff, Nat.reduceMul, Nat.reduceEqDiff, exists_eq', implies_true, exists_true_left, tys0, tys1, und0, und1, md53, Tryz.ntmps53, Tryz.results53]
    refine pick_at hc hl (by omega) (by omega) (by omega) fun y a4 sd4 hy ha4 => ?_
    have w1 : IntKind.i64.wrap (x * 65536) = x * 65536 := w64 (by omega) (by omega)
    have w2 : IntKind.i64.wrap (x * 65536 + y) = x * 65536 + y := w64 (by omega) (by omega)
    simp only [q0, q1, q2, q3, q4, q5, q6, q7, q8, q9, zr0, zr1, zr2, zr3, zq0, zq1, zq2, zq3, zq4, Nat.reduceAdd, Nat.reduceSub, lenA, convA, indexA, flatP, nilI, ifaA, indexS, Int.reduceToNat, cond_true, cond_false, ↓reduceIte, reduceCtorEq, Nat.reduceLT, Nat.reduceLeDiff, Nat.reduceMul, Nat.reduceEqDiff, exists_eq', implies_true, exists_true_left, tys0, tys1, und0, und1, md53, Tryz.ntmps53, Tryz.results53, w1, w2]
    refine from_at (by omega) (by omega) fun z hz => ?_
    simp only [q0, q1, q2, q3, q4, q5, q6, q7, q8, q9, zr0, zr1, zr2, zr3, zq0, zq1, zq2, zq3, zq4, Nat.reduceAdd, Nat.reduceSub, lenA, convA, indexA, flatP, nilI, ifaA, indexS, Int.reduceToNat, cond_true, cond_false, ↓reduceIte, reduceCtorEq, Nat.reduceLT, Nat.reduceLeDiff, Nat.reduceMul, Nat.reduceEqDiff, exists_eq', implies_true, exists_true_left, tys0, tys1, und0, und1, md53, Tryz.ntmps53, Tryz.results53]
    exact PostR.tell [0] (hp2 := [srcB code a4 sd4]) (by decide) (by decide) (by decide) ⟨⟨rfl, rfl⟩, trivial⟩ rfl rfl ⟨_, a4, sd4, hz, by omega, rfl, rfl⟩
  refine br_intro (fun k2 => ?_) (fun k2 => ?_) <;> simp only [q0, q1, q2, q3, q4, q5, q6, q7, q8, q9, zr0, zr1, zr2, zr3, zq0, zq1, zq2, zq3, zq4, Nat.reduceAdd, Nat.reduceSub, lenA, convA, indexA, flatP, nilI, ifaA, indexS, Int.reduceToNat, cond_true, cond_false, ↓reduceIte, reduceCtorEq, Nat.reduceLT, Nat.reduceLeDiff, Nat.reduceMul, Nat.reduceEqDiff, exists_eq', implies_true, exists_true_left, tys0, tys1, und0, und1, md53, Tryz.ntmps53, Tryz.results53]
  · refine pick_at hc hl (by omega) (by omega) (by omega) fun x a3 sd3 hx ha3 => ?_
    have w1 : IntKind.i64.wrap (x * 65536) = x * 65536 := w64 (by omega) (by omega)
    simp only [q0, q1, q2, q3, q4, q5, q6, q7, q8, q9, zr0, zr1, zr2, zr3, zq0, zq1, zq2, zq3, zq4, Nat.reduceAdd, Nat.reduceSub, lenA, convA, indexA, flatP, nilI, ifaA, indexS, Int.reduceToNat, cond_true, cond_false, ↓reduceIte, reduceCtorEq, Nat.reduceLT, Nat.reduceLeDiff, Nat.reduceMul, Nat.reduceEqDiff, exists_eq', implies_true, exists_true_left, tys0, tys1, und0, und1, md53, Tryz.ntmps53, Tryz.results53, w1]
    refine from_at (by omega) (by omega) fun z hz => ?_
    simp only [q0, q1, q2, q3, q4, q5, q6, q7, q8, q9, zr0, zr1, zr2, zr3, zq0, zq1, zq2, zq3, zq4, Nat.reduceAdd, Nat.reduceSub, lenA, convA, indexA, flatP, nilI, ifaA, indexS, Int.reduceToNat, cond_true, cond_false, ↓reduceIte, reduceCtorEq, Nat.reduceLT, Nat.reduceLeDiff, Nat.reduceMul, Nat.reduceEqDiff, exists_eq', implies_true, exists_true_left, tys0, tys1, und0, und1, md53, Tryz.ntmps53, Tryz.results53]
    exact PostR.tell [0] (hp2 := [srcB code a3 sd3]) (by decide) (by decide) (by decide) ⟨⟨rfl, rfl⟩, trivial⟩ rfl rfl ⟨_, a3, sd3, hz, by omega, rfl, rfl⟩
  refine plain_at hc hl (by omega) fun x a3 sd3 hx ha3 => ?_
  simp only [q0, q1, q2, q3, q4, q5, q6, q7, q8, q9, zr0, zr1, zr2, zr3, zq0, zq1, zq2, zq3, zq4, Nat.reduceAdd, Nat.reduceSub, lenA, convA, indexA, flatP, nilI, ifaA, indexS, Int.reduceToNat, cond_true, cond_false, ↓reduceIte, reduceCtorEq, Nat.reduceLT, Nat.reduceLeDiff, Nat.reduceMul, Nat.reduceEqDiff, exists_eq', implies_true, exists_true_left, tys0, tys1, und0, und1, md53, Tryz.ntmps53, Tryz.results53]
  refine among_at (L := scals) hc hl (by omega) (by decide) (by decide) rfl rfl fun y a4 sd4 hy ha4 => ?_
  have ho := scals_in y hy
  simp only [q0, q1, q2, q3, q4, q5, q6, q7, q8, q9, zr0, zr1, zr2, zr3, zq0, zq1, zq2, zq3, zq4, Nat.reduceAdd, Nat.reduceSub, lenA, convA, indexA, flatP, nilI, ifaA, indexS, Int.reduceToNat, cond_true, cond_false, ↓reduceIte, reduceCtorEq, Nat.reduceLT, Nat.reduceLeDiff, Nat.reduceMul, Nat.reduceEqDiff, exists_eq', implies_true, exists_true_left, tys0, tys1, und0, und1, md53, Tryz.ntmps53, Tryz.results53]
  refine from_at ho.1 ho.2 fun z hz => ?_
  simp only [q0, q1, q2, q3, q4, q5, q6, q7, q8, q9, zr0, zr1, zr2, zr3, zq0, zq1, zq2, zq3, zq4, Nat.reduceAdd, Nat.reduceSub, lenA, convA, indexA, flatP, nilI, ifaA, indexS, Int.reduceToNat, cond_true, cond_false, ↓reduceIte, reduceCtorEq, Nat.reduceLT, Nat.reduceLeDiff, Nat.reduceMul, Nat.reduceEqDiff, exists_eq', implies_true, exists_true_left, tys0, tys1, und0, und1, md53, Tryz.ntmps53, Tryz.results53]
  exact PostR.tell [0] (hp2 := [srcB code a4 sd4]) (by decide) (by decide) (by decide) ⟨⟨rfl, rfl⟩, trivial⟩ rfl rfl ⟨_, a4, sd4, ok_mul _ _, by omega, rfl, rfl⟩
end Go.Proofs.YtkjabkgmkkcpdaaGreatDoor
