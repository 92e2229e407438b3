/- TzG9: texts joined. -/
import Derived.Test.YtodjjpmigcacoaaGreatDoorBase
import Derived.Test.YtodjjpmigcacoaaGreatDoorAbsM5
import Derived.Test.YtodjjpmigcacoaaGreatDoorTzG3
import Derived.Test.YtodjjpmigcacoaaGreatDoorTzG1
import Derived.Test.YtodjjpmigcacoaaGreatDoorTzG5
import Derived.Test.YtodjjpmigcacoaaGreatDoorTzG8
set_option maxRecDepth 10000
set_option maxHeartbeats 2000000
set_option linter.unusedSimpArgs false
set_option linter.unusedVariables false
namespace Go.Proofs.YtodjjpmigcacoaaGreatDoor
open Go Go.Abs
open Nat renaming reduceAdd → Za, reduceSub → Zb, reduceMul → Zc, reduceLT → Zd, reduceLeDiff → Ze, reduceEqDiff → Zf
open Int renaming reduceToNat → Zn
open Go.Abs renaming lenA → Zg, convA → Zh, indexA → Zi, flatP → Zj, nilI → Zk, ifaA → Zl, indexS → Zm
theorem split10_call (s : List UInt8) (hs : s.length ≤ 1048576) : CallA Tryz.prog 61 [.str s, .str [10]] [] (Ret (.sl 0 0 (cutA 10 [] s).length) [strB (cutA 10 [] s)]) := split_call 10 s hs
theorem linesOf_call (s : List UInt8) (hs : s.length ≤ 1048576) : CallA Tryz.prog 34 [.str s] [] (Ret (.tup [.sl 0 0 (Lib.countByte s 10), .bool ((cutA 10 [] s).getD (Lib.countByte s 10) [] == [] && decide (s.length ≤ 16000))]) [strB (cutA 10 [] s)]) := by
  have ln := cutA_len 10 s []
  refine CallP.out (t := .mk) (go_in (md := md34) mixed Tryz.func34 rfl go34 (by kernel_rfl) ?_)
  simp only [Zu, Za, Zb, Zg, Zh, Zi, Zk, Zl, Zm, sliceA, Zn, ↓reduceIte, reduceCtorEq, Zd, Ze, Zc, Zf, Z34]
  refine call_new (split10_call s hs) rfl (by simp [strB, strs_below]) ?_
  generalize cutA 10 [] s = L at ln
  have cl := count_len s 10
  generalize Lib.countByte s 10 = c at ln cl
  have w1 : IntKind.i64.wrap ((L.length : Int) - 1) = (c : Int) := by rw [w64 (by omega) (by omega)]; omega
  have hL : c < L.length := by omega
  have hI : (c : Int) < (L.length : Int) := by omega
  have hJ : (c : Int) ≤ (L.length : Int) := by omega
  have ga : L.getD c [] = L[c] := by simp [List.getD_eq_getElem?_getD, List.getElem?_eq_getElem hL]
  rw [ga]
  simp only [Zu, Za, Zb, Zg, Zh, Zi, Zk, Zl, Zm, sliceA, Zn, ↓reduceIte, reduceCtorEq, Zd, Ze, Zc, Zf, Z34, ren, renM, renL, strB, w1, hL, hI, hJ, strs_len, strs_get]
  refine ⟨Int.le_refl _, ?_⟩
  refine br_intro (fun u => ?_) (fun u => ?_) <;> simp only [Zu, Za, Zb, Zg, Zh, Zi, Zk, Zl, Zm, sliceA, Zn, ↓reduceIte, reduceCtorEq, Zd, Ze, Zc, Zf, Z34, strB, Nat.sub_zero]
  · rw [u]
    exact PostR.same ⟨by rw [show decide ((s.length : Int) ≤ 16000) = decide (s.length ≤ 16000) from decide_eq_decide.2 (by omega)]; rfl, rfl⟩
  · rw [u]
    exact PostR.same ⟨rfl, rfl⟩
def badB (l : List UInt8) : Bool := l == [110, 111] || l == [119, 104, 97, 116]
def deskV (a b c d : List Int) (f : List Nat) : AV := .agg [.ro (ints a), .ro (ints b), .ro (ints c), .ro (ints d), .ro (flts f)]
def ratesB (xs : List Int) : Bool := decide (1 ≤ xs.length ∧ xs.length ≤ 60) && xs.all (inR (-9999) 10000)
def tableB (q : List Nat) : Bool := q.all okS && (decide (1 ≤ q.length ∧ q.length ≤ 120) && feq .f32 (q.getD (q.length - 1) 0) 1065353216)
def validD (a b c d : List Int) (f : List Nat) : Bool := scaleB a b && amountsB c 60 && ratesB d && tableB f
def sameD (a b c d : List Int) (f : List Nat) (a' b' c' d' : List Int) (f' : List Nat) : Bool := (a == a' && b == b') && c == c' && d == d' && sameAll f f'
theorem equalFunc_call (xs ys : List Nat) (hm : xs.length ≤ 9223372036854775807) : CallA Tryz.prog 68 [.ro (flts xs), .ro (flts ys), .fn 69 []] [] (Ret (.bool (sameAll xs ys)) []) := by
  refine CallP.out (t := .mk) (go_in (md := md68) mixed Tryz.func68 rfl go68 (by kernel_rfl) ?_)
  simp only [Zu, Za, Zb, Zg, Zh, Zi, Zk, Zl, Zm, Zn, ↓reduceIte, reduceCtorEq, Zd, Ze, Zc, Zf, Z68]
  refine br_intro (fun h => ?_) (fun h => ?_) <;> simp only [Zu, Za, Zb, Zg, Zh, Zi, Zk, Zl, Zm, Zn, ↓reduceIte, reduceCtorEq, Zd, Ze, Zc, Zf, Z68]
  · have : ¬ xs.length = ys.length := by simp at h; omega
    exact PostR.pure ⟨by simp [sameAll, this], rfl⟩ rfl
  · have hl : xs.length = ys.length := by simp at h; omega
    refine go_round (md := md68) mixed (by kernel_rfl) (fun k : {k : Nat // k ≤ xs.length ∧ pref (fun j => bitsI (xs.getD j 0) == bitsI (ys.getD j 0)) k = true} => ⟨[.any, .ro (flts ys), .fn 69 [], .any, .any, .any, .any, .any, .any, .any, .any, .any, .any, .any, .any, .ro (flts xs), .int .i64 xs.length, .int .i64 k.1, .any, .any, .any, .any, .any, .any, .any, .any, .any, .any, .any, .any, .any, .any], []⟩) (fun k => xs.length - k.1) ⟨0, by simp [pref_zero]⟩ ?_ ?_
    · exact weak_drop (by simp) (by simp [DropHp, ints_below, flts_below]) (by simp [DropTm, DropV, below, belowM, belowL])
    · intro ⟨k, hk, he⟩
      simp only [Zu, Za, Zb, Zg, Zh, Zi, Zk, Zl, Zm, Zn, ↓reduceIte, reduceCtorEq, Zd, Ze, Zc, Zf, Z68]
      refine br_intro (fun h => ?_) (fun h => ?_) <;> simp only [Zu, Za, Zb, Zg, Zh, Zi, Zk, Zl, Zm, Zn, ↓reduceIte, reduceCtorEq, Zd, Ze, Zc, Zf, Z68]
      · have hk' : k < xs.length := by simpa using h
        refine ⟨hk', by omega, call_ret (sameNumber_call _ _) rfl rfl ?_⟩
        simp only [Zu, Za, Zb, Zg, Zh, Zi, Zk, Zl, Zm, Zn, ↓reduceIte, reduceCtorEq, Zd, Ze, Zc, Zf, Z68]
        refine br_intro (fun c => ?_) (fun c => ?_) <;> simp only [Zu, Za, Zb, Zg, Zh, Zi, Zk, Zl, Zm, Zn, ↓reduceIte, reduceCtorEq, Zd, Ze, Zc, Zf, Z68]
        · refine ⟨⟨k + 1, by omega, pref_go he (by rw [getD_at xs 0 k hk', getD_at ys 0 k (by omega)]; exact c)⟩, by show xs.length - (k + 1) < xs.length - k; omega, ?_⟩
          exact weak_drop (by simp) (by simp [DropHp, ints_below, flts_below, w64_succ k (by omega)]) (by simp [DropTm, DropV, below, belowM, belowL, w64_succ k (by omega)])
        · exact PostR.pure ⟨by rw [sameAll, pref_no k hk' (by rw [getD_at xs 0 k hk', getD_at ys 0 k (by omega)]; exact c), Bool.and_false], rfl⟩ rfl
      · have hk' : k = xs.length := by simp at h; omega
        rw [hk'] at he
        exact PostR.pure ⟨by rw [sameAll, he]; simp [hl], rfl⟩ rfl
theorem sameScale_call (a b a' b' : List Int) (ha : a.length ≤ 9223372036854775807) (hb : b.length ≤ 9223372036854775807) : CallA Tryz.prog 31 [.agg [.ro (ints a), .ro (ints b)], .agg [.ro (ints a'), .ro (ints b')]] [] (Ret (.bool (a == a' && b == b')) []) := by
  refine CallP.out (t := .mk) (go_in (md := md31) mixed Tryz.func31 rfl go31 (by kernel_rfl) ?_)
  simp only [Zu, Za, Zb, Zg, Zh, Zi, Zk, Zl, Zm, Zn, ↓reduceIte, reduceCtorEq, Zd, Ze, Zc, Zf, Z31]
  refine call_ret (slicesEqual_call a a' ha) rfl rfl ?_
  simp only [Zu, Za, Zb, Zg, Zh, Zi, Zk, Zl, Zm, Zn, ↓reduceIte, reduceCtorEq, Zd, Ze, Zc, Zf, Z31]
  refine br_intro (fun h => ?_) (fun h => ?_) <;> simp only [Zu, Za, Zb, Zg, Zh, Zi, Zk, Zl, Zm, Zn, ↓reduceIte, reduceCtorEq, Zd, Ze, Zc, Zf, Z31]
  · refine call_ret (slicesEqual_call b b' hb) rfl rfl ?_
    simp only [Zu, Za, Zb, Zg, Zh, Zi, Zk, Zl, Zm, Zn, ↓reduceIte, reduceCtorEq, Zd, Ze, Zc, Zf, Z31]
    exact PostR.pure ⟨by rw [h]; rfl, rfl⟩ rfl
  · exact PostR.pure ⟨by rw [h]; rfl, rfl⟩ rfl
theorem sameNumbers_call (xs ys : List Nat) (hm : xs.length ≤ 9223372036854775807) : CallA Tryz.prog 33 [.ro (flts xs), .ro (flts ys)] [] (Ret (.bool (sameAll xs ys)) []) := by
  refine CallP.out (t := .mk) (go_in (md := md33) mixed Tryz.func33 rfl go33 (by kernel_rfl) ?_)
  simp only [Zu, Za, Zb, Zg, Zh, Zi, Zk, Zl, Zm, Zn, ↓reduceIte, reduceCtorEq, Zd, Ze, Zc, Zf, Z33]
  refine call_ret (equalFunc_call xs ys hm) rfl rfl ?_
  simp only [Zu, Za, Zb, Zg, Zh, Zi, Zk, Zl, Zm, Zn, ↓reduceIte, reduceCtorEq, Zd, Ze, Zc, Zf, Z33]
  exact PostR.ret
theorem implSame_call (a b c d : List Int) (f : List Nat) (a' b' c' d' : List Int) (f' : List Nat) (ha : a.length ≤ 1048576) (hb : b.length ≤ 1048576) (hc : c.length ≤ 1048576) (hd : d.length ≤ 1048576) (hf : f.length ≤ 1048576) :
    CallA Tryz.prog 10 [deskV a b c d f, deskV a' b' c' d' f'] [] (Ret (.bool (sameD a b c d f a' b' c' d' f')) []) := by
  unfold deskV
  refine CallP.out (t := .mk) (go_in (md := md10) mixed Tryz.func10 rfl go10 (by kernel_rfl) ?_)
  simp only [Zu, Za, Zb, Zg, Zh, Zi, Zk, Zl, Zm, Zn, ↓reduceIte, reduceCtorEq, Zd, Ze, Zc, Zf, Z10]
  refine call_ret (sameScale_call a b a' b' (by omega) (by omega)) rfl rfl ?_
  simp only [Zu, Za, Zb, Zg, Zh, Zi, Zk, Zl, Zm, Zn, ↓reduceIte, reduceCtorEq, Zd, Ze, Zc, Zf, Z10]
  refine br_intro (fun h1 => ?_) (fun h1 => ?_) <;> simp only [Zu, Za, Zb, Zg, Zh, Zi, Zk, Zl, Zm, Zn, ↓reduceIte, reduceCtorEq, Zd, Ze, Zc, Zf, Z10]
  rotate_left
  · exact PostR.pure ⟨by simp only [sameD, h1, Bool.false_and], rfl⟩ rfl
  refine call_ret (slicesEqual_call c c' (by omega)) rfl rfl ?_
  simp only [Zu, Za, Zb, Zg, Zh, Zi, Zk, Zl, Zm, Zn, ↓reduceIte, reduceCtorEq, Zd, Ze, Zc, Zf, Z10]
  refine br_intro (fun h2 => ?_) (fun h2 => ?_) <;> simp only [Zu, Za, Zb, Zg, Zh, Zi, Zk, Zl, Zm, Zn, ↓reduceIte, reduceCtorEq, Zd, Ze, Zc, Zf, Z10]
  rotate_left
  · exact PostR.pure ⟨by simp only [sameD, h2, Bool.and_false, Bool.false_and], rfl⟩ rfl
  refine call_ret (slicesEqual_call d d' (by omega)) rfl rfl ?_
  simp only [Zu, Za, Zb, Zg, Zh, Zi, Zk, Zl, Zm, Zn, ↓reduceIte, reduceCtorEq, Zd, Ze, Zc, Zf, Z10]
  refine br_intro (fun h3 => ?_) (fun h3 => ?_) <;> simp only [Zu, Za, Zb, Zg, Zh, Zi, Zk, Zl, Zm, Zn, ↓reduceIte, reduceCtorEq, Zd, Ze, Zc, Zf, Z10]
  rotate_left
  · exact PostR.pure ⟨by simp only [sameD, h3, Bool.and_false, Bool.false_and], rfl⟩ rfl
  refine call_ret (sameNumbers_call f f' (by omega)) rfl rfl ?_
  simp only [Zu, Za, Zb, Zg, Zh, Zi, Zk, Zl, Zm, Zn, ↓reduceIte, reduceCtorEq, Zd, Ze, Zc, Zf, Z10]
  exact PostR.pure ⟨by simp only [sameD, h1, h2, h3, Bool.true_and], rfl⟩ rfl
set_option maxHeartbeats 1000000
theorem areYears_call (xs : List Int) (hm : xs.length ≤ 1048576) : CallA Tryz.prog 28 [.ro (ints xs)] [] (Ret (.bool (amountsB xs 60)) []) := by
  refine CallP.out (t := .mk) (go_in (md := md28) mixed Tryz.func28 rfl go28 (by kernel_rfl) ?_)
  simp only [Zu, Za, Zb, Zg, Zh, Zi, Zk, Zl, Zm, Zn, ↓reduceIte, reduceCtorEq, Zd, Ze, Zc, Zf, Z28]
  refine call_ret (hasCount_call xs 1 60 0 1000000000000 hm) rfl rfl ?_
  simp only [Zu, Za, Zb, Zg, Zh, Zi, Zk, Zl, Zm, Zn, ↓reduceIte, reduceCtorEq, Zd, Ze, Zc, Zf, Z28]
  exact PostR.pure ⟨by rw [amountsB]; exact congrArg AV.bool (hasC_eq xs 60 0 1000000000000), rfl⟩ rfl
theorem areReturns_call (xs : List Int) (hm : xs.length ≤ 1048576) : CallA Tryz.prog 29 [.ro (ints xs)] [] (Ret (.bool (ratesB xs)) []) := by
  refine CallP.out (t := .mk) (go_in (md := md29) mixed Tryz.func29 rfl go29 (by kernel_rfl) ?_)
  simp only [Zu, Za, Zb, Zg, Zh, Zi, Zk, Zl, Zm, Zn, ↓reduceIte, reduceCtorEq, Zd, Ze, Zc, Zf, Z29]
  refine call_ret (hasCount_call xs 1 60 (-9999) 10000 hm) rfl rfl ?_
  simp only [Zu, Za, Zb, Zg, Zh, Zi, Zk, Zl, Zm, Zn, ↓reduceIte, reduceCtorEq, Zd, Ze, Zc, Zf, Z29]
  exact PostR.pure ⟨by rw [ratesB]; exact congrArg AV.bool (hasC_eq xs 60 (-9999) 10000), rfl⟩ rfl
theorem isLifeTable_call (q : List Nat) (hm : q.length ≤ 1048576) : CallA Tryz.prog 30 [.ro (flts q)] [] (Ret (.bool (tableB q)) []) := by
  have no : ∀ {b : Bool}, tableB q = b → Ret (.bool (tableB q)) [] (.bool b) [] := fun h => ⟨by rw [h], rfl⟩
  refine CallP.out (t := .mk) (go_in (md := md30) mixed Tryz.func30 rfl go30 (by kernel_rfl) ?_)
  simp only [Zu, Za, Zb, Zg, Zh, Zi, Zk, Zl, Zm, Zn, ↓reduceIte, reduceCtorEq, Zd, Ze, Zc, Zf, Z30]
  refine go_round (md := md30) mixed (by kernel_rfl) (fun i : {i : Nat // i ≤ q.length ∧ (q.take i).all okS = true} => ⟨[.ro (flts q), .any, .any, .any, .any, .ro (flts q), .int .i64 q.length, .int .i64 i.1, .any, .any, .any, .any, .any, .any, .any, .any, .any, .any, .any, .any, .any, .any, .any, .any, .any, .any, .any, .any, .any, .any, .any, .any, .any, .any, .any, .any], []⟩) (fun i => q.length - i.1) ⟨0, by simp⟩ ?_ ?_
  · exact weak_drop (by simp) (by simp [DropHp, ints_below, flts_below]) (by simp [DropTm, DropV, below, belowM, belowL])
  · intro ⟨i, hi, ha⟩
    simp only [Zu, Za, Zb, Zg, Zh, Zi, Zk, Zl, Zm, Zn, ↓reduceIte, reduceCtorEq, Zd, Ze, Zc, Zf, Z30, canon_one, canon_zero]
    refine br_intro (fun h => ?_) (fun h => ?_) <;> simp only [Zu, Za, Zb, Zg, Zh, Zi, Zk, Zl, Zm, Zn, ↓reduceIte, reduceCtorEq, Zd, Ze, Zc, Zf, Z30, canon_one, canon_zero]
    · have hi' : i < q.length := by simpa using h
      refine ⟨hi', ?_⟩
      refine br_intro (fun c => ?_) (fun c => ?_) <;> simp only [Zu, Za, Zb, Zg, Zh, Zi, Zk, Zl, Zm, Zn, ↓reduceIte, reduceCtorEq, Zd, Ze, Zc, Zf, Z30, canon_one, canon_zero]
      · refine br_intro (fun d => ?_) (fun d => ?_) <;> simp only [Zu, Za, Zb, Zg, Zh, Zi, Zk, Zl, Zm, Zn, ↓reduceIte, reduceCtorEq, Zd, Ze, Zc, Zf, Z30, canon_one, canon_zero]
        · refine ⟨⟨i + 1, by omega, all_take i hi' (by simp only [okS, c, d, Bool.and_self]) ha⟩, by show q.length - (i + 1) < _; omega, ?_⟩
          exact weak_drop (by simp) (by simp [DropHp, ints_below, flts_below, w64_succ i (by omega)]) (by simp [DropTm, DropV, below, belowM, belowL, w64_succ i (by omega)])
        · exact PostR.pure (no (by rw [tableB, all_no (p := okS) i hi' (by simp only [okS, d, Bool.and_false]), Bool.false_and])) rfl
      · exact PostR.pure (no (by rw [tableB, all_no (p := okS) i hi' (by simp only [okS, c, Bool.false_and]), Bool.false_and])) rfl
    · have hi' : i = q.length := by simp at h; omega
      subst hi'
      rw [List.take_length] at ha
      refine br_intro (fun z => ?_) (fun z => ?_) <;> simp only [Zu, Za, Zb, Zg, Zh, Zi, Zk, Zl, Zm, Zn, ↓reduceIte, reduceCtorEq, Zd, Ze, Zc, Zf, Z30, canon_one]
      · refine br_intro (fun y => ?_) (fun y => ?_) <;> simp only [Zu, Za, Zb, Zg, Zh, Zi, Zk, Zl, Zm, Zn, ↓reduceIte, reduceCtorEq, Zd, Ze, Zc, Zf, Z30, canon_one]
        · simp at z y
          have ew : IntKind.i64.wrap ((q.length : Int) - 1) = ((q.length - 1 : Nat) : Int) := by rw [w64 (by omega) (by omega)]; omega
          rw [ew, Int.toNat_natCast]
          refine ⟨by omega, by omega, ?_⟩
          have e : decide (1 ≤ q.length ∧ q.length ≤ 120) = true := by simp only [decide_eq_true_eq]; omega
          exact PostR.pure (no (by rw [tableB, ha, e, Bool.true_and, Bool.true_and, getD_at q 0 (q.length - 1) (by omega)])) rfl
        · exact PostR.pure (no (by simp at y; rw [tableB, Bool.eq_iff_iff]; simp; omega)) rfl
      · have z' := of_decide_eq_false z
        have e : decide (1 ≤ q.length ∧ q.length ≤ 120) = false := decide_eq_false (by omega)
        exact PostR.pure (no (by rw [tableB, e, Bool.false_and, Bool.and_false])) rfl
theorem implValid_call (a b c d : List Int) (f : List Nat) (ha : a.length ≤ 1048576) (hb : b.length ≤ 1048576) (hc : c.length ≤ 1048576) (hd : d.length ≤ 1048576) (hf : f.length ≤ 1048576) :
    CallA Tryz.prog 9 [deskV a b c d f] [] (Ret (.bool (validD a b c d f)) []) := by
  unfold deskV
  refine CallP.out (t := .mk) (go_in (md := md9) mixed Tryz.func9 rfl go9 (by kernel_rfl) ?_)
  simp only [Zu, Za, Zb, Zg, Zh, Zi, Zk, Zl, Zm, Zn, ↓reduceIte, reduceCtorEq, Zd, Ze, Zc, Zf, Z9]
  refine call_ret (validScale_call a b ha hb) rfl rfl ?_
  simp only [Zu, Za, Zb, Zg, Zh, Zi, Zk, Zl, Zm, Zn, ↓reduceIte, reduceCtorEq, Zd, Ze, Zc, Zf, Z9]
  refine br_intro (fun h1 => ?_) (fun h1 => ?_) <;> simp only [Zu, Za, Zb, Zg, Zh, Zi, Zk, Zl, Zm, Zn, ↓reduceIte, reduceCtorEq, Zd, Ze, Zc, Zf, Z9]
  rotate_left
  · exact PostR.pure ⟨by simp only [validD, h1, Bool.false_and], rfl⟩ rfl
  refine call_ret (areYears_call c hc) rfl rfl ?_
  simp only [Zu, Za, Zb, Zg, Zh, Zi, Zk, Zl, Zm, Zn, ↓reduceIte, reduceCtorEq, Zd, Ze, Zc, Zf, Z9]
  refine br_intro (fun h2 => ?_) (fun h2 => ?_) <;> simp only [Zu, Za, Zb, Zg, Zh, Zi, Zk, Zl, Zm, Zn, ↓reduceIte, reduceCtorEq, Zd, Ze, Zc, Zf, Z9]
  rotate_left
  · exact PostR.pure ⟨by simp only [validD, h2, Bool.and_false, Bool.false_and], rfl⟩ rfl
  refine call_ret (areReturns_call d hd) rfl rfl ?_
  simp only [Zu, Za, Zb, Zg, Zh, Zi, Zk, Zl, Zm, Zn, ↓reduceIte, reduceCtorEq, Zd, Ze, Zc, Zf, Z9]
  refine br_intro (fun h3 => ?_) (fun h3 => ?_) <;> simp only [Zu, Za, Zb, Zg, Zh, Zi, Zk, Zl, Zm, Zn, ↓reduceIte, reduceCtorEq, Zd, Ze, Zc, Zf, Z9]
  rotate_left
  · exact PostR.pure ⟨by simp only [validD, h3, Bool.and_false, Bool.false_and], rfl⟩ rfl
  refine call_ret (isLifeTable_call f hf) rfl rfl ?_
  simp only [Zu, Za, Zb, Zg, Zh, Zi, Zk, Zl, Zm, Zn, ↓reduceIte, reduceCtorEq, Zd, Ze, Zc, Zf, Z9]
  exact PostR.pure ⟨by simp only [validD, h1, h2, h3, Bool.true_and], rfl⟩ rfl
end Go.Proofs.YtodjjpmigcacoaaGreatDoor
