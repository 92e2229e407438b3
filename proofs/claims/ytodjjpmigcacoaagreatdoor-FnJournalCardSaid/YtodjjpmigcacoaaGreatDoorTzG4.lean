/- TzG4: texts joined. -/
import Derived.Test.YtodjjpmigcacoaaGreatDoorTzG3
import Derived.Test.YtodjjpmigcacoaaGreatDoorTzG1
set_option maxRecDepth 10000
set_option maxHeartbeats 4000000
set_option linter.unusedSimpArgs false
set_option linter.unusedVariables false
namespace Go.Proofs.YtodjjpmigcacoaaGreatDoor
open Go Go.Abs
open Nat renaming reduceAdd → Za, reduceSub → Zb, reduceMul → Zc, reduceLT → Zd, reduceLeDiff → Ze, reduceEqDiff → Zf
open Int renaming reduceToNat → Zn
open Go.Abs renaming lenA → Zg, convA → Zh, indexA → Zi, flatP → Zj, nilI → Zk, ifaA → Zl, indexS → Zm
def listR (o : Option (List Int)) : AV := match o with
  | some xs => .tup [.ro (ints xs), .bool true]
  | none => .tup [.nils, .bool false]
def listA (o : Option (List Int)) : AV := match o with
  | some xs => .tup [.sl 0 0 xs.length, .bool true]
  | none => .tup [.nils, .bool false]
def listH (o : Option (List Int)) : List Blk := match o with
  | some xs => [intB xs]
  | none => []
theorem take_strsN (L : List (List UInt8)) : (strs L).take L.length = strs L := List.take_of_length_le (by rw [strs_len]; exact Nat.le_refl _)
theorem decA_below (n : Nat) (o : Option Int) : below n (decA o) = true := by cases o <;> rfl
theorem splitF_call (z : UInt8) (s : List UInt8) (hs : s.length ≤ 1048576) : CallA Tryz.prog 61 [.str s, .str [z]] [] (Ret (.ro (strs (cutA z [] s))) []) :=
  (split_call z s hs).frozen 2 (by simp [view_sl, strB, map_view_strs, take_strsN, strs_len])
def wordsR (s : List UInt8) : AV := if s = noneT then .tup [.nils, .bool true] else if 1280 < s.length then .tup [.nils, .bool false] else .tup [.ro (strs (cutA 44 [] s)), .bool (decide ((cutA 44 [] s).length ≤ 64))]
theorem wordsOf_call (s : List UInt8) (hs : s.length ≤ 1048576) : CallA Tryz.prog 43 [.str s, .int .i64 64] [] (Ret (wordsR s) []) := by
  have w0 : IntKind.i64.wrap (20 * 64) = 1280 := by decide
  refine CallP.out (t := .mk) (go_in (md := md43) mixed Tryz.func43 rfl go43 (by kernel_rfl) ?_)
  simp only [Zu, Za, Zb, Zg, Zh, Zi, Zk, Zl, Zm, Zn, ↓reduceIte, reduceCtorEq, Zd, Ze, Zc, Zf, Z43]
  refine br_intro (fun c1 => ?_) (fun c1 => ?_) <;> simp only [Zu, Za, Zb, Zg, Zh, Zi, Zk, Zl, Zm, Zn, ↓reduceIte, reduceCtorEq, Zd, Ze, Zc, Zf, Z43, w0]
  · have e : s = noneT := beq_iff_eq.1 c1
    exact PostR.pure ⟨by unfold wordsR; rw [if_pos e], rfl⟩ rfl
  have c1 : ¬ s = noneT := fun e => by rw [e] at c1; cases c1
  refine br_intro (fun c2 => ?_) (fun c2 => ?_) <;> simp only [Zu, Za, Zb, Zg, Zh, Zi, Zk, Zl, Zm, Zn, ↓reduceIte, reduceCtorEq, Zd, Ze, Zc, Zf, Z43, w0]
  · have e : 1280 < s.length := by have := of_decide_eq_true c2; omega
    exact PostR.pure ⟨by unfold wordsR; rw [if_neg c1, if_pos e], rfl⟩ rfl
  have c2 : ¬ 1280 < s.length := by have := of_decide_eq_false c2; omega
  refine call_ret (splitF_call 44 s hs) rfl rfl ?_
  simp only [Zu, Za, Zb, Zg, Zh, Zi, Zk, Zl, Zm, Zn, ↓reduceIte, reduceCtorEq, Zd, Ze, Zc, Zf, Z43, strs_len]
  refine PostR.pure ⟨?_, rfl⟩ ?_
  · unfold wordsR
    rw [if_neg c1, if_neg c2]
    congr 4
    exact decide_eq_decide.2 (by omega)
  · rfl
theorem readListA_call (s : List UInt8) (hs : s.length ≤ 1048576) : CallA Tryz.prog 40 [.str s] [] (Ret (listA (listOf s)) (listH (listOf s))) := by
  have hlen := cutA_len 44 s []
  have cl := count_len s 44
  have lo : listOf s = if s = noneT then some [] else if (cutA 44 [] s).length ≤ 64 then decs (cutA 44 [] s) else none := rfl
  have pl : ∀ p ∈ cutA 44 [] s, p.length ≤ 1048576 := by
    intro p hp
    have := cut_mem_len 44 s p hp
    omega
  refine CallP.out (t := .mk) (go_in (md := md40) mixed Tryz.func40 rfl go40 (by kernel_rfl) ?_)
  simp only [Zu, Za, Zb, Zg, Zh, Zi, Zk, Zl, Zm, Zn, ↓reduceIte, reduceCtorEq, Zd, Ze, Zc, Zf, Z40]
  by_cases c1 : s = noneT
  · have wc := wordsOf_call s hs
    unfold wordsR at wc
    rw [if_pos c1] at wc
    refine call_ret wc rfl rfl ?_
    rw [lo, if_pos c1]
    simp only [Zu, Za, Zb, Zg, Zh, Zi, Zk, Zl, Zm, Zn, ↓reduceIte, reduceCtorEq, Zd, Ze, Zc, Zf, Z40]
    refine go_round (md := md40) mixed (by kernel_rfl) (fun p : Unit => ⟨[.any, .any, .any, .any, .any, .any, .sl 0 0 0, .any, .any, .any, .any, .any, .any, .any, .any, .any, .any, .any, .any, .nils, .int .i64 0, .int .i64 0, .any, .any, .any, .any, .any, .any, .any, .any, .any, .any, .any, .any, .any, .any, .any, .any], [intB []]⟩) (fun p => 0) () ?_ ?_
    · exact weak_drop (by simp) (by simp [DropHp, ints_below, flts_below, intB, ints, allBelow_cons, allBelow_nil, below, belowM, belowL]) (by simp [DropTm, DropV, below, belowM, belowL, intB, ints, allBelow_cons, allBelow_nil, below, belowM, belowL])
    rintro ⟨⟩
    simp only [Zu, Za, Zb, Zg, Zh, Zi, Zk, Zl, Zm, Zn, ↓reduceIte, reduceCtorEq, Zd, Ze, Zc, Zf, Z40, Int.reduceLT, Int.reduceLE, Int.reduceNeg, Int.reduceEq, Int.reduceGT, Int.reduceGE, decide_true, decide_false, beq_self_eq_true, bne_self_eq_false, Int.reduceBEq, Int.reduceBNe, Int.reduceAdd, Int.reduceSub]
    exact PostR.ret
  have wc := wordsOf_call s hs
  unfold wordsR at wc
  rw [if_neg c1] at wc lo
  by_cases c0 : 1280 < s.length
  · rw [if_pos c0] at wc
    refine call_ret wc rfl rfl ?_
    simp only [Zu, Za, Zb, Zg, Zh, Zi, Zk, Zl, Zm, Zn, ↓reduceIte, reduceCtorEq, Zd, Ze, Zc, Zf, Z40]
    rw [listOf_long c0]
    show PostR 0 _ _ (Ret (.tup [.nils, .bool false]) [])
    exact PostR.drop _ _ (by simp) (by simp [DropHp, ints_below, flts_below]) (by simp [DropV, below, belowM, belowL]) ⟨rfl, rfl⟩
  rw [if_neg c0] at wc
  refine call_ret wc rfl rfl ?_
  clear wc
  generalize cutA 44 [] s = P at lo hlen pl
  simp only [Zu, Za, Zb, Zg, Zh, Zi, Zk, Zl, Zm, Zn, ↓reduceIte, reduceCtorEq, Zd, Ze, Zc, Zf, Z40, strs_len]
  refine br_intro (fun c2 => ?_) (fun c2 => ?_) <;> simp only [Zu, Za, Zb, Zg, Zh, Zi, Zk, Zl, Zm, Zn, ↓reduceIte, reduceCtorEq, Zd, Ze, Zc, Zf, Z40, strs_len]
  rotate_left
  · rw [lo, if_neg (by have := of_decide_eq_false c2; omega)]
    show PostR 0 _ _ (Ret (.tup [.nils, .bool false]) [])
    exact PostR.drop _ _ (by simp) (by simp [DropHp, ints_below, flts_below]) (by simp [DropV, below, belowM, belowL]) ⟨rfl, rfl⟩
  have hP : P.length ≤ 64 := of_decide_eq_true c2
  rw [if_pos hP] at lo
  refine go_round (md := md40) mixed (by kernel_rfl) (fun p : {p : Nat × List Int // p.1 ≤ P.length ∧ decs (P.take p.1) = some p.2} => ⟨[.any, .any, .any, .any, .any, .any, .sl 0 0 p.1.1, .any, .any, .any, .any, .any, .any, .any, .any, .any, .any, .any, .any, .ro (strs P), .int .i64 P.length, .int .i64 p.1.1, .any, .any, .any, .any, .any, .any, .any, .any, .any, .any, .any, .any, .any, .any, .any, .any], [intB p.1.2]⟩) (fun p => P.length - p.1.1) ⟨(0, []), by simp, rfl⟩ ?_ ?_
  · exact weak_drop (by simp) (by simp [DropHp, ints_below, flts_below, intB, ints, allBelow_cons, allBelow_nil, below, belowM, belowL]) (by simp [DropTm, DropV, below, belowM, belowL, intB, ints, allBelow_cons, allBelow_nil, below, belowM, belowL])
  rintro ⟨⟨i, ys⟩, hi, hd⟩
  dsimp only at hi hd
  have yl : ys.length = i := by rw [decs_len hd, List.length_take]; omega
  have il : (ints ys).length = i := by rw [ints_len, yl]
  simp only [Zu, Za, Zb, Zg, Zh, Zi, Zk, Zl, Zm, Zn, ↓reduceIte, reduceCtorEq, Zd, Ze, Zc, Zf, Z40, strs_len]
  refine br_intro (fun g => ?_) (fun g => ?_) <;> simp only [Zu, Za, Zb, Zg, Zh, Zi, Zk, Zl, Zm, Zn, ↓reduceIte, reduceCtorEq, Zd, Ze, Zc, Zf, Z40, strs_len]
  · have hi' : i < P.length := by have := of_decide_eq_true g; omega
    have hI : (i : Int) < (P.length : Int) := by omega
    have w1 : IntKind.i64.wrap ((i : Int) + 1) = ((i + 1 : Nat) : Int) := by rw [w64 (by omega) (by omega)]; omega
    simp only [Zu, Za, Zb, Zg, Zh, Zi, Zk, Zl, Zm, Zn, ↓reduceIte, reduceCtorEq, Zd, Ze, Zc, Zf, Z40, strs_len, hi', hI, strs_get]
    refine call_ret (readDecimal_call P[i] (pl _ (List.getElem_mem hi'))) rfl (decA_below _ _) ?_
    cases hv : decOf P[i] with
    | none =>
      unfold decA
      simp only [Zu, Za, Zb, Zg, Zh, Zi, Zk, Zl, Zm, Zn, ↓reduceIte, reduceCtorEq, Zd, Ze, Zc, Zf, Z40]
      rw [lo, decs_bad hi' hv]
      show PostR 0 _ _ (Ret (.tup [.nils, .bool false]) [])
      exact PostR.drop _ _ (by simp) (by simp [DropHp, ints_below, flts_below]) (by simp [DropV, below, belowM, belowL]) ⟨rfl, rfl⟩
    | some x =>
      unfold decA
      simp only [Zu, Za, Zb, Zg, Zh, Zi, Zk, Zl, Zm, Zn, ↓reduceIte, reduceCtorEq, Zd, Ze, Zc, Zf, Z40, intB, il, w1, allW_int, fits, List.isEmpty_cons, brk_false, Nat.reduceMul]
      have hd2 : decs (P.take (i + 1)) = some (ys ++ [x]) := by rw [take_snoc _ _ hi']; exact decs_snoc hd hv
      refine ⟨by omega, ⟨(i + 1, ys ++ [x]), by show i + 1 ≤ P.length; omega, hd2⟩, by show P.length - (i + 1) < _; omega, ?_⟩
      show Weak 0 _ ⟨_, _⟩
      exact weak_drop (by simp) (by simp [DropHp, ints_below, flts_below, intB, ints_below, allBelow_cons, allBelow_nil, below, belowM, belowL]) (by simp [DropTm, DropV, below, belowM, belowL, intB, ints_below, allBelow_cons, allBelow_nil, below, belowM, belowL])
  · have hi' : i = P.length := by have := of_decide_eq_false g; omega
    rw [hi', List.take_length] at hd
    rw [lo, hd]
    show PostR 0 _ _ (Ret (.tup [.sl 0 0 ys.length, .bool true]) [intB ys])
    rw [yl]
    exact PostR.ret
abbrev SclP := List Int × List Int
def scaleOf (t : List UInt8) : Option SclP := match cutA 59 [] t with
  | [a, b] => match listOf a, listOf b with
    | some x, some y => if scaleB x y = true then some (x, y) else none
    | _, _ => none
  | _ => none
def pairOf (a b : List UInt8) : Option SclP := match listOf a, listOf b with
  | some x, some y => if scaleB x y = true then some (x, y) else none
  | _, _ => none
theorem listOf_empty : listOf [] = none := by
  unfold listOf
  rw [if_neg (by decide), cutA_nil]
  rfl
theorem pairOf_right {a b : List UInt8} (h : listOf b = none) : pairOf a b = none := by
  unfold pairOf
  rw [h]
  cases listOf a <;> rfl
theorem scaleOf_none {t : List UInt8} (h : firstAt 59 t = none) : scaleOf t = none ∧ pairOf t [] = none := by
  refine ⟨?_, pairOf_right listOf_empty⟩
  unfold scaleOf
  rw [cutA_first, h]
theorem scaleOf_some {t a b : List UInt8} (h : firstAt 59 t = some (a, b)) : scaleOf t = pairOf a b := by
  have e : cutA 59 [] t = a :: cutA 59 [] b := by rw [cutA_first, h]; rfl
  unfold scaleOf
  rw [e]
  cases hb : firstAt 59 b with
  | none =>
    have e2 : cutA 59 [] b = [b] := by rw [cutA_first, hb]; rfl
    rw [e2]
    rfl
  | some p =>
    obtain ⟨h1, h2, h3⟩ := firstAt_some (a := p.1) (b := p.2) hb
    have e2 : cutA 59 [] b = p.1 :: cutA 59 [] p.2 := by rw [cutA_first, hb]; rfl
    have hn : listOf b = none := by
      cases hl : listOf b with
      | none => rfl
      | some xs => exact absurd (by rw [h2]; simp) (listOf_semi hl)
    rw [pairOf_right hn, e2]
    cases hc : cutA 59 [] p.2 with
    | nil => exact absurd hc (cutA_ne 59 p.2 [])
    | cons q Q => rfl
theorem scale_text {t a b : List UInt8} {x y : List Int} (h : firstAt 59 t = some (a, b)) (hx : listOf a = some x) (hy : listOf b = some y) (hs : scaleB x y = true) : txt [44] x ++ 59 :: txt [44] y = t := by
  obtain ⟨n1, n2⟩ := scaleB_ne hs
  rw [(listOf_txt hx n1).1, (listOf_txt hy n2).1]
  exact (firstAt_some h).2.1.symm
theorem scaleB_nilL (y : List Int) : scaleB [] y = false := by
  cases h : scaleB [] y with
  | false => rfl
  | true => exact absurd rfl (scaleB_ne h).1
theorem scaleB_nilR (x : List Int) : scaleB x [] = false := by
  cases h : scaleB x [] with
  | false => rfl
  | true => exact absurd rfl (scaleB_ne h).2
def nil1 : AV → AV
  | .nils => .ro []
  | a => a
def nil2 : AV → AV
  | .agg l => .agg (l.map nil1)
  | a => nil1 a
theorem RV.nil1 {P : Program} {E : Env P} {a : AV} {v : Value} (h : RV E a v) : RV E (nil1 a) v := by
  cases a with
  | nils => cases h with | nils a => exact .roNil a 0
  | _ => exact h
theorem RV.nil2 {P : Program} {E : Env P} {a : AV} {v : Value} (h : RV E a v) : RV E (nil2 a) v := by
  cases a with
  | agg l =>
    cases h with
    | agg l vs hl h =>
      refine .agg _ vs (by rw [List.length_map]; exact hl) fun i a v h1 h2 => ?_
      rw [List.getElem?_map, Option.map_eq_some_iff] at h1
      obtain ⟨a0, h3, rfl⟩ := h1
      exact RV.nil1 (h i a0 v h3 h2)
  | _ => exact RV.nil1 h
theorem callNil {P : Program} {f : FuncId} {args : List AV} {hp : List Blk} {Q : AV → List Blk → Prop} (h : CallA P f (args.map nil2) hp Q) : CallA P f args hp Q := by
  intro E vs H hl hrv
  refine h E vs H (by rw [List.length_map]; exact hl) fun i a v h1 h2 => ?_
  rw [List.getElem?_map, Option.map_eq_some_iff] at h1
  obtain ⟨a0, h3, rfl⟩ := h1
  exact RV.nil2 (hrv i a0 v h3 h2)
def scaleA (o : Option SclP) : AV := match o with
  | some (x, y) => .tup [.agg [.sl 0 0 x.length, .sl 1 0 y.length], .bool true]
  | none => .tup [.agg [.nils, .nils], .bool false]
def scaleH (o : Option SclP) : List Blk := match o with
  | some (x, y) => [intB x, intB y]
  | none => []
theorem scaleText_nn (y : List Int) (h2 : y.length ≤ 1048576) (b2 : ∀ z ∈ y, okI z) : CallA Tryz.prog 13 [.agg [.nils, .ro (ints y)]] [] (Ret (.tup [.str [], .bool false]) []) := by
  refine callNil ?_
  have := implScaleText_call [] y (by simp) h2 (by simp) b2
  rw [scaleB_nilL] at this
  exact this
theorem scaleText_n (x : List Int) (h1 : x.length ≤ 1048576) (b1 : ∀ z ∈ x, okI z) : CallA Tryz.prog 13 [.agg [.ro (ints x), .nils]] [] (Ret (.tup [.str [], .bool false]) []) := by
  refine callNil ?_
  have := implScaleText_call x [] h1 (by simp) b1 (by simp)
  rw [scaleB_nilR] at this
  exact this
theorem scaleText_0 : CallA Tryz.prog 13 [.agg [.nils, .nils]] [] (Ret (.tup [.str [], .bool false]) []) := by
  refine callNil ?_
  have := implScaleText_call [] [] (by simp) (by simp) (by simp) (by simp)
  rw [scaleB_nilL] at this
  exact this
theorem implReadScale_call (t : List UInt8) (ht : t.length ≤ 1048576) : CallA Tryz.prog 14 [.str t] [] (Ret (scaleA (scaleOf t)) (scaleH (scaleOf t))) := by
  have key : ∀ (a b : List UInt8) (f : Bool), a.length ≤ 1048576 → b.length ≤ 1048576 → CallA Tryz.prog 39 [.str t, .str [59]] [] (Ret (.tup [.str a, .str b, .bool f]) []) → scaleOf t = pairOf a b →
      (∀ x y, listOf a = some x → listOf b = some y → scaleB x y = true → txt [44] x ++ 59 :: txt [44] y = t) → CallA Tryz.prog 14 [.str t] [] (Ret (scaleA (scaleOf t)) (scaleH (scaleOf t))) := by
    intro a b f la lb hcut hso htx
    rw [hso]
    have ra := readListA_call a la
    have rb := readListA_call b lb
    have ok : ∀ {a : List UInt8} {xs : List Int}, listOf a = some xs → xs.length ≤ 1048576 ∧ ∀ z ∈ xs, okI z := fun hl => ⟨by have := listOf_le hl; omega, fun z hz => by
      have := inR_iff.1 (listOf_in hl z hz)
      unfold okI; omega⟩
    unfold pairOf
    refine CallP.out (t := .mk) (go_in (md := md14) mixed Tryz.func14 rfl go14 (by kernel_rfl) ?_)
    simp only [Zu, Za, Zb, Zg, Zh, Zi, Zk, Zl, Zm, Zn, ↓reduceIte, reduceCtorEq, Zd, Ze, Zc, Zf, Z14]
    refine call_ret hcut rfl rfl ?_
    simp only [Zu, Za, Zb, Zg, Zh, Zi, Zk, Zl, Zm, Zn, ↓reduceIte, reduceCtorEq, Zd, Ze, Zc, Zf, Z14]
    cases ha : listOf a with
    | none =>
      rw [ha] at ra
      refine call_ret (r := .tup [.nils, .bool false]) ra rfl rfl ?_
      simp only [Zu, Za, Zb, Zg, Zh, Zi, Zk, Zl, Zm, Zn, ↓reduceIte, reduceCtorEq, Zd, Ze, Zc, Zf, Z14]
      cases hb : listOf b with
      | none =>
        rw [hb] at rb
        refine call_ret (r := .tup [.nils, .bool false]) rb rfl rfl ?_
        simp only [Zu, Za, Zb, Zg, Zh, Zi, Zk, Zl, Zm, Zn, ↓reduceIte, reduceCtorEq, Zd, Ze, Zc, Zf, Z14]
        refine call_ret scaleText_0 rfl rfl ?_
        simp only [Zu, Za, Zb, Zg, Zh, Zi, Zk, Zl, Zm, Zn, ↓reduceIte, reduceCtorEq, Zd, Ze, Zc, Zf, Z14, Int.reduceLT, Int.reduceLE, Int.reduceNeg, Int.reduceEq, Int.reduceGT, Int.reduceGE, decide_true, decide_false, beq_self_eq_true, bne_self_eq_false, Int.reduceBEq, Int.reduceBNe, Int.reduceAdd, Int.reduceSub]
        exact PostR.pure ⟨rfl, rfl⟩ rfl
      | some y =>
        rw [hb] at rb
        refine call_new (r := .tup [.sl 0 0 y.length, .bool true]) (new := [intB y]) rb rfl (by simp [intB, ints_below]) ?_
        simp only [Zu, Za, Zb, Zg, Zh, Zi, Zk, Zl, Zm, Zn, ↓reduceIte, reduceCtorEq, Zd, Ze, Zc, Zf, Z14, ren, renM, renL]
        refine call_lent 2 (by simp [view_sl, view_agg, view_nils, intB, map_view_ints, take_ints, ints_len]) (scaleText_nn y (ok hb).1 (ok hb).2) rfl rfl ?_
        simp only [Zu, Za, Zb, Zg, Zh, Zi, Zk, Zl, Zm, Zn, ↓reduceIte, reduceCtorEq, Zd, Ze, Zc, Zf, Z14, Int.reduceLT, Int.reduceLE, Int.reduceNeg, Int.reduceEq, Int.reduceGT, Int.reduceGE, decide_true, decide_false, beq_self_eq_true, bne_self_eq_false, Int.reduceBEq, Int.reduceBNe, Int.reduceAdd, Int.reduceSub, intB]
        show PostR 0 _ _ (Ret (.tup [.agg [.nils, .nils], .bool false]) [])
        exact PostR.drop _ _ (by simp) (by simp [DropHp, ints_below, flts_below]) (by simp [DropV, below, belowM, belowL]) ⟨rfl, rfl⟩
    | some x =>
      rw [ha] at ra
      refine call_new (r := .tup [.sl 0 0 x.length, .bool true]) (new := [intB x]) ra rfl (by simp [intB, ints_below]) ?_
      simp only [Zu, Za, Zb, Zg, Zh, Zi, Zk, Zl, Zm, Zn, ↓reduceIte, reduceCtorEq, Zd, Ze, Zc, Zf, Z14, ren, renM, renL]
      cases hb : listOf b with
      | none =>
        rw [hb] at rb
        refine call_ret (r := .tup [.nils, .bool false]) rb rfl rfl ?_
        simp only [Zu, Za, Zb, Zg, Zh, Zi, Zk, Zl, Zm, Zn, ↓reduceIte, reduceCtorEq, Zd, Ze, Zc, Zf, Z14, ren, renM, renL]
        refine call_lent 2 (by simp [view_sl, view_agg, view_nils, intB, map_view_ints, take_ints, ints_len]) (scaleText_n x (ok ha).1 (ok ha).2) rfl rfl ?_
        simp only [Zu, Za, Zb, Zg, Zh, Zi, Zk, Zl, Zm, Zn, ↓reduceIte, reduceCtorEq, Zd, Ze, Zc, Zf, Z14, Int.reduceLT, Int.reduceLE, Int.reduceNeg, Int.reduceEq, Int.reduceGT, Int.reduceGE, decide_true, decide_false, beq_self_eq_true, bne_self_eq_false, Int.reduceBEq, Int.reduceBNe, Int.reduceAdd, Int.reduceSub, intB]
        show PostR 0 _ _ (Ret (.tup [.agg [.nils, .nils], .bool false]) [])
        exact PostR.drop _ _ (by simp) (by simp [DropHp, ints_below, flts_below]) (by simp [DropV, below, belowM, belowL]) ⟨rfl, rfl⟩
      | some y =>
        rw [hb] at rb
        refine call_new (r := .tup [.sl 0 0 y.length, .bool true]) (new := [intB y]) rb rfl (by simp [intB, ints_below]) ?_
        simp only [Zu, Za, Zb, Zg, Zh, Zi, Zk, Zl, Zm, Zn, ↓reduceIte, reduceCtorEq, Zd, Ze, Zc, Zf, Z14, ren, renM, renL]
        have st := implScaleText_call x y (ok ha).1 (ok hb).1 (ok ha).2 (ok hb).2
        have tx := htx x y ha hb
        cases hs : scaleB x y with
        | false =>
          rw [hs] at st
          refine call_lent 2 (r := .tup [.str [], .bool false]) (by simp [view_sl, view_agg, view_nils, intB, map_view_ints, take_ints, ints_len]) st rfl rfl ?_
          simp only [Zu, Za, Zb, Zg, Zh, Zi, Zk, Zl, Zm, Zn, ↓reduceIte, reduceCtorEq, Zd, Ze, Zc, Zf, Z14, Int.reduceLT, Int.reduceLE, Int.reduceNeg, Int.reduceEq, Int.reduceGT, Int.reduceGE, decide_true, decide_false, beq_self_eq_true, bne_self_eq_false, Int.reduceBEq, Int.reduceBNe, Int.reduceAdd, Int.reduceSub, intB]
          show PostR 0 _ _ (Ret (.tup [.agg [.nils, .nils], .bool false]) [])
          exact PostR.drop _ _ (by simp) (by simp [DropHp, ints_below, flts_below]) (by simp [DropV, below, belowM, belowL]) ⟨rfl, rfl⟩
        | true =>
          rw [hs, if_pos rfl, tx hs] at st
          refine call_lent 2 (r := .tup [.str t, .bool true]) (by simp [view_sl, view_agg, view_nils, intB, map_view_ints, take_ints, ints_len]) st rfl rfl ?_
          simp only [Zu, Za, Zb, Zg, Zh, Zi, Zk, Zl, Zm, Zn, ↓reduceIte, reduceCtorEq, Zd, Ze, Zc, Zf, Z14, Int.reduceLT, Int.reduceLE, Int.reduceNeg, Int.reduceEq, Int.reduceGT, Int.reduceGE, decide_true, decide_false, beq_self_eq_true, bne_self_eq_false, Int.reduceBEq, Int.reduceBNe, Int.reduceAdd, Int.reduceSub, intB]
          exact PostR.pick (hp2 := [intB x, intB y]) (r2 := .tup [.agg [.sl 0 0 x.length, .sl 1 0 y.length], .bool true]) [1, 2] (by decide) (by decide) (by decide) ⟨⟨rfl, ints_below _ _⟩, ⟨rfl, ints_below _ _⟩, trivial⟩ (by simp [ren, renM, renL]) rfl ⟨rfl, rfl⟩
  have cc := cut_call1 59 t ht
  unfold cutR at cc
  cases hf : firstAt 59 t with
  | none =>
    rw [hf] at cc
    obtain ⟨h1, h2⟩ := scaleOf_none hf
    exact key t [] false ht (by simp) cc (h1.trans h2.symm) (fun x y _ h => by rw [listOf_empty] at h; cases h)
  | some p =>
    rw [hf] at cc
    have hl := (firstAt_some (a := p.1) (b := p.2) hf).2.1
    have hl2 := congrArg List.length hl
    simp only [List.length_append, List.length_cons] at hl2
    exact key p.1 p.2 true (by omega) (by omega) cc (scaleOf_some hf) (fun x y h1 h2 h3 => scale_text hf h1 h2 h3)
end Go.Proofs.YtodjjpmigcacoaaGreatDoor
