/- TzI3: texts joined. -/
import Derived.Test.YtodjjpmigcacoaaGreatDoorTzI2
import Derived.Test.YtodjjpmigcacoaaGreatDoorTzH1
set_option maxRecDepth 10000
set_option maxHeartbeats 8000000
set_option linter.unusedSimpArgs false
set_option linter.unusedVariables false
namespace Go.Proofs.YtodjjpmigcacoaaGreatDoor
open Go Go.Abs
open Nat renaming reduceAdd → Za, reduceSub → Zb, reduceMul → Zc, reduceLT → Zd, reduceLeDiff → Ze, reduceEqDiff → Zf
open Int renaming reduceToNat → Zn
open Go.Abs renaming lenA → Zg, convA → Zh, indexA → Zi, flatP → Zj, nilI → Zk, ifaA → Zl, indexS → Zm
abbrev DV := List Int × List Int × List Int × List Int × List Nat
def dvA (d : DV) : AV := deskV d.1 d.2.1 d.2.2.1 d.2.2.2.1 d.2.2.2.2
structure Run (L O : List (List UInt8)) (S : Nat → DV) : Prop where
  no : ∀ x ∈ L, (10 : UInt8) ∉ x
  ol : O.length = L.length
  short : (linT 10 L).length ≤ 16000
  oshort : (linT 10 O).length ≤ 1000000
  valid : CallA Tryz.prog 9 [dvA (S 0)] [] (Ret (.bool true) [])
  clone : CallA Tryz.prog 35 [dvA (S 0)] [] (Ret (dvA (S 0)) [])
  cmd : ∀ i, (h : i < L.length) → CallA Tryz.prog 26 [dvA (S i), .str L[i]] [] (Ret (.tup [dvA (S (i + 1)), .str (O.getD i [])]) [])
theorem lin_len (c : UInt8) : ∀ (L : List (List UInt8)), L.length ≤ (linT c L).length
  | [] => Nat.le_refl _
  | x :: L => by
    have := lin_len c L
    have e : linT c (x :: L) = x ++ [c] ++ linT c L := by simp [linT]
    rw [e]; simp; omega
theorem linesF_call (L : List (List UInt8)) (h : ∀ x ∈ L, (10 : UInt8) ∉ x) (hs : (linT 10 L).length ≤ 16000) : CallA Tryz.prog 34 [.str (linT 10 L)] [] (Ret (.tup [.ro (strs L), .bool true]) []) := by
  have c := linesOf_call (linT 10 L) (by omega)
  have e := cutA_lines 10 L h
  have n : Lib.countByte (linT 10 L) 10 = L.length := by
    have := cutA_len 10 (linT 10 L) []
    rw [e] at this
    simp at this
    omega
  rw [n, e] at c
  have g : (L ++ [[]]).getD L.length [] = [] := by simp
  rw [g, decide_eq_true hs] at c
  refine CallA.frozen 3 c ?_
  have t : (strs (L ++ [[]])).take L.length = strs L := by simp [strs]
  have m : ((strs (L ++ [[]])).take L.length).map (view 1 [strB (L ++ [[]])]) = strs L := by
    rw [t]; simp [strs, view_str]
  have d : decide (0 + L.length ≤ (strs (L ++ [[]])).length) = true := decide_eq_true (by rw [strs_len]; simp)
  simp only [view_tup, List.map_cons, List.map_nil, view_bool, view_sl, strB, List.getElem?_cons_zero, List.drop_zero] at m ⊢
  rw [m, d]
  rfl
theorem lin_take (c : UInt8) (O : List (List UInt8)) (i : Nat) : (linT c (O.take i)).length ≤ (linT c O).length := by
  have e : linT c O = linT c (O.take i) ++ linT c (O.drop i) := by
    unfold linT
    rw [← List.flatMap_append, List.take_append_drop]
  rw [e]; simp
def dvB (d : DV) : Blk := { ty := 29, w := 5, els := [.agg [.ro (ints d.1), .ro (ints d.2.1), .ro (ints d.2.2.1), .ro (ints d.2.2.2.1), .ro (flts d.2.2.2.2)]] }
def resD : Blk := { ty := 29, w := 5, els := [.agg [.nils, .nils, .nils, .nils, .nils]] }
def stR (S : Nat → DV) (O : List (List UInt8)) : Nat → List Blk
  | 0 => [dvB (S 0), resD, bldB .nilp .nils]
  | i + 1 => [dvB (S (i + 1)), resD, bldB (.ptr 2 0 0) (.sl 3 0 (linT 10 (O.take (i + 1))).length), bytB (linT 10 (O.take (i + 1)))]
def RunS (D : DV) (hp : List Blk) : Prop := hp[0]? = some (dvB D) ∧ True
def mdR : Nat → List Bool := fun _ => []
theorem run_call {L O : List (List UInt8)} {S : Nat → DV} (H : Run L O S) (h1 : 1 ≤ L.length) : CallA Tryz.prog 11 [dvA (S 0), .str (linT 10 L)] [] (Ret (.tup [dvA (S L.length), .str (linT 10 O), .bool true]) []) := by
  have ll := lin_len 10 L
  have sh := H.short
  have lf := linesF_call L H.no H.short
  have vd := H.valid
  have cl := H.clone
  unfold dvA deskV at vd cl ⊢
  refine CallP.out (t := .mk) (go_in (md := mdR) mixed Tryz.func11 rfl go11 (by kernel_rfl) ?_)
  simp only [Zu, Za, Zb, Zg, Zh, Zi, Zk, Zl, Zm, Zn, ↓reduceIte, reduceCtorEq, Zd, Ze, Zc, Zf, Z11, mdR]
  refine call_ret lf rfl rfl ?_
  simp only [Zu, Za, Zb, Zg, Zh, Zi, Zk, Zl, Zm, Zn, ↓reduceIte, reduceCtorEq, Zd, Ze, Zc, Zf, Z11, mdR]
  refine call_ret vd rfl rfl ?_
  simp only [Zu, Za, Zb, Zg, Zh, Zi, Zk, Zl, Zm, Zn, ↓reduceIte, reduceCtorEq, Zd, Ze, Zc, Zf, Z11, mdR]
  refine call_ret cl rfl rfl ?_
  simp only [Zu, Za, Zb, Zg, Zh, Zi, Zk, Zl, Zm, Zn, ↓reduceIte, reduceCtorEq, Zd, Ze, Zc, Zf, Z11, mdR]
  refine go_round (md := md11) mixed (by kernel_rfl) (fun i : {i : Nat // i ≤ L.length} => ⟨[.any, .any, .ptr 0 0 0, .any, .ptr 1 0 0, .any, .any, .any, .any, .ptr 2 0 0, .any, .any, .any, .any, .any, .any, .any, .any, .any, .any, .any, .any, .any, .any, .any, .any, .any, .any, .any, .any, .any, .ro (strs L), .int .i64 (L.length : Int), .int .i64 (i.1 : Int), .any, .any, .any, .any, .any, .any, .any, .any, .any, .any, .any, .any, .any, .any, .any, .any, .any, .any], stR S O i.1⟩) (fun i => L.length - i.1) ⟨0, by omega⟩ ?_ ?_
  · exact weak_drop (by simp) (by simp [DropHp, ints_below, flts_below, stR, dvB, resD, bldB, strs_len, allBelow_cons, allBelow_nil, below, belowM, belowL]) (by simp [DropTm, DropV, below, belowM, belowL, stR, dvB, resD, bldB, strs_len, allBelow_cons, allBelow_nil, below, belowM, belowL])
  rintro ⟨i, hi⟩
  have os := H.oshort
  have sl := strs_len L
  have tk : (linT 10 (O.take i)).length ≤ 1000000 := by
    have := lin_take 10 O i
    omega
  simp only [Zu, Za, Zb, Zg, Zh, Zi, Zk, Zl, Zm, Zn, ↓reduceIte, reduceCtorEq, Zd, Ze, Zc, Zf, Z11, mdR, sl]
  refine br_intro (fun g => ?_) (fun g => ?_) <;> simp only [Zu, Za, Zb, Zg, Zh, Zi, Zk, Zl, Zm, Zn, ↓reduceIte, reduceCtorEq, Zd, Ze, Zc, Zf, Z11, mdR, sl]
  · have hi' : i < L.length := by have := of_decide_eq_true g; omega
    have hI : (i : Int) < (L.length : Int) := by omega
    have hc := H.cmd i hi'
    unfold dvA deskV at hc
    have ho : i < O.length := by have := H.ol; omega
    have og : O.getD i [] = O[i] := getD_at O [] i ho
    rw [og] at hc
    have tn : O.take (i + 1) = O.take i ++ [O[i]] := take_snoc _ _ ho
    have tl : (linT 10 (O.take (i + 1))).length ≤ 1000000 := by
      have := lin_take 10 O (i + 1)
      omega
    have tq : linT 10 (O.take (i + 1)) = linT 10 (O.take i) ++ (O[i] ++ [10]) := by rw [tn, linT_snoc]
    have w1 : IntKind.i64.wrap ((i : Int) + 1) = ((i + 1 : Nat) : Int) := w64_succ i (by omega)
    have ql : (linT 10 (O.take (i + 1))).length = (linT 10 (O.take i)).length + (O[i].length + 1) := by rw [tq]; simp
    cases i with
    | zero =>
      have z : linT 10 (O.take 0) = [] := rfl
      rw [z, List.nil_append] at tq
      simp only [Zu, Za, Zb, Zg, Zh, Zi, Zk, Zl, Zm, Zn, ↓reduceIte, reduceCtorEq, Zd, Ze, Zc, Zf, Z11, mdR, stR, dvB, resD, deskV, sl, hi', hI, strs_get]
      refine call_ret hc rfl rfl ?_
      simp only [Zu, Za, Zb, Zg, Zh, Zi, Zk, Zl, Zm, Zn, ↓reduceIte, reduceCtorEq, Zd, Ze, Zc, Zf, Z11, mdR, stR, dvB, resD, deskV, sl]
      refine ⟨by omega, ?_⟩
      refine call_subG [2] (write_fresh (O[0] ++ [10]) (by simp) (by simp; omega)) (by decide) ⟨⟨rfl, rfl⟩, trivial⟩ rfl rfl (hp2 := [dvB (S 1), resD, bldB (.ptr 2 0 0) (.sl 4 0 (O[0] ++ [10]).length), dvB (S 1), bytB (O[0] ++ [10])]) (by simp [subHp, putBack, renB, upName, ren, renM, renL, bldB, bytB, byts_ren, dvB, resD]) ?_
      simp only [Zu, Za, Zb, Zg, Zh, Zi, Zk, Zl, Zm, Zn, ↓reduceIte, reduceCtorEq, Zd, Ze, Zc, Zf, Z11, mdR, w1, ren, renM, renL]
      refine ⟨⟨0 + 1, by omega⟩, by show L.length - (0 + 1) < _; omega, ?_⟩
      show Weak _ _ ⟨_, _⟩
      exact weak_names [0, 1, 2, 4] (by decide) (by decide) (by decide) (by simp [SubG, renB, ints_ren, ints_below, kint_ren, kint_below, ren, renM, renL, tq, w1, stR, dvB, resD, bldB, bytB, byts_below, byts_ren, sl, allBelow_cons, allBelow_nil, below, belowM, belowL]) (by simp [LeTm, LeV, ren, renM, renL, below, belowM, belowL, tq, w1, stR, dvB, resD, bldB, bytB, byts_below, byts_ren, sl, allBelow_cons, allBelow_nil, below, belowM, belowL])
    | succ i =>
      simp only [Zu, Za, Zb, Zg, Zh, Zi, Zk, Zl, Zm, Zn, ↓reduceIte, reduceCtorEq, Zd, Ze, Zc, Zf, Z11, mdR, stR, dvB, resD, deskV, sl, hi', hI, strs_get]
      refine call_ret hc rfl rfl ?_
      simp only [Zu, Za, Zb, Zg, Zh, Zi, Zk, Zl, Zm, Zn, ↓reduceIte, reduceCtorEq, Zd, Ze, Zc, Zf, Z11, mdR, stR, dvB, resD, deskV, sl]
      refine ⟨by omega, ?_⟩
      refine call_subG [2, 3] (write_used (linT 10 (O.take (i + 1))) (O[i + 1] ++ [10]) (by simp; omega)) (by decide) ⟨⟨rfl, rfl⟩, ⟨by simp [renB, bytB, byts_ren], byts_below _ _⟩, trivial⟩ rfl rfl (hp2 := [dvB (S (i + 1 + 1)), resD, bldB (.ptr 2 0 0) (.sl 5 0 ((linT 10 (O.take (i + 1))).length + (O[i + 1] ++ [10]).length)), { bytB (linT 10 (O.take (i + 1))) with live := false }, dvB (S (i + 1 + 1)), bytB (linT 10 (O.take (i + 1)) ++ (O[i + 1] ++ [10]))]) (by simp [subHp, putBack, renB, upName, ren, renM, renL, bldB, bytB, byts_ren, dvB, resD]) ?_
      simp only [Zu, Za, Zb, Zg, Zh, Zi, Zk, Zl, Zm, Zn, ↓reduceIte, reduceCtorEq, Zd, Ze, Zc, Zf, Z11, mdR, w1, ren, renM, renL]
      refine ⟨⟨i + 1 + 1, by omega⟩, by show L.length - (i + 1 + 1) < _; omega, ?_⟩
      show Weak _ _ ⟨_, _⟩
      exact weak_names [0, 1, 2, 5] (by decide) (by decide) (by decide) (by simp [SubG, renB, ints_ren, ints_below, kint_ren, kint_below, ren, renM, renL, tq, w1, stR, dvB, resD, bldB, bytB, byts_below, byts_ren, List.length_append, sl, allBelow_cons, allBelow_nil, below, belowM, belowL]) (by simp [LeTm, LeV, ren, renM, renL, below, belowM, belowL, tq, w1, stR, dvB, resD, bldB, bytB, byts_below, byts_ren, List.length_append, sl, allBelow_cons, allBelow_nil, below, belowM, belowL])
  · have hi' : i = L.length := by have := of_decide_eq_false g; omega
    subst hi'
    obtain ⟨n, hn⟩ : ∃ n, L.length = n + 1 := ⟨L.length - 1, by omega⟩
    have tO : O.take L.length = O := by rw [← H.ol]; exact List.take_length
    have st : stR S O L.length = [dvB (S L.length), resD, bldB (.ptr 2 0 0) (.sl 3 0 (linT 10 O).length), bytB (linT 10 O)] := by
      rw [hn] at tO ⊢
      show [dvB (S (n + 1)), resD, bldB (.ptr 2 0 0) (.sl 3 0 (linT 10 (O.take (n + 1))).length), bytB (linT 10 (O.take (n + 1)))] = _
      rw [tO]
    have hne : linT 10 O ≠ [] := fun e => by
      have h7 := lin_len 10 O
      rw [e] at h7
      have h8 := H.ol
      have h9 : ([] : List UInt8).length = 0 := rfl
      omega
    rw [st]
    have hS : RunS (S L.length) [dvB (S L.length), resD, bldB (.ptr 2 0 0) (.sl 3 0 (linT 10 O).length), bytB (linT 10 O)] := ⟨rfl, trivial⟩
    generalize S L.length = D at *
    refine go_float mixed (RunS D) [0, 1, 2, 3, 4, 5] [0, 0, 2, 1, 1, 1] [] [] (by kernel_rfl) ?_
    refine om_still (by rfl) (by rfl) (by rfl) (by rfl) hS (v := .agg [.ro (ints D.1), .ro (ints D.2.1), .ro (ints D.2.2.1), .ro (ints D.2.2.2.1), .ro (flts D.2.2.2.2)]) (fun hp hH => by obtain ⟨h0, _⟩ := hH; simp only [Zu, Za, Zb, Zg, Zh, Zi, Zk, Zl, Zm, Zn, ↓reduceIte, reduceCtorEq, Zd, Ze, Zc, Zf, Z11, h0, dvB]) ?_; try simp only []; simp only [Zu, Za, Zb, Zg, Zh, Zi, Zk, Zl, Zm, Zn, ↓reduceIte, reduceCtorEq, Zd, Ze, Zc, Zf, Z11]
    refine om_still (by rfl) (by rfl) (by rfl) (by rfl) hS (v := .ptr 2 0 0) (fun hp hH => by obtain ⟨h0, _⟩ := hH; simp only [Zu, Za, Zb, Zg, Zh, Zi, Zk, Zl, Zm, Zn, ↓reduceIte, reduceCtorEq, Zd, Ze, Zc, Zf, Z11, h0]) ?_; try simp only []; simp only [Zu, Za, Zb, Zg, Zh, Zi, Zk, Zl, Zm, Zn, ↓reduceIte, reduceCtorEq, Zd, Ze, Zc, Zf, Z11]
    refine om_float (by rfl) (by rfl) (by rfl) ?_
    simp only [Zu, Za, Zb, Zg, Zh, Zi, Zk, Zl, Zm, Zn, ↓reduceIte, reduceCtorEq, Zd, Ze, Zc, Zf, Z11]
    refine call_subG [2, 3] (builderStringA (.ptr 0 0 0) (linT 10 O) hne (by omega)) (by decide) ⟨⟨rfl, rfl⟩, ⟨by simp [renB, bytB, byts_ren], byts_below _ _⟩, trivial⟩ rfl rfl (hp2 := [dvB D, resD, { bldB (.ptr 2 0 0) (.sl 3 0 (linT 10 O).length) with live := false }, { bytB (linT 10 O) with live := false }]) (by simp [subHp, putBack, renB, upName, ren, renM, renL, bldB, bytB, byts_ren, dvB, resD]) ?_
    simp only [Zu, Za, Zb, Zg, Zh, Zi, Zk, Zl, Zm, Zn, ↓reduceIte, reduceCtorEq, Zd, Ze, Zc, Zf, Z11, ren, renM, renL]
    refine ⟨.inl trivial, ⟨rfl, trivial⟩, ?_⟩
    refine om_one (by rfl) (by rfl) (by rfl) ?_; try simp only []; simp only [Zu, Za, Zb, Zg, Zh, Zi, Zk, Zl, Zm, Zn, ↓reduceIte, reduceCtorEq, Zd, Ze, Zc, Zf, Z11, dvB, resD]
    refine om_one (by rfl) (by rfl) (by rfl) ?_; try simp only []; simp only [Zu, Za, Zb, Zg, Zh, Zi, Zk, Zl, Zm, Zn, ↓reduceIte, reduceCtorEq, Zd, Ze, Zc, Zf, Z11]
    refine om_one (by rfl) (by rfl) (by rfl) ?_; try simp only []; simp only [Zu, Za, Zb, Zg, Zh, Zi, Zk, Zl, Zm, Zn, ↓reduceIte, reduceCtorEq, Zd, Ze, Zc, Zf, Z11]
    refine om_nil ?_
    simp only [Zu, Za, Zb, Zg, Zh, Zi, Zk, Zl, Zm, Zn, ↓reduceIte, reduceCtorEq, Zd, Ze, Zc, Zf, Z11, mdR]
    exact PostR.pure ⟨rfl, rfl⟩ rfl
theorem dok_of {bs rs ps ra : List Int} {q : List Nat} (S : Scl bs rs) (P : Pys ps) (R : Rts ra) (T : Tbl q) (o : ∀ x ∈ q, okW x) : Dok bs rs ps ra q := by
  refine ⟨S, P, R, T, o, ?_⟩
  unfold validD
  rw [S.ok, R.ok, T.ok]
  have a : amountsB ps 60 = true := by
    unfold amountsB
    have h1 := P.one
    have h6 := P.six
    rw [decide_eq_true (show 1 ≤ ps.length ∧ ps.length ≤ 60 by omega), P.all 0 1000000000000 (by decide) (by decide)]
    rfl
  rw [a]; rfl
theorem desk_call (code : List Int) (hc : byteL code) (hl : code.length ≤ 1048576) : CallA Tryz.prog 23 [.ptr 0 0 0] [srcB code 0 0] (fun r hp => ∃ (bs rs ps ra : List Int) (q : List Nat) (a : Nat) (sd : Int), Dok bs rs ps ra q ∧ bs.length ≤ 4 ∧ (∀ b ∈ bs, b ≤ 16000) ∧ r = .agg [.sl 1 0 bs.length, .sl 2 0 bs.length, .sl 3 0 ps.length, .sl 4 0 ra.length, .sl 5 0 q.length] ∧ hp = [srcB code a sd, intB bs, intB rs, intB ps, intB ra, fltB q]) := by
  refine CallP.out (t := .mk) (go_in (md := md23) mixed Tryz.func23 rfl go23 (by kernel_rfl) ?_)
  simp only [Zu, Za, Zb, Zg, Zh, Zi, Zk, Zl, Zm, Zn, ↓reduceIte, reduceCtorEq, Zd, Ze, Zc, Zf, Z23]
  refine call_handedQ [0] (l02DrawOk_call code hc hl 0 (by decide) 0) (by decide) ⟨⟨rfl, rfl⟩, trivial⟩ rfl rfl ?_
  rintro r hps' ⟨bs, rs, a1, sd1, ⟨S, b4, b16⟩, ha1, rfl, rfl⟩
  refine ⟨?_, ?_⟩
  · intro y hy
    simp at hy
    rcases hy with rfl | rfl | rfl
    · rfl
    · exact ints_below _ _
    · exact ints_below _ _
  simp only [Zu, Za, Zb, Zg, Zh, Zi, Zk, Zl, Zm, Zn, ↓reduceIte, reduceCtorEq, Zd, Ze, Zc, Zf, Z23, ren, renM, renL, putF, upName]
  refine call_handedQ [0] (drawPays_call code hc hl a1 (by omega) sd1) (by decide) ⟨⟨rfl, rfl⟩, trivial⟩ rfl rfl ?_
  rintro r hps' ⟨ps, a2, sd2, ⟨p1, p5, pb⟩, ha2, rfl, rfl⟩
  refine ⟨?_, ?_⟩
  · intro y hy
    simp at hy
    rcases hy with rfl | rfl
    · rfl
    · exact ints_below _ _
  simp only [Zu, Za, Zb, Zg, Zh, Zi, Zk, Zl, Zm, Zn, ↓reduceIte, reduceCtorEq, Zd, Ze, Zc, Zf, Z23, ren, renM, renL, putF, upName]
  refine call_handedQ [0] (drawRates_call code hc hl a2 (by omega) sd2) (by decide) ⟨⟨rfl, rfl⟩, trivial⟩ rfl rfl ?_
  rintro r hps' ⟨ra, a3, sd3, ⟨r1, r5, rb⟩, ha3, rfl, rfl⟩
  refine ⟨?_, ?_⟩
  · intro y hy
    simp at hy
    rcases hy with rfl | rfl
    · rfl
    · exact ints_below _ _
  simp only [Zu, Za, Zb, Zg, Zh, Zi, Zk, Zl, Zm, Zn, ↓reduceIte, reduceCtorEq, Zd, Ze, Zc, Zf, Z23, ren, renM, renL, putF, upName]
  refine call_handedQ [0] (drawTable_call code hc hl a3 (by omega) sd3) (by decide) ⟨⟨rfl, rfl⟩, trivial⟩ rfl rfl ?_
  rintro r hps' ⟨q, a4, sd4, T, okq, ha4, rfl, rfl⟩
  refine ⟨?_, ?_⟩
  · intro y hy
    simp at hy
    rcases hy with rfl | rfl
    · rfl
    · exact flts_below _ _
  simp only [Zu, Za, Zb, Zg, Zh, Zi, Zk, Zl, Zm, Zn, ↓reduceIte, reduceCtorEq, Zd, Ze, Zc, Zf, Z23, ren, renM, renL, putF, upName]
  have P : Pys ps := ⟨p1, by omega, pb⟩
  have R : Rts ra := ⟨r1, by omega, fun x hx => by have := rb x hx; omega⟩
  refine PostR.tell [0, 2, 3, 5, 6, 7] (r2 := .agg [.sl 1 0 bs.length, .sl 2 0 bs.length, .sl 3 0 ps.length, .sl 4 0 ra.length, .sl 5 0 q.length]) (hp2 := [srcB code a4 sd4, intB bs, intB rs, intB ps, intB ra, fltB q]) (by decide) (by decide) (by decide) ?_ rfl rfl ?_
  rotate_left
  · exact ⟨bs, rs, ps, ra, q, a4, sd4, dok_of S P R T okq, b4, b16, rfl, rfl⟩
  exact ⟨⟨rfl, rfl⟩, ⟨congrArg some (renB_flat (r := intB _) (ints_below _ _)).symm, ints_below _ _⟩, ⟨congrArg some (renB_flat (r := intB _) (ints_below _ _)).symm, ints_below _ _⟩, ⟨congrArg some (renB_flat (r := intB _) (ints_below _ _)).symm, ints_below _ _⟩, ⟨congrArg some (renB_flat (r := intB _) (ints_below _ _)).symm, ints_below _ _⟩, ⟨congrArg some (renB_flat (r := fltB _) (flts_below _ _)).symm, flts_below _ _⟩, trivial⟩
theorem view_desk (bs rs ps ra : List Int) (q : List Nat) : view 3 [intB bs, intB rs, intB ps, intB ra, fltB q] (.agg [.sl 0 0 bs.length, .sl 1 0 rs.length, .sl 2 0 ps.length, .sl 3 0 ra.length, .sl 4 0 q.length]) = deskV bs rs ps ra q := by
  unfold deskV
  simp only [view_agg, List.map_cons, List.map_nil, view_in (hp := [intB bs, intB rs, intB ps, intB ra, fltB q]) (i := 0) rfl rfl, view_in (hp := [intB bs, intB rs, intB ps, intB ra, fltB q]) (i := 1) rfl rfl, view_in (hp := [intB bs, intB rs, intB ps, intB ra, fltB q]) (i := 2) rfl rfl, view_in (hp := [intB bs, intB rs, intB ps, intB ra, fltB q]) (i := 3) rfl rfl, view_fl (hp := [intB bs, intB rs, intB ps, intB ra, fltB q]) (i := 4) rfl rfl]
theorem newDesk_call : CallA Tryz.prog 21 [] [] (Ret (deskV [0, 1000] [1000, 2000] [100, 250, 400] [500, 0, -500] [1056964608, 1056964608, 1065353216]) []) := by
  refine CallA.frozen 3 (r := .agg [.sl 0 0 2, .sl 1 0 2, .sl 2 0 3, .sl 3 0 3, .sl 4 0 3]) (new := [intB [0, 1000], intB [1000, 2000], intB [100, 250, 400], intB [500, 0, -500], fltB [1056964608, 1056964608, 1065353216]]) ?_ ?_
  · refine CallP.out (t := .mk) (go_in (md := md21) mixed Tryz.func21 rfl go21 (by kernel_rfl) ?_)
    have k1 : canon .f32 1056964608 = 1056964608 := by decide +kernel
    have k2 : canon .f32 1065353216 = 1065353216 := by decide +kernel
    simp only [Zu, Za, Zb, Zg, Zh, Zi, Zk, Zl, Zm, Zn, ↓reduceIte, reduceCtorEq, Zd, Ze, Zc, Zf, Z21, k1, k2]
    refine PostR.tell [1, 2, 3, 4, 5] (hp2 := [intB [0, 1000], intB [1000, 2000], intB [100, 250, 400], intB [500, 0, -500], fltB [1056964608, 1056964608, 1065353216]]) (by decide) (by decide) (by decide) ?_ rfl rfl ⟨rfl, rfl⟩
    exact ⟨⟨rfl, rfl⟩, ⟨rfl, rfl⟩, ⟨rfl, rfl⟩, ⟨rfl, rfl⟩, ⟨rfl, rfl⟩, trivial⟩
  · exact view_desk [0, 1000] [1000, 2000] [100, 250, 400] [500, 0, -500] [1056964608, 1056964608, 1065353216]
theorem newDesk_ok : Dok [0, 1000] [1000, 2000] [100, 250, 400] [500, 0, -500] [1056964608, 1056964608, 1065353216] := by
  refine dok_of ⟨?_, rfl, rfl, by decide, by decide, by decide⟩ ⟨by decide, by decide, by decide⟩ ⟨by decide, by decide, by decide⟩ (tab_of (out := [1056964608, 1056964608]) (by decide) ?_) ?_
  · exact ⟨by decide, trivial⟩
  · intro x hx
    simp at hx
    rcases hx with rfl
    decide +kernel
  · intro x hx
    simp at hx
    rcases hx with rfl | rfl
    · exact ⟨by decide, fun h => by revert h; decide +kernel⟩
    · exact ⟨by decide, fun h => by revert h; decide +kernel⟩
section
variable {bs rs ps ra : List Int} {q : List Nat}
def ln (w t : List UInt8) : List UInt8 := w ++ 32 :: t
theorem ln_cut {w t : List UInt8} (hw : (32 : UInt8) ∉ w) (ht : (32 : UInt8) ∉ t) : cutA 32 [] (ln w t) = [w, t] := by
  unfold ln
  rw [cutA_at 32 w [] t hw, cutA_no 32 t [] ht]; rfl
theorem ln_cut3 {w t u : List UInt8} (hw : (32 : UInt8) ∉ w) (ht : (32 : UInt8) ∉ t) (hu : (32 : UInt8) ∉ u) : cutA 32 [] (ln w (ln t u)) = [w, t, u] := by
  unfold ln
  rw [cutA_at 32 w [] _ hw, cutA_at 32 t [] u ht, cutA_no 32 u [] hu]; rfl
theorem w_cut {w : List UInt8} (hw : (32 : UInt8) ∉ w) : cutA 32 [] w = [w] := cutA_no 32 w [] hw
theorem ln_len (w t : List UInt8) : (ln w t).length = w.length + 1 + t.length := by simp [ln]; omega
theorem ln_10 {w t : List UInt8} (hw : (10 : UInt8) ∉ w) (ht : (10 : UInt8) ∉ t) : (10 : UInt8) ∉ ln w t := by
  intro h
  rcases List.mem_append.1 h with h | h
  · exact hw h
  · rcases List.mem_cons.1 h with h | h
    · revert h; decide
    · exact ht h
theorem scT_no {c : UInt8} (h0 : c ≠ 44) (h1 : c ≠ 45) (h2 : dig c = false) (h3 : c ≠ 59) (bs rs : List Int) : c ∉ scT bs rs := by
  intro h
  rcases List.mem_append.1 h with h | h
  · exact txt_no h0 h1 h2 bs h
  · rcases List.mem_cons.1 h with h | h
    · exact h3 h
    · exact txt_no h0 h1 h2 rs h
theorem wds_len (xs : List Nat) (h : 1 ≤ xs.length) : (wdsT (hexW xs)).length ≤ xs.length * 9 := by
  have e : hexW xs ≠ [] := by intro e; have := congrArg List.length e; rw [hexW_len] at this; simp at this; rw [this] at h; simp at h
  unfold wdsT
  rw [if_neg e]
  have := (join_len (L := 8) (W := hexW xs) fun x hx => by obtain ⟨y, _, rfl⟩ := List.mem_map.1 hx; exact hexT_len y 8).1
  rw [hexW_len] at this
  omega
end
def DokV (d : DV) : Prop := Dok d.1 d.2.1 d.2.2.1 d.2.2.2.1 d.2.2.2.2
structure Ans (d : DV) (line : List UInt8) (d' : DV) (out : List UInt8) : Prop where
  call : CallA Tryz.prog 26 [dvA d, .str line] [] (Ret (.tup [dvA d', .str out]) [])
  ok : DokV d'
  bad : badB out = true → d' = d
  no10 : (10 : UInt8) ∉ out
  len : out.length ≤ 500
section
variable {bs rs ps ra : List Int} {q : List Nat}
theorem ans_no (D : Dok bs rs ps ra q) {line : List UInt8} (c : CallA Tryz.prog 26 [deskV bs rs ps ra q, .str line] [] (Ret (.tup [deskV bs rs ps ra q, .str [110, 111]]) [])) : ∃ d' out, Ans (bs, rs, ps, ra, q) line d' out :=
  ⟨(bs, rs, ps, ra, q), [110, 111], c, D, fun _ => rfl, by decide, by decide⟩
theorem ans_what (D : Dok bs rs ps ra q) {line : List UInt8} (c : CallA Tryz.prog 26 [deskV bs rs ps ra q, .str line] [] (Ret (.tup [deskV bs rs ps ra q, .str [119, 104, 97, 116]]) [])) : ∃ d' out, Ans (bs, rs, ps, ra, q) line d' out :=
  ⟨(bs, rs, ps, ra, q), [119, 104, 97, 116], c, D, fun _ => rfl, by decide, by decide⟩
theorem ans_ok {bs' rs' ps' ra' : List Int} {q' : List Nat} (D' : Dok bs' rs' ps' ra' q') {line : List UInt8} (c : CallA Tryz.prog 26 [deskV bs rs ps ra q, .str line] [] (Ret (.tup [deskV bs' rs' ps' ra' q', .str [111, 107]]) [])) : ∃ d' out, Ans (bs, rs, ps, ra, q) line d' out :=
  ⟨(bs', rs', ps', ra', q'), [111, 107], c, D', fun h => absurd h (by decide), by decide, by decide⟩
theorem ans_out (D : Dok bs rs ps ra q) {line out : List UInt8} (c : CallA Tryz.prog 26 [deskV bs rs ps ra q, .str line] [] (Ret (.tup [deskV bs rs ps ra q, .str out]) [])) (h10 : (10 : UInt8) ∉ out) (hl : out.length ≤ 500) : ∃ d' out, Ans (bs, rs, ps, ra, q) line d' out :=
  ⟨(bs, rs, ps, ra, q), out, c, D, fun _ => rfl, h10, hl⟩
theorem sc_len {bs rs : List Int} (S : Scl bs rs) : (scT bs rs).length ≤ 400 := by
  have a := S.cap
  have b := S.len
  have t1 := txt_len (sep := [44]) (by decide) bs fun x hx => by have := S.top x hx; exact ⟨by omega, by omega⟩
  have t2 := txt_len (sep := [44]) (by decide) rs fun x hx => by have := S.rate x hx; exact ⟨by omega, by omega⟩
  unfold scT
  simp only [List.length_append, List.length_cons]
  omega
theorem ans_scale (D : Dok bs rs ps ra q) {bs' rs' : List Int} (S : Scl bs' rs') : ∃ d' out, Ans (bs, rs, ps, ra, q) (ln [115, 99, 97, 108, 101] (scT bs' rs')) d' out := by
  have D' : Dok bs' rs' ps ra q := dok_of S D.pys D.rts D.tab D.okw
  have e := ln_cut (w := [115, 99, 97, 108, 101]) (t := scT bs' rs') (by decide) (scT_no (by decide) (by decide) (by decide) (by decide) _ _)
  have l := sc_len S
  exact ans_ok D' (cmd_part D D' _ _ (by rw [ln_len]; simp only [List.length_cons, List.length_nil]; omega) (by rw [e]; exact set_scale D' false))
theorem tx_len {xs : List Int} (h : xs.length ≤ 6) (hb : ∀ x ∈ xs, okM x) : (txt [44] xs).length ≤ 144 := by
  have := txt_len (sep := [44]) (by decide) xs fun x hx => (hb x hx).i
  omega
theorem ans_pays (D : Dok bs rs ps ra q) {xs : List Int} (P : Pys xs) : ∃ d' out, Ans (bs, rs, ps, ra, q) (ln [112, 97, 121, 115] (txt [44] xs)) d' out := by
  have D' : Dok bs rs xs ra q := dok_of D.scl P D.rts D.tab D.okw
  have e := ln_cut (w := [112, 97, 121, 115]) (t := txt [44] xs) (by decide) (txt_no (by decide) (by decide) (by decide) _)
  have l := tx_len P.six D'.pm
  exact ans_ok D' (cmd_part D D' _ _ (by rw [ln_len]; simp only [List.length_cons, List.length_nil]; omega) (by rw [e]; exact set_pays D' false))
theorem ans_rates (D : Dok bs rs ps ra q) {xs : List Int} (R : Rts xs) : ∃ d' out, Ans (bs, rs, ps, ra, q) (ln [114, 97, 116, 101, 115] (txt [44] xs)) d' out := by
  have D' : Dok bs rs ps xs q := dok_of D.scl D.pys R D.tab D.okw
  have e := ln_cut (w := [114, 97, 116, 101, 115]) (t := txt [44] xs) (by decide) (txt_no (by decide) (by decide) (by decide) _)
  have l := tx_len R.six D'.am
  exact ans_ok D' (cmd_part D D' _ _ (by rw [ln_len]; simp only [List.length_cons, List.length_nil]; omega) (by rw [e]; exact set_rates D' false))
theorem ans_table (D : Dok bs rs ps ra q) {xs : List Nat} (T : Tbl xs) (ok : ∀ x ∈ xs, okW x) : ∃ d' out, Ans (bs, rs, ps, ra, q) (ln [116, 97, 98, 108, 101] (wdsT (hexW xs))) d' out := by
  have D' : Dok bs rs ps ra xs := dok_of D.scl D.pys D.rts T ok
  have e := ln_cut (w := [116, 97, 98, 108, 101]) (t := wdsT (hexW xs)) (by decide) (wds_no xs T.one).1
  have l := wds_len xs T.one
  have l6 := T.six
  exact ans_ok D' (cmd_part D D' _ _ (by rw [ln_len]; simp only [List.length_cons, List.length_nil]; omega) (by rw [e]; exact set_table D' false))
end
section
variable {bs rs ps ra : List Int} {q : List Nat}
theorem n32 (m : Int) : (32 : UInt8) ∉ Lib.itoa m := itoa_no (by decide) (by decide) m
theorem n10 (m : Int) : (10 : UInt8) ∉ Lib.itoa m := itoa_no (by decide) (by decide) m
theorem t10 (xs : List Int) : (10 : UInt8) ∉ txt [44] xs := txt_no (by decide) (by decide) (by decide) xs
theorem ls10 (xs : List Int) : (10 : UInt8) ∉ lsT xs := by
  unfold lsT
  split
  · decide
  · exact t10 xs
theorem i21 {m : Int} (h : okM m) : (Lib.itoa m).length ≤ 21 := itoa_len h.i
theorem l1 {w : List UInt8} (hw : w.length ≤ 8) {m : Int} (h : okM m) : (ln w (Lib.itoa m)).length ≤ 1048576 := by
  rw [ln_len]; have := i21 h; omega
theorem l2 {w : List UInt8} (hw : w.length ≤ 8) {m k : Int} (h : okM m) (hk : okM k) : (ln w (ln (Lib.itoa m) (Lib.itoa k))).length ≤ 1048576 := by
  rw [ln_len, ln_len]; have := i21 h; have := i21 hk; omega
theorem c1 {w : List UInt8} (hw : (32 : UInt8) ∉ w) (m : Int) : cutA 32 [] (ln w (Lib.itoa m)) = [w, Lib.itoa m] := ln_cut hw (n32 m)
theorem c2 {w : List UInt8} (hw : (32 : UInt8) ∉ w) (m k : Int) : cutA 32 [] (ln w (ln (Lib.itoa m) (Lib.itoa k))) = [w, Lib.itoa m, Lib.itoa k] := ln_cut3 hw (n32 m) (n32 k)
theorem ans_trim (D : Dok bs rs ps ra q) : ∃ d' out, Ans (bs, rs, ps, ra, q) [116, 114, 105, 109] d' out := by
  have e := w_cut (w := [116, 114, 105, 109]) (by decide)
  exact ans_ok (dok_of (trim_of D.scl).1 D.pys D.rts D.tab D.okw) (cmd_plain D (dok_of (trim_of D.scl).1 D.pys D.rts D.tab D.okw) _ _ (by decide) (by rw [e]; exact (by decide : (1 : Nat) < 3)) (by rw [e]; exact not_trim false) (by rw [e]; exact do_trim D false))
theorem ans_alive (D : Dok bs rs ps ra q) : ∃ d' out, Ans (bs, rs, ps, ra, q) [97, 108, 105, 118, 101] d' out := by
  have e := w_cut (w := [97, 108, 105, 118, 101]) (by decide)
  have a1 : 1 ≤ (alvL q).length := by rw [alvL_len]; exact D.tab.one
  have l := wds_len (alvL q) a1
  rw [alvL_len] at l
  have h6 := D.tab.six
  exact ans_out D (cmd_plain D D _ _ (by decide) (by rw [e]; exact (by decide : (1 : Nat) < 3)) (by rw [e]; exact not_alive false) (by rw [e]; exact do_alive D false)) (wds_no _ a1).2 (by omega)
theorem ans_life (D : Dok bs rs ps ra q) : ∃ d' out, Ans (bs, rs, ps, ra, q) [108, 105, 102, 101] d' out := by
  have e := w_cut (w := [108, 105, 102, 101]) (by decide)
  have dl := fun bad => do_life D bad
  have l := wds_len [if finB .f32 (yrF q) then yrF q else 0] (by simp)
  have w := (wds_no [if finB .f32 (yrF q) then yrF q else 0] (by simp)).2
  cases hb : finB .f32 (yrF q) with
  | true =>
    rw [hb] at dl l w
    exact ans_out D (cmd_plain D D _ _ (by decide) (by rw [e]; exact (by decide : (1 : Nat) < 3)) (by rw [e]; exact not_life false) (by rw [e]; exact dl false)) w (by simp at l ⊢; omega)
  | false =>
    rw [hb] at dl
    exact ans_no D (cmd_noL D _ _ (by decide) (dsk_below bs rs ps ra q) (by rw [e]; exact (by decide : (1 : Nat) < 3)) (by rw [e]; exact not_life false) (by rw [e]; exact dl false))
theorem ans_rate (D : Dok bs rs ps ra q) (n : Int) (h0 : 0 ≤ n) (h1 : n ≤ 10000) : ∃ d' out, Ans (bs, rs, ps, ra, q) (ln [114, 97, 116, 101] (Lib.itoa n)) d' out := by
  have e := c1 (w := [114, 97, 116, 101]) (by decide) n
  have r := D.scl.rt n
  have hn : okM n := ⟨by omega, by omega⟩
  have ho : okM (rtG bs rs n) := ⟨by omega, by omega⟩
  exact ans_out D (cmd_plain D D _ _ (l1 (by decide) hn) (by rw [e]; exact (by decide : (2 : Nat) < 3)) (by rw [e]; exact not_rate _ false) (by rw [e]; exact do_rate D n h0 h1 false)) (n10 _) (by have := i21 ho; omega)
theorem ans_share (D : Dok bs rs ps ra q) (n : Int) (h0 : 0 ≤ n) (h1 : n ≤ 10000) : ∃ d' out, Ans (bs, rs, ps, ra, q) (ln [115, 104, 97, 114, 101] (Lib.itoa n)) d' out := by
  have e := c1 (w := [115, 104, 97, 114, 101]) (by decide) n
  have hn : okM n := ⟨by omega, by omega⟩
  have h6 := D.pys.six
  exact ans_out D (cmd_plain D D _ _ (l1 (by decide) hn) (by rw [e]; exact (by decide : (2 : Nat) < 3)) (by rw [e]; exact not_share _ false) (by rw [e]; exact do_share D n h0 h1 false)) (t10 _) (by have := tx_len (xs := larL ps n) (by rw [larL_len]; exact h6) (lar_bound D.pys h0 h1); omega)
theorem ans_safe (D : Dok bs rs ps ra q) (n : Int) (h0 : 0 ≤ n) (h1 : n ≤ 10000) : ∃ d' out, Ans (bs, rs, ps, ra, q) (ln [115, 97, 102, 101] (Lib.itoa n)) d' out := by
  have e := c1 (w := [115, 97, 102, 101]) (by decide) n
  have hn : okM n := ⟨by omega, by omega⟩
  have s := (safe_call D.rts n h0 (by omega)).1
  have ho : okM (safV ra n) := ⟨by omega, by omega⟩
  exact ans_out D (cmd_plain D D _ _ (l1 (by decide) hn) (by rw [e]; exact (by decide : (2 : Nat) < 3)) (by rw [e]; exact not_safe _ false) (by rw [e]; exact do_safe D n h0 h1 false)) (n10 _) (by have := i21 ho; omega)
theorem ans_hold (D : Dok bs rs ps ra q) (n : Int) (h0 : 0 ≤ n) (h1 : n ≤ 10000) : ∃ d' out, Ans (bs, rs, ps, ra, q) (ln [104, 111, 108, 100] (Lib.itoa n)) d' out := by
  have e := c1 (w := [104, 111, 108, 100]) (by decide) n
  have hn : okM n := ⟨by omega, by omega⟩
  have h6 := D.pys.six
  by_cases h3 : n ≤ 3
  · exact ans_out D (cmd_plain D D _ _ (l1 (by decide) hn) (by rw [e]; exact (by decide : (2 : Nat) < 3)) (by rw [e]; exact not_hold _ false) (by rw [e]; exact do_hold D n h0 h3 false)) (t10 _) (by have := tx_len (xs := whL bs rs ps n) (by rw [whL_len]; exact h6) (wh_ok D.scl D.pys h0 h3); omega)
  · exact ans_no D (cmd_noL D _ _ (l1 (by decide) hn) (dsk_below bs rs ps ra q) (by rw [e]; exact (by decide : (2 : Nat) < 3)) (by rw [e]; exact not_hold _ false) (by rw [e]; exact no_hold D n (by omega) h1 false))
theorem ans_fund (D : Dok bs rs ps ra q) (n : Int) (h0 : 0 ≤ n) (h1 : n ≤ 4000) : ∃ d' out, Ans (bs, rs, ps, ra, q) (ln [102, 117, 110, 100] (Lib.itoa n)) d' out := by
  have e := c1 (w := [102, 117, 110, 100]) (by decide) n
  have hn : okM n := ⟨by omega, by omega⟩
  have h6 := D.pys.six
  by_cases hl : ra.length = ps.length
  · exact ans_out D (cmd_plain D D _ _ (l1 (by decide) hn) (by rw [e]; exact (by decide : (2 : Nat) < 3)) (by rw [e]; exact not_fund _ false) (by rw [e]; exact do_fund D n h0 h1 hl false)) (ls10 _) (by have := lsT_len (fnL ps ra n ps.length) (by unfold fnL; rw [rngL_len]; exact h6) (fnL_ok D.pys D.rts hl h0 h1); omega)
  · exact ans_no D (cmd_noL D _ _ (l1 (by decide) hn) (dsk_below bs rs ps ra q) (by rw [e]; exact (by decide : (2 : Nat) < 3)) (by rw [e]; exact not_fund _ false) (by rw [e]; exact no_fund D n h0 h1 hl false))
theorem ans_mix (D : Dok bs rs ps ra q) (n : Int) (h0 : 0 ≤ n) (h1 : n ≤ 100000) : ∃ d' out, Ans (bs, rs, ps, ra, q) (ln [109, 105, 120] (Lib.itoa n)) d' out := by
  have e := c1 (w := [109, 105, 120]) (by decide) n
  have hn : okM n := ⟨by omega, by omega⟩
  by_cases h2 : n ≤ 20000
  · cases hs : scaleB bs (mixL rs n) with
    | true =>
      have S2 := Scl.of hs
      have D' := dok_of S2 D.pys D.rts D.tab D.okw
      exact ans_ok D' (cmd_plain D D' _ _ (l1 (by decide) hn) (by rw [e]; exact (by decide : (2 : Nat) < 3)) (by rw [e]; exact not_mix _ false) (by rw [e]; exact do_mix D n h0 h2 S2 false))
    | false => exact ans_no D (cmd_noL D _ _ (l1 (by decide) hn) (dskZ_below ps ra q) (by rw [e]; exact (by decide : (2 : Nat) < 3)) (by rw [e]; exact not_mix _ false) (by rw [e]; exact no_mix D n h0 (by omega) (mix_no D.scl n h0 h2 hs) false))
  · exact ans_no D (cmd_noL D _ _ (l1 (by decide) hn) (dskZ_below ps ra q) (by rw [e]; exact (by decide : (2 : Nat) < 3)) (by rw [e]; exact not_mix _ false) (by rw [e]; exact no_mix D n h0 (by omega) (mix_out D.scl n (by omega)) false))
end
section
variable {bs rs ps ra : List Int} {q : List Nat}
theorem p2l {a b : Int} (ha : okM a) (hb : okM b) : (txt [44] [a, b]).length ≤ 144 := tx_len (by simp) (by intro x hx; simp at hx; rcases hx with rfl | rfl <;> assumption)
theorem ans_mean (D : Dok bs rs ps ra q) (n : Int) (h0 : 0 ≤ n) (h1 : n ≤ 10000) : ∃ d' out, Ans (bs, rs, ps, ra, q) (ln [109, 101, 97, 110] (Lib.itoa n)) d' out := by
  have e := c1 (w := [109, 101, 97, 110]) (by decide) n
  have hn : okM n := ⟨by omega, by omega⟩
  have z : okM 0 := ⟨by omega, by omega⟩
  by_cases hz : n = 0
  · subst hz
    exact ans_no D (cmd_noL D _ _ (l1 (by decide) hn) (dsk_below bs rs ps ra q) (by rw [e]; exact (by decide : (2 : Nat) < 3)) (by rw [e]; exact not_mean _ false) (by rw [e]; exact do_mean D 0 0 0 h0 h1 z z (mean_no D.scl) false))
  · obtain ⟨p, r, g, c, g0, g1, g2, g3, g4⟩ := meanRate_call D.scl n (by omega) (by omega)
    have ex := D.scl.ex (c := n) h0
    have hg : (1 : Int) ≤ g := by omega
    have b1 : p ≤ p * g := by have := Int.mul_le_mul_of_nonneg_left hg g0; omega
    have b2 : r ≤ r * g := by have := Int.mul_le_mul_of_nonneg_left hg (show 0 ≤ r by omega); omega
    have hp : okM p := ⟨by omega, by omega⟩
    have hr : okM r := ⟨by omega, by omega⟩
    exact ans_out D (cmd_plain D D _ _ (l1 (by decide) hn) (by rw [e]; exact (by decide : (2 : Nat) < 3)) (by rw [e]; exact not_mean _ false) (by rw [e]; exact do_mean D n p r h0 h1 hp hr c false)) (t10 _) (by have := p2l hp hr; omega)
theorem ans_best (D : Dok bs rs ps ra q) (n : Int) (h0 : 0 ≤ n) (h1 : n ≤ 10000) : ∃ d' out, Ans (bs, rs, ps, ra, q) (ln [98, 101, 115, 116] (Lib.itoa n)) d' out := by
  have e := c1 (w := [98, 101, 115, 116]) (by decide) n
  have hn : okM n := ⟨by omega, by omega⟩
  have z : okM 0 := ⟨by omega, by omega⟩
  cases hi : inR 1 ps.length n with
  | false => exact ans_no D (cmd_noL D _ _ (l1 (by decide) hn) (dsk_below bs rs ps ra q) (by rw [e]; exact (by decide : (2 : Nat) < 3)) (by rw [e]; exact not_best _ false) (by rw [e]; exact do_best D n 0 h0 h1 z (best_no D.pys n hi) false))
  | true =>
    obtain ⟨i1, i2⟩ := inR_iff.1 hi
    obtain ⟨c, rfl⟩ := Int.eq_ofNat_of_zero_le h0
    obtain ⟨⟨v0, v1⟩, cc⟩ := best_yes D.pys c (by omega) (by omega)
    have hv : okM (bstV ps c) := ⟨by omega, by omega⟩
    exact ans_out D (cmd_plain D D _ _ (l1 (by decide) hn) (by rw [e]; exact (by decide : (2 : Nat) < 3)) (by rw [e]; exact not_best _ false) (by rw [e]; exact do_best D _ (bstV ps c) h0 h1 hv cc false)) (n10 _) (by have := i21 hv; omega)
theorem ans_span (D : Dok bs rs ps ra q) (n : Int) (h0 : 0 ≤ n) (h1 : n ≤ 10000) : ∃ d' out, Ans (bs, rs, ps, ra, q) (ln [115, 112, 97, 110] (Lib.itoa n)) d' out := by
  have e := c1 (w := [115, 112, 97, 110]) (by decide) n
  have hn : okM n := ⟨by omega, by omega⟩
  have z : okM 0 := ⟨by omega, by omega⟩
  cases hi : inR 1 ps.length n with
  | false => exact ans_no D (cmd_noL D _ _ (l1 (by decide) hn) (dsk_below bs rs ps ra q) (by rw [e]; exact (by decide : (2 : Nat) < 3)) (by rw [e]; exact not_span _ false) (by rw [e]; exact do_span D n 0 0 h0 h1 z z (span_no D.pys n hi) false))
  | true =>
    obtain ⟨i1, i2⟩ := inR_iff.1 hi
    obtain ⟨c, rfl⟩ := Int.eq_ofNat_of_zero_le h0
    obtain ⟨p, v, p6, ⟨v0, v1⟩, cc⟩ := span_yes D.pys c (by omega) (by omega)
    have hp : okM ((p : Nat) : Int) := ⟨by omega, by omega⟩
    have hv : okM v := ⟨by omega, by omega⟩
    exact ans_out D (cmd_plain D D _ _ (l1 (by decide) hn) (by rw [e]; exact (by decide : (2 : Nat) < 3)) (by rw [e]; exact not_span _ false) (by rw [e]; exact do_span D _ (p : Int) v h0 h1 hp hv cc false)) (t10 _) (by have := p2l hp hv; omega)
theorem ask_b {n k : Int} (h0 : 0 ≤ n) (h1 : n ≤ 10000) (k0 : 0 ≤ k) (h : ¬ k ≤ 3) : (inR 0 1000000000000 n && inR 0 3 k) = false := by
  rw [inR_up (lo := 0) (hi := 3) (n := k) (by omega), Bool.and_false]
theorem ans_due (D : Dok bs rs ps ra q) (n k : Int) (h0 : 0 ≤ n) (h1 : n ≤ 10000) (k0 : 0 ≤ k) (k1 : k ≤ 10000) : ∃ d' out, Ans (bs, rs, ps, ra, q) (ln [100, 117, 101] (ln (Lib.itoa n) (Lib.itoa k))) d' out := by
  have e := c2 (w := [100, 117, 101]) (by decide) n k
  have hn : okM n := ⟨by omega, by omega⟩
  have hk : okM k := ⟨by omega, by omega⟩
  have z : okM 0 := ⟨by omega, by omega⟩
  by_cases h : k ≤ 3
  · have db := D.scl.due (c := n) (w := k) h0 k0 h
    have hv : okM (dueF bs rs n k) := ⟨by omega, by omega⟩
    exact ans_out D (cmd_double D _ _ (l2 (by decide) hn hk) (by rw [e]; rfl) (by rw [e]; exact not_due _ _ false) (by rw [e]; exact dg_due D n k (by omega) h1 k0 k1 _ hv (dueOf_call D.scl n k h0 (by omega) k0 h) false)) (n10 _) (by have := i21 hv; omega)
  · exact ans_no D (cmd_noD D _ _ (l2 (by decide) hn hk) (dsk_below bs rs ps ra q) (by rw [e]; rfl) (by rw [e]; exact not_due _ _ false) (by rw [e]; exact dg_due D n k (by omega) h1 k0 k1 0 z (dueOf_no D.scl (ask_b h0 h1 k0 h)) false))
theorem ans_net (D : Dok bs rs ps ra q) (n k : Int) (h0 : 0 ≤ n) (h1 : n ≤ 10000) (k0 : 0 ≤ k) (k1 : k ≤ 10000) : ∃ d' out, Ans (bs, rs, ps, ra, q) (ln [110, 101, 116] (ln (Lib.itoa n) (Lib.itoa k))) d' out := by
  have e := c2 (w := [110, 101, 116]) (by decide) n k
  have hn : okM n := ⟨by omega, by omega⟩
  have hk : okM k := ⟨by omega, by omega⟩
  have z : okM 0 := ⟨by omega, by omega⟩
  by_cases h : k ≤ 3
  · have db := D.scl.due (c := n) (w := k) h0 k0 h
    have nf : netF bs rs n k = n - dueF bs rs n k := rfl
    have hv : okM (netF bs rs n k) := ⟨by omega, by omega⟩
    exact ans_out D (cmd_double D _ _ (l2 (by decide) hn hk) (by rw [e]; rfl) (by rw [e]; exact not_net _ _ false) (by rw [e]; exact dg_net D n k (by omega) h1 k0 k1 _ hv (netOf_call D.scl n k h0 (by omega) k0 h) false)) (n10 _) (by have := i21 hv; omega)
  · exact ans_no D (cmd_noD D _ _ (l2 (by decide) hn hk) (dsk_below bs rs ps ra q) (by rw [e]; rfl) (by rw [e]; exact not_net _ _ false) (by rw [e]; exact dg_net D n k (by omega) h1 k0 k1 0 z (netOf_no D.scl (ask_b h0 h1 k0 h)) false))
theorem ans_gross (D : Dok bs rs ps ra q) (n k : Int) (h0 : 0 ≤ n) (h1 : n ≤ 10000) (k0 : 0 ≤ k) (k1 : k ≤ 10000) : ∃ d' out, Ans (bs, rs, ps, ra, q) (ln [103, 114, 111, 115, 115] (ln (Lib.itoa n) (Lib.itoa k))) d' out := by
  have e := c2 (w := [103, 114, 111, 115, 115]) (by decide) n k
  have hn : okM n := ⟨by omega, by omega⟩
  have hk : okM k := ⟨by omega, by omega⟩
  have z : okM 0 := ⟨by omega, by omega⟩
  by_cases h : k ≤ 3
  · obtain ⟨v, ok, hv, c⟩ := gross_ex D.scl n k h0 (by omega) k0 h
    cases ok with
    | true => exact ans_out D (cmd_double D _ _ (l2 (by decide) hn hk) (by rw [e]; rfl) (by rw [e]; exact not_gross _ _ false) (by rw [e]; exact dg_gross D n k (by omega) h1 k0 k1 v hv c false)) (n10 _) (by have := i21 hv; omega)
    | false => exact ans_no D (cmd_noD D _ _ (l2 (by decide) hn hk) (dsk_below bs rs ps ra q) (by rw [e]; rfl) (by rw [e]; exact not_gross _ _ false) (by rw [e]; exact dg_gross D n k (by omega) h1 k0 k1 v hv c false))
  · exact ans_no D (cmd_noD D _ _ (l2 (by decide) hn hk) (dsk_below bs rs ps ra q) (by rw [e]; rfl) (by rw [e]; exact not_gross _ _ false) (by rw [e]; exact dg_gross D n k (by omega) h1 k0 k1 0 z (grossOf_out D.scl (ask_b h0 h1 k0 h)) false))
theorem ans_chain (D : Dok bs rs ps ra q) (n k : Int) (h0 : 0 ≤ n) (h1 : n ≤ 10000) (k0 : 0 ≤ k) (k1 : k ≤ 10000) : ∃ d' out, Ans (bs, rs, ps, ra, q) (ln [99, 104, 97, 105, 110] (ln (Lib.itoa n) (Lib.itoa k))) d' out := by
  have e := c2 (w := [99, 104, 97, 105, 110]) (by decide) n k
  have hn : okM n := ⟨by omega, by omega⟩
  have hk : okM k := ⟨by omega, by omega⟩
  have h6 := D.pys.six
  by_cases h : k ≤ 3
  · exact ans_out D (cmd_double D _ _ (l2 (by decide) hn hk) (by rw [e]; rfl) (by rw [e]; exact not_chain _ _ false) (by rw [e]; exact dg_chain D n k h0 h1 k0 h false)) (ls10 _) (by have := lsT_len (chaL ps n k) (by unfold chaL; rw [rngL_len]; exact h6) (cha_ok D.pys h0 h1); omega)
  · exact ans_no D (cmd_noD D _ _ (l2 (by decide) hn hk) (dsk_below bs rs ps ra q) (by rw [e]; rfl) (by rw [e]; exact not_chain _ _ false) (by rw [e]; exact no_chain D n k h0 h1 (by omega) k1 false))
theorem ans_down (D : Dok bs rs ps ra q) (n k : Int) (h0 : 0 ≤ n) (h1 : n ≤ 10000) (k0 : 0 ≤ k) (k1 : k ≤ 10000) : ∃ d' out, Ans (bs, rs, ps, ra, q) (ln [100, 111, 119, 110] (ln (Lib.itoa n) (Lib.itoa k))) d' out := by
  have e := c2 (w := [100, 111, 119, 110]) (by decide) n k
  have hn : okM n := ⟨by omega, by omega⟩
  have hk : okM k := ⟨by omega, by omega⟩
  have dt := dw_ok D.rts (st := n) (dr := k) h0 (by omega) k0
  cases hb : (dwL ra n k).all (inR 0 1000000000000) with
  | true =>
    refine ans_out D (cmd_double D _ _ (l2 (by decide) hn hk) (by rw [e]; rfl) (by rw [e]; exact not_down _ _ false) (by rw [e]; exact dg_down D n k h0 h1 k0 k1 hb false)) ?_ ?_
    · intro h
      rcases List.mem_append.1 h with h | h
      · exact ls10 _ h
      · rcases List.mem_cons.1 h with h | h
        · revert h; decide
        · exact n10 _ h
    · have := lsT_len _ dt.1 dt.2.1
      have := i21 dt.2.2
      simp only [List.length_append, List.length_cons]
      omega
  | false => exact ans_no D (cmd_noD D _ _ (l2 (by decide) hn hk) (dsk_below bs rs ps ra q) (by rw [e]; rfl) (by rw [e]; exact not_down _ _ false) (by rw [e]; exact no_down D n k h0 h1 k0 k1 hb false))
theorem ans_annuity (D : Dok bs rs ps ra q) (x : Nat) (hx : okW x) : ∃ d' out, Ans (bs, rs, ps, ra, q) (ln [97, 110, 110, 117, 105, 116, 121] (wdsT (hexW [x]))) d' out := by
  have e := ln_cut (w := [97, 110, 110, 117, 105, 116, 121]) (t := wdsT (hexW [x])) (by decide) (wds_no [x] (by simp)).1
  have l := wds_len [x] (by simp)
  have hl : (ln [97, 110, 110, 117, 105, 116, 121] (wdsT (hexW [x]))).length ≤ 1048576 := by rw [ln_len]; simp only [List.length_cons, List.length_nil] at l ⊢; omega
  have rd := readNumbers_ok (xs := [x]) (by simp) (by intro y hy; simp at hy; subst hy; exact hx)
  cases Y : yldB x with
  | false => exact ans_no D (cmd_noL D _ _ hl (dsk_below bs rs ps ra q) (by rw [e]; exact (by decide : (2 : Nat) < 3)) (by rw [e]; exact not_annuity _ false) (by rw [e]; exact out_annuity D _ x rd Y false))
  | true =>
    have da := fun bad => do_annuity D _ x rd Y bad
    have lv := wds_len [if finB .f32 (valF q x 0) then valF q x 0 else 0] (by simp)
    have w := (wds_no [if finB .f32 (valF q x 0) then valF q x 0 else 0] (by simp)).2
    cases hb : finB .f32 (valF q x 0) with
    | true =>
      rw [hb] at da lv w
      exact ans_out D (cmd_plain D D _ _ hl (by rw [e]; exact (by decide : (2 : Nat) < 3)) (by rw [e]; exact not_annuity _ false) (by rw [e]; exact da false)) w (by simp at lv ⊢; omega)
    | false =>
      rw [hb] at da
      exact ans_no D (cmd_noL D _ _ hl (dsk_below bs rs ps ra q) (by rw [e]; exact (by decide : (2 : Nat) < 3)) (by rw [e]; exact not_annuity _ false) (by rw [e]; exact da false))
end
set_option maxHeartbeats 4000000
theorem it_0 : Lib.itoa 0 = [48] := by simp [itoa_abs, digits_one]
theorem it_1 : Lib.itoa 1 = [49] := by simp [itoa_abs, digits_one]
theorem it_4 : Lib.itoa 4 = [52] := by simp [itoa_abs, digits_one]
theorem it_7 : Lib.itoa 7 = [55] := by simp [itoa_abs, digits_one]
theorem it_m1 : Lib.itoa (-1) = [45, 49] := by simp [itoa_abs, digits_one]
theorem it_10001 : Lib.itoa 10001 = [49, 48, 48, 48, 49] := by simp [itoa_abs, digits_step, digits_one]
theorem it_m10000 : Lib.itoa (-10000) = [45, 49, 48, 48, 48, 48] := by simp [itoa_abs, digits_step, digits_one]
theorem it_20001 : Lib.itoa 20001 = [50, 48, 48, 48, 49] := by simp [itoa_abs, digits_step, digits_one]
theorem it_big : Lib.itoa 1000000001 = [49, 48, 48, 48, 48, 48, 48, 48, 48, 49] := by simp [itoa_abs, digits_step, digits_one]
theorem readScale_none (t : List UInt8) (hl : t.length ≤ 1048576) (h : scaleOf t = none) : CallA Tryz.prog 14 [.str t] [] (Ret (.tup [.agg [.nils, .nils], .bool false]) []) := by
  have := implReadScale_call t hl
  rw [h] at this
  exact this
theorem lo1 (m : Int) (h : okM m) : listOf (Lib.itoa m) = some [m] := by
  have := listOf_own [m] (by simp) (by simp) (by intro x hx; simp at hx; subst hx; exact h)
  have e : txt [44] [m] = Lib.itoa m := by simp [txt, Lib.join_one]
  rw [e] at this
  exact this
theorem lo2 (m k : Int) (h : okM m) (hk : okM k) : listOf (Lib.itoa m ++ 44 :: Lib.itoa k) = some [m, k] := by
  have := listOf_own [m, k] (by simp) (by simp) (by intro x hx; simp at hx; rcases hx with rfl | rfl <;> assumption)
  have e : txt [44] [m, k] = Lib.itoa m ++ 44 :: Lib.itoa k := by simp [txt, Lib.join_cons, Lib.joinTail]
  rw [e] at this
  exact this
theorem sc_none0 : scaleOf [48, 59] = none := by
  have a : cutA 59 [] [48, 59] = [[48], []] := by decide
  unfold scaleOf
  rw [a]
  simp only [listOf_empty]
  split <;> simp_all
theorem sc_none1 : scaleOf [49, 59, 48] = none := by
  have a : cutA 59 [] [49, 59, 48] = [[49], [48]] := by decide
  have h1 := lo1 1 (by unfold okM; omega)
  have h0 := lo1 0 (by unfold okM; omega)
  rw [it_1] at h1
  rw [it_0] at h0
  unfold scaleOf
  rw [a]
  simp only [h1, h0]
  exact if_neg (by decide)
theorem sc_none2 : scaleOf [48, 44, 48, 59, 49, 44, 49] = none := by
  have a : cutA 59 [] [48, 44, 48, 59, 49, 44, 49] = [[48, 44, 48], [49, 44, 49]] := by decide
  have h1 := lo2 1 1 (by unfold okM; omega) (by unfold okM; omega)
  have h0 := lo2 0 0 (by unfold okM; omega) (by unfold okM; omega)
  rw [it_1] at h1
  rw [it_0] at h0
  have h1 : listOf [49, 44, 49] = some [1, 1] := h1
  have h0 : listOf [48, 44, 48] = some [0, 0] := h0
  unfold scaleOf
  rw [a]
  simp only [h1, h0]
  exact if_neg (by decide)
theorem sc_none3 : scaleOf [120] = none := by
  have a : cutA 59 [] [120] = [[120]] := by decide
  unfold scaleOf
  rw [a]
theorem readList_one {t : List UInt8} (m : Int) (h : okM m) (e : Lib.itoa m = t) : CallA Tryz.prog 40 [.str t] [] (Ret (.tup [.ro (ints [m]), .bool true]) []) := by
  have := readList_ok (xs := [m]) (by simp) (by simp) (by intro x hx; simp at hx; subst hx; exact h)
  have e2 : txt [44] [m] = Lib.itoa m := by simp [txt, Lib.join_one]
  rw [e2, e] at this
  exact this
theorem readList_none : CallA Tryz.prog 40 [.str [110, 111, 110, 101]] [] (Ret (.tup [.ro (ints []), .bool true]) []) := by
  have := readListA_call noneT (by decide)
  rw [listOf_none] at this
  refine CallA.frozen 3 this ?_
  simp only [listA, listH, view_tup, List.map_cons, List.map_nil, view_bool, view_in (hp := [intB []]) (i := 0) rfl rfl]
theorem readNumbers_none : CallA Tryz.prog 16 [.str [110, 111, 110, 101]] [] (Ret (.tup [.ro (flts []), .bool true]) []) :=
  readNumbers_ok (xs := []) (by simp) (by simp)
theorem w_half : wdsT (hexW [1056964608]) = [51, 102, 48, 48, 48, 48, 48, 48] := by decide
theorem w_nan : wdsT (hexW [2143289344]) = [55, 102, 99, 48, 48, 48, 48, 48] := by decide
theorem w_m1 : wdsT (hexW [3212836864]) = [98, 102, 56, 48, 48, 48, 48, 48] := by decide
set_option maxHeartbeats 8000000
section
variable {bs rs ps ra : List Int} {q : List Nat}
theorem ans_show_scale (D : Dok bs rs ps ra q) : ∃ d' out, Ans (bs, rs, ps, ra, q) [115, 99, 97, 108, 101] d' out := by
  have e := w_cut (w := [115, 99, 97, 108, 101]) (by decide)
  exact ans_out D (cmd_part D D _ _ (by decide) (by rw [e]; exact show_scale D false)) (scT_no (by decide) (by decide) (by decide) (by decide) _ _) (by have := sc_len D.scl; omega)
theorem ans_show_pays (D : Dok bs rs ps ra q) : ∃ d' out, Ans (bs, rs, ps, ra, q) [112, 97, 121, 115] d' out := by
  have e := w_cut (w := [112, 97, 121, 115]) (by decide)
  exact ans_out D (cmd_part D D _ _ (by decide) (by rw [e]; exact show_pays D false)) (t10 _) (by have := tx_len D.pys.six D.pm; omega)
theorem ans_show_rates (D : Dok bs rs ps ra q) : ∃ d' out, Ans (bs, rs, ps, ra, q) [114, 97, 116, 101, 115] d' out := by
  have e := w_cut (w := [114, 97, 116, 101, 115]) (by decide)
  exact ans_out D (cmd_part D D _ _ (by decide) (by rw [e]; exact show_rates D false)) (t10 _) (by have := tx_len D.rts.six D.am; omega)
theorem ans_show_table (D : Dok bs rs ps ra q) : ∃ d' out, Ans (bs, rs, ps, ra, q) [116, 97, 98, 108, 101] d' out := by
  have e := w_cut (w := [116, 97, 98, 108, 101]) (by decide)
  exact ans_out D (cmd_part D D _ _ (by decide) (by rw [e]; exact show_table D false)) (wds_no q D.tab.one).2 (by have := wds_len q D.tab.one; have := D.tab.six; omega)
theorem odd_empty (D : Dok bs rs ps ra q) : ∃ d' out, Ans (bs, rs, ps, ra, q) [] d' out := by
  have e : cutA 32 [] [] = [([] : List UInt8)] := by decide
  exact ans_what D (cmd_what D _ (by decide) (by rw [e]; exact (by decide : (1 : Nat) < 3)) (by rw [e]; exact not_empty false) (by rw [e]; exact no_empty false))
theorem odd_what (D : Dok bs rs ps ra q) : ∃ d' out, Ans (bs, rs, ps, ra, q) [119, 104, 97, 116] d' out := by
  have e : cutA 32 [] [119, 104, 97, 116] = [[119, 104, 97, 116]] := by decide
  exact ans_what D (cmd_what D _ (by decide) (by rw [e]; exact (by decide : (1 : Nat) < 3)) (by rw [e]; exact not_what false) (by rw [e]; exact no_what false))
theorem odd_due1 (D : Dok bs rs ps ra q) : ∃ d' out, Ans (bs, rs, ps, ra, q) [100, 117, 101, 32, 49] d' out := by
  have e : cutA 32 [] [100, 117, 101, 32, 49] = [[100, 117, 101], [49]] := by decide
  exact ans_what D (cmd_what D _ (by decide) (by rw [e]; exact (by decide : (2 : Nat) < 3)) (by rw [e]; exact not_due1 _ false) (by rw [e]; exact no_due1 _ false))
theorem odd_life1 (D : Dok bs rs ps ra q) : ∃ d' out, Ans (bs, rs, ps, ra, q) [108, 105, 102, 101, 32, 110, 111, 119] d' out := by
  have e : cutA 32 [] [108, 105, 102, 101, 32, 110, 111, 119] = [[108, 105, 102, 101], [110, 111, 119]] := by decide
  exact ans_what D (cmd_what D _ (by decide) (by rw [e]; exact (by decide : (2 : Nat) < 3)) (by rw [e]; exact not_life1 _ false) (by rw [e]; exact no_life1 _ false))
theorem odd_scale0 (D : Dok bs rs ps ra q) : ∃ d' out, Ans (bs, rs, ps, ra, q) [115, 99, 97, 108, 101, 32, 48, 59] d' out := by
  have e : cutA 32 [] [115, 99, 97, 108, 101, 32, 48, 59] = [[115, 99, 97, 108, 101], [48, 59]] := by decide
  have rd : CallA Tryz.prog 14 [.str [48, 59]] [] (Ret (.tup [.agg [.nils, .nils], .bool false]) []) := readScale_none [48, 59] (by decide) sc_none0
  exact ans_no D (cmd_noP D _ _ (by decide) (dskZ_below ps ra q) (by rw [e]; exact bad_scale D _ rd false))
theorem odd_scale1 (D : Dok bs rs ps ra q) : ∃ d' out, Ans (bs, rs, ps, ra, q) [115, 99, 97, 108, 101, 32, 49, 59, 48] d' out := by
  have e : cutA 32 [] [115, 99, 97, 108, 101, 32, 49, 59, 48] = [[115, 99, 97, 108, 101], [49, 59, 48]] := by decide
  have rd : CallA Tryz.prog 14 [.str [49, 59, 48]] [] (Ret (.tup [.agg [.nils, .nils], .bool false]) []) := readScale_none [49, 59, 48] (by decide) sc_none1
  exact ans_no D (cmd_noP D _ _ (by decide) (dskZ_below ps ra q) (by rw [e]; exact bad_scale D _ rd false))
theorem odd_scale2 (D : Dok bs rs ps ra q) : ∃ d' out, Ans (bs, rs, ps, ra, q) [115, 99, 97, 108, 101, 32, 48, 44, 48, 59, 49, 44, 49] d' out := by
  have e : cutA 32 [] [115, 99, 97, 108, 101, 32, 48, 44, 48, 59, 49, 44, 49] = [[115, 99, 97, 108, 101], [48, 44, 48, 59, 49, 44, 49]] := by decide
  have rd : CallA Tryz.prog 14 [.str [48, 44, 48, 59, 49, 44, 49]] [] (Ret (.tup [.agg [.nils, .nils], .bool false]) []) := readScale_none [48, 44, 48, 59, 49, 44, 49] (by decide) sc_none2
  exact ans_no D (cmd_noP D _ _ (by decide) (dskZ_below ps ra q) (by rw [e]; exact bad_scale D _ rd false))
theorem odd_scale3 (D : Dok bs rs ps ra q) : ∃ d' out, Ans (bs, rs, ps, ra, q) [115, 99, 97, 108, 101, 32, 120] d' out := by
  have e : cutA 32 [] [115, 99, 97, 108, 101, 32, 120] = [[115, 99, 97, 108, 101], [120]] := by decide
  have rd : CallA Tryz.prog 14 [.str [120]] [] (Ret (.tup [.agg [.nils, .nils], .bool false]) []) := readScale_none [120] (by decide) sc_none3
  exact ans_no D (cmd_noP D _ _ (by decide) (dskZ_below ps ra q) (by rw [e]; exact bad_scale D _ rd false))
theorem odd_pays0 (D : Dok bs rs ps ra q) : ∃ d' out, Ans (bs, rs, ps, ra, q) [112, 97, 121, 115, 32, 110, 111, 110, 101] d' out := by
  have e : cutA 32 [] [112, 97, 121, 115, 32, 110, 111, 110, 101] = [[112, 97, 121, 115], [110, 111, 110, 101]] := by decide
  exact ans_no D (cmd_noP D _ _ (by decide) (dsk_below bs rs [] ra q) (by rw [e]; exact bad_pays D _ [] (by decide) readList_none (by simp [validD, amountsB]) false))
theorem odd_pays1 (D : Dok bs rs ps ra q) : ∃ d' out, Ans (bs, rs, ps, ra, q) [112, 97, 121, 115, 32, 45, 49] d' out := by
  have e : cutA 32 [] [112, 97, 121, 115, 32, 45, 49] = [[112, 97, 121, 115], [45, 49]] := by decide
  exact ans_no D (cmd_noP D _ _ (by decide) (dsk_below bs rs [-1] ra q) (by rw [e]; exact bad_pays D _ [-1] (by decide) (readList_one (-1) (by unfold okM; omega) it_m1) (by simp [validD, amountsB, inR]) false))
theorem odd_rates0 (D : Dok bs rs ps ra q) : ∃ d' out, Ans (bs, rs, ps, ra, q) [114, 97, 116, 101, 115, 32, 49, 48, 48, 48, 49] d' out := by
  have e : cutA 32 [] [114, 97, 116, 101, 115, 32, 49, 48, 48, 48, 49] = [[114, 97, 116, 101, 115], [49, 48, 48, 48, 49]] := by decide
  exact ans_no D (cmd_noP D _ _ (by decide) (dsk_below bs rs ps [10001] q) (by rw [e]; exact bad_rates D _ [10001] (by decide) (readList_one 10001 (by unfold okM; omega) it_10001) (by simp [validD, ratesB, inR]) false))
theorem odd_rates1 (D : Dok bs rs ps ra q) : ∃ d' out, Ans (bs, rs, ps, ra, q) [114, 97, 116, 101, 115, 32, 45, 49, 48, 48, 48, 48] d' out := by
  have e : cutA 32 [] [114, 97, 116, 101, 115, 32, 45, 49, 48, 48, 48, 48] = [[114, 97, 116, 101, 115], [45, 49, 48, 48, 48, 48]] := by decide
  exact ans_no D (cmd_noP D _ _ (by decide) (dsk_below bs rs ps [-10000] q) (by rw [e]; exact bad_rates D _ [-10000] (by decide) (readList_one (-10000) (by unfold okM; omega) it_m10000) (by simp [validD, ratesB, inR]) false))
end
theorem tb_half : tableB [1056964608] = false := by decide +kernel
theorem tb_nan : tableB [2143289344] = false := by decide +kernel
theorem tb_none : tableB [] = false := by decide +kernel
theorem ok_w {x : Nat} (h : x < 4294967296) (h2 : (FloatKind.f32.decode x).isNaN = true → x = 2143289344) : okW x := ⟨h, h2⟩
theorem ok_half : okW 1056964608 := ok_w (by decide) (fun h => by revert h; decide +kernel)
theorem ok_nanw : okW 2143289344 := ok_w (by decide) (fun _ => rfl)
theorem ok_m1 : okW 3212836864 := ok_w (by decide) (fun h => by revert h; decide +kernel)
theorem readN_one {t : List UInt8} (x : Nat) (h : okW x) (e : wdsT (hexW [x]) = t) : CallA Tryz.prog 16 [.str t] [] (Ret (.tup [.ro (flts [x]), .bool true]) []) := by
  have := readNumbers_ok (xs := [x]) (by simp) (by intro y hy; simp at hy; subst hy; exact h)
  rw [e] at this
  exact this
section
variable {bs rs ps ra : List Int} {q : List Nat}
theorem odd_table0 (D : Dok bs rs ps ra q) : ∃ d' out, Ans (bs, rs, ps, ra, q) [116, 97, 98, 108, 101, 32, 51, 102, 48, 48, 48, 48, 48, 48] d' out := by
  have e : cutA 32 [] [116, 97, 98, 108, 101, 32, 51, 102, 48, 48, 48, 48, 48, 48] = [[116, 97, 98, 108, 101], [51, 102, 48, 48, 48, 48, 48, 48]] := by decide
  exact ans_no D (cmd_noP D _ _ (by decide) (dsk_below bs rs ps ra [1056964608]) (by rw [e]; exact bad_table D _ [1056964608] (by decide) (readN_one 1056964608 ok_half w_half) (by simp [validD, tb_half]) false))
theorem odd_table1 (D : Dok bs rs ps ra q) : ∃ d' out, Ans (bs, rs, ps, ra, q) [116, 97, 98, 108, 101, 32, 110, 111, 110, 101] d' out := by
  have e : cutA 32 [] [116, 97, 98, 108, 101, 32, 110, 111, 110, 101] = [[116, 97, 98, 108, 101], [110, 111, 110, 101]] := by decide
  exact ans_no D (cmd_noP D _ _ (by decide) (dsk_below bs rs ps ra []) (by rw [e]; exact bad_table D _ [] (by decide) readNumbers_none (by simp [validD, tb_none]) false))
theorem odd_table2 (D : Dok bs rs ps ra q) : ∃ d' out, Ans (bs, rs, ps, ra, q) [116, 97, 98, 108, 101, 32, 55, 102, 99, 48, 48, 48, 48, 48] d' out := by
  have e : cutA 32 [] [116, 97, 98, 108, 101, 32, 55, 102, 99, 48, 48, 48, 48, 48] = [[116, 97, 98, 108, 101], [55, 102, 99, 48, 48, 48, 48, 48]] := by decide
  exact ans_no D (cmd_noP D _ _ (by decide) (dsk_below bs rs ps ra [2143289344]) (by rw [e]; exact bad_table D _ [2143289344] (by decide) (readN_one 2143289344 ok_nanw w_nan) (by simp [validD, tb_nan]) false))
theorem odd_ann0 (D : Dok bs rs ps ra q) : ∃ d' out, Ans (bs, rs, ps, ra, q) [97, 110, 110, 117, 105, 116, 121, 32, 110, 111, 110, 101] d' out := by
  have e : cutA 32 [] [97, 110, 110, 117, 105, 116, 121, 32, 110, 111, 110, 101] = [[97, 110, 110, 117, 105, 116, 121], [110, 111, 110, 101]] := by decide
  exact ans_no D (cmd_noL D _ _ (by decide) (dsk_below bs rs ps ra q) (by rw [e]; exact (by decide : (2 : Nat) < 3)) (by rw [e]; exact not_annuity _ false) (by rw [e]; exact none_annuity D _ readNumbers_none false))
theorem odd_ann1 (D : Dok bs rs ps ra q) : ∃ d' out, Ans (bs, rs, ps, ra, q) [97, 110, 110, 117, 105, 116, 121, 32, 98, 102, 56, 48, 48, 48, 48, 48] d' out := by
  have := ans_annuity D 3212836864 ok_m1
  rw [w_m1] at this
  exact this
theorem odd_mean0 (D : Dok bs rs ps ra q) : ∃ d' out, Ans (bs, rs, ps, ra, q) [109, 101, 97, 110, 32, 48] d' out := by
  have := ans_mean D 0 (by decide) (by decide)
  rw [it_0] at this
  exact this
theorem odd_best0 (D : Dok bs rs ps ra q) : ∃ d' out, Ans (bs, rs, ps, ra, q) [98, 101, 115, 116, 32, 48] d' out := by
  have := ans_best D 0 (by decide) (by decide)
  rw [it_0] at this
  exact this
theorem odd_span7 (D : Dok bs rs ps ra q) : ∃ d' out, Ans (bs, rs, ps, ra, q) [115, 112, 97, 110, 32, 55] d' out := by
  have := ans_span D 7 (by decide) (by decide)
  rw [it_7] at this
  exact this
theorem odd_mix (D : Dok bs rs ps ra q) : ∃ d' out, Ans (bs, rs, ps, ra, q) [109, 105, 120, 32, 50, 48, 48, 48, 49] d' out := by
  have := ans_mix D 20001 (by decide) (by decide)
  rw [it_20001] at this
  exact this
theorem odd_hold4 (D : Dok bs rs ps ra q) : ∃ d' out, Ans (bs, rs, ps, ra, q) [104, 111, 108, 100, 32, 52] d' out := by
  have := ans_hold D 4 (by decide) (by decide)
  rw [it_4] at this
  exact this
theorem odd_gross (D : Dok bs rs ps ra q) : ∃ d' out, Ans (bs, rs, ps, ra, q) [103, 114, 111, 115, 115, 32, 49, 32, 52] d' out := by
  have := ans_gross D 1 4 (by decide) (by decide) (by decide) (by decide)
  rw [it_1, it_4] at this
  exact this
theorem odd_due (D : Dok bs rs ps ra q) : ∃ d' out, Ans (bs, rs, ps, ra, q) [100, 117, 101, 32, 45, 49, 32, 48] d' out := by
  have e := c2 (w := [100, 117, 101]) (by decide) (-1) 0
  have hn : okM (-1) := ⟨by omega, by omega⟩
  have z : okM 0 := ⟨by omega, by omega⟩
  have := ans_no D (cmd_noD D _ _ (l2 (w := [100, 117, 101]) (by decide) hn z) (dsk_below bs rs ps ra q) (by rw [e]; rfl) (by rw [e]; exact not_due _ _ false) (by rw [e]; exact dg_due D (-1) 0 (by omega) (by omega) (by omega) (by omega) 0 z (dueOf_no D.scl (by decide)) false))
  rw [it_m1, it_0] at this
  exact this
theorem odd_share (D : Dok bs rs ps ra q) : ∃ d' out, Ans (bs, rs, ps, ra, q) [115, 104, 97, 114, 101, 32, 49, 48, 48, 48, 48, 48, 48, 48, 48, 49] d' out := by
  have e := c1 (w := [115, 104, 97, 114, 101]) (by decide) 1000000001
  have hn : okM 1000000001 := ⟨by omega, by omega⟩
  have := ans_no D (cmd_noL D _ _ (l1 (w := [115, 104, 97, 114, 101]) (by decide) hn) (dsk_below bs rs ps ra q) (by rw [e]; exact (by decide : (2 : Nat) < 3)) (by rw [e]; exact not_share _ false) (by rw [e]; exact no_share D 1000000001 (by omega) (by omega) false))
  rw [it_big] at this
  exact this
theorem odd_safe (D : Dok bs rs ps ra q) : ∃ d' out, Ans (bs, rs, ps, ra, q) [115, 97, 102, 101, 32, 45, 49] d' out := by
  have e := c1 (w := [115, 97, 102, 101]) (by decide) (-1)
  have hn : okM (-1) := ⟨by omega, by omega⟩
  have := ans_no D (cmd_noL D _ _ (l1 (w := [115, 97, 102, 101]) (by decide) hn) (dsk_below bs rs ps ra q) (by rw [e]; exact (by decide : (2 : Nat) < 3)) (by rw [e]; exact not_safe _ false) (by rw [e]; exact no_safe D (-1) (by omega) (by omega) false))
  rw [it_m1] at this
  exact this
end
set_option maxHeartbeats 4000000
structure Lin (line : List UInt8) : Prop where
  ans : ∀ {bs rs ps ra : List Int} {q : List Nat}, Dok bs rs ps ra q → ∃ d' out, Ans (bs, rs, ps, ra, q) line d' out
  no10 : (10 : UInt8) ∉ line
  len : line.length ≤ 500
def oddL : List (List UInt8) := [[], [119, 104, 97, 116], [115, 99, 97, 108, 101, 32, 48, 59], [115, 99, 97, 108, 101, 32, 49, 59, 48], [115, 99, 97, 108, 101, 32, 48, 44, 48, 59, 49, 44, 49], [115, 99, 97, 108, 101, 32, 120], [112, 97, 121, 115, 32, 110, 111, 110, 101], [112, 97, 121, 115, 32, 45, 49], [112, 97, 121, 115], [114, 97, 116, 101, 115, 32, 49, 48, 48, 48, 49], [114, 97, 116, 101, 115, 32, 45, 49, 48, 48, 48, 48], [116, 97, 98, 108, 101, 32, 51, 102, 48, 48, 48, 48, 48, 48], [116, 97, 98, 108, 101, 32, 110, 111, 110, 101], [116, 97, 98, 108, 101, 32, 55, 102, 99, 48, 48, 48, 48, 48], [100, 117, 101, 32, 49], [100, 117, 101, 32, 45, 49, 32, 48], [103, 114, 111, 115, 115, 32, 49, 32, 52], [109, 101, 97, 110, 32, 48], [115, 104, 97, 114, 101, 32, 49, 48, 48, 48, 48, 48, 48, 48, 48, 49], [98, 101, 115, 116, 32, 48], [115, 112, 97, 110, 32, 55], [115, 97, 102, 101, 32, 45, 49], [97, 110, 110, 117, 105, 116, 121, 32, 110, 111, 110, 101], [97, 110, 110, 117, 105, 116, 121, 32, 98, 102, 56, 48, 48, 48, 48, 48], [109, 105, 120, 32, 50, 48, 48, 48, 49], [104, 111, 108, 100, 32, 52], [108, 105, 102, 101, 32, 110, 111, 119]]
theorem odd_lin : ∀ x ∈ oddL, Lin x := by
  intro x hx
  have h10 : ∀ y ∈ oddL, (10 : UInt8) ∉ y := by decide
  have hln : ∀ y ∈ oddL, y.length ≤ 500 := by decide
  refine ⟨?_, h10 x hx, hln x hx⟩
  intro bs rs ps ra q D
  simp only [oddL, List.mem_cons, List.not_mem_nil, or_false] at hx
  rcases hx with rfl | rfl | rfl | rfl | rfl | rfl | rfl | rfl | rfl | rfl | rfl | rfl | rfl | rfl | rfl | rfl | rfl | rfl | rfl | rfl | rfl | rfl | rfl | rfl | rfl | rfl | rfl
  · exact odd_empty D
  · exact odd_what D
  · exact odd_scale0 D
  · exact odd_scale1 D
  · exact odd_scale2 D
  · exact odd_scale3 D
  · exact odd_pays0 D
  · exact odd_pays1 D
  · exact ans_show_pays D
  · exact odd_rates0 D
  · exact odd_rates1 D
  · exact odd_table0 D
  · exact odd_table1 D
  · exact odd_table2 D
  · exact odd_due1 D
  · exact odd_due D
  · exact odd_gross D
  · exact odd_mean0 D
  · exact odd_share D
  · exact odd_best0 D
  · exact odd_span7 D
  · exact odd_safe D
  · exact odd_ann0 D
  · exact odd_ann1 D
  · exact odd_mix D
  · exact odd_hold4 D
  · exact odd_life1 D
end Go.Proofs.YtodjjpmigcacoaaGreatDoor
