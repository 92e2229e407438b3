/- TzI4: texts joined. -/
import Derived.Test.YtodjjpmigcacoaaGreatDoorTzI3
import Derived.Test.YtodjjpmigcacoaaGreatDoorTzG9
set_option maxRecDepth 10000
set_option maxHeartbeats 4000000
set_option linter.unusedSimpArgs false
set_option linter.unusedVariables false
namespace Go.Proofs.YtodjjpmigcacoaaGreatDoor
open Go Go.Abs
open Nat renaming reduceAdd → Za, reduceSub → Zb, reduceMul → Zc, reduceLT → Zd, reduceLeDiff → Ze, reduceEqDiff → Zf
open Int renaming reduceToNat → Zn
open Go.Abs renaming lenA → Zg, convA → Zh, indexA → Zi, flatP → Zj, nilI → Zk, ifaA → Zl, indexS → Zm
theorem hexT_take_succ (x : Nat) : ∀ (k j : Nat), j < k → (hexT x k).take (j + 1) = (hexT x k).take j ++ [hexC (x / 16 ^ (k - 1 - j) % 16)]
  | 0, j, h => absurd h (by omega)
  | k + 1, 0, _ => by simp [hexT]
  | k + 1, j + 1, h => by
    have ih := hexT_take_succ x k j (by omega)
    have e : k + 1 - 1 - (j + 1) = k - 1 - j := by omega
    rw [hexT, List.take_succ_cons, List.take_succ_cons, ih, e]
    rfl
theorem and15i (m : Nat) (h : m < 9223372036854775808) : (BitVec.ofInt IntKind.i64.bits (m : Int) &&& BitVec.ofInt IntKind.i64.bits 15).toNat = m % 16 := by
  have e1 : (BitVec.ofInt IntKind.i64.bits (m : Int)).toNat = m := by
    show (BitVec.ofInt 64 (m : Int)).toNat = m
    rw [BitVec.toNat_ofInt]
    omega
  have e2 : (BitVec.ofInt IntKind.i64.bits 15).toNat = 15 := by decide
  rw [BitVec.toNat_and, e1, e2]
  exact Nat.and_two_pow_sub_one_eq_mod m 4
theorem hexV (x j : Nat) (hx : x < 4294967296) (hj : j < 8) : IntKind.i64.wrap (((BitVec.ofInt IntKind.i64.bits ((x : Int).fdiv (2 ^ min (IntKind.u64.wrap (28 - 4 * (j : Int))).toNat IntKind.i64.bits)) &&& BitVec.ofInt IntKind.i64.bits 15).toNat : Nat) : Int) = ((x / 16 ^ (7 - j) % 16 : Nat) : Int) := by
  have hc : j = 0 ∨ j = 1 ∨ j = 2 ∨ j = 3 ∨ j = 4 ∨ j = 5 ∨ j = 6 ∨ j = 7 := by omega
  have key : ∀ k : Nat, (x : Int).fdiv ((2 ^ k : Nat) : Int) = ((x / 2 ^ k : Nat) : Int) := fun k => by
    rw [Int.fdiv_eq_ediv_of_nonneg _ (Int.natCast_nonneg _)]; rfl
  have go : ∀ k e : Nat, (2 : Int) ^ k = ((2 ^ k : Nat) : Int) → 2 ^ k = 16 ^ e → (IntKind.i64.wrap (((BitVec.ofInt IntKind.i64.bits ((x : Int).fdiv (2 ^ k)) &&& BitVec.ofInt IntKind.i64.bits 15).toNat : Nat) : Int)) = ((x / 16 ^ e % 16 : Nat) : Int) := fun k e h1 h2 => by
    rw [h1, key k, and15i _ (by have := Nat.div_le_self x (2 ^ k); omega), h2]
    exact w64 (by omega) (by have := Nat.mod_lt (x / 16 ^ e) (show 0 < 16 by decide); omega)
  rcases hc with rfl | rfl | rfl | rfl | rfl | rfl | rfl | rfl
  · exact go 28 7 (by decide) (by decide)
  · exact go 24 6 (by decide) (by decide)
  · exact go 20 5 (by decide) (by decide)
  · exact go 16 4 (by decide) (by decide)
  · exact go 12 3 (by decide) (by decide)
  · exact go 8 2 (by decide) (by decide)
  · exact go 4 1 (by decide) (by decide)
  · exact go 0 0 (by decide) (by decide)
theorem hexI : ∀ d : Nat, d < 16 → ∀ h : ((d : Int)).toNat < 16, ((([48, 49, 50, 51, 52, 53, 54, 55, 56, 57, 97, 98, 99, 100, 101, 102] : List UInt8)[((d : Int)).toNat]'h)) = hexC d := by decide
theorem hexR_call (x : Nat) (hx : okW x) : CallA Tryz.prog 83 [.flt .f32 x] [] (Ret (.str (hexT x 8)) []) := by
  have sb := specBits_call x
  rw [bitsI_ok hx] at sb
  have hlt := hx.1
  have h8 := hexT_len x 8
  refine CallP.out (t := .mk) (go_in (md := md83) mixed Tryz.func83 rfl go83 (by kernel_rfl) ?_)
  simp only [Zu, Za, Zb, Zg, Zh, Zi, Zk, Zl, Zm, Zn, ↓reduceIte, reduceCtorEq, Zd, Ze, Zc, Zf, Z83]
  refine call_ret sb rfl rfl ?_
  simp only [Zu, Za, Zb, Zg, Zh, Zi, Zk, Zl, Zm, Zn, ↓reduceIte, reduceCtorEq, Zd, Ze, Zc, Zf, Z83]
  refine go_round (md := md83) mixed (by kernel_rfl) (fun j : {j : Nat // j ≤ 8} => ⟨[.any, .any, .any, .int .i64 (x : Int), .sl 0 0 j.1, .int .i64 (28 - 4 * (j.1 : Int)), .any, .any, .any, .any, .any, .any, .any, .any, .any, .any, .any, .any, .any, .any, .any, .any, .any, .any], [bytB ((hexT x 8).take j.1)]⟩) (fun j => 8 - j.1) ⟨0, by omega⟩ ?_ ?_
  · have z : byts ((hexT x 8).take 0) = [] := rfl
    have z2 : byts [] = [] := rfl
    have z3 : allBelow 1 ([] : List AV) = true := rfl
    exact weak_drop (by simp) (by simp [DropHp, ints_below, flts_below, bytB, z, z2, z3, allBelow_cons, allBelow_nil, below, belowM, belowL]) (by simp [DropTm, DropV, below, belowM, belowL, bytB, z, z2, z3, allBelow_cons, allBelow_nil, below, belowM, belowL])
  rintro ⟨j, hj⟩
  have ll : ((hexT x 8).take j).length = j := by rw [List.length_take]; omega
  simp only [Zu, Za, Zb, Zg, Zh, Zi, Zk, Zl, Zm, Zn, ↓reduceIte, reduceCtorEq, Zd, Ze, Zc, Zf, Z83, bytB, byts_len, ll]
  refine br_intro (fun g => ?_) (fun g => ?_) <;> simp only [Zu, Za, Zb, Zg, Zh, Zi, Zk, Zl, Zm, Zn, ↓reduceIte, reduceCtorEq, Zd, Ze, Zc, Zf, Z83, bytB, byts_len, ll]
  · have hj' : j < 8 := by have := of_decide_eq_true g; omega
    have v := hexV x j hlt hj'
    have d16 := Nat.mod_lt (x / 16 ^ (7 - j)) (show 0 < 16 by decide)
    have w0 : 0 ≤ IntKind.u64.wrap (28 - 4 * (j : Int)) := by
      rw [IntWalk.u64_in _ (by omega)]; omega
    have wk : IntKind.i64.wrap (28 - 4 * (j : Int) - 4) = 28 - 4 * ((j + 1 : Nat) : Int) := by rw [w64 (by omega) (by omega)]; omega
    rw [v, wk]
    have tk := hexT_take_succ x 8 j hj'
    rw [show 8 - 1 - j = 7 - j from rfl] at tk
    generalize hd : x / 16 ^ (7 - j) % 16 = d at *
    have hq : ((d : Int)).toNat < 16 := by omega
    have hx_ := hexI d d16 hq
    have tb : byts ((hexT x 8).take (j + 1)) = byts ((hexT x 8).take j) ++ [.int .u8 ((hexC d).toNat : Int)] := by rw [tk]; simp [byts]
    refine ⟨w0, by omega, hq, ?_, ?_, ⟨j + 1, by omega⟩, by show 8 - (j + 1) < 8 - j; omega, ?_⟩
    · intro a ha
      rw [List.mem_singleton.1 ha]; exact ⟨rfl, rfl⟩
    · rw [fits]; omega
    show Weak 0 _ ⟨_, _⟩
    rw [hx_, ← tb]
    exact weak_drop (by simp) (by simp [DropHp, ints_below, flts_below, bytB, byts_below, byts_kill, allBelow_cons, allBelow_nil, below, belowM, belowL]) (by simp [DropTm, DropV, below, belowM, belowL, bytB, byts_below, byts_kill, allBelow_cons, allBelow_nil, below, belowM, belowL])
  · have hj' : j = 8 := by have := of_decide_eq_false g; omega
    subst hj'
    have tt : (hexT x 8).take 8 = hexT x 8 := List.take_of_length_le (by omega)
    rw [tt]
    refine ⟨⟨5, rfl, Tryz.underlying5⟩, hexT x 8, List.take_of_length_le (by rw [byts_len]; omega), h8, ?_⟩
    exact PostR.pure ⟨rfl, rfl⟩ rfl
def hxT (xs : List Nat) : List UInt8 := Lib.join (hexW xs) [44]
theorem join_snoc (s : List UInt8) : ∀ (L : List (List UInt8)) (x : List UInt8), L ≠ [] → Lib.join (L ++ [x]) s = Lib.join L s ++ s ++ x
  | [], _, h => absurd rfl h
  | [y], x, _ => by simp [Lib.join_cons, Lib.joinTail]
  | y :: z :: r, x, _ => by
    rw [List.cons_append, Lib.join_cons, Lib.join_cons]
    simp [Lib.joinTail]
theorem hxT_snoc (xs : List Nat) (i : Nat) (hi : i < xs.length) (h0 : 1 ≤ i) : hxT (xs.take (i + 1)) = hxT (xs.take i) ++ (44 :: hexT xs[i] 8) := by
  unfold hxT hexW
  rw [take_snoc _ _ hi, List.map_append, List.map_cons, List.map_nil, join_snoc _ _ _ (by intro e; have := congrArg List.length e; simp only [List.length_map, List.length_take, List.length_nil] at this; omega)]
  simp
theorem l01NText_call (xs : List Nat) (h1 : 1 ≤ xs.length) (h2 : xs.length ≤ 100) (ok : ∀ x ∈ xs, okW x) : CallA Tryz.prog 59 [.ro (flts xs)] [] (Ret (.str (wdsT (hexW xs))) []) := by
  have fl : (flts xs).length = xs.length := by simp [flts]
  have e0 : wdsT (hexW xs) = hxT xs := by
    unfold wdsT hxT
    rw [if_neg]
    intro e; have := congrArg List.length e; rw [hexW_len] at this; simp at this; rw [this] at h1; simp at h1
  refine CallP.out (t := .mk) (go_in (md := md59) mixed Tryz.func59 rfl go59 (by kernel_rfl) ?_)
  simp only [Zu, Za, Zb, Zg, Zh, Zi, Zk, Zl, Zm, Zn, ↓reduceIte, reduceCtorEq, Zd, Ze, Zc, Zf, Z59, fl]
  refine br_no (beq_false_of_ne (by omega)) ?_
  have h0 : 0 < xs.length := by omega
  have hf : 0 < (flts xs).length := by omega
  simp only [Zu, Za, Zb, Zg, Zh, Zi, Zk, Zl, Zm, Zn, ↓reduceIte, reduceCtorEq, Zd, Ze, Zc, Zf, Z59, fl, flts_get, h0]
  refine ⟨Int.le_refl 0, ?_⟩
  refine call_ret (hexR_call xs[0] (ok _ (List.getElem_mem h0))) rfl rfl ?_
  simp only [Zu, Za, Zb, Zg, Zh, Zi, Zk, Zl, Zm, Zn, ↓reduceIte, reduceCtorEq, Zd, Ze, Zc, Zf, Z59, fl]
  have hlen : ∀ i, (hxT (xs.take i)).length ≤ i * 9 := fun i => by
    have := (join_len (L := 8) (W := hexW (xs.take i)) fun x hx => by obtain ⟨y, _, rfl⟩ := List.mem_map.1 hx; exact hexT_len y 8).1
    rw [hexW_len, List.length_take] at this
    have m : min i xs.length * 9 ≤ i * 9 := Nat.mul_le_mul_right 9 (Nat.min_le_left _ _)
    exact Nat.le_trans this m
  refine go_round (md := md59) mixed (by kernel_rfl) (fun i : {i : Nat // 1 ≤ i ∧ i ≤ xs.length} => ⟨[.ro (flts xs), .any, .any, .str (hxT (xs.take i.1)), .int .i64 (i.1 : Int), .any, .any, .any, .any, .any, .any, .any, .any, .any, .any, .any, .any, .any, .any, .any, .any, .any, .any, .any, .any, .any, .any], []⟩) (fun i => xs.length - i.1) ⟨1, by omega, h1⟩ ?_ ?_
  · have t1 : xs.take 1 = [xs[0]] := by cases xs with | nil => simp at h1 | cons x l => rfl
    have z : hxT (xs.take 1) = hexT xs[0] 8 := by rw [t1]; simp [hxT, hexW, Lib.join_one]
    exact weak_drop (by simp) (by simp [DropHp, ints_below, flts_below, z]) (by simp [DropTm, DropV, below, belowM, belowL, z])
  rintro ⟨i, i1, hi⟩
  have hli := hlen i
  simp only [Zu, Za, Zb, Zg, Zh, Zi, Zk, Zl, Zm, Zn, ↓reduceIte, reduceCtorEq, Zd, Ze, Zc, Zf, Z59, fl]
  refine br_intro (fun g => ?_) (fun g => ?_) <;> simp only [Zu, Za, Zb, Zg, Zh, Zi, Zk, Zl, Zm, Zn, ↓reduceIte, reduceCtorEq, Zd, Ze, Zc, Zf, Z59, fl]
  · have hi' : i < xs.length := by have := of_decide_eq_true g; omega
    have hI : (i : Int) < (xs.length : Int) := by omega
    have w1 : IntKind.i64.wrap ((i : Int) + 1) = ((i + 1 : Nat) : Int) := w64_succ i (by omega)
    simp only [Zu, Za, Zb, Zg, Zh, Zi, Zk, Zl, Zm, Zn, ↓reduceIte, reduceCtorEq, Zd, Ze, Zc, Zf, Z59, fl, flts_get, hi', hI]
    have hx8 := hexT_len xs[i] 8
    refine call_ret (hexR_call xs[i] (ok _ (List.getElem_mem hi'))) rfl rfl ?_
    simp only [Zu, Za, Zb, Zg, Zh, Zi, Zk, Zl, Zm, Zn, ↓reduceIte, reduceCtorEq, Zd, Ze, Zc, Zf, Z59, fl]
    repeat (refine ⟨by first | omega | (simp only [List.length_append, List.length_cons, List.length_nil]; omega), ?_⟩)
    refine ⟨⟨i + 1, by omega, by omega⟩, by show xs.length - (i + 1) < xs.length - i; omega, ?_⟩
    show Weak 0 _ ⟨_, _⟩
    have hs := hxT_snoc xs i hi' i1
    rw [← hs]
    exact weak_drop (by simp) (by simp [DropHp, ints_below, flts_below, w1]) (by simp [DropTm, DropV, below, belowM, belowL, w1])
  · have hi' : i = xs.length := by have := of_decide_eq_false g; omega
    subst hi'
    rw [List.take_length, e0]
    exact PostR.ret
theorem l01Text_call (xs : List Int) (hm : xs.length ≤ 1048576) (h0 : xs ≠ []) (hb : ∀ x ∈ xs, okI x) : CallA Tryz.prog 58 [.ro (ints xs)] [] (Ret (.str (txt [44] xs)) []) := by
  have hp : 0 < xs.length := List.length_pos_iff.2 h0
  have ok := hb xs[0] (List.getElem_mem hp)
  have e1 : txt [44] (xs.take 1) = Lib.itoa xs[0] := by
    cases xs with
    | nil => exact absurd rfl h0
    | cons x r => simp [txt, Lib.join_one]
  have ne : ((xs.length : Int) == 0) = false := by simp; omega
  refine CallP.out (t := .mk) (go_in (md := md58) mixed Tryz.func58 rfl go58 (by kernel_rfl) ?_)
  simp only [Zu, Za, Zb, Zg, Zh, Zi, Zk, Zl, Zm, Zn, ↓reduceIte, reduceCtorEq, Zd, Ze, Zc, Zf, Z58, ne]
  refine ⟨Int.le_refl _, hp, ?_⟩
  refine call_ret (specDec_call xs[0] ok.1 ok.2) rfl rfl ?_
  simp only [Zu, Za, Zb, Zg, Zh, Zi, Zk, Zl, Zm, Zn, ↓reduceIte, reduceCtorEq, Zd, Ze, Zc, Zf, Z58]
  refine go_round (md := md58) mixed (by kernel_rfl) (fun i : {i : Nat // 1 ≤ i ∧ i ≤ xs.length} => ⟨[.ro (ints xs), .any, .any, .str (txt [44] (xs.take i.1)), .int .i64 i.1, .any, .any, .any, .any, .any, .any, .any, .any, .any, .any, .any, .any, .any, .any, .any, .any, .any, .any, .any, .any, .any, .any], []⟩) (fun i => xs.length - i.1) ⟨1, by omega, by omega⟩ ?_ ?_
  · exact weak_drop (by simp) (by simp [DropHp, ints_below, flts_below, e1]) (by simp [DropTm, DropV, below, belowM, belowL, e1])
  rintro ⟨i, h1, hi⟩
  have tl := txt_len (sep := [44]) (by decide) (xs.take i) (fun x hx => hb x (List.mem_of_mem_take hx))
  have tk : (xs.take i).length = i := by rw [List.length_take]; omega
  have nx := fun h : i < xs.length => txt_succ [44] xs i h h1
  generalize hT : txt [44] (xs.take i) = T at tl nx
  simp only [Zu, Za, Zb, Zg, Zh, Zi, Zk, Zl, Zm, Zn, ↓reduceIte, reduceCtorEq, Zd, Ze, Zc, Zf, Z58]
  refine br_intro (fun h => ?_) (fun h => ?_) <;> simp only [Zu, Za, Zb, Zg, Zh, Zi, Zk, Zl, Zm, Zn, ↓reduceIte, reduceCtorEq, Zd, Ze, Zc, Zf, Z58]
  · have hi' : i < xs.length := by have := of_decide_eq_true h; omega
    have hI : (i : Int) < (xs.length : Int) := by omega
    have nx := nx hi'
    have okx := hb xs[i] (List.getElem_mem hi')
    have il := itoa_len okx
    have w1 : IntKind.i64.wrap ((i : Int) + 1) = ((i + 1 : Nat) : Int) := by rw [w64 (by omega) (by omega)]; omega
    simp only [Zu, Za, Zb, Zg, Zh, Zi, Zk, Zl, Zm, Zn, ↓reduceIte, reduceCtorEq, Zd, Ze, Zc, Zf, Z58, hi', hI]
    refine call_ret (specDec_call xs[i] okx.1 okx.2) rfl rfl ?_
    simp only [Zu, Za, Zb, Zg, Zh, Zi, Zk, Zl, Zm, Zn, ↓reduceIte, reduceCtorEq, Zd, Ze, Zc, Zf, Z58, hi', hI, w1]
    refine ⟨by omega, by omega, ⟨i + 1, by omega, by omega⟩, by show xs.length - (i + 1) < _; omega, ?_⟩
    show Weak 0 _ ⟨_, _⟩
    rw [nx]
    exact weak_drop (by simp) (by simp [DropHp, ints_below, flts_below]) (by simp [DropTm, DropV, below, belowM, belowL])
  · have hi' : i = xs.length := by have := of_decide_eq_false h; omega
    rw [show txt [44] xs = T from by rw [← hT, hi', List.take_length]]
    exact PostR.ret
theorem l08Scale_call (bk rt : List Int) (l : List AV) (h1 : bk.length ≤ 1048576) (h2 : rt.length ≤ 1048576) (n1 : bk ≠ []) (n2 : rt ≠ []) (b1 : ∀ x ∈ bk, okI x) (b2 : ∀ x ∈ rt, okI x) :
    CallA Tryz.prog 57 [.rop (.ro (ints bk) :: .ro (ints rt) :: l)] [] (Ret (.str (txt [44] bk ++ 59 :: txt [44] rt)) []) := by
  have t1 := txt_len (sep := [44]) (by decide) bk b1
  have t2 := txt_len (sep := [44]) (by decide) rt b2
  have c1 := l01Text_call bk h1 n1 b1
  have c2 := l01Text_call rt h2 n2 b2
  generalize txt [44] bk = X at t1 c1
  generalize txt [44] rt = Y at t2 c2
  refine CallP.out (t := .mk) (go_in (md := md57) mixed Tryz.func57 rfl go57 (by kernel_rfl) ?_)
  simp only [Zu, Za, Zb, Zg, Zh, Zi, Zk, Zl, Zm, Zn, ↓reduceIte, reduceCtorEq, Zd, Ze, Zc, Zf, Z57]
  refine ⟨by omega, ?_⟩
  refine callr_ret c1 rfl rfl ?_
  simp only [Zu, Za, Zb, Zg, Zh, Zi, Zk, Zl, Zm, Zn, ↓reduceIte, reduceCtorEq, Zd, Ze, Zc, Zf, Z57]
  refine ⟨by omega, by omega, ?_⟩
  refine callr_ret c2 rfl rfl ?_
  simp only [Zu, Za, Zb, Zg, Zh, Zi, Zk, Zl, Zm, Zn, ↓reduceIte, reduceCtorEq, Zd, Ze, Zc, Zf, Z57]
  exact ⟨by simp; omega, PostR.pure ⟨by simp, rfl⟩ rfl⟩
set_option maxHeartbeats 8000000
theorem lin_1 {w : List UInt8} {n : Int} (hw : w.length ≤ 8) (h10 : (10 : UInt8) ∉ w) (hn : okM n) (h : ∀ {bs rs ps ra : List Int} {q : List Nat}, Dok bs rs ps ra q → ∃ d' out, Ans (bs, rs, ps, ra, q) (ln w (Lib.itoa n)) d' out) : Lin (ln w (Lib.itoa n)) :=
  ⟨h, ln_10 h10 (n10 n), by rw [ln_len]; have := i21 hn; omega⟩
theorem lin_2 {w : List UInt8} {n k : Int} (hw : w.length ≤ 8) (h10 : (10 : UInt8) ∉ w) (hn : okM n) (hk : okM k) (h : ∀ {bs rs ps ra : List Int} {q : List Nat}, Dok bs rs ps ra q → ∃ d' out, Ans (bs, rs, ps, ra, q) (ln w (ln (Lib.itoa n) (Lib.itoa k))) d' out) : Lin (ln w (ln (Lib.itoa n) (Lib.itoa k))) :=
  ⟨h, ln_10 h10 (ln_10 (n10 n) (n10 k)), by rw [ln_len, ln_len]; have := i21 hn; have := i21 hk; omega⟩
theorem textB_call (code : List Int) (hc : byteL code) (hl : code.length ≤ 1048576) (a : Nat) (ha : a ≤ 1000000) (sd : Int) (L : List (List UInt8)) (h1 : 1 ≤ L.length) (h2 : L.length ≤ 1000) :
    CallA Tryz.prog 56 [.ptr 0 0 0, .sl 1 0 L.length] [srcB code a sd, strB L] (fun r hp => ∃ (x : List UInt8) (a' : Nat) (sd' : Int), x ∈ L ∧ a' ≤ a + 2 ∧ r = .str x ∧ hp = [srcB code a' sd', strB L]) := by
  have sl := strs_len L
  refine CallP.out (t := .mk) (go_in (md := md56) mixed Tryz.func56 rfl go56 (by kernel_rfl) ?_)
  simp only [Zu, Za, Zb, Zg, Zh, Zi, Zk, Zl, Zm, Zn, ↓reduceIte, reduceCtorEq, Zd, Ze, Zc, Zf, Z56, sl]
  refine pick_at hc hl (by omega) (by omega) (by omega) (fun x a1 sd1 hx ha1 => ?_)
  obtain ⟨i, rfl⟩ := Int.eq_ofNat_of_zero_le hx.1
  have hi : i < L.length := by omega
  have hI : (i : Int) < (L.length : Int) := by omega
  have z : (0 : Int) ≤ (i : Int) := by omega
  simp only [Zu, Za, Zb, Zg, Zh, Zi, Zk, Zl, Zm, Zn, ↓reduceIte, reduceCtorEq, Zd, Ze, Zc, Zf, Z56, strB, sl, strs_get, hi, hI]
  exact PostR.same ⟨L[i], a1, sd1, List.getElem_mem hi, ha1, rfl, rfl⟩
theorem textB_at {code : List Int} (hc : byteL code) (hl : code.length ≤ 1048576) {a : Nat} (ha : a ≤ 1000000) {sd : Int} (L : List (List UInt8)) (h1 : 1 ≤ L.length) (h2 : L.length ≤ 1000) {Q : AV → List Blk → Prop} {t : Tok Q}
    (hQ : ∀ (x : List UInt8) (a' : Nat) (sd' : Int), x ∈ L → a' ≤ a + 2 → Q (.str x) [srcB code a' sd', strB L]) : CallP Tryz.prog 56 [.ptr 0 0 0, .sl 1 0 L.length] [srcB code a sd, strB L] Q t := by
  refine call_handedQ [0, 1] (textB_call code hc hl a ha sd L h1 h2) (by decide) ⟨⟨rfl, rfl⟩, ⟨rfl, strs_below _ _⟩, trivial⟩ rfl rfl ?_
  rintro r hps' ⟨x, a', sd', hx, ha', rfl, rfl⟩
  refine ⟨by intro q hq; simp at hq; rcases hq with rfl | rfl; rfl; exact strs_below _ _, ?_⟩
  have := hQ x a' sd' hx ha'
  simpa [putF, ren, renM, renL] using this
def LinQ (code : List Int) (a : Nat) (r : AV) (hp : List Blk) : Prop := ∃ (line : List UInt8) (a' : Nat) (sd' : Int), Lin line ∧ a' ≤ a + 80 ∧ r = .str line ∧ hp = [srcB code a' sd']
theorem lin_done {code : List Int} {a a' : Nat} {sd' : Int} {line : List UInt8} {rest : List Blk} (h : Lin line) (ha : a' ≤ a + 80) : PostR 1 (.str line) (srcB code a' sd' :: rest) (LinQ code a) :=
  PostR.tell [0] (r2 := .str line) (hp2 := [srcB code a' sd']) (by decide) (Nat.le_refl 1) (fun b hb => by
    have e : b = 0 := Nat.lt_one_iff.1 hb
    subst e; rfl) ⟨⟨rfl, rfl⟩, trivial⟩ rfl rfl ⟨line, a', sd', h, ha, rfl, rfl⟩
def l5L : List (List UInt8) := [[116, 114, 105, 109], [97, 108, 105, 118, 101], [108, 105, 102, 101]]
theorem l5_lin : ∀ x ∈ l5L, Lin x := by
  intro x hx
  simp only [l5L, List.mem_cons, List.not_mem_nil, or_false] at hx
  rcases hx with rfl | rfl | rfl
  · exact ⟨ans_trim, by decide, by decide⟩
  · exact ⟨ans_alive, by decide, by decide⟩
  · exact ⟨ans_life, by decide, by decide⟩
def l6L : List (List UInt8) := [[100, 117, 101, 32], [110, 101, 116, 32], [103, 114, 111, 115, 115, 32], [99, 104, 97, 105, 110, 32]]
theorem l6_lin {n k : Int} (n0 : 0 ≤ n) (n1 : n ≤ 4000) (k0 : 0 ≤ k) (k1 : k ≤ 10000) : ∀ x ∈ l6L, Lin (x ++ Lib.itoa n ++ [32] ++ Lib.itoa k) := by
  intro x hx
  have hn : okM n := ⟨by omega, by omega⟩
  have hk : okM k := ⟨by omega, by omega⟩
  simp only [l6L, List.mem_cons, List.not_mem_nil, or_false] at hx
  rcases hx with rfl | rfl | rfl | rfl
  · simpa [ln] using lin_2 (w := [100, 117, 101]) (by decide) (by decide) hn hk fun D => ans_due D n k n0 (by omega) k0 k1
  · simpa [ln] using lin_2 (w := [110, 101, 116]) (by decide) (by decide) hn hk fun D => ans_net D n k n0 (by omega) k0 k1
  · simpa [ln] using lin_2 (w := [103, 114, 111, 115, 115]) (by decide) (by decide) hn hk fun D => ans_gross D n k n0 (by omega) k0 k1
  · simpa [ln] using lin_2 (w := [99, 104, 97, 105, 110]) (by decide) (by decide) hn hk fun D => ans_chain D n k n0 (by omega) k0 k1
def l7L : List (List UInt8) := [[109, 101, 97, 110, 32], [114, 97, 116, 101, 32], [115, 104, 97, 114, 101, 32], [102, 117, 110, 100, 32], [115, 97, 102, 101, 32]]
theorem l7_lin {n : Int} (n0 : 0 ≤ n) (n1 : n ≤ 4000) : ∀ x ∈ l7L, Lin (x ++ Lib.itoa n) := by
  intro x hx
  have hn : okM n := ⟨by omega, by omega⟩
  simp only [l7L, List.mem_cons, List.not_mem_nil, or_false] at hx
  rcases hx with rfl | rfl | rfl | rfl | rfl
  · simpa [ln] using lin_1 (w := [109, 101, 97, 110]) (by decide) (by decide) hn fun D => ans_mean D n n0 (by omega)
  · simpa [ln] using lin_1 (w := [114, 97, 116, 101]) (by decide) (by decide) hn fun D => ans_rate D n n0 (by omega)
  · simpa [ln] using lin_1 (w := [115, 104, 97, 114, 101]) (by decide) (by decide) hn fun D => ans_share D n n0 (by omega)
  · simpa [ln] using lin_1 (w := [102, 117, 110, 100]) (by decide) (by decide) hn fun D => ans_fund D n n0 n1
  · simpa [ln] using lin_1 (w := [115, 97, 102, 101]) (by decide) (by decide) hn fun D => ans_safe D n n0 (by omega)
def l8L : List (List UInt8) := [[104, 111, 108, 100, 32], [98, 101, 115, 116, 32], [115, 112, 97, 110, 32]]
theorem l8_lin {n : Int} (n0 : 0 ≤ n) (n1 : n ≤ 4000) : ∀ x ∈ l8L, Lin (x ++ Lib.itoa n) := by
  intro x hx
  have hn : okM n := ⟨by omega, by omega⟩
  simp only [l8L, List.mem_cons, List.not_mem_nil, or_false] at hx
  rcases hx with rfl | rfl | rfl
  · simpa [ln] using lin_1 (w := [104, 111, 108, 100]) (by decide) (by decide) hn fun D => ans_hold D n n0 (by omega)
  · simpa [ln] using lin_1 (w := [98, 101, 115, 116]) (by decide) (by decide) hn fun D => ans_best D n n0 (by omega)
  · simpa [ln] using lin_1 (w := [115, 112, 97, 110]) (by decide) (by decide) hn fun D => ans_span D n n0 (by omega)
def l11L : List (List UInt8) := [[115, 99, 97, 108, 101], [112, 97, 121, 115], [114, 97, 116, 101, 115], [116, 97, 98, 108, 101]]
theorem l11_lin : ∀ x ∈ l11L, Lin x := by
  intro x hx
  simp only [l11L, List.mem_cons, List.not_mem_nil, or_false] at hx
  rcases hx with rfl | rfl | rfl | rfl
  · exact ⟨ans_show_scale, by decide, by decide⟩
  · exact ⟨ans_show_pays, by decide, by decide⟩
  · exact ⟨ans_show_rates, by decide, by decide⟩
  · exact ⟨ans_show_table, by decide, by decide⟩
theorem lin_scale {bs rs : List Int} (S : Scl bs rs) : Lin ([115, 99, 97, 108, 101, 32] ++ (txt [44] bs ++ 59 :: txt [44] rs)) :=
  ⟨fun D => ans_scale D S, ln_10 (w := [115, 99, 97, 108, 101]) (by decide) (scT_no (by decide) (by decide) (by decide) (by decide) bs rs), by
    have : (txt [44] bs ++ 59 :: txt [44] rs).length ≤ 400 := sc_len S
    rw [List.length_append]; simp only [List.length_cons, List.length_nil]; omega⟩
theorem lin_pays {xs : List Int} (P : Pys xs) : Lin ([112, 97, 121, 115, 32] ++ txt [44] xs) :=
  ⟨fun D => ans_pays D P, ln_10 (w := [112, 97, 121, 115]) (by decide) (t10 xs), by
    have := tx_len P.six fun x hx => ⟨by have := P.low x hx; omega, by have := P.low x hx; omega⟩
    rw [List.length_append]; simp only [List.length_cons, List.length_nil]; omega⟩
theorem lin_rates {xs : List Int} (R : Rts xs) : Lin ([114, 97, 116, 101, 115, 32] ++ txt [44] xs) :=
  ⟨fun D => ans_rates D R, ln_10 (w := [114, 97, 116, 101, 115]) (by decide) (t10 xs), by
    have := tx_len R.six fun x hx => ⟨by have := R.low x hx; omega, by have := R.low x hx; omega⟩
    rw [List.length_append]; simp only [List.length_cons, List.length_nil]; omega⟩
theorem lin_table {xs : List Nat} (T : Tbl xs) (ok : ∀ x ∈ xs, okW x) : Lin ([116, 97, 98, 108, 101, 32] ++ wdsT (hexW xs)) :=
  ⟨fun D => ans_table D T ok, ln_10 (w := [116, 97, 98, 108, 101]) (by decide) (wds_no xs T.one).2, by
    have := wds_len xs T.one
    have := T.six
    rw [List.length_append]; simp only [List.length_cons, List.length_nil]; omega⟩
theorem lin_ann {x : Nat} (h : okW x) : Lin ([97, 110, 110, 117, 105, 116, 121, 32] ++ wdsT (hexW [x])) :=
  ⟨fun D => ans_annuity D x h, ln_10 (w := [97, 110, 110, 117, 105, 116, 121]) (by decide) (wds_no [x] (by simp)).2, by
    have := wds_len [x] (by simp)
    rw [List.length_append]; simp only [List.length_cons, List.length_nil] at this ⊢; omega⟩
theorem lin_mix {n : Int} (n0 : 0 ≤ n) (n1 : n ≤ 100000) : Lin ([109, 105, 120, 32] ++ Lib.itoa n) := by
  have hn : okM n := ⟨by omega, by omega⟩
  simpa [ln] using lin_1 (w := [109, 105, 120]) (by decide) (by decide) hn fun D => ans_mix D n n0 n1
theorem lin_down {n k : Int} (n0 : 0 ≤ n) (n1 : n ≤ 4000) (k0 : 0 ≤ k) (k1 : k ≤ 10000) : Lin ([100, 111, 119, 110, 32] ++ Lib.itoa n ++ [32] ++ Lib.itoa k) := by
  have hn : okM n := ⟨by omega, by omega⟩
  have hk : okM k := ⟨by omega, by omega⟩
  simpa [ln] using lin_2 (w := [100, 111, 119, 110]) (by decide) (by decide) hn hk fun D => ans_down D n k n0 (by omega) k0 k1
theorem drawLine_call (code : List Int) (hc : byteL code) (hl : code.length ≤ 1048576) (a : Nat) (ha : a ≤ 50000) (sd : Int) :
    CallA Tryz.prog 25 [.ptr 0 0 0] [srcB code a sd] (LinQ code a) := by
  refine CallP.out (t := .mk) (go_in (md := md25) mixed Tryz.func25 rfl go25 (by kernel_rfl) ?_)
  simp only [Zu, Za, Zb, Zg, Zh, Zi, Zk, Zl, Zm, Zn, ↓reduceIte, reduceCtorEq, Zd, Ze, Zc, Zf, Z25]
  refine pick_at hc hl (by omega) (by omega) (by omega) (fun x a1 sd1 hx ha1 => ?_)
  simp only [Zu, Za, Zb, Zg, Zh, Zi, Zk, Zl, Zm, Zn, ↓reduceIte, reduceCtorEq, Zd, Ze, Zc, Zf, Z25]
  refine call_ret (specDec_call x (by omega) (by omega)) rfl rfl ?_
  simp only [Zu, Za, Zb, Zg, Zh, Zi, Zk, Zl, Zm, Zn, ↓reduceIte, reduceCtorEq, Zd, Ze, Zc, Zf, Z25]
  refine pick_at hc hl (by omega) (by omega) (by omega) (fun y a2 sd2 hy ha2 => ?_)
  simp only [Zu, Za, Zb, Zg, Zh, Zi, Zk, Zl, Zm, Zn, ↓reduceIte, reduceCtorEq, Zd, Ze, Zc, Zf, Z25]
  refine call_ret (specDec_call y (by omega) (by omega)) rfl rfl ?_
  simp only [Zu, Za, Zb, Zg, Zh, Zi, Zk, Zl, Zm, Zn, ↓reduceIte, reduceCtorEq, Zd, Ze, Zc, Zf, Z25]
  refine pick_at hc hl (by omega) (by omega) (by omega) (fun z a3 sd3 hz ha3 => ?_)
  have lx := itoa_len (x := x) ⟨by omega, by omega⟩
  have ly := itoa_len (x := y) ⟨by omega, by omega⟩
  simp only [Zu, Za, Zb, Zg, Zh, Zi, Zk, Zl, Zm, Zn, ↓reduceIte, reduceCtorEq, Zd, Ze, Zc, Zf, Z25]
  refine br_intro (fun g0 => ?_) (fun g0 => ?_) <;> simp only [Zu, Za, Zb, Zg, Zh, Zi, Zk, Zl, Zm, Zn, ↓reduceIte, reduceCtorEq, Zd, Ze, Zc, Zf, Z25]
  · refine textB_at hc hl (by omega) oddL (by decide) (by decide) (fun w a4 sd4 hw ha4 => ?_)
    simp only [Zu, Za, Zb, Zg, Zh, Zi, Zk, Zl, Zm, Zn, ↓reduceIte, reduceCtorEq, Zd, Ze, Zc, Zf, Z25]
    exact lin_done (odd_lin w hw) (by omega)
  refine br_intro (fun g1 => ?_) (fun g1 => ?_) <;> simp only [Zu, Za, Zb, Zg, Zh, Zi, Zk, Zl, Zm, Zn, ↓reduceIte, reduceCtorEq, Zd, Ze, Zc, Zf, Z25]
  · refine call_handedQ [0] (l02DrawOk_call code hc hl a3 (by omega) sd3) (by decide) ⟨⟨rfl, rfl⟩, trivial⟩ rfl rfl ?_
    rintro r hps' ⟨bs, rs, a4, sd4, ⟨S, b4, b16⟩, ha4, rfl, rfl⟩
    refine ⟨?_, ?_⟩
    · intro y hy
      simp at hy
      rcases hy with rfl | rfl | rfl
      · rfl
      · exact ints_below _ _
      · exact ints_below _ _
    simp only [Zu, Za, Zb, Zg, Zh, Zi, Zk, Zl, Zm, Zn, ↓reduceIte, reduceCtorEq, Zd, Ze, Zc, Zf, Z25, ren, renM, renL, putF, upName]
    have tl := sc_len S
    unfold scT at tl
    have okb : ∀ x ∈ bs, okI x := fun x hx => ⟨by have := S.top x hx; omega, by have := S.top x hx; omega⟩
    have okr : ∀ x ∈ rs, okI x := fun x hx => ⟨by have := S.rate x hx; omega, by have := S.rate x hx; omega⟩
    have b0 := S.zero
    have nb : bs ≠ [] := by rintro rfl; simp at b0
    have sl := S.len
    have nr : rs ≠ [] := by rintro rfl; exact nb (List.length_eq_zero_iff.1 sl.symm)
    refine call_lent 3 (args' := [.rop [.ro (ints bs), .ro (ints rs)]]) ?_ (l08Scale_call bs rs [] (by omega) (by omega) nb nr okb okr) rfl rfl ?_
    · rw [List.map_cons, List.map_nil, view_ptr]
      simp only [List.getElem?_cons_succ, List.getElem?_cons_zero, AV.cells, List.drop_zero, List.map_cons, List.map_nil, if_true, List.getElem?_nil]
      have v1 : view 2 [srcB code a4 sd4, intB bs, intB rs, { ty := 26, w := 2, els := [.agg [.sl 1 0 bs.length, .sl 2 0 bs.length]] }] (.sl 1 0 bs.length) = .ro (ints bs) := view_in rfl rfl
      have v2 : view 2 [srcB code a4 sd4, intB bs, intB rs, { ty := 26, w := 2, els := [.agg [.sl 1 0 bs.length, .sl 2 0 bs.length]] }] (.sl 2 0 bs.length) = .ro (ints rs) := by rw [← sl]; exact view_in rfl rfl
      rw [v1, v2]
    simp only [Zu, Za, Zb, Zg, Zh, Zi, Zk, Zl, Zm, Zn, ↓reduceIte, reduceCtorEq, Zd, Ze, Zc, Zf, Z25]
    exact ⟨by omega, lin_done (lin_scale S) (by omega)⟩
  refine br_intro (fun g2 => ?_) (fun g2 => ?_) <;> simp only [Zu, Za, Zb, Zg, Zh, Zi, Zk, Zl, Zm, Zn, ↓reduceIte, reduceCtorEq, Zd, Ze, Zc, Zf, Z25]
  · refine call_handedQ [0] (drawPays_call code hc hl a3 (by omega) sd3) (by decide) ⟨⟨rfl, rfl⟩, trivial⟩ rfl rfl ?_
    rintro r hps' ⟨ps, a4, sd4, ⟨p1, p5, pb⟩, ha4, rfl, rfl⟩
    refine ⟨?_, ?_⟩
    · intro y hy
      simp at hy
      rcases hy with rfl | rfl
      · rfl
      · exact ints_below _ _
    simp only [Zu, Za, Zb, Zg, Zh, Zi, Zk, Zl, Zm, Zn, ↓reduceIte, reduceCtorEq, Zd, Ze, Zc, Zf, Z25, ren, renM, renL, putF, upName]
    have P : Pys ps := ⟨p1, by omega, pb⟩
    have tl := tx_len (xs := ps) P.six fun x hx => ⟨by have := P.low x hx; omega, by have := P.low x hx; omega⟩
    refine call_lent 2 (by simp only [List.map_cons, List.map_nil, view_in (hp := [srcB code a4 sd4, intB ps]) (i := 1) rfl rfl]) (l01Text_call ps (by omega) (List.length_pos_iff.1 p1) fun x hx => ⟨by have := P.low x hx; omega, by have := P.low x hx; omega⟩) rfl rfl ?_
    simp only [Zu, Za, Zb, Zg, Zh, Zi, Zk, Zl, Zm, Zn, ↓reduceIte, reduceCtorEq, Zd, Ze, Zc, Zf, Z25]
    exact ⟨by omega, lin_done (lin_pays P) (by omega)⟩
  refine br_intro (fun g3 => ?_) (fun g3 => ?_) <;> simp only [Zu, Za, Zb, Zg, Zh, Zi, Zk, Zl, Zm, Zn, ↓reduceIte, reduceCtorEq, Zd, Ze, Zc, Zf, Z25]
  · refine call_handedQ [0] (drawRates_call code hc hl a3 (by omega) sd3) (by decide) ⟨⟨rfl, rfl⟩, trivial⟩ rfl rfl ?_
    rintro r hps' ⟨ps, a4, sd4, ⟨p1, p5, pb⟩, ha4, rfl, rfl⟩
    refine ⟨?_, ?_⟩
    · intro y hy
      simp at hy
      rcases hy with rfl | rfl
      · rfl
      · exact ints_below _ _
    simp only [Zu, Za, Zb, Zg, Zh, Zi, Zk, Zl, Zm, Zn, ↓reduceIte, reduceCtorEq, Zd, Ze, Zc, Zf, Z25, ren, renM, renL, putF, upName]
    have P : Rts ps := ⟨p1, by omega, fun x hx => by have := pb x hx; omega⟩
    have tl := tx_len (xs := ps) P.six fun x hx => ⟨by have := P.low x hx; omega, by have := P.low x hx; omega⟩
    refine call_lent 2 (by simp only [List.map_cons, List.map_nil, view_in (hp := [srcB code a4 sd4, intB ps]) (i := 1) rfl rfl]) (l01Text_call ps (by omega) (List.length_pos_iff.1 p1) fun x hx => ⟨by have := P.low x hx; omega, by have := P.low x hx; omega⟩) rfl rfl ?_
    simp only [Zu, Za, Zb, Zg, Zh, Zi, Zk, Zl, Zm, Zn, ↓reduceIte, reduceCtorEq, Zd, Ze, Zc, Zf, Z25]
    exact ⟨by omega, lin_done (lin_rates P) (by omega)⟩
  refine br_intro (fun g4 => ?_) (fun g4 => ?_) <;> simp only [Zu, Za, Zb, Zg, Zh, Zi, Zk, Zl, Zm, Zn, ↓reduceIte, reduceCtorEq, Zd, Ze, Zc, Zf, Z25]
  · refine call_handedQ [0] (drawTable_call code hc hl a3 (by omega) sd3) (by decide) ⟨⟨rfl, rfl⟩, trivial⟩ rfl rfl ?_
    rintro r hps' ⟨q, a4, sd4, T, okq, ha4, rfl, rfl⟩
    refine ⟨?_, ?_⟩
    · intro y hy
      simp at hy
      rcases hy with rfl | rfl
      · rfl
      · exact flts_below _ _
    simp only [Zu, Za, Zb, Zg, Zh, Zi, Zk, Zl, Zm, Zn, ↓reduceIte, reduceCtorEq, Zd, Ze, Zc, Zf, Z25, ren, renM, renL, putF, upName]
    have tl := wds_len q T.one
    have t6 := T.six
    refine call_lent 2 (by simp only [List.map_cons, List.map_nil, view_fl (hp := [srcB code a4 sd4, fltB q]) (i := 1) rfl rfl]) (l01NText_call q T.one (by omega) okq) rfl rfl ?_
    simp only [Zu, Za, Zb, Zg, Zh, Zi, Zk, Zl, Zm, Zn, ↓reduceIte, reduceCtorEq, Zd, Ze, Zc, Zf, Z25]
    exact ⟨by omega, lin_done (lin_table T okq) (by omega)⟩
  refine br_intro (fun g5 => ?_) (fun g5 => ?_) <;> simp only [Zu, Za, Zb, Zg, Zh, Zi, Zk, Zl, Zm, Zn, ↓reduceIte, reduceCtorEq, Zd, Ze, Zc, Zf, Z25]
  · refine textB_at hc hl (by omega) l5L (by decide) (by decide) (fun w a4 sd4 hw ha4 => ?_)
    simp only [Zu, Za, Zb, Zg, Zh, Zi, Zk, Zl, Zm, Zn, ↓reduceIte, reduceCtorEq, Zd, Ze, Zc, Zf, Z25]
    exact lin_done (l5_lin w hw) (by omega)
  refine br_intro (fun g6 => ?_) (fun g6 => ?_) <;> simp only [Zu, Za, Zb, Zg, Zh, Zi, Zk, Zl, Zm, Zn, ↓reduceIte, reduceCtorEq, Zd, Ze, Zc, Zf, Z25]
  · refine textB_at hc hl (by omega) l6L (by decide) (by decide) (fun w a4 sd4 hw ha4 => ?_)
    simp only [Zu, Za, Zb, Zg, Zh, Zi, Zk, Zl, Zm, Zn, ↓reduceIte, reduceCtorEq, Zd, Ze, Zc, Zf, Z25]
    have lw : ∀ w ∈ l6L, w.length ≤ 8 := by decide
    have lw := lw w hw
    exact ⟨by omega, by simp; omega, by simp; omega, lin_done (l6_lin (by omega) (by omega) (by omega) (by omega) w hw) (by omega)⟩
  refine br_intro (fun g7 => ?_) (fun g7 => ?_) <;> simp only [Zu, Za, Zb, Zg, Zh, Zi, Zk, Zl, Zm, Zn, ↓reduceIte, reduceCtorEq, Zd, Ze, Zc, Zf, Z25]
  · refine textB_at hc hl (by omega) l7L (by decide) (by decide) (fun w a4 sd4 hw ha4 => ?_)
    simp only [Zu, Za, Zb, Zg, Zh, Zi, Zk, Zl, Zm, Zn, ↓reduceIte, reduceCtorEq, Zd, Ze, Zc, Zf, Z25]
    have lw : ∀ w ∈ l7L, w.length ≤ 8 := by decide
    have lw := lw w hw
    exact ⟨by omega, lin_done (l7_lin (by omega) (by omega) w hw) (by omega)⟩
  refine br_intro (fun g8 => ?_) (fun g8 => ?_) <;> simp only [Zu, Za, Zb, Zg, Zh, Zi, Zk, Zl, Zm, Zn, ↓reduceIte, reduceCtorEq, Zd, Ze, Zc, Zf, Z25]
  · refine textB_at hc hl (by omega) l8L (by decide) (by decide) (fun w a4 sd4 hw ha4 => ?_)
    simp only [Zu, Za, Zb, Zg, Zh, Zi, Zk, Zl, Zm, Zn, ↓reduceIte, reduceCtorEq, Zd, Ze, Zc, Zf, Z25]
    have lw : ∀ w ∈ l8L, w.length ≤ 8 := by decide
    have lw := lw w hw
    exact ⟨by omega, lin_done (l8_lin (by omega) (by omega) w hw) (by omega)⟩
  refine br_intro (fun g9 => ?_) (fun g9 => ?_) <;> simp only [Zu, Za, Zb, Zg, Zh, Zi, Zk, Zl, Zm, Zn, ↓reduceIte, reduceCtorEq, Zd, Ze, Zc, Zf, Z25]
  · refine pick_at hc hl (by omega) (by omega) (by omega) (fun u a4 sd4 hu ha4 => ?_)
    have e1 : IntKind.i64.wrap (500 * u) = 500 * u := w64 (by omega) (by omega)
    simp only [Zu, Za, Zb, Zg, Zh, Zi, Zk, Zl, Zm, Zn, ↓reduceIte, reduceCtorEq, Zd, Ze, Zc, Zf, Z25, e1]
    refine call_ret (specDec_call (500 * u) (by omega) (by omega)) rfl rfl ?_
    have lu := itoa_len (x := 500 * u) ⟨by omega, by omega⟩
    simp only [Zu, Za, Zb, Zg, Zh, Zi, Zk, Zl, Zm, Zn, ↓reduceIte, reduceCtorEq, Zd, Ze, Zc, Zf, Z25]
    exact ⟨by omega, lin_done (lin_mix (by omega) (by omega)) (by omega)⟩
  refine br_intro (fun g10 => ?_) (fun g10 => ?_) <;> simp only [Zu, Za, Zb, Zg, Zh, Zi, Zk, Zl, Zm, Zn, ↓reduceIte, reduceCtorEq, Zd, Ze, Zc, Zf, Z25]
  · refine one_at hc hl (by omega) (by omega) (by omega) (fun b a4 sd4 ha4 => ?_)
    simp only [Zu, Za, Zb, Zg, Zh, Zi, Zk, Zl, Zm, Zn, ↓reduceIte, reduceCtorEq, Zd, Ze, Zc, Zf, Z25]
    refine br_intro (fun gb => ?_) (fun gb => ?_) <;> simp only [Zu, Za, Zb, Zg, Zh, Zi, Zk, Zl, Zm, Zn, ↓reduceIte, reduceCtorEq, Zd, Ze, Zc, Zf, Z25]
    · refine pick_at hc hl (by omega) (by omega) (by omega) (fun u a5 sd5 hu ha5 => ?_)
      simp only [Zu, Za, Zb, Zg, Zh, Zi, Zk, Zl, Zm, Zn, ↓reduceIte, reduceCtorEq, Zd, Ze, Zc, Zf, Z25]
      have okx := ok_div (canon .f32 (FloatKind.nearest .f32 u)) (canon .f32 1115684864)
      generalize fdiv .f32 (canon .f32 (FloatKind.nearest .f32 u)) (canon .f32 1115684864) = X at okx
      have tl := wds_len [X] (by simp)
      refine call_lent 2 (args' := [.ro (flts [X])]) (by simp [view_sl, view_flt, flts]) (l01NText_call [X] (by simp) (by simp) (by intro y hy; rw [List.mem_singleton.1 hy]; exact okx)) rfl rfl ?_
      simp only [Zu, Za, Zb, Zg, Zh, Zi, Zk, Zl, Zm, Zn, ↓reduceIte, reduceCtorEq, Zd, Ze, Zc, Zf, Z25]
      exact ⟨by simp at tl; omega, lin_done (lin_ann okx) (by omega)⟩
    · refine pick_at hc hl (by omega) (by omega) (by omega) (fun u a5 sd5 hu ha5 => ?_)
      simp only [Zu, Za, Zb, Zg, Zh, Zi, Zk, Zl, Zm, Zn, ↓reduceIte, reduceCtorEq, Zd, Ze, Zc, Zf, Z25]
      refine call_ret (specDec_call u (by omega) (by omega)) rfl rfl ?_
      have lu := itoa_len (x := u) ⟨by omega, by omega⟩
      simp only [Zu, Za, Zb, Zg, Zh, Zi, Zk, Zl, Zm, Zn, ↓reduceIte, reduceCtorEq, Zd, Ze, Zc, Zf, Z25]
      exact ⟨by omega, by omega, by simp; omega, lin_done (lin_down (by omega) (by omega) (by omega) (by omega)) (by omega)⟩
  · refine textB_at hc hl (by omega) l11L (by decide) (by decide) (fun w a4 sd4 hw ha4 => ?_)
    simp only [Zu, Za, Zb, Zg, Zh, Zi, Zk, Zl, Zm, Zn, ↓reduceIte, reduceCtorEq, Zd, Ze, Zc, Zf, Z25]
    exact lin_done (l11_lin w hw) (by omega)
structure DrL (n : Nat) (L : List (List UInt8)) (a : Nat) : Prop where
  len : L.length ≤ n
  ok : ∀ x ∈ L, Lin x
  at_ : a ≤ 2 + 80 * L.length
theorem DrL.next {n : Nat} {L : List (List UInt8)} {a a' : Nat} {x : List UInt8} (D : DrL n L a) (hl : L.length < n) (hx : Lin x) (ha : a' ≤ a + 80) : DrL n (L ++ [x]) a' :=
  ⟨by simp; omega, fun y hy => by
    rcases List.mem_append.1 hy with h | h
    · exact D.ok y h
    · rw [List.mem_singleton.1 h]; exact hx, by have := D.at_; simp; omega⟩
theorem line_at {code : List Int} (hc : byteL code) (hl : code.length ≤ 1048576) {a : Nat} (ha : a ≤ 50000) {sd : Int} {rest : List Blk} {Q : AV → List Blk → Prop} {t : Tok Q}
    (hQ : ∀ (x : List UInt8) (a' : Nat) (sd' : Int), Lin x → a' ≤ a + 80 → Q (.str x) (srcB code a' sd' :: rest)) : CallP Tryz.prog 25 [.ptr 0 0 0] (srcB code a sd :: rest) Q t := by
  refine call_handedQ [0] (drawLine_call code hc hl a ha sd) (by decide) ⟨⟨rfl, rfl⟩, trivial⟩ rfl rfl ?_
  rintro r hps' ⟨x, a', sd', hx, ha', rfl, rfl⟩
  refine ⟨by intro q hq; simp at hq; subst hq; rfl, ?_⟩
  have := hQ x a' sd' hx ha'
  simpa [putF, ren, renM, renL] using this
theorem lines0_call (code : List Int) (hc : byteL code) (hl : code.length ≤ 1048576) :
    CallA Tryz.prog 7 [.ro (kint .u8 code)] [] (fun r hp => ∃ (L : List (List UInt8)), (1 ≤ L.length ∧ L.length ≤ 5 ∧ ∀ x ∈ L, Lin x) ∧ r = .sl 0 0 L.length ∧ hp = [strB L]) := by
  refine CallP.out (t := .mk) (go_in (md := md7) mixed Tryz.func7 rfl go7 (by kernel_rfl) ?_)
  simp only [Zu, Za, Zb, Zg, Zh, Zi, Zk, Zl, Zm, Zn, ↓reduceIte, reduceCtorEq, Zd, Ze, Zc, Zf, Z7]
  refine call_new (l00From_call code) rfl (by intro q hq; simp at hq; subst hq; rfl) ?_
  simp only [Zu, Za, Zb, Zg, Zh, Zi, Zk, Zl, Zm, Zn, ↓reduceIte, reduceCtorEq, Zd, Ze, Zc, Zf, Z7, ren, renM, renL]
  refine pick_at hc hl (by omega) (by omega) (by omega) (fun x a1 sd1 hx ha1 => ?_)
  have e1 : IntKind.i64.wrap (1 + x) = 1 + x := w64 (by omega) (by omega)
  obtain ⟨N, hN⟩ : ∃ N : Nat, 1 + x = (N : Int) := ⟨(1 + x).toNat, by omega⟩
  rw [hN] at e1
  simp only [Zu, Za, Zb, Zg, Zh, Zi, Zk, Zl, Zm, Zn, ↓reduceIte, reduceCtorEq, Zd, Ze, Zc, Zf, Z7, e1, hN]
  refine go_round (md := md7) mixed (by kernel_rfl) (fun d : {p : List (List UInt8) × Nat × Int // DrL N p.1 p.2.1} => ⟨[.any, .any, .any, .ptr 0 0 0, .sl 1 0 d.1.1.length, .int .i64 ((N : Int) - d.1.1.length), .any, .any, .any, .any, .any, .any, .any, .any, .any, .any, .any, .any, .any, .any, .any, .any], [srcB code d.1.2.1 d.1.2.2, strB d.1.1]⟩) (fun d => N - d.1.1.length) ⟨([], a1, sd1), ⟨by simp, by simp, by simp; omega⟩⟩ ?_ ?_
  · have zf : strs [] = [] := rfl
    exact weak_drop (by simp) (by simp [DropHp, ints_below, flts_below, srcB_below, strB, zf, allBelow_cons, allBelow_nil, below, belowM, belowL]) (by simp [DropTm, DropV, below, belowM, belowL, srcB_below, strB, zf, allBelow_cons, allBelow_nil, below, belowM, belowL])
  rintro ⟨⟨out, a, sd⟩, D⟩
  have D1 := D.len
  have D2 := D.at_
  simp only [] at D1 D2
  simp only [Zu, Za, Zb, Zg, Zh, Zi, Zk, Zl, Zm, Zn, ↓reduceIte, reduceCtorEq, Zd, Ze, Zc, Zf, Z7, strB, strs_len]
  refine br_intro (fun g => ?_) (fun g => ?_) <;> simp only [Zu, Za, Zb, Zg, Zh, Zi, Zk, Zl, Zm, Zn, ↓reduceIte, reduceCtorEq, Zd, Ze, Zc, Zf, Z7, strB, strs_len]
  · have hR : out.length < N := by have := of_decide_eq_true g; omega
    refine line_at hc hl (by omega) (fun y a2 sd2 hy ha2 => ?_)
    simp only [Zu, Za, Zb, Zg, Zh, Zi, Zk, Zl, Zm, Zn, ↓reduceIte, reduceCtorEq, Zd, Ze, Zc, Zf, Z7, strB, strs_len, allW_int, fits, List.isEmpty_cons, brk_false, Nat.reduceMul, srcB_kill, strs_more]
    have ek : IntKind.i64.wrap ((N : Int) - out.length - 1) = (N : Int) - (out ++ [y]).length := by rw [w64 (by omega) (by omega)]; simp; omega
    have el : out.length + 1 = (out ++ [y]).length := by simp
    have DN := D.next hR hy ha2
    refine ⟨allW_str _, by omega, ⟨(out ++ [y], a2, sd2), DN⟩, by show N - (out ++ [y]).length < _; rw [← el]; omega, ?_⟩
    show Weak 0 _ ⟨_, _⟩
    rw [ek, el]
    dsimp only
    generalize out ++ [y] = ys
    exact weak_drop (by simp) (by simp [DropHp, ints_below, flts_below, srcB_below, strB, strs_below, allBelow_cons, allBelow_nil, below, belowM, belowL]) (by simp [DropTm, DropV, below, belowM, belowL, srcB_below, strB, strs_below, allBelow_cons, allBelow_nil, below, belowM, belowL])
  · have hR : out.length = N := by have := of_decide_eq_false g; omega
    refine PostR.tell [1] (r2 := .sl 0 0 out.length) (hp2 := [strB out]) (by decide) (by decide) (by decide) ⟨⟨congrArg some (renB_flat (r := strB out) (strs_below _ _)).symm, strs_below _ _⟩, trivial⟩ rfl rfl ⟨out, ⟨by omega, by omega, D.ok⟩, rfl, rfl⟩
theorem view_strB (L : List (List UInt8)) : view 2 [strB L] (.sl 0 0 L.length) = .ro (strs L) := by
  simp [view_sl, strB, map_view_strs, strs_len, List.take_of_length_le]
theorem r8Lines_call (code : List Int) (hc : byteL code) (hl : code.length ≤ 1048576) :
    CallA Tryz.prog 7 [.ro (kint .u8 code)] [] (fun r hp => ∃ (L : List (List UInt8)), (1 ≤ L.length ∧ L.length ≤ 5 ∧ ∀ x ∈ L, Lin x) ∧ r = .ro (strs L) ∧ hp = []) := by
  refine (CallA.freezeQ 2 (lines0_call code hc hl)).mono ?_
  rintro r hp ⟨r0, new, ⟨L, h, rfl, rfl⟩, rfl, rfl⟩
  exact ⟨L, h, view_strB L, rfl⟩
theorem sameD_self (a b c d : List Int) (f : List Nat) : sameD a b c d f a b c d f = true := by
  have p : sameAll f f = true := by
    unfold sameAll
    rw [decide_eq_true rfl, Bool.true_and]
    exact pref_iff.2 fun j _ => beq_self_eq_true _
  unfold sameD
  rw [p, beq_self_eq_true, beq_self_eq_true, beq_self_eq_true, beq_self_eq_true]; rfl
theorem same_self {d : DV} (D : DokV d) : CallA Tryz.prog 10 [dvA d, dvA d] [] (Ret (.bool true) []) := by
  have b := Dok.b1 D
  have p := D.pys.six
  have r := D.rts.six
  have t := D.tab.six
  have sd := implSame_call d.1 d.2.1 d.2.2.1 d.2.2.2.1 d.2.2.2.2 d.1 d.2.1 d.2.2.1 d.2.2.2.1 d.2.2.2.2 (by omega) (by omega) (by omega) (by omega) (by omega)
  rw [sameD_self] at sd
  exact sd
structure Seq (L O : List (List UInt8)) (S : Nat → DV) : Prop where
  ol : O.length = L.length
  ok : ∀ i, i ≤ L.length → DokV (S i)
  ans : ∀ i, (h : i < L.length) → Ans (S i) L[i] (S (i + 1)) (O.getD i [])
theorem seq_ex : ∀ (L : List (List UInt8)), (∀ x ∈ L, Lin x) → ∀ d, DokV d → ∃ (O : List (List UInt8)) (S : Nat → DV), S 0 = d ∧ Seq L O S
  | [], _, d, D => ⟨[], fun _ => d, rfl, rfl, fun _ _ => D, fun i h => absurd h (Nat.not_lt_zero i)⟩
  | x :: L, h, d, D => by
    obtain ⟨d', out, A⟩ := (h x List.mem_cons_self).ans D
    obtain ⟨O, S, e, s1, s2, s3⟩ := seq_ex L (fun y hy => h y (List.mem_cons_of_mem x hy)) d' A.ok
    refine ⟨out :: O, fun i => match i with | 0 => d | i + 1 => S i, rfl, by simp [s1], ?_, ?_⟩
    · intro i hi
      cases i with
      | zero => exact D
      | succ i => exact s2 i (by simp at hi; omega)
    · intro i hi
      cases i with
      | zero => show Ans d x (S 0) out; rw [e]; exact A
      | succ i => exact s3 i (by simp at hi; omega)
theorem lin_le (c : UInt8) (m : Nat) : ∀ (L : List (List UInt8)), (∀ x ∈ L, x.length ≤ m) → (linT c L).length ≤ L.length * (m + 1)
  | [], _ => by simp [linT]
  | x :: L, h => by
    have e : linT c (x :: L) = x ++ [c] ++ linT c L := by simp [linT]
    have := lin_le c m L fun y hy => h y (List.mem_cons_of_mem x hy)
    have hx := h x List.mem_cons_self
    rw [e]
    simp only [List.length_append, List.length_cons, List.length_nil]
    rw [Nat.add_mul]
    omega
section
variable {L O : List (List UInt8)} {S : Nat → DV}
theorem Seq.outs (Q : Seq L O S) : ∀ x ∈ O, (10 : UInt8) ∉ x ∧ x.length ≤ 500 := by
  intro x hx
  obtain ⟨i, hi, rfl⟩ := List.mem_iff_getElem.1 hx
  have A := Q.ans i (by rw [← Q.ol]; exact hi)
  rw [getD_at O [] i hi] at A
  exact ⟨A.no10, A.len⟩
theorem Seq.run (Q : Seq L O S) (h5 : L.length ≤ 5) (hL : ∀ x ∈ L, Lin x) : Run L O S := by
  have D := Q.ok 0 (Nat.zero_le _)
  have a := lin_le 10 500 L fun x hx => (hL x hx).len
  have b := lin_le 10 500 O fun x hx => (Q.outs x hx).2
  have ol := Q.ol
  refine ⟨fun x hx => (hL x hx).no10, ol, by omega, by omega, Dok.vd D, Dok.clone D, fun i h => (Q.ans i h).call⟩
end
end Go.Proofs.YtodjjpmigcacoaaGreatDoor
