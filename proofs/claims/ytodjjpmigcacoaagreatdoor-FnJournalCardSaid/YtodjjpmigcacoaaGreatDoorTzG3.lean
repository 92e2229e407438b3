/- TzG3: texts joined. -/
import Derived.Test.YtodjjpmigcacoaaGreatDoorBase
import Derived.Test.YtodjjpmigcacoaaGreatDoorAbsM5
import Derived.Test.YtodjjpmigcacoaaGreatDoorTzG1
import Derived.Test.YtodjjpmigcacoaaGreatDoorTzS
import Derived.Lib.ParseIntBCases
import Derived.Handy
import Derived.Below
import Derived.Lib.ParseIntBTie
set_option maxRecDepth 10000
set_option maxHeartbeats 4000000
set_option linter.unusedSimpArgs false
set_option linter.unusedVariables false
namespace Go.Proofs.YtodjjpmigcacoaaGreatDoor
open Go Go.Abs
open Nat renaming reduceAdd → Za, reduceSub → Zb, reduceMul → Zc, reduceLT → Zd, reduceLeDiff → Ze, reduceEqDiff → Zf
open Int renaming reduceToNat → Zn
open Go.Abs renaming lenA → Zg, convA → Zh, indexA → Zi, flatP → Zj, nilI → Zk, ifaA → Zl, indexS → Zm
def strB (l : List (List UInt8)) : Blk := { ty := 9, w := 1, els := strs l }
theorem tabG : (Tryz.prog.globalNamed "internal/strconv.uint64pow10").isSome = true := by kernel_rfl
theorem formatInt_call (n : Int) (h0 : -9223372036854775808 ≤ n) (h1 : n ≤ 9223372036854775807) : CallA Tryz.prog 76 [.int .i64 n, .int .i64 10] [] (Ret (.str (Lib.itoa n)) []) :=
  itoa_call tabG go76 n (fun w ht => strconv_FormatInt_10 n h0 h1 w ht)
theorem decimal_call (n : Int) (h0 : -9223372036854775808 ≤ n) (h1 : n ≤ 9223372036854775807) : CallA Tryz.prog 48 [.int .i64 n] [] (Ret (.str (Lib.itoa n)) []) := by
  refine CallP.out (t := .mk) (go_in (md := md48) mixed Tryz.func48 rfl go48 (by kernel_rfl) ?_)
  simp only [Zu, Za, Zb, Zg, Zh, Zi, Zk, Zl, Zm, Zn, ↓reduceIte, reduceCtorEq, Zd, Ze, Zc, Zf, Z48]
  refine call_ret (formatInt_call n h0 h1) rfl rfl ?_
  simp only [Zu, Za, Zb, Zg, Zh, Zi, Zk, Zl, Zm, Zn, ↓reduceIte, reduceCtorEq, Zd, Ze, Zc, Zf, Z48]
  exact PostR.ret
theorem itoa_abs (n : Int) : Lib.itoa n = if n < 0 then 45 :: Lib.decDigits n.natAbs else Lib.decDigits n.natAbs := by
  unfold Lib.itoa
  by_cases h : n < 0
  · rw [if_pos h, if_pos h]
  · rw [if_neg h, if_neg h]
    congr 1
    omega
theorem digit_byte (m : Nat) (h : m < 10) : ((UInt8.ofNat (48 + m)).toNat : Int) = 48 + m := by
  simp only [UInt8.toNat_ofNat']
  omega
theorem strs_kill (b : Nat) (L : List (List UInt8)) : (strs L).map (kill b) = strs L := by
  unfold strs
  rw [List.map_map]
  exact List.map_congr_left fun x _ => rfl
theorem strs_more (b : Nat) (L : List (List UInt8)) (x : List UInt8) : (strs L ++ [AV.str x]).map (kill b) = strs (L ++ [x]) := by
  rw [show strs L ++ [AV.str x] = strs (L ++ [x]) from (strs_app L [x]).symm, strs_kill]
theorem allW_str (x : List UInt8) : AllW 1 [AV.str x] := by
  intro a ha
  rw [List.mem_singleton.1 ha]
  exact ⟨rfl, rfl⟩
theorem back_strs (xs : List (List UInt8)) : (xs.map fun x => (⟨x.toArray⟩ : ByteArray)).map (·.data.toList) = xs := by
  rw [List.map_map]
  exact (List.map_congr_left fun x _ => rfl).trans (List.map_id xs)
theorem joinS_call (sep : List UInt8) (xs : List (List UInt8)) (hN : xs.length ≤ 1048576) (hlen : (Lib.join xs sep).length ≤ 140737488355328) : CallA Tryz.prog 73 [.ro (strs xs), .str sep] [] (Ret (.str (Lib.join xs sep)) []) := by
  refine join_call go73 sep xs (fun a c w => strings_Join_none a c _ w) (fun bk o c w hc hb hcap => ?_)
  have := strings_Join bk o c (xs.map fun x => (⟨x.toArray⟩ : ByteArray)) ⟨sep.toArray⟩ w (fun j x hx => by
    simp only [List.getElem?_map, Option.map_eq_some_iff] at hx
    obtain ⟨y, h1, rfl⟩ := hx
    exact hc j y h1) hb (by simp; omega) (by simpa using hcap) (by rw [back_strs]; exact hlen)
  rw [back_strs, List.length_map] at this
  exact this
theorem dec_len : ∀ (k u : Nat), u < 10 ^ (k + 1) → (Lib.decDigits u).length ≤ k + 1
  | 0, u, h => by
    unfold Lib.decDigits
    rw [dif_pos (by simpa using h)]
    simp
  | k + 1, u, h => by
    unfold Lib.decDigits
    split
    · simp
    · have : u / 10 < 10 ^ (k + 1) := by
        rw [Nat.div_lt_iff_lt_mul (by omega)]
        rw [Nat.pow_succ] at h
        exact h
      have := dec_len k (u / 10) this
      simp; omega
def okI (x : Int) : Prop := -9223372036854775808 ≤ x ∧ x ≤ 9223372036854775807
theorem itoa_len {x : Int} (h : okI x) : (Lib.itoa x).length ≤ 21 := by
  have h1 : x.natAbs < 10 ^ (19 + 1) := by
    have e : (10 : Nat) ^ (19 + 1) = 100000000000000000000 := by decide
    unfold okI at h
    omega
  have := dec_len 19 x.natAbs h1
  rw [itoa_abs]
  split
  · simp; omega
  · omega
theorem tail_len {sep : List UInt8} (hs : sep.length ≤ 3) : ∀ (r : List (List UInt8)), (∀ x ∈ r, x.length ≤ 21) → (Lib.joinTail sep r).length ≤ r.length * 24
  | [], _ => by simp [Lib.joinTail]
  | x :: r, h => by
    have h1 := h x List.mem_cons_self
    have h2 := tail_len hs r (fun y hy => h y (List.mem_cons_of_mem _ hy))
    simp only [Lib.joinTail, List.map_cons, List.flatten_cons, List.length_append, List.length_cons, List.length_nil] at h2 ⊢
    omega
def txt (sep : List UInt8) (xs : List Int) : List UInt8 := Lib.join (xs.map Lib.itoa) sep
theorem txt_len {sep : List UInt8} (hs : sep.length ≤ 3) (xs : List Int) (h : ∀ x ∈ xs, okI x) : (txt sep xs).length ≤ xs.length * 24 := by
  unfold txt
  cases xs with
  | nil => simp [Lib.join_nil]
  | cons x r =>
    have h1 := itoa_len (h x List.mem_cons_self)
    have h2 := tail_len hs (r.map Lib.itoa) (fun y hy => by
      obtain ⟨z, h3, rfl⟩ := List.mem_map.1 hy
      exact itoa_len (h z (List.mem_cons_of_mem _ h3)))
    rw [List.map_cons, Lib.join_cons]
    simp only [List.length_append, List.length_cons, List.length_map] at h2 ⊢
    omega
theorem txt_succ (sep : List UInt8) (xs : List Int) (i : Nat) (hi : i < xs.length) (h0 : 1 ≤ i) : txt sep (xs.take (i + 1)) = txt sep (xs.take i) ++ sep ++ Lib.itoa xs[i] := by
  cases xs with
  | nil => simp at hi
  | cons x r =>
    obtain ⟨k, rfl⟩ : ∃ k, i = k + 1 := ⟨i - 1, by omega⟩
    have hk : k < r.length := by simpa using hi
    unfold txt
    simp only [List.take_succ_cons, List.map_cons, Lib.join_cons, List.getElem_cons_succ, List.map_take]
    rw [Lib.joinTail_take_succ sep (r.map Lib.itoa) k (Lib.itoa r[k]) (by simp [hk])]
    simp [List.append_assoc]
theorem decimals_call (sep : List UInt8) (hs : sep.length ≤ 3) (xs : List Int) (hm : xs.length ≤ 1048576) (hb : ∀ x ∈ xs, okI x) : CallA Tryz.prog 38 [.ro (ints xs), .str sep] [] (Ret (.str (txt sep xs)) []) := by
  refine CallP.out (t := .mk) (go_in (md := md38) mixed Tryz.func38 rfl go38 (by kernel_rfl) ?_)
  simp only [Zu, Za, Zb, Zg, Zh, Zi, Zk, Zl, Zm, Zn, ↓reduceIte, reduceCtorEq, Zd, Ze, Zc, Zf, Z38]
  refine go_round (md := md38) mixed (by kernel_rfl) (fun i : {i : Nat // i ≤ xs.length} => ⟨[.any, .str sep, .any, .any, .any, .sl 0 0 i.1, .any, .any, .any, .ro (ints xs), .int .i64 xs.length, .int .i64 i.1, .any, .any, .any, .any, .any, .any, .any, .any, .any, .any, .any, .any], [strB ((xs.take i.1).map Lib.itoa)]⟩) (fun i => xs.length - i.1) ⟨0, by omega⟩ ?_ ?_
  · exact weak_drop (by simp) (by simp [DropHp, ints_below, flts_below, strB, strs, allBelow_cons, allBelow_nil, below, belowM, belowL]) (by simp [DropTm, DropV, below, belowM, belowL, strB, strs, allBelow_cons, allBelow_nil, below, belowM, belowL])
  rintro ⟨i, hi⟩
  have ll : (strs ((xs.take i).map Lib.itoa)).length = i := by rw [strs_len, List.length_map, List.length_take]; omega
  have nx := fun h : i < xs.length => (show (xs.take i).map Lib.itoa ++ [Lib.itoa xs[i]] = (xs.take (i + 1)).map Lib.itoa by rw [take_snoc _ _ h, List.map_append]; rfl)
  simp only [Zu, Za, Zb, Zg, Zh, Zi, Zk, Zl, Zm, Zn, ↓reduceIte, reduceCtorEq, Zd, Ze, Zc, Zf, Z38, strB]
  refine br_intro (fun h => ?_) (fun h => ?_) <;> simp only [Zu, Za, Zb, Zg, Zh, Zi, Zk, Zl, Zm, Zn, ↓reduceIte, reduceCtorEq, Zd, Ze, Zc, Zf, Z38, strB]
  · have hi' : i < xs.length := by have := of_decide_eq_true h; omega
    have hI : (i : Int) < (xs.length : Int) := by omega
    have nx := nx hi'
    have ok := hb xs[i] (List.getElem_mem hi')
    have w1 : IntKind.i64.wrap ((i : Int) + 1) = ((i + 1 : Nat) : Int) := by rw [w64 (by omega) (by omega)]; omega
    simp only [Zu, Za, Zb, Zg, Zh, Zi, Zk, Zl, Zm, Zn, ↓reduceIte, reduceCtorEq, Zd, Ze, Zc, Zf, Z38, strB, hi', hI]
    refine call_ret (decimal_call xs[i] ok.1 ok.2) rfl rfl ?_
    generalize (xs.take i).map Lib.itoa = T at ll nx
    simp only [Zu, Za, Zb, Zg, Zh, Zi, Zk, Zl, Zm, Zn, ↓reduceIte, reduceCtorEq, Zd, Ze, Zc, Zf, Z38, strB, hi', hI, allW_int, fits, List.isEmpty_cons, brk_false, Nat.reduceMul, ll, w1]
    refine ⟨allW_str _, by omega, ⟨i + 1, by omega⟩, by show xs.length - (i + 1) < _; omega, ?_⟩
    show Weak 0 _ ⟨_, _⟩
    rw [strs_more, nx]
    exact weak_drop (by simp) (by simp [DropHp, ints_below, flts_below, strB, strs_below, allBelow_cons, allBelow_nil, below, belowM, belowL]) (by simp [DropTm, DropV, below, belowM, belowL, strB, strs_below, allBelow_cons, allBelow_nil, below, belowM, belowL])
  · have hi' : i = xs.length := by have := of_decide_eq_false h; omega
    have tl := txt_len hs xs hb
    subst hi'
    rw [List.take_length] at ll ⊢
    have tk : (strs (xs.map Lib.itoa)).take xs.length = strs (xs.map Lib.itoa) := List.take_of_length_le (by rw [ll]; exact Nat.le_refl _)
    refine call_lent 2 (by simp [view_sl, view_str, strB, map_view_strs, strs_len, tk]) (joinS_call sep (xs.map Lib.itoa) (by simpa using hm) (by show (txt sep xs).length ≤ _; omega)) rfl rfl ?_
    simp only [Zu, Za, Zb, Zg, Zh, Zi, Zk, Zl, Zm, Zn, ↓reduceIte, reduceCtorEq, Zd, Ze, Zc, Zf, Z38]
    exact PostR.pure ⟨rfl, rfl⟩ rfl
theorem digits_step {n : Nat} (h : ¬ n < 10) : Lib.decDigits n = Lib.decDigits (n / 10) ++ [UInt8.ofNat (48 + n % 10)] := by
  conv => lhs; unfold Lib.decDigits
  rw [dif_neg h]
theorem digits_one {n : Nat} (h : n < 10) : Lib.decDigits n = [UInt8.ofNat (48 + n)] := by
  conv => lhs; unfold Lib.decDigits
  rw [dif_pos h]
def bytB (l : List UInt8) : Blk := { ty := 5, w := 1, els := byts l }
theorem txt_zero (sep : List UInt8) : txt sep [] = [] := by simp [txt, Lib.join_nil]
theorem dec_ne (n : Nat) : Lib.decDigits n ≠ [] := by
  unfold Lib.decDigits
  split
  · simp
  · simp
set_option maxHeartbeats 2000000
def dig (c : UInt8) : Bool := decide (48 ≤ c.toNat) && decide (c.toNat ≤ 57)
def valD1 (n : Int) (c : UInt8) : Int := if dig c then 10 * n + (c.toNat - 48 : Int) else n
def valD (l : List UInt8) : Int := l.foldl valD1 0
def valOf (s : List UInt8) : Int := if s.head? = some 45 then -valD s else valD s
def decOf (s : List UInt8) : Option Int := if 1 ≤ s.length ∧ s.length ≤ 17 ∧ inR (-1000000000000000) 1000000000000000 (valOf s) = true ∧ Lib.itoa (valOf s) = s then some (valOf s) else none
theorem digit_toNat {m : Nat} (h : m < 10) : (UInt8.ofNat (48 + m)).toNat = 48 + m := by
  rw [UInt8.toNat_ofNat']; omega
theorem dig_digit {m : Nat} (h : m < 10) : dig (UInt8.ofNat (48 + m)) = true := by
  unfold dig
  rw [digit_toNat h]
  simp; omega
theorem valD_snoc (l : List UInt8) (c : UInt8) : valD (l ++ [c]) = valD1 (valD l) c := by simp [valD]
theorem valD_dec : ∀ (k u : Nat), u < k → valD (Lib.decDigits u) = u
  | 0, u, h => absurd h (Nat.not_lt_zero _)
  | k + 1, u, h => by
    by_cases hu : u < 10
    · rw [digits_one hu]
      show valD1 0 _ = _
      unfold valD1
      rw [dig_digit hu, if_pos rfl, digit_toNat hu]
      omega
    · have hm : u % 10 < 10 := Nat.mod_lt _ (by decide)
      rw [digits_step hu, valD_snoc, valD_dec k (u / 10) (by omega)]
      unfold valD1
      rw [dig_digit hm, if_pos rfl, digit_toNat hm]
      omega
theorem valD_minus (l : List UInt8) : valD (45 :: l) = valD l := rfl
theorem dec_digits : ∀ (k u : Nat), u < k → ∀ c ∈ Lib.decDigits u, dig c = true
  | 0, u, h => absurd h (Nat.not_lt_zero _)
  | k + 1, u, h => by
    intro c hc
    by_cases hu : u < 10
    · rw [digits_one hu] at hc
      rw [List.mem_singleton.1 hc]; exact dig_digit hu
    · rw [digits_step hu] at hc
      rcases List.mem_append.1 hc with m | m
      · exact dec_digits k (u / 10) (by omega) c m
      · rw [List.mem_singleton.1 m]; exact dig_digit (Nat.mod_lt _ (by decide))
theorem dec_head (u : Nat) : (Lib.decDigits u).head? ≠ some 45 := by
  intro h
  have hm : (45 : UInt8) ∈ Lib.decDigits u := List.mem_of_head? h
  have := dec_digits (u + 1) u (by omega) 45 hm
  revert this; decide
theorem valOf_itoa (n : Int) : valOf (Lib.itoa n) = n := by
  rw [itoa_abs]
  unfold valOf
  by_cases h : n < 0
  · rw [if_pos h, if_pos (by rfl), valD_minus, valD_dec (n.natAbs + 1) _ (by omega)]; omega
  · rw [if_neg h, if_neg (dec_head _), valD_dec (n.natAbs + 1) _ (by omega)]; omega
theorem itoa_17 {n : Int} (h : inR (-1000000000000000) 1000000000000000 n = true) : 1 ≤ (Lib.itoa n).length ∧ (Lib.itoa n).length ≤ 17 := by
  have h1 := inR_iff.1 h
  have h2 := dec_len 15 n.natAbs (by have : (10 : Nat) ^ (15 + 1) = 10000000000000000 := by decide
                                     omega)
  have h3 := List.length_pos_iff.2 (dec_ne n.natAbs)
  rw [itoa_abs]
  split
  · rw [List.length_cons]; omega
  · omega
theorem decOf_itoa {n : Int} (h : inR (-1000000000000000) 1000000000000000 n = true) : decOf (Lib.itoa n) = some n := by
  have h1 := itoa_17 h
  unfold decOf
  rw [valOf_itoa, if_pos ⟨h1.1, h1.2, h, rfl⟩]
theorem decOf_some {s : List UInt8} {n : Int} (h : decOf s = some n) : Lib.itoa n = s ∧ inR (-1000000000000000) 1000000000000000 n = true ∧ s.length ≤ 17 := by
  unfold decOf at h
  split at h
  · rename_i hc
    cases h
    exact ⟨hc.2.2.2, hc.2.2.1, hc.2.1⟩
  · cases h
theorem decOf_iff {s : List UInt8} {n : Int} : decOf s = some n ↔ Lib.itoa n = s ∧ inR (-1000000000000000) 1000000000000000 n = true :=
  ⟨fun h => ⟨(decOf_some h).1, (decOf_some h).2.1⟩, fun ⟨h1, h2⟩ => h1 ▸ decOf_itoa h2⟩
theorem parse_snoc (M : Nat) (c : UInt8) : ∀ (l : List UInt8) (acc a : Nat), Lib.parseUintM M acc l = .ok a → Lib.parseUintM M acc (l ++ [c]) = Lib.parseUintM M a [c]
  | [], acc, a, h => by
    unfold Lib.parseUintM at h
    cases h
    rfl
  | d :: l, acc, a, h => by
    rw [List.cons_append]
    unfold Lib.parseUintM at h ⊢
    split at h
    · rename_i h1
      rw [if_pos h1]
      split at h
      · cases h
      · rename_i h2
        rw [if_neg h2]
        split at h
        · cases h
        · rename_i h3
          rw [if_neg h3]
          exact parse_snoc M c l _ _ h
    · cases h
theorem parse_one {M a m : Nat} (hm : m < 10) (h1 : ¬ 1844674407370955162 ≤ a) (h2 : ¬ M < a * 10 + m) : Lib.parseUintM M a [UInt8.ofNat (48 + m)] = .ok (a * 10 + m) := by
  unfold Lib.parseUintM
  rw [digit_toNat hm, if_pos (by omega), if_neg h1, show 48 + m - 48 = m by omega, if_neg h2]
  rfl
theorem parse_dec (M : Nat) (hM : 1000000000000000 ≤ M) : ∀ (k u : Nat), u < k → u ≤ 1000000000000000 → Lib.parseUintM M 0 (Lib.decDigits u) = .ok u
  | 0, u, h, _ => absurd h (Nat.not_lt_zero _)
  | k + 1, u, h, hu => by
    by_cases h10 : u < 10
    · rw [digits_one h10]
      have := parse_one (M := M) (a := 0) h10 (by omega) (by omega)
      simpa using this
    · have hm : u % 10 < 10 := Nat.mod_lt _ (by decide)
      rw [digits_step h10, parse_snoc M _ _ _ _ (parse_dec M hM k (u / 10) (by omega) (by omega)), parse_one hm (by omega) (by omega)]
      congr 1; omega
theorem parseInt_itoa {n : Int} (h : inR (-1000000000000000) 1000000000000000 n = true) : Lib.parseIntB 64 (Lib.itoa n) = .ok n := by
  have h1 := inR_iff.1 h
  have hp := parse_dec (2 ^ 64 - 1) (by decide) (n.natAbs + 1) n.natAbs (by omega) (by omega)
  have hu : Lib.parseUintB 64 (Lib.decDigits n.natAbs) = .ok n.natAbs := by
    unfold Lib.parseUintB
    rw [if_neg (dec_ne _), hp]
  have e63 : (2 : Nat) ^ (64 - 1) = 9223372036854775808 := by decide
  rw [itoa_abs]
  by_cases hn : n < 0
  · rw [if_pos hn, Lib.parseIntB_minus, hu]
    unfold Lib.signedC
    rw [e63]
    show (if (9223372036854775808 : Nat) < n.natAbs then Lib.NumEnd.range else .ok (-(n.natAbs : Int))) = _
    rw [if_neg (by omega)]
    congr 1; omega
  · rw [if_neg hn]
    cases hd : Lib.decDigits n.natAbs with
    | nil => exact absurd hd (dec_ne _)
    | cons c r =>
      have dc : dig c = true := dec_digits (n.natAbs + 1) n.natAbs (by omega) c (by rw [hd]; exact List.mem_cons_self)
      unfold dig at dc
      simp only [Bool.and_eq_true, decide_eq_true_eq] at dc
      rw [Lib.parseIntB_plain 64 c r (by omega) (by omega), ← hd, hu]
      unfold Lib.signlessC
      rw [e63]
      show (if (9223372036854775808 : Nat) ≤ n.natAbs then Lib.NumEnd.range else .ok (n.natAbs : Int)) = _
      rw [if_neg (by omega)]
      congr 1; omega
theorem decOf_parse {s : List UInt8} {v : Int} (h : Lib.parseIntB 64 s = .ok v) : decOf s = if inR (-1000000000000000) 1000000000000000 v = true ∧ Lib.itoa v = s then some v else none := by
  split
  · rename_i hc
    exact decOf_iff.2 ⟨hc.2, hc.1⟩
  · rename_i hc
    cases hd : decOf s with
    | none => rfl
    | some n =>
      obtain ⟨h1, h2⟩ := decOf_iff.1 hd
      have := parseInt_itoa h2
      rw [h1, h] at this
      cases this
      exact absurd ⟨h2, h1⟩ hc
theorem decOf_bad {s : List UInt8} (h : ∀ v, Lib.parseIntB 64 s ≠ .ok v) : decOf s = none := by
  cases hd : decOf s with
  | none => rfl
  | some n =>
    obtain ⟨h1, h2⟩ := decOf_iff.1 hd
    exact absurd (h1 ▸ parseInt_itoa h2) (h n)
def decs : List (List UInt8) → Option (List Int)
  | [] => some []
  | p :: P => match decOf p, decs P with
    | some x, some xs => some (x :: xs)
    | _, _ => none
theorem decs_cons {p : List UInt8} {P : List (List UInt8)} {xs : List Int} (h : decs (p :: P) = some xs) : ∃ x ys, xs = x :: ys ∧ decOf p = some x ∧ decs P = some ys := by
  unfold decs at h
  split at h
  · rename_i x ys h1 h2
    exact ⟨x, ys, (Option.some.inj h).symm, h1, h2⟩
  · cases h
theorem decs_map : ∀ {P : List (List UInt8)} {xs : List Int}, decs P = some xs → xs.map Lib.itoa = P ∧ (∀ x ∈ xs, inR (-1000000000000000) 1000000000000000 x = true) ∧ ∀ p ∈ P, p.length ≤ 17
  | [], xs, h => by cases h; exact ⟨rfl, by simp, by simp⟩
  | p :: P, xs, h => by
    obtain ⟨x, ys, rfl, h1, h2⟩ := decs_cons h
    obtain ⟨h3, h4, h5⟩ := decs_map h2
    obtain ⟨h6, h7, h8⟩ := decOf_some h1
    refine ⟨by rw [List.map_cons, h3, h6], fun y hy => ?_, fun q hq => ?_⟩
    · rcases List.mem_cons.1 hy with rfl | m
      · exact h7
      · exact h4 y m
    · rcases List.mem_cons.1 hq with rfl | m
      · exact h8
      · exact h5 q m
theorem decs_len {P : List (List UInt8)} {xs : List Int} (h : decs P = some xs) : xs.length = P.length := by rw [← (decs_map h).1, List.length_map]
theorem decs_snoc : ∀ {P : List (List UInt8)} {xs : List Int} {p : List UInt8} {x : Int}, decs P = some xs → decOf p = some x → decs (P ++ [p]) = some (xs ++ [x])
  | [], xs, p, x, h, hx => by
    cases h
    show (match decOf p, decs [] with | some x, some xs => some (x :: xs) | _, _ => none) = _
    rw [hx]; rfl
  | q :: P, xs, p, x, h, hx => by
    obtain ⟨y, ys, rfl, h1, h2⟩ := decs_cons h
    rw [List.cons_append]
    show (match decOf q, decs (P ++ [p]) with | some x, some xs => some (x :: xs) | _, _ => none) = _
    rw [h1, decs_snoc h2 hx]; rfl
theorem decs_bad : ∀ {P : List (List UInt8)} {i : Nat} (hi : i < P.length), decOf P[i] = none → decs P = none
  | p :: P, 0, _, h => by
    have h : decOf p = none := h
    show (match decOf p, decs P with | some x, some xs => some (x :: xs) | _, _ => none) = _
    rw [h]
  | p :: P, i + 1, hi, h => by
    have := decs_bad (P := P) (i := i) (by simpa using hi) h
    show (match decOf p, decs P with | some x, some xs => some (x :: xs) | _, _ => none) = _
    rw [this]
    cases decOf p <;> rfl
theorem join_cutA (c : UInt8) : ∀ (s acc : List UInt8), Lib.join (cutA c acc s) [c] = acc ++ s
  | [], acc => by rw [cutA_nil, Lib.join_one, List.append_nil]
  | x :: s, acc => by
    rw [cutA_cons]
    split
    · rename_i e
      have ih := join_cutA c s []
      cases hc : cutA c [] s with
      | nil => rw [cutA_first] at hc; split at hc <;> cases hc
      | cons p P =>
        rw [hc, Lib.join_cons] at ih
        rw [Lib.join_cons, e]
        simp only [Lib.joinTail, List.map_cons, List.flatten_cons] at ih ⊢
        rw [List.nil_append] at ih
        rw [← ih]
        simp
    · rw [join_cutA c s (acc ++ [x])]
      simp
theorem cutA_ne (c : UInt8) (s acc : List UInt8) : cutA c acc s ≠ [] := by
  intro h
  rw [cutA_first] at h
  split at h <;> cases h
theorem cut_mem_acc (c : UInt8) : ∀ (s acc p : List UInt8), p ∈ cutA c acc s → p.length ≤ acc.length + s.length
  | [], acc, p, h => by
    rw [cutA_nil] at h
    rw [List.mem_singleton.1 h]; simp
  | x :: s, acc, p, h => by
    rw [cutA_cons] at h
    split at h
    · rcases List.mem_cons.1 h with rfl | m
      · simp
      · have := cut_mem_acc c s [] p m
        simp at this ⊢; omega
    · have := cut_mem_acc c s _ p h
      simp at this ⊢; omega
theorem cut_mem_len (c : UInt8) (s p : List UInt8) (h : p ∈ cutA c [] s) : p.length ≤ s.length := by
  have := cut_mem_acc c s [] p h
  simpa using this
def noneT : List UInt8 := [110, 111, 110, 101]
def listOf (s : List UInt8) : Option (List Int) := if s = noneT then some [] else if (cutA 44 [] s).length ≤ 64 then decs (cutA 44 [] s) else none
theorem listOf_none : listOf noneT = some [] := by unfold listOf; rw [if_pos rfl]
theorem listOf_txt {s : List UInt8} {xs : List Int} (h : listOf s = some xs) (hx : xs ≠ []) : txt [44] xs = s ∧ xs.length ≤ 64 := by
  unfold listOf at h
  split at h
  · cases h; exact absurd rfl hx
  · split at h
    · rename_i hl
      have := decs_len h
      refine ⟨?_, by omega⟩
      unfold txt
      rw [(decs_map h).1, join_cutA]
      rfl
    · cases h
theorem listOf_in {s : List UInt8} {xs : List Int} (h : listOf s = some xs) : ∀ x ∈ xs, inR (-1000000000000000) 1000000000000000 x = true := by
  unfold listOf at h
  split at h
  · cases h; simp
  · split at h
    · exact (decs_map h).2.1
    · cases h
theorem listOf_le {s : List UInt8} {xs : List Int} (h : listOf s = some xs) : xs.length ≤ 64 := by
  by_cases hx : xs = []
  · subst hx; simp
  · exact (listOf_txt h hx).2
theorem txt_len17 : ∀ (xs : List Int), (∀ x ∈ xs, inR (-1000000000000000) 1000000000000000 x = true) → (txt [44] xs).length ≤ xs.length * 18
  | [], _ => by rw [txt_zero]; simp
  | [x], h => by
    have := itoa_17 (h x List.mem_cons_self)
    unfold txt
    rw [List.map_cons, List.map_nil, Lib.join_one]
    simp; omega
  | x :: y :: r, h => by
    have h1 := itoa_17 (h x List.mem_cons_self)
    have h2 := txt_len17 (y :: r) (fun z hz => h z (List.mem_cons_of_mem _ hz))
    unfold txt at h2 ⊢
    simp only [List.map_cons, Lib.join_cons, Lib.joinTail, List.flatten_cons, List.length_append, List.length_cons, List.length_nil] at h2 ⊢
    omega
theorem listOf_long {s : List UInt8} (h : 1280 < s.length) : listOf s = none := by
  cases hl : listOf s with
  | none => rfl
  | some xs =>
    by_cases hx : xs = []
    · subst hx
      unfold listOf at hl
      split at hl
      · rename_i e; rw [e] at h; exact absurd h (by decide)
      · split at hl
        · have := decs_len hl
          have h2 := cutA_ne 44 s []
          exact absurd (List.length_eq_zero_iff.1 (by simpa using this.symm)) h2
        · cases hl
    · obtain ⟨h1, h2⟩ := listOf_txt hl hx
      have h3 := txt_len17 xs (listOf_in hl)
      rw [h1] at h3
      omega
theorem itoa_mem {n : Int} {c : UInt8} (h : c ∈ Lib.itoa n) : c = 45 ∨ dig c = true := by
  rw [itoa_abs] at h
  split at h
  · rcases List.mem_cons.1 h with e | m
    · exact .inl e
    · exact .inr (dec_digits (n.natAbs + 1) _ (by omega) c m)
  · exact .inr (dec_digits (n.natAbs + 1) _ (by omega) c h)
theorem txt_mem {c : UInt8} : ∀ {xs : List Int}, c ∈ txt [44] xs → c = 44 ∨ c = 45 ∨ dig c = true
  | [], h => by rw [txt_zero] at h; cases h
  | [x], h => by
    unfold txt at h
    rw [List.map_cons, List.map_nil, Lib.join_one] at h
    exact .inr (itoa_mem h)
  | x :: y :: r, h => by
    have ih := fun h => txt_mem (c := c) (xs := y :: r) h
    unfold txt at h ih
    rw [List.map_cons, List.map_cons, Lib.join_cons] at h
    rw [List.map_cons, Lib.join_cons] at ih
    simp only [Lib.joinTail, List.map_cons, List.flatten_cons, List.mem_append, List.mem_singleton] at h ih
    rcases h with h | (h | h) | h
    · exact .inr (itoa_mem h)
    · exact .inl h
    · exact ih (.inl h)
    · exact ih (.inr h)
theorem listOf_semi {s : List UInt8} {xs : List Int} (h : listOf s = some xs) : (59 : UInt8) ∉ s := by
  intro hm
  by_cases hx : xs = []
  · subst hx
    unfold listOf at h
    split at h
    · rename_i e; rw [e] at hm; revert hm; decide
    · split at h
      · have := decs_len h
        exact absurd (List.length_eq_zero_iff.1 (by simpa using this.symm)) (cutA_ne 44 s [])
      · cases h
  · rw [← (listOf_txt h hx).1] at hm
    rcases txt_mem hm with e | e | e
    · revert e; decide
    · revert e; decide
    · revert e; decide
set_option maxHeartbeats 4000000
def decS (m : Nat) (out : List UInt8) : List UInt8 := if out = [] ∨ m ≠ 0 then Lib.decDigits m ++ out else out
theorem decS_step (m : Nat) (out : List UInt8) (h : out = [] ∨ m ≠ 0) : decS (m / 10) (UInt8.ofNat (48 + m % 10) :: out) = decS m out := by
  unfold decS
  rw [if_pos h]
  by_cases e : m < 10
  · rw [Nat.div_eq_of_lt e, if_neg (by simp), Nat.mod_eq_of_lt e]
    conv => rhs; unfold Lib.decDigits
    rw [dif_pos e]
    rfl
  · rw [if_pos (.inr (by omega))]
    conv => rhs; unfold Lib.decDigits
    rw [dif_neg e, List.append_assoc]
    rfl
theorem rest_abs (n : Int) : (n.tdiv 10).natAbs = n.natAbs / 10 := by rw [Int.natAbs_tdiv]; rfl
theorem digit_abs (n : Int) : (n.tmod 10).natAbs = n.natAbs % 10 := by rw [Int.natAbs_tmod]; rfl
theorem pow_len {k : Nat} (h : 10 ^ k ≤ 9223372036854775808) : k ≤ 18 := by
  rcases Nat.lt_or_ge 18 k with h1 | h1
  · have := Nat.pow_le_pow_right (show 0 < 10 by omega) h1
    have e : 10 ^ 19 = 10000000000000000000 := by decide
    simp only [Nat.succ_eq_add_one] at this
    omega
  · exact h1
def DecI (n : Int) (p : List UInt8 × Int) : Prop := decS p.2.natAbs p.1 = Lib.decDigits n.natAbs ∧ p.2.natAbs * 10 ^ p.1.length ≤ 9223372036854775808 ∧ p.1.length ≤ 20 ∧ -9223372036854775808 ≤ p.2 ∧ p.2 ≤ 9223372036854775807
theorem DecI.next {n r : Int} {out : List UInt8} (h : DecI n (out, r)) (hc : out = [] ∨ r ≠ 0) : DecI n (UInt8.ofNat (48 + r.natAbs % 10) :: out, r.tdiv 10) := by
  obtain ⟨hd, hp, hl, h0, h1⟩ := h
  dsimp only at hd hp hl h0 h1
  have ra := rest_abs r
  have hl' : out.length ≤ 18 := by
    rcases hc with rfl | hz
    · simp
    · have : 1 ≤ r.natAbs := by omega
      exact pow_len (Nat.le_trans (by simpa using Nat.mul_le_mul_right (10 ^ out.length) this) hp)
  refine ⟨?_, ?_, ?_, ?_, ?_⟩
  · dsimp only
    rw [ra]
    exact (decS_step _ _ (hc.imp id Int.natAbs_ne_zero.2)).trans hd
  · dsimp only
    rw [ra, List.length_cons, Nat.pow_succ, Nat.mul_comm (10 ^ out.length) 10, ← Nat.mul_assoc]
    exact Nat.le_trans (Nat.mul_le_mul_right _ (Nat.div_mul_le_self _ _)) hp
  · dsimp only
    rw [List.length_cons]; omega
  · dsimp only
    omega
  · dsimp only
    omega
theorem dec_less {r : Int} {out : List UInt8} (x : UInt8) (hc : out = [] ∨ r ≠ 0) : 2 * (r.tdiv 10).natAbs + (if x :: out = [] then 1 else 0) < 2 * r.natAbs + (if out = [] then 1 else 0) := by
  rw [rest_abs, if_neg (by simp)]
  rcases hc with rfl | hz
  · simp; omega
  · have : 1 ≤ r.natAbs := by omega
    split <;> omega
theorem specDec_call (n : Int) (h0 : -9223372036854775808 ≤ n) (h1 : n ≤ 9223372036854775807) : CallA Tryz.prog 55 [.int .i64 n] [] (Ret (.str (Lib.itoa n)) []) := by
  refine CallP.out (t := .mk) (go_in (md := md55) mixed Tryz.func55 rfl go55 (by kernel_rfl) ?_)
  simp only [Zu, Za, Zb, Zg, Zh, Zi, Zk, Zl, Zm, Zn, ↓reduceIte, reduceCtorEq, Zd, Ze, Zc, Zf, Z55]
  refine go_round (md := md55) mixed (by kernel_rfl) (fun p : {p : List UInt8 × Int // DecI n p} => ⟨[.int .i64 n, .any, .any, .sl 0 0 p.1.1.length, .int .i64 p.1.2, .any, .any, .any, .any, .any, .any, .any, .any, .any, .any, .any, .any, .any, .any, .any, .any, .any, .any, .any, .any, .any, .any, .any, .any, .any, .any, .any, .any, .any, .any, .any], [bytB p.1.1]⟩) (fun p => 2 * p.1.2.natAbs + (if p.1.1 = [] then 1 else 0)) ⟨([], n), by simp [decS], by simp; omega, by simp, h0, h1⟩ ?_ ?_
  · exact weak_drop (by simp) (by simp [DropHp, ints_below, flts_below, bytB, byts, allBelow_cons, allBelow_nil, below, belowM, belowL]) (by simp [DropTm, DropV, below, belowM, belowL, bytB, byts, allBelow_cons, allBelow_nil, below, belowM, belowL])
  rintro ⟨⟨out, r⟩, hI⟩
  have hI' := hI
  obtain ⟨hd, hp, hl, hr0, hr1⟩ := hI'
  dsimp only at hd hp hl hr0 hr1
  have da := digit_abs r
  have ra := rest_abs r
  have tk := take_byts out
  have bl := byts_len out
  have hk : r.natAbs % 10 < 10 := Nat.mod_lt _ (by omega)
  have e4 : IntKind.i64.wrap (r.tdiv 10) = r.tdiv 10 := w64 (by omega) (by omega)
  have e3 := digit_byte (r.natAbs % 10) hk
  have lc : ∀ x : UInt8, (x :: out).length = 1 + out.length := fun x => by rw [List.length_cons]; omega
  simp only [Zu, Za, Zb, Zg, Zh, Zi, Zk, Zl, Zm, Zn, ↓reduceIte, reduceCtorEq, Zd, Ze, Zc, Zf, Z55, bytB]
  refine br_intro (fun z => ?_) (fun z => ?_) <;> simp only [Zu, Za, Zb, Zg, Zh, Zi, Zk, Zl, Zm, Zn, ↓reduceIte, reduceCtorEq, Zd, Ze, Zc, Zf, Z55, bytB, Int.reduceLT, Int.reduceLE, Int.reduceNeg, Int.reduceEq, Int.reduceGT, Int.reduceGE, decide_true, decide_false, beq_self_eq_true, bne_self_eq_false, Int.reduceBEq, Int.reduceBNe, Int.reduceAdd, Int.reduceSub]
  · have hc : out = [] ∨ r ≠ 0 := .inl (List.length_eq_zero_iff.1 (by have := beq_iff_eq.1 z; omega))
    refine ⟨by decide, ?_⟩
    refine br_intro (fun v => ?_) (fun v => ?_) <;> simp only [Zu, Za, Zb, Zg, Zh, Zi, Zk, Zl, Zm, Zn, ↓reduceIte, reduceCtorEq, Zd, Ze, Zc, Zf, Z55, bytB, Int.reduceLT, Int.reduceLE, Int.reduceNeg, Int.reduceEq, Int.reduceGT, Int.reduceGE, decide_true, decide_false, beq_self_eq_true, bne_self_eq_false, Int.reduceBEq, Int.reduceBNe, Int.reduceAdd, Int.reduceSub, byts_len, allW_int, fits, List.isEmpty_cons, brk_false, Nat.reduceMul, tk, bl]
    · have v' := of_decide_eq_true v
      have e1 : IntKind.i64.wrap (0 - r.tmod 10) = ((r.natAbs % 10 : Nat) : Int) := by rw [w64 (by omega) (by omega)]; omega
      have e2 : IntKind.i64.wrap (48 + ((r.natAbs % 10 : Nat) : Int)) = 48 + ((r.natAbs % 10 : Nat) : Int) := w64 (by omega) (by omega)
      have e5 : IntKind.u8.wrap (48 + ((r.natAbs % 10 : Nat) : Int)) = 48 + ((r.natAbs % 10 : Nat) : Int) := w8 (by omega) (by omega)
      refine ⟨allW_byts _, by omega, by decide, ⟨(UInt8.ofNat (48 + r.natAbs % 10) :: out, r.tdiv 10), hI.next hc⟩, dec_less _ hc, ?_⟩
      rw [e1, e2, e5, e4, byts_kill, ← e3, byts_cons]
      show Weak 0 _ ⟨_, _⟩
      exact weak_names [1] (by decide) (by decide) (by decide) (by simp [SubG, renB, ints_ren, ints_below, kint_ren, kint_below, ren, renM, renL, bytB, byts_below, byts_ren, lc, allBelow_cons, allBelow_nil, below, belowM, belowL]) (by simp [LeTm, LeV, ren, renM, renL, below, belowM, belowL, bytB, byts_below, byts_ren, lc, allBelow_cons, allBelow_nil, below, belowM, belowL])
    · have v' := of_decide_eq_false v
      have e1 : r.tmod 10 = ((r.natAbs % 10 : Nat) : Int) := by omega
      have e2 : IntKind.i64.wrap (48 + ((r.natAbs % 10 : Nat) : Int)) = 48 + ((r.natAbs % 10 : Nat) : Int) := w64 (by omega) (by omega)
      have e5 : IntKind.u8.wrap (48 + ((r.natAbs % 10 : Nat) : Int)) = 48 + ((r.natAbs % 10 : Nat) : Int) := w8 (by omega) (by omega)
      refine ⟨allW_byts _, by omega, by decide, ⟨(UInt8.ofNat (48 + r.natAbs % 10) :: out, r.tdiv 10), hI.next hc⟩, dec_less _ hc, ?_⟩
      rw [e1, e2, e5, e4, byts_kill, ← e3, byts_cons]
      show Weak 0 _ ⟨_, _⟩
      exact weak_names [1] (by decide) (by decide) (by decide) (by simp [SubG, renB, ints_ren, ints_below, kint_ren, kint_below, ren, renM, renL, bytB, byts_below, byts_ren, lc, allBelow_cons, allBelow_nil, below, belowM, belowL]) (by simp [LeTm, LeV, ren, renM, renL, below, belowM, belowL, bytB, byts_below, byts_ren, lc, allBelow_cons, allBelow_nil, below, belowM, belowL])
  · refine br_intro (fun y => ?_) (fun y => ?_) <;> simp only [Zu, Za, Zb, Zg, Zh, Zi, Zk, Zl, Zm, Zn, ↓reduceIte, reduceCtorEq, Zd, Ze, Zc, Zf, Z55, bytB, Int.reduceLT, Int.reduceLE, Int.reduceNeg, Int.reduceEq, Int.reduceGT, Int.reduceGE, decide_true, decide_false, beq_self_eq_true, bne_self_eq_false, Int.reduceBEq, Int.reduceBNe, Int.reduceAdd, Int.reduceSub]
    · have hc : out = [] ∨ r ≠ 0 := .inr (bne_iff_ne.1 y)
      refine ⟨by decide, ?_⟩
      refine br_intro (fun v => ?_) (fun v => ?_) <;> simp only [Zu, Za, Zb, Zg, Zh, Zi, Zk, Zl, Zm, Zn, ↓reduceIte, reduceCtorEq, Zd, Ze, Zc, Zf, Z55, bytB, Int.reduceLT, Int.reduceLE, Int.reduceNeg, Int.reduceEq, Int.reduceGT, Int.reduceGE, decide_true, decide_false, beq_self_eq_true, bne_self_eq_false, Int.reduceBEq, Int.reduceBNe, Int.reduceAdd, Int.reduceSub, byts_len, allW_int, fits, List.isEmpty_cons, brk_false, Nat.reduceMul, tk, bl]
      · have v' := of_decide_eq_true v
        have e1 : IntKind.i64.wrap (0 - r.tmod 10) = ((r.natAbs % 10 : Nat) : Int) := by rw [w64 (by omega) (by omega)]; omega
        have e2 : IntKind.i64.wrap (48 + ((r.natAbs % 10 : Nat) : Int)) = 48 + ((r.natAbs % 10 : Nat) : Int) := w64 (by omega) (by omega)
        have e5 : IntKind.u8.wrap (48 + ((r.natAbs % 10 : Nat) : Int)) = 48 + ((r.natAbs % 10 : Nat) : Int) := w8 (by omega) (by omega)
        refine ⟨allW_byts _, by omega, by decide, ⟨(UInt8.ofNat (48 + r.natAbs % 10) :: out, r.tdiv 10), hI.next hc⟩, dec_less _ hc, ?_⟩
        rw [e1, e2, e5, e4, byts_kill, ← e3, byts_cons]
        show Weak 0 _ ⟨_, _⟩
        exact weak_names [1] (by decide) (by decide) (by decide) (by simp [SubG, renB, ints_ren, ints_below, kint_ren, kint_below, ren, renM, renL, bytB, byts_below, byts_ren, lc, allBelow_cons, allBelow_nil, below, belowM, belowL]) (by simp [LeTm, LeV, ren, renM, renL, below, belowM, belowL, bytB, byts_below, byts_ren, lc, allBelow_cons, allBelow_nil, below, belowM, belowL])
      · have v' := of_decide_eq_false v
        have e1 : r.tmod 10 = ((r.natAbs % 10 : Nat) : Int) := by omega
        have e2 : IntKind.i64.wrap (48 + ((r.natAbs % 10 : Nat) : Int)) = 48 + ((r.natAbs % 10 : Nat) : Int) := w64 (by omega) (by omega)
        have e5 : IntKind.u8.wrap (48 + ((r.natAbs % 10 : Nat) : Int)) = 48 + ((r.natAbs % 10 : Nat) : Int) := w8 (by omega) (by omega)
        refine ⟨allW_byts _, by omega, by decide, ⟨(UInt8.ofNat (48 + r.natAbs % 10) :: out, r.tdiv 10), hI.next hc⟩, dec_less _ hc, ?_⟩
        rw [e1, e2, e5, e4, byts_kill, ← e3, byts_cons]
        show Weak 0 _ ⟨_, _⟩
        exact weak_names [1] (by decide) (by decide) (by decide) (by simp [SubG, renB, ints_ren, ints_below, kint_ren, kint_below, ren, renM, renL, bytB, byts_below, byts_ren, lc, allBelow_cons, allBelow_nil, below, belowM, belowL]) (by simp [LeTm, LeV, ren, renM, renL, below, belowM, belowL, bytB, byts_below, byts_ren, lc, allBelow_cons, allBelow_nil, below, belowM, belowL])
    · have r0 : r = 0 := by simpa using y
      have o0 : out ≠ [] := fun e => by rw [e] at z; cases z
      have od : out = Lib.decDigits n.natAbs := by rw [← hd]; unfold decS; rw [if_neg (by simp [o0, r0])]
      rw [itoa_abs]
      refine br_intro (fun m => ?_) (fun m => ?_) <;> simp only [Zu, Za, Zb, Zg, Zh, Zi, Zk, Zl, Zm, Zn, ↓reduceIte, reduceCtorEq, Zd, Ze, Zc, Zf, Z55, bytB, Int.reduceLT, Int.reduceLE, Int.reduceNeg, Int.reduceEq, Int.reduceGT, Int.reduceGE, decide_true, decide_false, beq_self_eq_true, bne_self_eq_false, Int.reduceBEq, Int.reduceBNe, Int.reduceAdd, Int.reduceSub, byts_len, allW_int, fits, List.isEmpty_cons, brk_false, Nat.reduceMul, tk, bl]
      · have m' := of_decide_eq_true m
        rw [if_pos m', ← od]
        refine ⟨allW_byts _, by omega, ⟨5, rfl, Tryz.underlying5⟩, 45 :: out, ?_, lc 45, PostR.pure ⟨rfl, rfl⟩ rfl⟩
        rw [byts_kill, show (AV.int IntKind.u8 45) = AV.int .u8 ((45 : UInt8).toNat : Int) from rfl, byts_cons, ← lc 45]
        exact take_byts (45 :: out)
      · have m' := of_decide_eq_false m
        rw [if_neg m', ← od]
        exact ⟨⟨5, rfl, Tryz.underlying5⟩, out, rfl, rfl, PostR.pure ⟨rfl, rfl⟩ rfl⟩
def decA (o : Option Int) : AV := match o with
  | some n => .tup [.int .i64 n, .bool true]
  | none => .tup [.int .i64 0, .bool false]
theorem w1 : IntKind.i64.wrap 1 = ((1 : Nat) : Int) := by decide
theorem implScaleText_call (bk rt : List Int) (h1 : bk.length ≤ 1048576) (h2 : rt.length ≤ 1048576) (b1 : ∀ x ∈ bk, okI x) (b2 : ∀ x ∈ rt, okI x) :
    CallA Tryz.prog 13 [.agg [.ro (ints bk), .ro (ints rt)]] [] (Ret (if scaleB bk rt then .tup [.str (txt [44] bk ++ 59 :: txt [44] rt), .bool true] else .tup [.str [], .bool false]) []) := by
  have t1 := txt_len (sep := [44]) (by decide) bk b1
  have t2 := txt_len (sep := [44]) (by decide) rt b2
  have c1 := decimals_call [44] (by decide) bk h1 b1
  have c2 := decimals_call [44] (by decide) rt h2 b2
  generalize txt [44] bk = X at t1 c1
  generalize txt [44] rt = Y at t2 c2
  refine CallP.out (t := .mk) (go_in (md := md13) mixed Tryz.func13 rfl go13 (by kernel_rfl) ?_)
  simp only [Zu, Za, Zb, Zg, Zh, Zi, Zk, Zl, Zm, Zn, ↓reduceIte, reduceCtorEq, Zd, Ze, Zc, Zf, Z13]
  refine call_ret (validScale_call bk rt h1 h2) rfl rfl ?_
  generalize scaleB bk rt = ok
  cases ok with
  | false =>
    simp only [Zu, Za, Zb, Zg, Zh, Zi, Zk, Zl, Zm, Zn, ↓reduceIte, reduceCtorEq, Zd, Ze, Zc, Zf, Z13]
    exact PostR.pure ⟨rfl, rfl⟩ rfl
  | true =>
    simp only [Zu, Za, Zb, Zg, Zh, Zi, Zk, Zl, Zm, Zn, ↓reduceIte, reduceCtorEq, Zd, Ze, Zc, Zf, Z13]
    refine callr_ret c1 rfl rfl ?_
    simp only [Zu, Za, Zb, Zg, Zh, Zi, Zk, Zl, Zm, Zn, ↓reduceIte, reduceCtorEq, Zd, Ze, Zc, Zf, Z13]
    refine ⟨by omega, ?_⟩
    refine callr_ret c2 rfl rfl ?_
    simp only [Zu, Za, Zb, Zg, Zh, Zi, Zk, Zl, Zm, Zn, ↓reduceIte, reduceCtorEq, Zd, Ze, Zc, Zf, Z13]
    exact ⟨by simp; omega, PostR.pure ⟨by simp, rfl⟩ rfl⟩
theorem scaleB_ne {bk rt : List Int} (h : scaleB bk rt = true) : bk ≠ [] ∧ rt ≠ [] := by
  unfold scaleB at h
  simp only [Bool.and_eq_true, decide_eq_true_eq] at h
  obtain ⟨⟨⟨h1, h2, h3⟩, _⟩, _⟩ := h
  exact ⟨fun e => by rw [e] at h1; simp at h1, fun e => by rw [e] at h3; have h3 : 0 = bk.length := h3; omega⟩
end Go.Proofs.YtodjjpmigcacoaaGreatDoor
set_option maxRecDepth 100000
namespace Go.Proofs.YtodjjpmigcacoaaGreatDoor
open Go Go.RowKit
theorem within_C (a b c : Int) (w : World) : Calls Tryz.prog 82 #[.int .i64 a, .int .i64 b, .int .i64 c] w fun e w' => e = .returned (.bool (inR b c a)) ∧ w' = w := by
  have mixed : Tryz.prog.follows .mixedOrders = true := by kernel_rfl
  have u2 := run_underlying Tryz.underlying2
  have u4 := run_underlying Tryz.underlying4
  go_enter Tryz.func82, Tryz.ntmps82
  go_wp2
  all_goals go_ret
  · rename_i h
    refine ⟨?_, rfl⟩
    show Ending.returned (.bool (decide (a ≤ c))) = _
    unfold inR
    rw [decide_eq_true h, Bool.true_and]
  · rename_i h
    refine ⟨?_, rfl⟩
    show Ending.returned (.bool false) = _
    unfold inR
    rw [decide_eq_false (by omega), Bool.false_and]
theorem below_grow (w : World) (k : Nat) (os : Array Obj) : Below w.heap.size w (Sort.grow (w.drewN k) os) := by
  refine ⟨rfl, rfl, rfl, ?_, fun c hc => ?_⟩
  · simp [Sort.grow, World.drewN]
  · have hh : (w.drewN k).heap = w.heap := rfl
    rw [Sort.heap_grow_old _ _ (by rw [hh]; exact hc), hh]
theorem decimal_C (n : Int) (h0 : -9223372036854775808 ≤ n) (h1 : n ≤ 9223372036854775807) (w : World) (htab : Lib.TabIs Tryz.prog w "internal/strconv.uint64pow10" .u64 Lib.pow10Tab) :
    Calls Tryz.prog 48 #[.int .i64 n] w fun e w' => e = .returned (.string ⟨(Lib.itoa n).toArray⟩) ∧ Below w.heap.size w w' := by
  have mixed : Tryz.prog.follows .mixedOrders = true := by kernel_rfl
  have u2 := run_underlying Tryz.underlying2
  have u9 := run_underlying Tryz.underlying9
  go_enter Tryz.func48, Tryz.ntmps48
  go_wp2_with fail
  refine (strconv_FormatInt_10 n h0 h1 w htab).mono ?_
  rintro e W1 ⟨rfl, k, os, rfl⟩
  go_wp2
  go_ret
  exact ⟨rfl, below_grow w k os⟩
theorem readDecimal_gen (s : List UInt8) (v : Int) (good ok : Bool) (hok : ok = (good && (inR (-1000000000000000) 1000000000000000 v && decide (Lib.itoa v = s)))) (h0 : -9223372036854775808 ≤ v) (h1 : v ≤ 9223372036854775807) (w : World)
    (htab2 : ∀ w', Below w.heap.size w w' → Lib.TabIs Tryz.prog w' "internal/strconv.uint64pow10" .u64 Lib.pow10Tab)
    (hp : Calls Tryz.prog 115 #[.string ⟨s.toArray⟩, .int .i64 10, .int .i64 64] w fun e w' => ∃ err, e = .returned (.tuple #[.int .i64 v, err]) ∧ (if good then err = .nilIface else ∃ te pe, err = .iface te pe) ∧ Below w.heap.size w w') :
    Calls Tryz.prog 75 #[.string ⟨s.toArray⟩] w fun e w' => e = .returned (.tuple #[.int .i64 (cond ok v 0), .bool ok]) ∧ Below w.heap.size w w' := by
  have mixed : Tryz.prog.follows .mixedOrders = true := by kernel_rfl
  have u2 := run_underlying Tryz.underlying2
  have u4 := run_underlying Tryz.underlying4
  have u9 := run_underlying Tryz.underlying9
  have u52 := run_underlying Tryz.underlying52
  go_enter Tryz.func75, Tryz.ntmps75
  go_wp2_with fail
  refine hp.mono ?_
  clear hp
  rintro e W1 ⟨err, rfl, herr, hb⟩
  cases good with
  | false =>
    rw [if_neg (by decide)] at herr
    obtain ⟨te, pe, rfl⟩ := herr
    obtain rfl : ok = false := hok
    go_wp2
    go_ret2
    exact ⟨rfl, hb⟩
  | true =>
    rw [if_pos rfl] at herr
    subst herr
    rw [Bool.true_and] at hok
    go_wp2_with fail
    refine (within_C v _ _ W1).mono ?_
    rintro e W2 ⟨rfl, rfl⟩
    generalize inR (-1000000000000000) 1000000000000000 v = b at hok
    cases b with
    | false =>
      obtain rfl : ok = false := hok
      go_wp2
      go_ret2
      exact ⟨rfl, hb⟩
    | true =>
      rw [Bool.true_and] at hok
      go_wp2_with fail
      refine (decimal_C v h0 h1 _ (htab2 _ hb)).mono ?_
      rintro e W3 ⟨rfl, hb2⟩
      have hb3 := hb.trans (hb2.mono hb.size)
      by_cases q : Lib.itoa v = s
      · rw [decide_eq_true q] at hok
        subst hok
        subst q
        go_wp2
        go_ret2
        exact ⟨rfl, hb3⟩
      · rw [decide_eq_false q] at hok
        subst hok
        have hne : (⟨(Lib.itoa v).toArray⟩ : ByteArray) ≠ ⟨s.toArray⟩ := fun e => q (by simpa using congrArg (fun b : ByteArray => b.data.toList) e)
        go_wp2
        all_goals first | (go_ret2; exact ⟨rfl, hb3⟩) | (exfalso; rename_i h; revert h; simp [q])
open Go.Abs
theorem gSyn : Tryz.prog.globalNamed "strconv.ErrSyntax" = some 3 := by kernel_rfl
theorem gRan : Tryz.prog.globalNamed "strconv.ErrRange" = some 4 := by kernel_rfl
theorem readDecimal_call (s : List UInt8) (hs : s.length ≤ 1048576) : CallA Tryz.prog 75 [.str s] [] (Ret (decA (decOf s)) []) := by
  intro E vs H hl hrv
  obtain ⟨u, rfl, hu⟩ := RV.one hl hrv
  cases hu
  obtain ⟨g, hg⟩ := Option.isSome_iff_exists.1 tabG
  obtain ⟨hF, ty, fr, hheap⟩ := H.laid.1 _ (show ("internal/strconv.uint64pow10", IntKind.u64, Lib.pow10Tab) ∈ tables by simp [tables]) g hg
  have htab2 : ∀ w', Below E.w.heap.size E.w w' → Lib.TabIs Tryz.prog w' "internal/strconv.uint64pow10" .u64 Lib.pow10Tab := fun w' hb => by
    have h1 : w'.heap[g]? = _ := (hb.block g (H.old g hF)).trans hheap
    simp only [Lib.TabIs, World.var?, hg, Option.bind_some, h1]
  have hsz : (⟨s.toArray⟩ : ByteArray).size = s.length := by simp [ByteArray.size]
  have key : ∀ (v : Int) (ok : Bool), decOf s = (cond ok (some v) none) → Calls Tryz.prog 75 #[.string ⟨s.toArray⟩] E.w (fun e w' => e = .returned (.tuple #[.int .i64 (cond ok v 0), .bool ok]) ∧ Below E.w.heap.size E.w w') →
      Gets Tryz.prog 75 [Value.string ⟨s.toArray⟩].toArray E.w fun v w' => ∃ r hp' E', E'.w = w' ∧ Ret (decA (decOf s)) [] r hp' ∧ RV E' r v ∧ HRel E' hp' ∧ Fr E [] E' hp' := by
    intro v ok hd hc
    refine .inl ⟨go75, hc.mono ?_⟩
    rintro ex w' ⟨rfl, bel⟩
    obtain ⟨H2, F2, _⟩ := H.extend (w' := w') bel.size bel.block bel.os bel.tape bel.output
    refine ⟨_, rfl, _, [], E.with _, rfl, ⟨rfl, rfl⟩, ?_, H2, F2 (Fr.refl E _)⟩
    rw [hd]
    cases ok with
    | true =>
      refine .tup _ _ rfl fun i a v h1 h2 => ?_
      match i with
      | 0 => cases h1; cases h2; exact .int .i64 _
      | 1 => cases h1; cases h2; exact .bool true
      | i + 2 => simp at h1
    | false =>
      refine .tup _ _ rfl fun i a v h1 h2 => ?_
      match i with
      | 0 => cases h1; cases h2; exact .int .i64 _
      | 1 => cases h1; cases h2; exact .bool false
      | i + 2 => simp at h1
  cases hp : Lib.parseIntB 64 s with
  | ok v =>
    have bd := Lib.parseIntB_bounds hp
    have e63 : ((2 ^ (64 - 1) : Nat) : Int) = 9223372036854775808 := by decide
    rw [e63] at bd
    refine key v (inR (-1000000000000000) 1000000000000000 v && decide (Lib.itoa v = s)) ?_ (readDecimal_gen s v true _ (by rw [Bool.true_and]) (by omega) (by omega) E.w htab2 ((strconv_ParseInt_10_at64_ok ⟨s.toArray⟩ (by omega) v hp E.w).mono ?_))
    · rw [decOf_parse hp]
      by_cases h1 : inR (-1000000000000000) 1000000000000000 v = true
      · by_cases h2 : Lib.itoa v = s
        · rw [if_pos ⟨h1, h2⟩, h1, decide_eq_true h2]; rfl
        · rw [if_neg (fun h => h2 h.2), h1, decide_eq_false h2]; rfl
      · rw [if_neg (fun h => h1 h.1), show inR (-1000000000000000) 1000000000000000 v = false by simpa using h1]; rfl
    · rintro e w' ⟨rfl, hw⟩
      refine ⟨_, rfl, rfl, ?_⟩
      rcases hw with rfl | ⟨t, rfl⟩
      · exact Below.refl _ _
      · exact Lib.bytesWorld_below _ _ _
  | range =>
    obtain ⟨ev, h1, h2⟩ := H.err (show "strconv.ErrRange" ∈ errs by simp [errs]) gRan
    have bd : -9223372036854775808 ≤ Lib.intSat 64 s ∧ Lib.intSat 64 s ≤ 9223372036854775807 := by
      unfold Lib.intSat
      split <;> decide
    refine key (Lib.intSat 64 s) false (decOf_bad (fun v h => by rw [hp] at h; cases h)) (readDecimal_gen s (Lib.intSat 64 s) false false rfl bd.1 bd.2 E.w htab2 ((strconv_ParseInt_10_at64_range ⟨s.toArray⟩ (by omega) hp ev E.w h1 h2).mono ?_))
    rintro e w' ⟨N, rfl, _, _, hb⟩
    exact ⟨_, rfl, ⟨_, _, rfl⟩, hb⟩
  | _ =>
    obtain ⟨ev, h1, h2⟩ := H.err (show "strconv.ErrSyntax" ∈ errs by simp [errs]) gSyn
    refine key 0 false (decOf_bad (fun v h => by rw [hp] at h; cases h)) (readDecimal_gen s 0 false false rfl (by decide) (by decide) E.w htab2 ((strconv_ParseInt_10_at64_syntax ⟨s.toArray⟩ (by omega) hp ev E.w h1 h2).mono ?_))
    rintro e w' ⟨N, rfl, _, _, hb⟩
    exact ⟨_, rfl, ⟨_, _, rfl⟩, hb⟩
end Go.Proofs.YtodjjpmigcacoaaGreatDoor
set_option maxRecDepth 10000
namespace Go.Proofs.YtodjjpmigcacoaaGreatDoor
open Go Go.Abs
open Nat renaming reduceAdd → Za, reduceSub → Zb, reduceMul → Zc, reduceLT → Zd, reduceLeDiff → Ze, reduceEqDiff → Zf
open Int renaming reduceToNat → Zn
open Go.Abs renaming lenA → Zg, convA → Zh, indexA → Zi, flatP → Zj, nilI → Zk, ifaA → Zl, indexS → Zm
theorem indexByteString_call (s : List UInt8) (c : Int) : CallA Tryz.prog 186 [.str s, .int .u8 c] [] (Ret (.int .i64 (Lib.indexByte s c.toNat.toUInt8)) []) :=
  bytes_call (e := Extern.BytealgIndexByte.indexByte) Tryz.func186 (by kernel_rfl) (by kernel_rfl) (by kernel_rfl) (by kernel_rfl) (g := Lib.indexByte) (fun s c w => Lib.run_indexByteString s c w) s c
theorem slIndexByte_call (s : List UInt8) (c : Int) : CallA Tryz.prog 155 [.str s, .int .u8 c] [] (Ret (.int .i64 (Lib.indexByte s c.toNat.toUInt8)) []) := by
  refine CallP.out (t := .mk) (go_in (md := md155) mixed Tryz.func155 rfl go155 (by kernel_rfl) ?_)
  simp only [Zu, Za, Zb, Zg, Zh, Zi, Zk, Zl, Zm, sliceA, Zn, ↓reduceIte, reduceCtorEq, Zd, Ze, Zc, Zf, Z155]
  refine call_ret (indexByteString_call s c) rfl rfl ?_
  simp only [Zu, Za, Zb, Zg, Zh, Zi, Zk, Zl, Zm, sliceA, Zn, ↓reduceIte, reduceCtorEq, Zd, Ze, Zc, Zf, Z155]
  exact PostR.ret
theorem nat1 : ((1 : Nat) : Int) = 1 := rfl
theorem byte_back (c : UInt8) : c.toNat.toUInt8 = c := by simp
theorem slIndex_call (c : UInt8) (s : List UInt8) : CallA Tryz.prog 114 [.str s, .str [c]] [] (Ret (.int .i64 (Lib.indexByte s c)) []) := by
  refine CallP.out (t := .mk) (go_in (md := md114) mixed Tryz.func114 rfl go114 (by kernel_rfl) ?_)
  simp only [Zu, Za, Zb, Zg, Zh, Zi, Zk, Zl, Zm, sliceA, Zn, ↓reduceIte, reduceCtorEq, Zd, Ze, Zc, Zf, Z114, Int.reduceLT, Int.reduceLE, Int.reduceNeg, Int.reduceEq, Int.reduceGT, Int.reduceGE, decide_true, decide_false, beq_self_eq_true, bne_self_eq_false, Int.reduceBEq, Int.reduceBNe, Int.reduceAdd, Int.reduceSub]
  refine br_no (by first | exact decide_eq_false (by omega) | exact beq_false_of_ne (by omega) | (simp only [bne_eq_false_iff_eq, beq_eq_false_iff_ne, ne_eq]; omega)) ?_; simp only [Zu, Za, Zb, Zg, Zh, Zi, Zk, Zl, Zm, sliceA, Zn, ↓reduceIte, reduceCtorEq, Zd, Ze, Zc, Zf, Z114, nat1, Int.reduceLT, Int.reduceLE, Int.reduceNeg, Int.reduceEq, Int.reduceGT, Int.reduceGE, decide_true, decide_false, beq_self_eq_true, bne_self_eq_false, Int.reduceBEq, Int.reduceBNe, Int.reduceAdd, Int.reduceSub]
  refine br_intro (fun h => ?_) (fun h => ?_) <;> simp only [Zu, Za, Zb, Zg, Zh, Zi, Zk, Zl, Zm, sliceA, Zn, ↓reduceIte, reduceCtorEq, Zd, Ze, Zc, Zf, Z114, nat1, Int.reduceLT, Int.reduceLE, Int.reduceNeg, Int.reduceEq, Int.reduceGT, Int.reduceGE, decide_true, decide_false, beq_self_eq_true, bne_self_eq_false, Int.reduceBEq, Int.reduceBNe, Int.reduceAdd, Int.reduceSub]
  · have e : s = [c] := (beq_iff_eq.1 h).symm
    subst e
    exact PostR.pure ⟨by simp [Lib.indexByte], rfl⟩ rfl
  · first | refine br_yes (by first | exact decide_eq_true (by omega) | (simp only [bne_iff_ne, beq_iff_eq, ne_eq]; omega)) ?_; simp only [Zu, Za, Zb, Zg, Zh, Zi, Zk, Zl, Zm, sliceA, Zn, ↓reduceIte, reduceCtorEq, Zd, Ze, Zc, Zf, Z114, nat1, Int.reduceLT, Int.reduceLE, Int.reduceNeg, Int.reduceEq, Int.reduceGT, Int.reduceGE, decide_true, decide_false, beq_self_eq_true, bne_self_eq_false, Int.reduceBEq, Int.reduceBNe, Int.reduceAdd, Int.reduceSub] | skip
    refine call_ret (slIndexByte_call s _) rfl rfl ?_
    simp only [Zu, Za, Zb, Zg, Zh, Zi, Zk, Zl, Zm, sliceA, Zn, ↓reduceIte, reduceCtorEq, Zd, Ze, Zc, Zf, Z114, byte_back]
    exact PostR.ret
def cutR (c : UInt8) (s : List UInt8) : AV := match firstAt c s with
  | none => .tup [.str s, .str [], .bool false]
  | some (a, b) => .tup [.str a, .str b, .bool true]
theorem cutR_below (c : UInt8) (s : List UInt8) : below 0 (cutR c s) = true := by unfold cutR; split <;> rfl
theorem slCut_call (c : UInt8) (s : List UInt8) (hs : s.length ≤ 1048576) : CallA Tryz.prog 74 [.str s, .str [c]] [] (Ret (cutR c s) []) := by
  refine CallP.out (t := .mk) (go_in (md := md74) mixed Tryz.func74 rfl go74 (by kernel_rfl) ?_)
  simp only [Zu, Za, Zb, Zg, Zh, Zi, Zk, Zl, Zm, sliceA, Zn, ↓reduceIte, reduceCtorEq, Zd, Ze, Zc, Zf, Z74]
  refine call_ret (slIndex_call c s) rfl rfl ?_
  unfold cutR
  cases h : firstAt c s with
  | none =>
    rw [firstAt_none h]
    simp only [Zu, Za, Zb, Zg, Zh, Zi, Zk, Zl, Zm, sliceA, Zn, ↓reduceIte, reduceCtorEq, Zd, Ze, Zc, Zf, Z74, Int.reduceLT, Int.reduceLE, Int.reduceNeg, Int.reduceEq, Int.reduceGT, Int.reduceGE, decide_true, decide_false, beq_self_eq_true, bne_self_eq_false, Int.reduceBEq, Int.reduceBNe, Int.reduceAdd, Int.reduceSub]
    exact PostR.ret
  | some p =>
    obtain ⟨a, b⟩ := p
    obtain ⟨h1, _, _⟩ := firstAt_some h
    obtain ⟨h2, h3, h4⟩ := firstAt_take h
    rw [h1]
    have v2 : IntKind.i64.wrap ((a.length : Int) + 1) = ((a.length + 1 : Nat) : Int) := by rw [w64 (by omega) (by omega)]; omega
    have v4 : (a.length : Int).toNat = a.length := rfl
    have v5 : ((a.length + 1 : Nat) : Int).toNat = a.length + 1 := rfl
    have v6 : (s.length : Int).toNat = s.length := rfl
    simp only [Zu, Za, Zb, Zg, Zh, Zi, Zk, Zl, Zm, sliceA, Zn, ↓reduceIte, reduceCtorEq, Zd, Ze, Zc, Zf, Z74, Int.reduceLT, Int.reduceLE, Int.reduceNeg, Int.reduceEq, Int.reduceGT, Int.reduceGE, decide_true, decide_false, beq_self_eq_true, bne_self_eq_false, Int.reduceBEq, Int.reduceBNe, Int.reduceAdd, Int.reduceSub, nat1, v2]
    simp only [Zu, Za, Zb, Zg, Zh, Zi, Zk, Zl, Zm, sliceA, Zn, ↓reduceIte, reduceCtorEq, Zd, Ze, Zc, Zf, Z74, Int.reduceLT, Int.reduceLE, Int.reduceNeg, Int.reduceEq, Int.reduceGT, Int.reduceGE, decide_true, decide_false, beq_self_eq_true, bne_self_eq_false, Int.reduceBEq, Int.reduceBNe, Int.reduceAdd, Int.reduceSub, nat1, v2, v4, v5, v6, h2, h3, List.take_length]
    exact ⟨by omega, by omega, Int.le_refl _, PostR.ret⟩
theorem cut_call1 (c : UInt8) (s : List UInt8) (hs : s.length ≤ 1048576) : CallA Tryz.prog 39 [.str s, .str [c]] [] (Ret (cutR c s) []) := by
  refine CallP.out (t := .mk) (go_in (md := md39) mixed Tryz.func39 rfl go39 (by kernel_rfl) ?_)
  simp only [Zu, Za, Zb, Zg, Zh, Zi, Zk, Zl, Zm, sliceA, Zn, ↓reduceIte, reduceCtorEq, Zd, Ze, Zc, Zf, Z39]
  refine call_ret (slCut_call c s hs) rfl (cutR_below c s) ?_
  unfold cutR
  split
  · simp only [Zu, Za, Zb, Zg, Zh, Zi, Zk, Zl, Zm, sliceA, Zn, ↓reduceIte, reduceCtorEq, Zd, Ze, Zc, Zf, Z39]
    exact PostR.ret
  · simp only [Zu, Za, Zb, Zg, Zh, Zi, Zk, Zl, Zm, sliceA, Zn, ↓reduceIte, reduceCtorEq, Zd, Ze, Zc, Zf, Z39]
    exact PostR.ret
theorem index_call (c : UInt8) (s : List UInt8) : CallA Tryz.prog 81 [.str s, .str [c]] [] (Ret (.int .i64 (Lib.indexByte s c)) []) := by
  refine CallP.out (t := .mk) (go_in (md := md81) mixed Tryz.func81 rfl go81 (by kernel_rfl) ?_)
  simp only [Zu, Za, Zb, Zg, Zh, Zi, Zk, Zl, Zm, sliceA, Zn, ↓reduceIte, reduceCtorEq, Zd, Ze, Zc, Zf, Z81]
  refine call_ret (slIndex_call c s) rfl rfl ?_
  simp only [Zu, Za, Zb, Zg, Zh, Zi, Zk, Zl, Zm, sliceA, Zn, ↓reduceIte, reduceCtorEq, Zd, Ze, Zc, Zf, Z81]
  exact PostR.ret
theorem countString_call (s : List UInt8) (c : Int) : CallA Tryz.prog 175 [.str s, .int .u8 c] [] (Ret (.int .i64 (Lib.countByte s c.toNat.toUInt8 : Nat)) []) :=
  bytes_call (e := Extern.BytealgCount.count) Tryz.func175 (by kernel_rfl) (by kernel_rfl) (by kernel_rfl) (by kernel_rfl) (g := fun s c => (Lib.countByte s c : Nat)) (fun s c w => Lib.run_countString s c w) s c
theorem count_call (z : UInt8) (s : List UInt8) : CallA Tryz.prog 124 [.str s, .str [z]] [] (Ret (.int .i64 (Lib.countByte s z : Nat)) []) := by
  refine CallP.out (t := .mk) (go_in (md := md124) mixed Tryz.func124 rfl go124 (by kernel_rfl) ?_)
  simp only [Zu, Za, Zb, Zg, Zh, Zi, Zk, Zl, Zm, sliceA, Zn, ↓reduceIte, reduceCtorEq, Zd, Ze, Zc, Zf, Z124, Int.reduceLT, Int.reduceLE, Int.reduceNeg, Int.reduceEq, Int.reduceGT, Int.reduceGE, decide_true, decide_false, beq_self_eq_true, bne_self_eq_false, Int.reduceBEq, Int.reduceBNe, Int.reduceAdd, Int.reduceSub]
  refine br_no (by first | exact decide_eq_false (by omega) | exact beq_false_of_ne (by omega) | (simp only [bne_eq_false_iff_eq, beq_eq_false_iff_ne, ne_eq]; omega)) ?_; simp only [Zu, Za, Zb, Zg, Zh, Zi, Zk, Zl, Zm, sliceA, Zn, ↓reduceIte, reduceCtorEq, Zd, Ze, Zc, Zf, Z124, nat1, Int.reduceLT, Int.reduceLE, Int.reduceNeg, Int.reduceEq, Int.reduceGT, Int.reduceGE, decide_true, decide_false, beq_self_eq_true, bne_self_eq_false, Int.reduceBEq, Int.reduceBNe, Int.reduceAdd, Int.reduceSub]
  first | refine br_yes (by first | exact decide_eq_true (by omega) | (simp only [bne_iff_ne, beq_iff_eq, ne_eq]; omega)) ?_; simp only [Zu, Za, Zb, Zg, Zh, Zi, Zk, Zl, Zm, sliceA, Zn, ↓reduceIte, reduceCtorEq, Zd, Ze, Zc, Zf, Z124, nat1, Int.reduceLT, Int.reduceLE, Int.reduceNeg, Int.reduceEq, Int.reduceGT, Int.reduceGE, decide_true, decide_false, beq_self_eq_true, bne_self_eq_false, Int.reduceBEq, Int.reduceBNe, Int.reduceAdd, Int.reduceSub] | skip
  refine call_ret (countString_call s _) rfl rfl ?_
  simp only [Zu, Za, Zb, Zg, Zh, Zi, Zk, Zl, Zm, sliceA, Zn, ↓reduceIte, reduceCtorEq, Zd, Ze, Zc, Zf, Z124, byte_back]
  exact PostR.ret
theorem strs_cons (x : List UInt8) (l : List (List UInt8)) : strs (x :: l) = .str x :: strs l := rfl
theorem repS_below (n k : Nat) : allBelow n (List.replicate k (AV.str [])) = true := by rw [← strs_rep]; exact strs_below _ _
theorem genSplit_call (z : UInt8) (s : List UInt8) (hs : s.length ≤ 1048576) : CallA Tryz.prog 84 [.str s, .str [z], .int .i64 0, .int .i64 (-1)] [] (Ret (.sl 0 0 (cutA z [] s).length) [strB (cutA z [] s)]) := by
  have cl := count_len s z
  have ln := cutA_len z s []
  generalize hc : Lib.countByte s z = c at cl ln
  refine CallP.out (t := .mk) (go_in (md := md84) mixed Tryz.func84 rfl go84 (by kernel_rfl) ?_)
  simp only [Zu, Za, Zb, Zg, Zh, Zi, Zk, Zl, Zm, sliceA, Zn, ↓reduceIte, reduceCtorEq, Zd, Ze, Zc, Zf, Z84, Int.reduceLT, Int.reduceLE, Int.reduceNeg, Int.reduceEq, Int.reduceGT, Int.reduceGE, decide_true, decide_false, beq_self_eq_true, bne_self_eq_false, Int.reduceBEq, Int.reduceBNe, Int.reduceAdd, Int.reduceSub]
  refine br_no (by rfl) ?_
  simp only [Zu, Za, Zb, Zg, Zh, Zi, Zk, Zl, Zm, sliceA, Zn, ↓reduceIte, reduceCtorEq, Zd, Ze, Zc, Zf, Z84, Int.reduceLT, Int.reduceLE, Int.reduceNeg, Int.reduceEq, Int.reduceGT, Int.reduceGE, decide_true, decide_false, beq_self_eq_true, bne_self_eq_false, Int.reduceBEq, Int.reduceBNe, Int.reduceAdd, Int.reduceSub]
  refine call_ret (count_call z s) rfl rfl ?_
  have w1 : IntKind.i64.wrap ((c : Int) + 1) = ((c + 1 : Nat) : Int) := by rw [w64 (by omega) (by omega)]; omega
  have w2 : IntKind.i64.wrap ((s.length : Int) + 1) = (s.length : Int) + 1 := w64 (by omega) (by omega)
  have w3 : IntKind.i64.wrap (((c + 1 : Nat) : Int) - 1) = (c : Int) := by rw [w64 (by omega) (by omega)]; omega
  have m1 : (if (s.length : Int) + 1 < ((c + 1 : Nat) : Int) then (s.length : Int) + 1 else ((c + 1 : Nat) : Int)) = ((c + 1 : Nat) : Int) := if_neg (by omega)
  rw [hc]
  simp only [Zu, Za, Zb, Zg, Zh, Zi, Zk, Zl, Zm, sliceA, Zn, ↓reduceIte, reduceCtorEq, Zd, Ze, Zc, Zf, Z84, Int.reduceLT, Int.reduceLE, Int.reduceNeg, Int.reduceEq, Int.reduceGT, Int.reduceGE, decide_true, decide_false, beq_self_eq_true, bne_self_eq_false, Int.reduceBEq, Int.reduceBNe, Int.reduceAdd, Int.reduceSub, w1, w2, w3, minA, m1, eq_self]
  refine ⟨by omega, by omega, ?_⟩
  refine go_round (md := md84) mixed (by kernel_rfl) (fun p : {p : List (List UInt8) × List UInt8 // p.1.length + Lib.countByte p.2 z = c ∧ p.1 ++ cutA z [] p.2 = cutA z [] s ∧ p.2.length ≤ s.length} => ⟨((.str p.1.2) :: (.str [z]) :: (.int .i64 0) :: (.int .i64 c) :: .any :: .any :: .any :: .any :: .any :: (.sl 0 0 (c + 1)) :: (.int .i64 p.1.1.length) :: .any :: .any :: .any :: .any :: .any :: .any :: .any :: .any :: .any :: .any :: .any :: .any :: .any :: .any :: .any :: .any :: .any :: .any :: .any :: .any :: .any :: .any :: .any :: .any :: .any :: .any :: .any :: .any :: .any :: .any :: .any :: .any :: .any :: .any :: .any :: .any :: .any :: .any :: .any :: .any :: .any :: .any :: .any :: .any :: .any :: .any :: .any :: .any :: .any :: .any :: .any :: .any :: .any :: .any :: .any :: []), [strB (p.1.1 ++ List.replicate (c + 1 - p.1.1.length) [])]⟩) (fun p => c - p.1.1.length) ⟨([], s), by simpa using hc, rfl, Nat.le_refl _⟩ ?_ ?_
  · show Weak 0 _ ⟨_, _⟩
    exact weak_drop (by simp) (by simp [DropHp, ints_below, flts_below, strB, strs_rep, strs_cons, List.replicate_succ, strs_below, repS_below, allBelow_cons, allBelow_nil, below, belowM, belowL]) (by simp [DropTm, DropV, below, belowM, belowL, strB, strs_rep, strs_cons, List.replicate_succ, strs_below, repS_below, allBelow_cons, allBelow_nil, below, belowM, belowL])
  rintro ⟨⟨L, t⟩, hl, he, ht⟩
  dsimp only at hl he ht
  have ll : (strs (L ++ List.replicate (c + 1 - L.length) [])).length = c + 1 := by rw [strs_len, List.length_append, List.length_replicate]; omega
  have hk : List.replicate (c + 1 - L.length) ([] : List UInt8) = [] :: List.replicate (c + 1 - (L.length + 1)) [] := by rw [← List.replicate_succ]; congr 1; omega
  have sx : ∀ x, (L ++ List.replicate (c + 1 - L.length) ([] : List UInt8)).set L.length x = (L ++ [x]) ++ List.replicate (c + 1 - (L.length + 1)) [] := by
    intro x
    rw [hk, List.set_append_right _ _ (Nat.le_refl _), Nat.sub_self, List.set_cons_zero, List.append_assoc]
    rfl
  generalize hR : L ++ List.replicate (c + 1 - L.length) ([] : List UInt8) = R at ll sx
  simp only [Zu, Za, Zb, Zg, Zh, Zi, Zk, Zl, Zm, sliceA, Zn, ↓reduceIte, reduceCtorEq, Zd, Ze, Zc, Zf, Z84, strB]
  refine br_intro (fun h => ?_) (fun h => ?_) <;> simp only [Zu, Za, Zb, Zg, Zh, Zi, Zk, Zl, Zm, sliceA, Zn, ↓reduceIte, reduceCtorEq, Zd, Ze, Zc, Zf, Z84, strB]
  · have hi' : L.length < c := by have := of_decide_eq_true h; omega
    obtain ⟨m, x1, x2, x3, x4⟩ := cutA_at z t [] (by omega)
    refine call_ret (index_call z t) rfl rfl ?_
    rw [x1]
    simp only [Zu, Za, Zb, Zg, Zh, Zi, Zk, Zl, Zm, sliceA, Zn, ↓reduceIte, reduceCtorEq, Zd, Ze, Zc, Zf, Z84, strB]
    have v1 : IntKind.i64.wrap ((m : Int) + 0) = (m : Int) := by rw [w64 (by omega) (by omega)]; omega
    have v2 : IntKind.i64.wrap ((m : Int) + 1) = ((m + 1 : Nat) : Int) := by rw [w64 (by omega) (by omega)]; omega
    have v3 : IntKind.i64.wrap ((L.length : Int) + 1) = ((L.length + 1 : Nat) : Int) := by rw [w64 (by omega) (by omega)]; omega
    have v4 : (m : Int).toNat = m := rfl
    have v5 : ((m + 1 : Nat) : Int).toNat = m + 1 := rfl
    have v6 : (t.length : Int).toNat = t.length := rfl
    refine br_no (by first | exact decide_eq_false (by omega) | exact beq_false_of_ne (by omega) | (simp only [bne_eq_false_iff_eq, beq_eq_false_iff_ne, ne_eq]; omega)) ?_; simp only [Zu, Za, Zb, Zg, Zh, Zi, Zk, Zl, Zm, sliceA, Zn, ↓reduceIte, reduceCtorEq, Zd, Ze, Zc, Zf, Z84, strB, nat1, v1, v2, v3]
    refine ⟨Int.le_refl _, by omega, by omega, by omega, by omega, Int.le_refl _, ⟨(L ++ [t.take m], t.drop (m + 1)), ?_, ?_, ?_⟩, ?_, ?_⟩
    · show (L ++ [t.take m]).length + Lib.countByte (t.drop (m + 1)) z = c
      rw [List.length_append, List.length_singleton]; omega
    · show (L ++ [t.take m]) ++ cutA z [] (t.drop (m + 1)) = cutA z [] s
      rw [← he, x3, List.nil_append, List.append_assoc]; rfl
    · show (t.drop (m + 1)).length ≤ s.length
      rw [List.length_drop]; omega
    · show c - (L ++ [t.take m]).length < c - L.length
      rw [List.length_append, List.length_singleton]; omega
    · show Weak 0 _ ⟨_, _⟩
      rw [List.take_length, strs_set, sx]
      exact weak_drop (by simp) (by simp [DropHp, ints_below, flts_below, strB, strs_below, allBelow_cons, allBelow_nil, below, belowM, belowL]) (by simp [DropTm, DropV, below, belowM, belowL, strB, strs_below, allBelow_cons, allBelow_nil, below, belowM, belowL])
  · have hi' : L.length = c := by have := of_decide_eq_false h; omega
    have v3 : IntKind.i64.wrap ((L.length : Int) + 1) = ((L.length + 1 : Nat) : Int) := by rw [w64 (by omega) (by omega)]; omega
    have x1 := cutA_none z t [] (by omega)
    have sy := sx t
    rw [hi', Nat.sub_self, List.replicate_zero, List.append_nil] at sy
    refine ⟨by omega, by omega, Int.le_refl _, by omega, by omega, ?_⟩
    have e2 : (IntKind.i64.wrap ((L.length : Int) + 1)).toNat - 0 = c + 1 := by rw [v3]; show L.length + 1 - 0 = c + 1; omega
    rw [e2, strs_set, hi', sy, ln, ← he, x1]
    exact PostR.ret
theorem split_call (z : UInt8) (s : List UInt8) (hs : s.length ≤ 1048576) : CallA Tryz.prog 61 [.str s, .str [z]] [] (Ret (.sl 0 0 (cutA z [] s).length) [strB (cutA z [] s)]) := by
  refine CallP.out (t := .mk) (go_in (md := md61) mixed Tryz.func61 rfl go61 (by kernel_rfl) ?_)
  simp only [Zu, Za, Zb, Zg, Zh, Zi, Zk, Zl, Zm, sliceA, Zn, ↓reduceIte, reduceCtorEq, Zd, Ze, Zc, Zf, Z61]
  refine call_new (genSplit_call z s hs) rfl (by simp [strB, strs_below]) ?_
  simp only [Zu, Za, Zb, Zg, Zh, Zi, Zk, Zl, Zm, sliceA, Zn, ↓reduceIte, reduceCtorEq, Zd, Ze, Zc, Zf, Z61, ren, renM, renL]
  exact PostR.ret
end Go.Proofs.YtodjjpmigcacoaaGreatDoor
