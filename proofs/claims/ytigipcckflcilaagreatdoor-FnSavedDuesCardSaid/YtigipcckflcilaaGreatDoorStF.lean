/- Numbers, texts of rules, checks: both sides. -/
import Derived.Test.YtigipcckflcilaaGreatDoorRzS
import Derived.Test.YtigipcckflcilaaGreatDoorStE
import Derived.Test.YtigipcckflcilaaGreatDoorAbsM3
set_option maxRecDepth 10000
set_option maxHeartbeats 4000000
set_option linter.unusedSimpArgs false
set_option linter.unusedVariables false
namespace Go.Proofs.YtigipcckflcilaaGreatDoor
open Go Go.Abs

def strB (l : List (List UInt8)) : Blk := { ty := 9, w := 1, els := strs l }

theorem tabG : (Tryz.prog.globalNamed "internal/strconv.uint64pow10").isSome = true := by kernel_rfl

theorem formatInt_call (n : Int) (h0 : -9223372036854775808 ≤ n) (h1 : n ≤ 9223372036854775807) : CallA Tryz.prog 106 [.int .i64 n, .int .i64 10] [] (Ret (.str (Lib.itoa n)) []) :=
  itoa_call tabG go106 n (fun w ht => strconv_FormatInt_10 n h0 h1 w ht)

theorem decimal_call (n : Int) (h0 : -9223372036854775808 ≤ n) (h1 : n ≤ 9223372036854775807) : CallA Tryz.prog 85 [.int .i64 n] [] (Ret (.str (Lib.itoa n)) []) := by
  refine CallP.out (t := .mk) (go_in (md := md85) mixed Tryz.func85 rfl go85 (by kernel_rfl) ?_)
  simp only [q0, q1, q2, q3, q4, q5, q6, q7, q8, q9, zr0, zr1, zr2, zr3, zq0, zq1, zq2, zq3, zq4, Nat.reduceAdd, Nat.reduceSub, lenA, convA, indexA, indexS, Int.reduceToNat, cond_true, cond_false, ↓reduceIte, reduceCtorEq, Nat.reduceLT, Nat.reduceLeDiff, Nat.reduceMul, Nat.reduceEqDiff, exists_eq', implies_true, exists_true_left, tys0, tys1, tys2, und0, und1, md85, Tryz.ntmps85, Tryz.results85]
  refine call_ret (formatInt_call n h0 h1) rfl rfl ?_
  simp only [q0, q1, q2, q3, q4, q5, q6, q7, q8, q9, zr0, zr1, zr2, zr3, zq0, zq1, zq2, zq3, zq4, Nat.reduceAdd, Nat.reduceSub, lenA, convA, indexA, indexS, Int.reduceToNat, cond_true, cond_false, ↓reduceIte, reduceCtorEq, Nat.reduceLT, Nat.reduceLeDiff, Nat.reduceMul, Nat.reduceEqDiff, exists_eq', implies_true, exists_true_left, tys0, tys1, tys2, und0, und1, md85, Tryz.ntmps85, Tryz.results85]
  exact PostR.ret


def chk1 (n : Int) (c : UInt8) : Int := (971 * n + c.toNat + 229).tmod 65003

def chk (n : Int) (s : List UInt8) : Int := s.foldl chk1 n

theorem chk1_in (n : Int) (c : UInt8) (h : 0 ≤ n) : 0 ≤ chk1 n c ∧ chk1 n c ≤ 65002 := by
  unfold chk1
  have h0 : 0 ≤ 971 * n + c.toNat + 229 := by omega
  rw [Int.tmod_eq_emod_of_nonneg h0]
  omega

theorem chk_in (s : List UInt8) : ∀ n : Int, 0 ≤ n → n ≤ 65002 → 0 ≤ chk n s ∧ chk n s ≤ 65002 := by
  induction s with
  | nil => intro n h1 h2; exact ⟨h1, h2⟩
  | cons c s ih => intro n h1 h2; exact ih _ (chk1_in n c h1).1 (chk1_in n c h1).2

theorem chk_take (n : Int) (s : List UInt8) (i : Nat) (h : i < s.length) : chk n (s.take (i + 1)) = chk1 (chk n (s.take i)) s[i] := by
  unfold chk
  rw [take_snoc _ _ h, List.foldl_append]
  rfl

theorem implCheck_call (n : Int) (s : List UInt8) (h0 : 0 ≤ n) (h1 : n ≤ 65002) (hs : s.length ≤ 1048576) : CallA Tryz.prog 73 [.int .i64 n, .str s] [] (Ret (.tup [.int .i64 (chk n s), .bool true]) []) := by
  refine CallP.out (t := .mk) (go_in (md := md73) mixed Tryz.func73 rfl go73 (by kernel_rfl) ?_)
  simp only [q0, q1, q2, q3, q4, q5, q6, q7, q8, q9, zr0, zr1, zr2, zr3, zq0, zq1, zq2, zq3, zq4, Nat.reduceAdd, Nat.reduceSub, lenA, convA, indexA, indexS, Int.reduceToNat, cond_true, cond_false, ↓reduceIte, reduceCtorEq, Nat.reduceLT, Nat.reduceLeDiff, Nat.reduceMul, Nat.reduceEqDiff, exists_eq', implies_true, exists_true_left, tys0, tys1, tys2, und0, und1, md73, Tryz.ntmps73, Tryz.results73]
  refine call_ret (within_call n 0 65002) rfl rfl ?_
  rw [show inR 0 65002 n = true from inR_yes h0 h1]
  simp only [q0, q1, q2, q3, q4, q5, q6, q7, q8, q9, zr0, zr1, zr2, zr3, zq0, zq1, zq2, zq3, zq4, Nat.reduceAdd, Nat.reduceSub, lenA, convA, indexA, indexS, Int.reduceToNat, cond_true, cond_false, ↓reduceIte, reduceCtorEq, Nat.reduceLT, Nat.reduceLeDiff, Nat.reduceMul, Nat.reduceEqDiff, exists_eq', implies_true, exists_true_left, tys0, tys1, tys2, und0, und1, md73, Tryz.ntmps73, Tryz.results73]
  refine go_round (md := md73) mixed (by kernel_rfl) (fun i : {i : Nat // i ≤ s.length} => ⟨[.int .i64 (chk n (s.take i.1)), .str s, .any, .any, .any, .any, .any, .any, .any, .any, .any, .int .i64 s.length, .int .i64 i.1, .any, .any, .any, .any, .any, .any, .any, .any, .any, .any, .any, .any, .any], []⟩) (fun i => s.length - i.1) ⟨0, by omega⟩ ?_ ?_
  · exact weak_drop (by simp) (by simp [DropHp, ints_below, flts_below, chk, List.foldl_nil]) (by simp [DropTm, DropV, below, belowM, belowL, chk, List.foldl_nil])
  rintro ⟨i, hi⟩
  have cb := chk_in (s.take i) n h0 h1
  have nx := fun h : i < s.length => chk_take n s i h
  generalize hm : chk n (s.take i) = m at cb nx
  simp only [q0, q1, q2, q3, q4, q5, q6, q7, q8, q9, zr0, zr1, zr2, zr3, zq0, zq1, zq2, zq3, zq4, Nat.reduceAdd, Nat.reduceSub, lenA, convA, indexA, indexS, Int.reduceToNat, cond_true, cond_false, ↓reduceIte, reduceCtorEq, Nat.reduceLT, Nat.reduceLeDiff, Nat.reduceMul, Nat.reduceEqDiff, exists_eq', implies_true, exists_true_left, tys0, tys1, tys2, und0, und1, md73, Tryz.ntmps73, Tryz.results73]
  refine br_intro (fun h => ?_) (fun h => ?_) <;> simp only [q0, q1, q2, q3, q4, q5, q6, q7, q8, q9, zr0, zr1, zr2, zr3, zq0, zq1, zq2, zq3, zq4, Nat.reduceAdd, Nat.reduceSub, lenA, convA, indexA, indexS, Int.reduceToNat, cond_true, cond_false, ↓reduceIte, reduceCtorEq, Nat.reduceLT, Nat.reduceLeDiff, Nat.reduceMul, Nat.reduceEqDiff, exists_eq', implies_true, exists_true_left, tys0, tys1, tys2, und0, und1, md73, Tryz.ntmps73, Tryz.results73]
  · have hi' : i < s.length := by have := of_decide_eq_true h; omega
    have hI : (i : Int) < (s.length : Int) := by omega
    have hb : (s[i].toNat : Int) < 256 := by have := s[i].toNat_lt; omega
    have nx := nx hi'
    have w1 : IntKind.i64.wrap ((i : Int) + 1) = ((i + 1 : Nat) : Int) := by rw [w64 (by omega) (by omega)]; omega
    have w2 : IntKind.i64.wrap (971 * m) = 971 * m := w64 (by omega) (by omega)
    have w3 : IntKind.i64.wrap (s[i].toNat : Int) = (s[i].toNat : Int) := w64 (by omega) (by omega)
    have w4 : IntKind.i64.wrap (971 * m + (s[i].toNat : Int)) = 971 * m + (s[i].toNat : Int) := w64 (by omega) (by omega)
    have w5 : IntKind.i64.wrap (971 * m + (s[i].toNat : Int) + 229) = 971 * m + (s[i].toNat : Int) + 229 := w64 (by omega) (by omega)
    simp only [q0, q1, q2, q3, q4, q5, q6, q7, q8, q9, zr0, zr1, zr2, zr3, zq0, zq1, zq2, zq3, zq4, Nat.reduceAdd, Nat.reduceSub, lenA, convA, indexA, indexS, Int.reduceToNat, cond_true, cond_false, ↓reduceIte, reduceCtorEq, Nat.reduceLT, Nat.reduceLeDiff, Nat.reduceMul, Nat.reduceEqDiff, exists_eq', implies_true, exists_true_left, tys0, tys1, tys2, und0, und1, md73, Tryz.ntmps73, Tryz.results73, hi', hI, w1, w2, w3, w4, w5]
    refine ⟨by decide, ⟨i + 1, by omega⟩, by show s.length - (i + 1) < _; omega, ?_⟩
    show Weak 0 _ ⟨_, _⟩
    rw [nx]
    exact weak_drop (by simp) (by simp [DropHp, ints_below, flts_below, chk1]) (by simp [DropTm, DropV, below, belowM, belowL, chk1])
  · have hi' : i = s.length := by have := of_decide_eq_false h; omega
    rw [show chk n s = m from by rw [← hm, hi', List.take_length]]
    exact PostR.ret

theorem itoa_abs (n : Int) : Lib.itoa n = if n < 0 then 45 :: Lib.decDigits n.natAbs else Lib.decDigits n.natAbs := by
  unfold Lib.itoa
  by_cases h : n < 0
  · rw [if_pos h, if_pos h]
  · rw [if_neg h, if_neg h]
    congr 1
    omega

theorem strs_kill (b : Nat) (L : List (List UInt8)) : (strs L).map (kill b) = strs L := by
  unfold strs
  rw [List.map_map]
  exact List.map_congr_left fun x _ => rfl

theorem strs_more (b : Nat) (L : List (List UInt8)) (x : List UInt8) : (strs L ++ [AV.str x]).map (kill b) = strs (L ++ [x]) := by
  rw [show strs L ++ [AV.str x] = strs (L ++ [x]) from (strs_app L [x]).symm, strs_kill]

theorem allW_str (x : List UInt8) : AllW 1 [AV.str x] := by
  intro a ha
  rw [List.mem_singleton.1 ha]
  exact ⟨rfl, rfl⟩

theorem back_strs (xs : List (List UInt8)) : (xs.map fun x => (⟨x.toArray⟩ : ByteArray)).map (·.data.toList) = xs := by
  rw [List.map_map]
  exact (List.map_congr_left fun x _ => rfl).trans (List.map_id xs)

theorem joinS_call (sep : List UInt8) (xs : List (List UInt8)) (hN : xs.length ≤ 1048576) (hlen : (Lib.join xs sep).length ≤ 140737488355328) : CallA Tryz.prog 105 [.ro (strs xs), .str sep] [] (Ret (.str (Lib.join xs sep)) []) := by
  refine join_call go105 sep xs (fun a c w => strings_Join_none a c _ w) (fun bk o c w hc hb hcap => ?_)
  have := strings_Join bk o c (xs.map fun x => (⟨x.toArray⟩ : ByteArray)) ⟨sep.toArray⟩ w (fun j x hx => by
    simp only [List.getElem?_map, Option.map_eq_some_iff] at hx
    obtain ⟨y, h1, rfl⟩ := hx
    exact hc j y h1) hb (by simp; omega) (by simpa using hcap) (by rw [back_strs]; exact hlen)
  rw [back_strs, List.length_map] at this
  exact this

theorem dec_len : ∀ (k u : Nat), u < 10 ^ (k + 1) → (Lib.decDigits u).length ≤ k + 1
  | 0, u, h => by
    unfold Lib.decDigits
    rw [dif_pos (by simpa using h)]
    simp
  | k + 1, u, h => by
    unfold Lib.decDigits
    split
    · simp
    · have : u / 10 < 10 ^ (k + 1) := by
        rw [Nat.div_lt_iff_lt_mul (by omega)]
        rw [Nat.pow_succ] at h
        exact h
      have := dec_len k (u / 10) this
      simp; omega

def okI (x : Int) : Prop := -9223372036854775808 ≤ x ∧ x ≤ 9223372036854775807

theorem itoa_len {x : Int} (h : okI x) : (Lib.itoa x).length ≤ 21 := by
  have h1 : x.natAbs < 10 ^ (19 + 1) := by
    have e : (10 : Nat) ^ (19 + 1) = 100000000000000000000 := by decide
    unfold okI at h
    omega
  have := dec_len 19 x.natAbs h1
  rw [itoa_abs]
  split
  · simp; omega
  · omega

theorem tail_len {sep : List UInt8} (hs : sep.length ≤ 3) : ∀ (r : List (List UInt8)), (∀ x ∈ r, x.length ≤ 21) → (Lib.joinTail sep r).length ≤ r.length * 24
  | [], _ => by simp [Lib.joinTail]
  | x :: r, h => by
    have h1 := h x List.mem_cons_self
    have h2 := tail_len hs r (fun y hy => h y (List.mem_cons_of_mem _ hy))
    simp only [Lib.joinTail, List.map_cons, List.flatten_cons, List.length_append, List.length_cons, List.length_nil] at h2 ⊢
    omega

def txt (sep : List UInt8) (xs : List Int) : List UInt8 := Lib.join (xs.map Lib.itoa) sep

theorem txt_len {sep : List UInt8} (hs : sep.length ≤ 3) (xs : List Int) (h : ∀ x ∈ xs, okI x) : (txt sep xs).length ≤ xs.length * 24 := by
  unfold txt
  cases xs with
  | nil => simp [Lib.join_nil]
  | cons x r =>
    have h1 := itoa_len (h x List.mem_cons_self)
    have h2 := tail_len hs (r.map Lib.itoa) (fun y hy => by
      obtain ⟨z, h3, rfl⟩ := List.mem_map.1 hy
      exact itoa_len (h z (List.mem_cons_of_mem _ h3)))
    rw [List.map_cons, Lib.join_cons]
    simp only [List.length_append, List.length_cons, List.length_map] at h2 ⊢
    omega

theorem decimals_call (sep : List UInt8) (hs : sep.length ≤ 3) (xs : List Int) (hm : xs.length ≤ 1048576) (hb : ∀ x ∈ xs, okI x) : CallA Tryz.prog 84 [.ro (ints xs), .str sep] [] (Ret (.str (txt sep xs)) []) := by
  refine CallP.out (t := .mk) (go_in (md := md84) mixed Tryz.func84 rfl go84 (by kernel_rfl) ?_)
  simp only [q0, q1, q2, q3, q4, q5, q6, q7, q8, q9, zr0, zr1, zr2, zr3, zq0, zq1, zq2, zq3, zq4, Nat.reduceAdd, Nat.reduceSub, lenA, convA, indexA, indexS, Int.reduceToNat, cond_true, cond_false, ↓reduceIte, reduceCtorEq, Nat.reduceLT, Nat.reduceLeDiff, Nat.reduceMul, Nat.reduceEqDiff, exists_eq', implies_true, exists_true_left, tys0, tys1, tys2, und0, und1, md84, Tryz.ntmps84, Tryz.results84]
  refine go_round (md := md84) mixed (by kernel_rfl) (fun i : {i : Nat // i ≤ xs.length} => ⟨[.any, .str sep, .any, .any, .any, .sl 0 0 i.1, .any, .any, .any, .ro (ints xs), .int .i64 xs.length, .int .i64 i.1, .any, .any, .any, .any, .any, .any, .any, .any, .any, .any, .any, .any], [strB ((xs.take i.1).map Lib.itoa)]⟩) (fun i => xs.length - i.1) ⟨0, by omega⟩ ?_ ?_
  · exact weak_drop (by simp) (by simp [DropHp, ints_below, flts_below, strB, strs, allBelow_cons, allBelow_nil, below, belowM, belowL]) (by simp [DropTm, DropV, below, belowM, belowL, strB, strs, allBelow_cons, allBelow_nil, below, belowM, belowL])
  rintro ⟨i, hi⟩
  have ll : (strs ((xs.take i).map Lib.itoa)).length = i := by rw [strs_len, List.length_map, List.length_take]; omega
  have nx := fun h : i < xs.length => (show (xs.take i).map Lib.itoa ++ [Lib.itoa xs[i]] = (xs.take (i + 1)).map Lib.itoa by rw [take_snoc _ _ h, List.map_append]; rfl)
  simp only [q0, q1, q2, q3, q4, q5, q6, q7, q8, q9, zr0, zr1, zr2, zr3, zq0, zq1, zq2, zq3, zq4, Nat.reduceAdd, Nat.reduceSub, lenA, convA, indexA, indexS, Int.reduceToNat, cond_true, cond_false, ↓reduceIte, reduceCtorEq, Nat.reduceLT, Nat.reduceLeDiff, Nat.reduceMul, Nat.reduceEqDiff, exists_eq', implies_true, exists_true_left, tys0, tys1, tys2, und0, und1, md84, Tryz.ntmps84, Tryz.results84, strB]
  refine br_intro (fun h => ?_) (fun h => ?_) <;> simp only [q0, q1, q2, q3, q4, q5, q6, q7, q8, q9, zr0, zr1, zr2, zr3, zq0, zq1, zq2, zq3, zq4, Nat.reduceAdd, Nat.reduceSub, lenA, convA, indexA, indexS, Int.reduceToNat, cond_true, cond_false, ↓reduceIte, reduceCtorEq, Nat.reduceLT, Nat.reduceLeDiff, Nat.reduceMul, Nat.reduceEqDiff, exists_eq', implies_true, exists_true_left, tys0, tys1, tys2, und0, und1, md84, Tryz.ntmps84, Tryz.results84, strB]
  · have hi' : i < xs.length := by have := of_decide_eq_true h; omega
    have hI : (i : Int) < (xs.length : Int) := by omega
    have nx := nx hi'
    have ok := hb xs[i] (List.getElem_mem hi')
    have w1 : IntKind.i64.wrap ((i : Int) + 1) = ((i + 1 : Nat) : Int) := by rw [w64 (by omega) (by omega)]; omega
    simp only [q0, q1, q2, q3, q4, q5, q6, q7, q8, q9, zr0, zr1, zr2, zr3, zq0, zq1, zq2, zq3, zq4, Nat.reduceAdd, Nat.reduceSub, lenA, convA, indexA, indexS, Int.reduceToNat, cond_true, cond_false, ↓reduceIte, reduceCtorEq, Nat.reduceLT, Nat.reduceLeDiff, Nat.reduceMul, Nat.reduceEqDiff, exists_eq', implies_true, exists_true_left, tys0, tys1, tys2, und0, und1, md84, Tryz.ntmps84, Tryz.results84, strB, hi', hI]
    refine call_ret (decimal_call xs[i] ok.1 ok.2) rfl rfl ?_
    generalize (xs.take i).map Lib.itoa = T at ll nx
    simp only [q0, q1, q2, q3, q4, q5, q6, q7, q8, q9, zr0, zr1, zr2, zr3, zq0, zq1, zq2, zq3, zq4, Nat.reduceAdd, Nat.reduceSub, lenA, convA, indexA, indexS, Int.reduceToNat, cond_true, cond_false, ↓reduceIte, reduceCtorEq, Nat.reduceLT, Nat.reduceLeDiff, Nat.reduceMul, Nat.reduceEqDiff, exists_eq', implies_true, exists_true_left, tys0, tys1, tys2, und0, und1, md84, Tryz.ntmps84, Tryz.results84, strB, hi', hI, allW_int, fits, List.isEmpty_cons, brk_false, Nat.reduceMul, ll, w1]
    refine ⟨allW_str _, by omega, ⟨i + 1, by omega⟩, by show xs.length - (i + 1) < _; omega, ?_⟩
    show Weak 0 _ ⟨_, _⟩
    rw [strs_more, nx]
    exact weak_drop (by simp) (by simp [DropHp, ints_below, flts_below, strB, strs_below, allBelow_cons, allBelow_nil, below, belowM, belowL]) (by simp [DropTm, DropV, below, belowM, belowL, strB, strs_below, allBelow_cons, allBelow_nil, below, belowM, belowL])
  · have hi' : i = xs.length := by have := of_decide_eq_false h; omega
    have tl := txt_len hs xs hb
    subst hi'
    rw [List.take_length] at ll ⊢
    have tk : (strs (xs.map Lib.itoa)).take xs.length = strs (xs.map Lib.itoa) := List.take_of_length_le (by rw [ll]; exact Nat.le_refl _)
    refine call_lent 2 (by simp [view_sl, view_str, strB, map_view_strs, strs_len, tk]) (joinS_call sep (xs.map Lib.itoa) (by simpa using hm) (by show (txt sep xs).length ≤ _; omega)) rfl rfl ?_
    simp only [q0, q1, q2, q3, q4, q5, q6, q7, q8, q9, zr0, zr1, zr2, zr3, zq0, zq1, zq2, zq3, zq4, Nat.reduceAdd, Nat.reduceSub, lenA, convA, indexA, indexS, Int.reduceToNat, cond_true, cond_false, ↓reduceIte, reduceCtorEq, Nat.reduceLT, Nat.reduceLeDiff, Nat.reduceMul, Nat.reduceEqDiff, exists_eq', implies_true, exists_true_left, tys0, tys1, tys2, und0, und1, md84, Tryz.ntmps84, Tryz.results84]
    exact PostR.pure ⟨rfl, rfl⟩ rfl
end Go.Proofs.YtigipcckflcilaaGreatDoor
