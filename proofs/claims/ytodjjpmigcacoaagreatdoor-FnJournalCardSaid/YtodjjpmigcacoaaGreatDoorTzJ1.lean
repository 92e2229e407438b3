/- TzJ1: texts joined. -/
import Derived.Test.YtodjjpmigcacoaaGreatDoorTzG1
import Derived.Test.YtodjjpmigcacoaaGreatDoorTzG3
import Derived.Test.YtodjjpmigcacoaaGreatDoorTzG9
import Derived.Test.YtodjjpmigcacoaaGreatDoorTzH1
import Derived.Handy
import Derived.Test.YtodjjpmigcacoaaGreatDoorTzH2
set_option maxRecDepth 10000
set_option maxHeartbeats 2000000
set_option linter.unusedSimpArgs false
set_option linter.unusedVariables false
namespace Go.Proofs.YtodjjpmigcacoaaGreatDoor
open Go Go.Abs
open Nat renaming reduceAdd → Za, reduceSub → Zb, reduceMul → Zc, reduceLT → Zd, reduceLeDiff → Ze, reduceEqDiff → Zf
open Int renaming reduceToNat → Zn
open Go.Abs renaming lenA → Zg, convA → Zh, indexA → Zi, flatP → Zj, nilI → Zk, ifaA → Zl, indexS → Zm
def chk1 (n : Int) (c : UInt8) : Int := (971 * n + c.toNat + 229).tmod 65003
def chk (n : Int) (s : List UInt8) : Int := s.foldl chk1 n
theorem chk1_in (n : Int) (c : UInt8) (h : 0 ≤ n) : 0 ≤ chk1 n c ∧ chk1 n c ≤ 65002 := by
  unfold chk1
  have h0 : 0 ≤ 971 * n + c.toNat + 229 := by omega
  rw [Int.tmod_eq_emod_of_nonneg h0]
  omega
theorem chk_in (s : List UInt8) : ∀ n : Int, 0 ≤ n → n ≤ 65002 → 0 ≤ chk n s ∧ chk n s ≤ 65002 := by
  induction s with
  | nil => intro n h1 h2; exact ⟨h1, h2⟩
  | cons c s ih => intro n h1 h2; exact ih _ (chk1_in n c h1).1 (chk1_in n c h1).2
theorem chk_take (n : Int) (s : List UInt8) (i : Nat) (h : i < s.length) : chk n (s.take (i + 1)) = chk1 (chk n (s.take i)) s[i] := by
  unfold chk
  rw [take_snoc _ _ h, List.foldl_append]
  rfl
theorem implCheck_call (n : Int) (s : List UInt8) (h0 : 0 ≤ n) (h1 : n ≤ 65002) (hs : s.length ≤ 1048576) : CallA Tryz.prog 47 [.int .i64 n, .str s] [] (Ret (.tup [.int .i64 (chk n s), .bool true]) []) := by
  refine CallP.out (t := .mk) (go_in (md := md47) mixed Tryz.func47 rfl go47 (by kernel_rfl) ?_)
  simp only [Zu, Za, Zb, Zg, Zh, Zi, Zk, Zl, Zm, Zn, ↓reduceIte, reduceCtorEq, Zd, Ze, Zc, Zf, Z47]
  refine call_ret (within_call n 0 65002) rfl rfl ?_
  rw [show inR 0 65002 n = true by simp [inR]; omega]
  simp only [Zu, Za, Zb, Zg, Zh, Zi, Zk, Zl, Zm, Zn, ↓reduceIte, reduceCtorEq, Zd, Ze, Zc, Zf, Z47]
  refine go_round (md := md47) mixed (by kernel_rfl) (fun i : {i : Nat // i ≤ s.length} => ⟨[.int .i64 (chk n (s.take i.1)), .str s, .any, .any, .any, .any, .any, .any, .any, .any, .any, .int .i64 s.length, .int .i64 i.1, .any, .any, .any, .any, .any, .any, .any, .any, .any, .any, .any, .any, .any], []⟩) (fun i => s.length - i.1) ⟨0, by omega⟩ ?_ ?_
  · exact weak_drop (by simp) (by simp [DropHp, ints_below, flts_below, chk, List.foldl_nil]) (by simp [DropTm, DropV, below, belowM, belowL, chk, List.foldl_nil])
  rintro ⟨i, hi⟩
  have cb := chk_in (s.take i) n h0 h1
  have nx := fun h : i < s.length => chk_take n s i h
  generalize hm : chk n (s.take i) = m at cb nx
  simp only [Zu, Za, Zb, Zg, Zh, Zi, Zk, Zl, Zm, Zn, ↓reduceIte, reduceCtorEq, Zd, Ze, Zc, Zf, Z47]
  refine br_intro (fun h => ?_) (fun h => ?_) <;> simp only [Zu, Za, Zb, Zg, Zh, Zi, Zk, Zl, Zm, Zn, ↓reduceIte, reduceCtorEq, Zd, Ze, Zc, Zf, Z47]
  · have hi' : i < s.length := by have := of_decide_eq_true h; omega
    have hI : (i : Int) < (s.length : Int) := by omega
    have hb : (s[i].toNat : Int) < 256 := by have := s[i].toNat_lt; omega
    have nx := nx hi'
    have w1 : IntKind.i64.wrap ((i : Int) + 1) = ((i + 1 : Nat) : Int) := by rw [w64 (by omega) (by omega)]; omega
    have w2 : IntKind.i64.wrap (971 * m) = 971 * m := w64 (by omega) (by omega)
    have w3 : IntKind.i64.wrap (s[i].toNat : Int) = (s[i].toNat : Int) := w64 (by omega) (by omega)
    have w4 : IntKind.i64.wrap (971 * m + (s[i].toNat : Int)) = 971 * m + (s[i].toNat : Int) := w64 (by omega) (by omega)
    have w5 : IntKind.i64.wrap (971 * m + (s[i].toNat : Int) + 229) = 971 * m + (s[i].toNat : Int) + 229 := w64 (by omega) (by omega)
    simp only [Zu, Za, Zb, Zg, Zh, Zi, Zk, Zl, Zm, Zn, ↓reduceIte, reduceCtorEq, Zd, Ze, Zc, Zf, Z47, hi', hI, w1, w2, w3, w4, w5]
    refine ⟨by decide, ⟨i + 1, by omega⟩, by show s.length - (i + 1) < _; omega, ?_⟩
    show Weak 0 _ ⟨_, _⟩
    rw [nx]
    exact weak_drop (by simp) (by simp [DropHp, ints_below, flts_below, chk1]) (by simp [DropTm, DropV, below, belowM, belowL, chk1])
  · have hi' : i = s.length := by have := of_decide_eq_false h; omega
    rw [show chk n s = m from by rw [← hm, hi', List.take_length]]
    exact PostR.ret
def recL : List (List UInt8) → Int → List (List UInt8) × Nat
  | [], _ => ([], 0)
  | row :: rs, c => match firstAt 32 row with
    | none => ([], 0)
    | some (num, line) => if num = Lib.itoa (chk c line) then (line :: (recL rs (chk c line)).1, row.length + 1 + (recL rs (chk c line)).2) else ([], 0)
theorem recL_cons (row : List UInt8) (rs : List (List UInt8)) (c : Int) : recL (row :: rs) c = match firstAt 32 row with
    | none => ([], 0)
    | some (num, line) => if num = Lib.itoa (chk c line) then (line :: (recL rs (chk c line)).1, row.length + 1 + (recL rs (chk c line)).2) else ([], 0) := rfl
def rowsOf (t : List UInt8) : List (List UInt8) := (cutA 10 [] t).dropLast
theorem rows_none {t : List UInt8} (h : firstAt 10 t = none) : rowsOf t = [] := by
  unfold rowsOf
  rw [cutA_first, h]
  rfl
theorem rows_some {t a b : List UInt8} (h : firstAt 10 t = some (a, b)) : rowsOf t = a :: rowsOf b := by
  unfold rowsOf
  rw [cutA_first, h]
  simp only [List.nil_append]
  exact List.dropLast_cons_of_ne_nil (cutA_ne _ _ _)
def RecI (t : List UInt8) (out : List (List UInt8)) (rs : List (List UInt8)) (c : Int) (n : Nat) : Prop :=
  out ++ (recL rs c).1 = (recL (rowsOf t) 0).1 ∧ n + (recL rs c).2 = (recL (rowsOf t) 0).2 ∧ 0 ≤ c ∧ c ≤ 65002
theorem RecI.next {t : List UInt8} {out : List (List UInt8)} {row : List UInt8} {rs : List (List UInt8)} {c : Int} {n : Nat} {num line : List UInt8} (h : RecI t out (row :: rs) c n) (hf : firstAt 32 row = some (num, line)) (he : num = Lib.itoa (chk c line)) :
    RecI t (out ++ [line]) rs (chk c line) (n + row.length + 1) := by
  obtain ⟨h1, h2, h3, h4⟩ := h
  rw [recL_cons, hf] at h1 h2
  simp only [if_pos he] at h1 h2
  have := chk_in line c h3 h4
  exact ⟨by rw [← h1]; simp, by rw [← h2]; omega, this.1, this.2⟩
theorem RecI.end_ {t : List UInt8} {out : List (List UInt8)} {rs : List (List UInt8)} {c : Int} {n : Nat} (h : RecI t out rs c n) (he : recL rs c = ([], 0)) : out = (recL (rowsOf t) 0).1 ∧ n = (recL (rowsOf t) 0).2 := by
  obtain ⟨h1, h2, _, _⟩ := h
  rw [he] at h1 h2
  exact ⟨by simpa using h1, by simpa using h2⟩
theorem recL_no1 {row : List UInt8} {rs : List (List UInt8)} {c : Int} (h : firstAt 32 row = none) : recL (row :: rs) c = ([], 0) := by rw [recL_cons, h]
theorem recL_no2 {row num line : List UInt8} {rs : List (List UInt8)} {c : Int} (h : firstAt 32 row = some (num, line)) (he : num ≠ Lib.itoa (chk c line)) : recL (row :: rs) c = ([], 0) := by rw [recL_cons, h]; simp only [if_neg he]
def outR (t : List UInt8) : List (List UInt8) := (recL (rowsOf t) 0).1
def outN (t : List UInt8) : Nat := (recL (rowsOf t) 0).2
theorem cutR_ex (c : UInt8) (s : List UInt8) : ∃ x y b, cutR c s = .tup [.str x, .str y, .bool b] ∧ y.length ≤ s.length ∧ ((b = true ∧ firstAt c s = some (x, y)) ∨ (b = false ∧ firstAt c s = none ∧ x = s)) := by
  unfold cutR
  cases h : firstAt c s with
  | none => exact ⟨s, [], false, rfl, by simp, .inr ⟨rfl, rfl, rfl⟩⟩
  | some p =>
    have := firstAt_take h
    exact ⟨p.1, p.2, true, rfl, by omega, .inl ⟨rfl, rfl⟩⟩
theorem journaled_call (t : List UInt8) (hs : t.length ≤ 1048576) : CallA Tryz.prog 49 [.str t] [] (Ret (.tup [.sl 0 0 (outR t).length, .int .i64 (outN t)]) [strB (outR t)]) := by
  refine CallP.out (t := .mk) (go_in (md := md49) mixed Tryz.func49 rfl go49 (by kernel_rfl) ?_)
  simp only [Zu, Za, Zb, Zg, Zh, Zi, Zk, Zl, Zm, Zn, ↓reduceIte, reduceCtorEq, Zd, Ze, Zc, Zf, Z49]
  refine go_round (md := md49) mixed (by kernel_rfl) (fun p : {p : List (List UInt8) × Int × Nat // RecI t p.1 (rowsOf (t.drop p.2.2)) p.2.1 p.2.2 ∧ p.2.2 ≤ t.length ∧ p.1.length ≤ p.2.2} => ⟨[.str t, .any, .any, .any, .sl 0 0 p.1.1.length, .int .i64 p.1.2.1, .int .i64 p.1.2.2, .any, .any, .any, .any, .any, .any, .any, .any, .any, .any, .any, .any, .any, .any, .any, .any, .any, .any, .any, .any, .any, .any, .any, .any, .any, .any, .any, .any, .any, .any, .any, .any, .any, .any, .any, .any, .any, .any, .any, .any, .any, .any, .any, .any, .any, .any, .any, .any, .any, .any, .any, .any, .any], [strB p.1.1]⟩) (fun p => t.length - p.1.2.2) ⟨([], 0, 0), ⟨by simp, by simp, by decide, by decide⟩, by simp, by simp⟩ ?_ ?_
  · exact weak_drop (by simp) (by simp [DropHp, ints_below, flts_below, strB, strs, allBelow_cons, allBelow_nil, below, belowM, belowL]) (by simp [DropTm, DropV, below, belowM, belowL, strB, strs, allBelow_cons, allBelow_nil, below, belowM, belowL])
  rintro ⟨⟨out, c, n⟩, hI, hn, hl⟩
  dsimp only at hI hn hl
  have c0 := hI.2.2.1
  have c1 := hI.2.2.2
  have v1 : (n : Int).toNat = n := rfl
  have v2 : (t.length : Int).toNat = t.length := rfl
  have dl : (t.drop n).length = t.length - n := List.length_drop
  simp only [Zu, Za, Zb, Zg, Zh, Zi, Zk, Zl, Zm, Zn, ↓reduceIte, reduceCtorEq, Zd, Ze, Zc, Zf, Z49, strB, v1, v2, List.take_length]
  refine ⟨by omega, Int.le_refl _, ?_⟩
  generalize hr : t.drop n = r at hI dl
  obtain ⟨row, rest, f, e1, l1, k1⟩ := cutR_ex 10 r
  have y1 := cut_call1 10 r (by omega)
  rw [e1] at y1
  refine call_ret y1 rfl rfl ?_
  simp only [Zu, Za, Zb, Zg, Zh, Zi, Zk, Zl, Zm, Zn, ↓reduceIte, reduceCtorEq, Zd, Ze, Zc, Zf, Z49, strB]
  have lr : row.length ≤ r.length ∧ (f = true → r.length = row.length + 1 + rest.length ∧ r.drop (row.length + 1) = rest) := by
    rcases k1 with ⟨_, k⟩ | ⟨e, k1, k2⟩
    · have := firstAt_take k; exact ⟨by omega, fun _ => ⟨this.2.2, this.2.1⟩⟩
    · exact ⟨by rw [k2]; exact Nat.le_refl _, fun x => by rw [e] at x; cases x⟩
  obtain ⟨num, line, g, e2, l2, k2⟩ := cutR_ex 32 row
  have y2 := cut_call1 32 row (by omega)
  rw [e2] at y2
  refine call_ret y2 rfl rfl ?_
  simp only [Zu, Za, Zb, Zg, Zh, Zi, Zk, Zl, Zm, Zn, ↓reduceIte, reduceCtorEq, Zd, Ze, Zc, Zf, Z49, strB]
  refine call_ret (implCheck_call c line c0 c1 (by omega)) rfl rfl ?_
  simp only [Zu, Za, Zb, Zg, Zh, Zi, Zk, Zl, Zm, Zn, ↓reduceIte, reduceCtorEq, Zd, Ze, Zc, Zf, Z49, strB]
  have cb := chk_in line c c0 c1
  cases f with
  | false =>
    have h : firstAt 10 r = none := by rcases k1 with ⟨e, _⟩ | ⟨_, k, _⟩; cases e; exact k
    rw [rows_none h] at hI
    obtain ⟨z1, z2⟩ := hI.end_ rfl
    simp only [Zu, Za, Zb, Zg, Zh, Zi, Zk, Zl, Zm, Zn, ↓reduceIte, reduceCtorEq, Zd, Ze, Zc, Zf, Z49, strB]
    rw [show outR t = out from z1.symm, show outN t = n from z2.symm]
    exact PostR.same ⟨rfl, rfl⟩
  | true =>
    have h : firstAt 10 r = some (row, rest) := by rcases k1 with ⟨_, k⟩ | ⟨e, _⟩; exact k; cases e
    rw [rows_some h] at hI
    simp only [Zu, Za, Zb, Zg, Zh, Zi, Zk, Zl, Zm, Zn, ↓reduceIte, reduceCtorEq, Zd, Ze, Zc, Zf, Z49, strB]
    cases g with
    | false =>
      have h2 : firstAt 32 row = none := by rcases k2 with ⟨e, _⟩ | ⟨_, k, _⟩; cases e; exact k
      obtain ⟨z1, z2⟩ := hI.end_ (recL_no1 h2)
      simp only [Zu, Za, Zb, Zg, Zh, Zi, Zk, Zl, Zm, Zn, ↓reduceIte, reduceCtorEq, Zd, Ze, Zc, Zf, Z49, strB]
      rw [show outR t = out from z1.symm, show outN t = n from z2.symm]
      exact PostR.same ⟨rfl, rfl⟩
    | true =>
      have h2 : firstAt 32 row = some (num, line) := by rcases k2 with ⟨_, k⟩ | ⟨e, _⟩; exact k; cases e
      simp only [Zu, Za, Zb, Zg, Zh, Zi, Zk, Zl, Zm, Zn, ↓reduceIte, reduceCtorEq, Zd, Ze, Zc, Zf, Z49, strB]
      refine call_ret (decimal_call (chk c line) (by omega) (by omega)) rfl rfl ?_
      simp only [Zu, Za, Zb, Zg, Zh, Zi, Zk, Zl, Zm, Zn, ↓reduceIte, reduceCtorEq, Zd, Ze, Zc, Zf, Z49, strB]
      refine br_intro (fun w => ?_) (fun w => ?_) <;> simp only [Zu, Za, Zb, Zg, Zh, Zi, Zk, Zl, Zm, Zn, ↓reduceIte, reduceCtorEq, Zd, Ze, Zc, Zf, Z49, strB]
      · have he : num = Lib.itoa (chk c line) := beq_iff_eq.1 w
        have nx := hI.next h2 he
        obtain ⟨lr1, lr2⟩ := lr.2 rfl
        have ll := strs_len out
        have w1 : IntKind.i64.wrap ((n : Int) + (row.length : Int)) = ((n + row.length : Nat) : Int) := by rw [w64 (by omega) (by omega)]; omega
        have w2 : IntKind.i64.wrap (((n + row.length : Nat) : Int) + 1) = ((n + row.length + 1 : Nat) : Int) := by rw [w64 (by omega) (by omega)]; omega
        have en : t.drop (n + row.length + 1) = rest := by rw [← lr2, ← hr, List.drop_drop, Nat.add_assoc]
        have len1 : (out ++ [line]).length = out.length + 1 := by simp
        simp only [Zu, Za, Zb, Zg, Zh, Zi, Zk, Zl, Zm, Zn, ↓reduceIte, reduceCtorEq, Zd, Ze, Zc, Zf, Z49, strB, allW_int, fits, List.isEmpty_cons, brk_false, Nat.reduceMul, ll, w1, w2]
        refine ⟨allW_str _, by omega, ⟨(out ++ [line], chk c line, n + row.length + 1), by rw [en]; exact nx, by show n + row.length + 1 ≤ t.length; omega, by show (out ++ [line]).length ≤ n + row.length + 1; rw [len1]; omega⟩, by show t.length - (n + row.length + 1) < t.length - n; omega, ?_⟩
        show Weak 0 _ ⟨_, _⟩
        rw [strs_more]
        exact weak_drop (by simp) (by simp [DropHp, ints_below, flts_below, strB, strs_below, len1, allBelow_cons, allBelow_nil, below, belowM, belowL]) (by simp [DropTm, DropV, below, belowM, belowL, strB, strs_below, len1, allBelow_cons, allBelow_nil, below, belowM, belowL])
      · obtain ⟨z1, z2⟩ := hI.end_ (recL_no2 h2 (by simpa using w))
        rw [show outR t = out from z1.symm, show outN t = n from z2.symm]
        exact PostR.same ⟨rfl, rfl⟩
set_option maxHeartbeats 4000000
def jl (c : Int) (l : List UInt8) : List UInt8 := Lib.itoa (chk c l) ++ [32] ++ l ++ [10]
def cks (c : Int) (L : List (List UInt8)) : Int := L.foldl chk c
def jt : Int → List (List UInt8) → List UInt8
  | _, [] => []
  | c, l :: L => jl c l ++ jt (chk c l) L
theorem jt_snoc : ∀ (L : List (List UInt8)) (c : Int) (x : List UInt8), jt c (L ++ [x]) = jt c L ++ jl (cks c L) x
  | [], c, x => by simp [jt, cks]
  | l :: L, c, x => by
    rw [List.cons_append, jt, jt_snoc L, jt, List.append_assoc]
    rfl
theorem cks_snoc (L : List (List UInt8)) (c : Int) (x : List UInt8) : cks c (L ++ [x]) = chk (cks c L) x := by simp [cks]
theorem cks_in : ∀ (L : List (List UInt8)) (c : Int), 0 ≤ c → c ≤ 65002 → 0 ≤ cks c L ∧ cks c L ≤ 65002
  | [], c, h0, h1 => ⟨h0, h1⟩
  | l :: L, c, h0, h1 => cks_in L (chk c l) (chk_in l c h0 h1).1 (chk_in l c h0 h1).2
theorem ck_len {n : Int} (h0 : 0 ≤ n) (h1 : n ≤ 65002) : (Lib.itoa n).length ≤ 5 := by
  rw [itoa_abs, if_neg (by omega)]
  exact dec_len 4 n.natAbs (by have : (10 : Nat) ^ (4 + 1) = 100000 := by decide
                               omega)
theorem dec_pos (u : Nat) : 1 ≤ (Lib.decDigits u).length := by
  unfold Lib.decDigits
  split
  · simp
  · simp
theorem ck_pos {n : Int} (h0 : 0 ≤ n) : 1 ≤ (Lib.itoa n).length := by
  rw [itoa_abs, if_neg (by omega)]
  exact dec_pos _
theorem jl_len (c : Int) (l : List UInt8) (h0 : 0 ≤ c) (h1 : c ≤ 65002) : l.length + 3 ≤ (jl c l).length ∧ (jl c l).length ≤ l.length + 7 := by
  have hc := chk_in l c h0 h1
  have a := ck_len hc.1 hc.2
  have b := ck_pos hc.1
  simp only [jl, List.length_append, List.length_cons, List.length_nil]
  omega
def tot (L : List (List UInt8)) : Nat := (L.map fun x => x.length + 3).sum
theorem tot_le : ∀ (L : List (List UInt8)) (c : Int), 0 ≤ c → c ≤ 65002 → tot L ≤ (jt c L).length
  | [], c, _, _ => by simp [tot, jt]
  | l :: L, c, h0, h1 => by
    have hc := chk_in l c h0 h1
    have a := tot_le L (chk c l) hc.1 hc.2
    have b := (jl_len c l h0 h1).1
    rw [jt, List.length_append]
    simp only [tot, List.map_cons, List.sum_cons] at a ⊢
    omega
def okJn (L : List (List UInt8)) : Bool := L.all (fun x => !x.contains 10) && decide ((jt 0 L).length ≤ 16000)
def outJ (L : List (List UInt8)) : AV := if okJn L then .tup [.str (jt 0 L), .bool true] else .tup [.str [], .bool false]
theorem outJ_line {L : List (List UInt8)} {x : List UInt8} (hx : x ∈ L) (h : (10 : UInt8) ∈ x) : outJ L = .tup [.str [], .bool false] := by
  have : L.all (fun x => !x.contains 10) = false := by
    rw [List.all_eq_false]
    exact ⟨x, hx, by simp [h]⟩
  unfold outJ okJn
  rw [this, Bool.false_and]
  rfl
end Go.Proofs.YtodjjpmigcacoaaGreatDoor
set_option maxHeartbeats 2000000
set_option maxRecDepth 100000
namespace Go.Proofs.YtodjjpmigcacoaaGreatDoor
open Go Go.RowKit
theorem journal_none (a : Option Addr) (cap : Nat) (w : World) :
    Calls Tryz.prog 17 #[.slice a 0 cap] w fun e w' => e = .returned (.tuple #[.string .empty, .bool true]) ∧ w' = ((w.alloc (.cells #[.pointer none, .slice none 0 0] 71)).drew) := by
  have mixed : Tryz.prog.follows .mixedOrders = true := by kernel_rfl
  have u50 := run_underlying Tryz.underlying69
  have u53 := run_underlying Tryz.underlying71
  have u51 := run_underlying Tryz.underlying22
  have u32 := run_underlying Tryz.underlying31
  have u3 := run_underlying Tryz.underlying3
  have u77 := run_underlying Tryz.underlying119
  have u5 := run_underlying Tryz.underlying5
  have hSD : ∀ w' : World, (Builtin.unsafeSliceData_ #[22] 119 #[.slice none 0 0]).run Tryz.prog w' = .ok (.pointer none) w' := fun _ => Lib.run_unsafeSliceData_nil _ _ _ _ _
  have hUS : ∀ w' : World, (Builtin.unsafeString_ #[119, 3] 9 #[.pointer none, .int .i64 0]).run Tryz.prog w' = .ok (.string .empty) w' := fun _ => Lib.run_unsafeString_none _ _ _ _ _
  have u9 := run_underlying Tryz.underlying9
  go_enter Tryz.func17, Tryz.ntmps17
  go_wp2
  refine wp_loop_once ?_
  go_wp2
  go_region_o
  all_goals go_wp2
  all_goals go_ret2
  exact ⟨rfl, rfl⟩
theorem journal_noneA : Go.Abs.CallA Tryz.prog 17 [.ro []] [] (Go.Abs.Ret (.tup [.str [], .bool true]) []) := by
  intro E vs H hl hrv
  obtain ⟨v, rfl, hv⟩ := Go.Abs.RV.one hl hrv
  have key : ∀ a cap, v = .slice a 0 cap → Go.Abs.Gets Tryz.prog 17 [v].toArray E.w fun v w' => ∃ r hp' E', E'.w = w' ∧ Go.Abs.Ret (.tup [.str [], .bool true]) [] r hp' ∧ Go.Abs.RV E' r v ∧ Go.Abs.HRel E' hp' ∧ Go.Abs.Fr E [] E' hp' := by
    rintro a cap rfl
    refine .inl ⟨go17, (journal_none a cap E.w).mono ?_⟩
    rintro ex w' ⟨rfl, rfl⟩
    obtain ⟨H2, F2, _⟩ := H.extend (w' := (E.w.alloc (.cells #[.pointer none, .slice none 0 0] 71)).drew) (by show _ ≤ (E.w.heap.push _).size; rw [Array.size_push]; omega) (fun c hc => by show (E.w.heap.push _)[c]? = _; rw [Array.getElem?_push_lt hc, Array.getElem?_eq_getElem hc]) rfl rfl rfl
    refine ⟨_, rfl, _, [], E.with _, rfl, ⟨rfl, rfl⟩, .tup _ _ rfl ?_, H2, F2 (Go.Abs.Fr.refl E _)⟩
    intro i a v h1 h2
    match i with
    | 0 => cases h1; cases h2; exact .str []
    | 1 => cases h1; cases h2; exact .bool true
    | i + 2 => simp at h1
  generalize hs : ([] : List Go.Abs.AV) = l at hv
  cases hv with
  | roNil a cap => exact key a cap rfl
  | ro _ b off cap wd val hF hcap hmax hw hc hv => subst hs; exact key _ cap rfl
end Go.Proofs.YtodjjpmigcacoaaGreatDoor
set_option maxRecDepth 10000
set_option maxHeartbeats 4000000
namespace Go.Proofs.YtodjjpmigcacoaaGreatDoor
open Go Go.Abs
open Nat renaming reduceAdd → Za, reduceSub → Zb, reduceMul → Zc, reduceLT → Zd, reduceLeDiff → Ze, reduceEqDiff → Zf
open Int renaming reduceToNat → Zn
open Go.Abs renaming lenA → Zg, convA → Zh, indexA → Zi, flatP → Zj, nilI → Zk, ifaA → Zl, indexS → Zm
theorem contains_call (c : UInt8) (s : List UInt8) : CallA Tryz.prog 45 [.str s, .str [c]] [] (Ret (.bool (s.contains c)) []) := by
  refine CallP.out (t := .mk) (go_in (md := md45) mixed Tryz.func45 rfl go45 (by kernel_rfl) ?_)
  simp only [Zu, Za, Zb, Zg, Zh, Zi, Zk, Zl, Zm, Zn, ↓reduceIte, reduceCtorEq, Zd, Ze, Zc, Zf, Z45]
  refine call_ret (index_call c s) rfl rfl ?_
  simp only [Zu, Za, Zb, Zg, Zh, Zi, Zk, Zl, Zm, Zn, ↓reduceIte, reduceCtorEq, Zd, Ze, Zc, Zf, Z45]
  refine PostR.pure ⟨?_, rfl⟩ rfl
  cases h : firstAt c s with
  | none =>
    have hn : c ∉ s := by
      intro m
      have : ∀ t : List UInt8, c ∈ t → firstAt c t ≠ none := by
        intro t
        induction t with
        | nil => intro m; simp at m
        | cons x t ih =>
          intro m
          unfold firstAt
          by_cases e : x = c
          · rw [if_pos e]; simp
          · rw [if_neg e]
            have := ih (by rcases List.mem_cons.1 m with r | r; exact absurd r.symm e; exact r)
            simpa using this
      exact this s m h
    rw [firstAt_none h, show s.contains c = false by simpa using hn]
    rfl
  | some p =>
    obtain ⟨h1, h2, _⟩ := firstAt_some (a := p.1) (b := p.2) h
    rw [h1, show s.contains c = true by rw [h2]; simp, decide_eq_true (Int.natCast_nonneg _)]
theorem jt_app : ∀ (A B : List (List UInt8)) (c : Int), jt c (A ++ B) = jt c A ++ jt (cks c A) B
  | [], B, c => rfl
  | l :: A, B, c => by
    rw [List.cons_append, jt, jt_app A, jt, List.append_assoc]
    rfl
theorem jt_le (L : List (List UInt8)) (i : Nat) : (jt 0 (L.take i)).length ≤ (jt 0 L).length := by
  have := jt_app (L.take i) (L.drop i) 0
  rw [List.take_append_drop] at this
  rw [this, List.length_append]
  omega
theorem outJ_big {L : List (List UInt8)} (h : 16000 < (jt 0 L).length) : outJ L = .tup [.str [], .bool false] := by
  unfold outJ okJn
  rw [decide_eq_false (by omega), Bool.and_false]
  rfl
def stJ (L : List (List UInt8)) : Nat → List Blk
  | 0 => [bldB .nilp .nils]
  | i + 1 => [bldB (.ptr 0 0 0) (.sl 1 0 (jt 0 (L.take (i + 1))).length), bytB (jt 0 (L.take (i + 1)))]
theorem lenJ (L : List (List UInt8)) (i : Nat) : CallA Tryz.prog 46 [.ptr 0 0 0] (stJ L i) (Ret (.int .i64 (jt 0 (L.take i)).length) (stJ L i)) := by
  cases i with
  | zero => exact builderLen_nil
  | succ i => exact builderLen _ _ _
theorem implJournal_call (L : List (List UInt8)) (hL : L.length ≤ 1048576) (hx : ∀ x ∈ L, x.length ≤ 1048576) : CallA Tryz.prog 17 [.ro (strs L)] [] (Ret (outJ L) []) := by
  by_cases hL0 : L = []
  · subst hL0
    exact journal_noneA
  refine CallP.out (t := .mk) (go_in (md := md17) mixed Tryz.func17 rfl go17 (by kernel_rfl) ?_)
  simp only [Zu, Za, Zb, Zg, Zh, Zi, Zk, Zl, Zm, Zn, ↓reduceIte, reduceCtorEq, Zd, Ze, Zc, Zf, Z17]
  refine go_round (md := md17) mixed (by kernel_rfl) (fun i : {i : Nat // i ≤ L.length ∧ (jt 0 (L.take i)).length ≤ 16007 ∧ ∀ x ∈ L.take i, (10 : UInt8) ∉ x} => ⟨[.any, .any, .any, .any, .ptr 0 0 0, .int .i64 (cks 0 (L.take i.1)), .any, .any, .any, .any, .ro (strs L), .int .i64 L.length, .int .i64 i.1, .any, .any, .any, .any, .any, .any, .any, .any, .any, .any, .any, .any, .any, .any, .any, .any, .any, .any, .any, .any, .any, .any, .any, .any, .any, .any, .any, .any, .any, .any, .any, .any, .any], stJ L i.1⟩) (fun i => L.length - i.1) ⟨0, by omega, by simp [jt], by simp⟩ ?_ ?_
  · exact weak_drop (by simp) (by simp [DropHp, ints_below, flts_below, cks, List.foldl_nil, stJ, bldB, strs_len, allBelow_cons, allBelow_nil, below, belowM, belowL]) (by simp [DropTm, DropV, below, belowM, belowL, cks, List.foldl_nil, stJ, bldB, strs_len, allBelow_cons, allBelow_nil, below, belowM, belowL])
  rintro ⟨i, hi, ht, hn⟩
  have cb := cks_in (L.take i) 0 (by decide) (by decide)
  have n1 := fun h : i < L.length => (show jt 0 (L.take (i + 1)) = jt 0 (L.take i) ++ jl (cks 0 (L.take i)) L[i] by rw [take_snoc _ _ h, jt_snoc])
  have n2 := fun h : i < L.length => (show cks 0 (L.take (i + 1)) = chk (cks 0 (L.take i)) L[i] by rw [take_snoc _ _ h, cks_snoc])
  have tl := jt_le L i
  simp only [Zu, Za, Zb, Zg, Zh, Zi, Zk, Zl, Zm, Zn, ↓reduceIte, reduceCtorEq, Zd, Ze, Zc, Zf, Z17]
  refine br_intro (fun h => ?_) (fun h => ?_) <;> simp only [Zu, Za, Zb, Zg, Zh, Zi, Zk, Zl, Zm, Zn, ↓reduceIte, reduceCtorEq, Zd, Ze, Zc, Zf, Z17]
  · have hi' : i < L.length := by have := of_decide_eq_true h; omega
    have hI : (i : Int) < (L.length : Int) := by omega
    have n1 := n1 hi'
    have n2 := n2 hi'
    have hm := List.getElem_mem hi'
    have xl := hx L[i] hm
    have tl1 := jt_le L (i + 1)
    have jb := jl_len (cks 0 (L.take i)) L[i] cb.1 cb.2
    have jn : (jt 0 (L.take (i + 1))).length = (jt 0 (L.take i)).length + (jl (cks 0 (L.take i)) L[i]).length := by rw [n1, List.length_append]
    have tk : L.take (i + 1) = L.take i ++ [L[i]] := take_snoc _ _ hi'
    have w1 : IntKind.i64.wrap ((i : Int) + 1) = ((i + 1 : Nat) : Int) := by rw [w64 (by omega) (by omega)]; omega
    simp only [Zu, Za, Zb, Zg, Zh, Zi, Zk, Zl, Zm, Zn, ↓reduceIte, reduceCtorEq, Zd, Ze, Zc, Zf, Z17, strs_len, hi', hI, strs_get]
    refine call_ret (contains_call 10 L[i]) rfl rfl ?_
    simp only [Zu, Za, Zb, Zg, Zh, Zi, Zk, Zl, Zm, Zn, ↓reduceIte, reduceCtorEq, Zd, Ze, Zc, Zf, Z17]
    refine br_intro (fun u => ?_) (fun u => ?_) <;> simp only [Zu, Za, Zb, Zg, Zh, Zi, Zk, Zl, Zm, Zn, ↓reduceIte, reduceCtorEq, Zd, Ze, Zc, Zf, Z17]
    · rw [outJ_line hm (by simpa using u)]
      exact PostR.pure ⟨rfl, rfl⟩ rfl
    · have hno : (10 : UInt8) ∉ L[i] := by simpa using u
      refine call_by (lenJ L i) ?_
      rintro r hp' ⟨rfl, rfl⟩
      have w2 : IntKind.i64.wrap (((jt 0 (L.take i)).length : Int) + (L[i].length : Int)) = (((jt 0 (L.take i)).length + L[i].length : Nat) : Int) := by rw [w64 (by omega) (by omega)]; omega
      simp only [Zu, Za, Zb, Zg, Zh, Zi, Zk, Zl, Zm, Zn, ↓reduceIte, reduceCtorEq, Zd, Ze, Zc, Zf, Z17, w2]
      refine br_intro (fun z => ?_) (fun z => ?_) <;> simp only [Zu, Za, Zb, Zg, Zh, Zi, Zk, Zl, Zm, Zn, ↓reduceIte, reduceCtorEq, Zd, Ze, Zc, Zf, Z17, w2]
      · rw [outJ_big (by have := of_decide_eq_true z; omega)]
        exact PostR.pure ⟨rfl, rfl⟩ rfl
      · have hz : (jt 0 (L.take i)).length + L[i].length ≤ 16000 := by have := of_decide_eq_false z; omega
        refine call_ret (implCheck_call (cks 0 (L.take i)) L[i] cb.1 cb.2 xl) rfl rfl ?_
        have cb2 := chk_in L[i] _ cb.1 cb.2
        have il := ck_len cb2.1 cb2.2
        simp only [Zu, Za, Zb, Zg, Zh, Zi, Zk, Zl, Zm, Zn, ↓reduceIte, reduceCtorEq, Zd, Ze, Zc, Zf, Z17]
        refine call_ret (decimal_call (chk (cks 0 (L.take i)) L[i]) (by omega) (by omega)) rfl rfl ?_
        simp only [Zu, Za, Zb, Zg, Zh, Zi, Zk, Zl, Zm, Zn, ↓reduceIte, reduceCtorEq, Zd, Ze, Zc, Zf, Z17]
        refine ⟨by omega, by simp; omega, by simp; omega, ?_⟩
        cases i with
        | zero =>
          have n0 : jt 0 (L.take 0) = [] := rfl
          change CallP Tryz.prog 36 [.ptr 0 0 0, .str (jl (cks 0 (L.take 0)) L[0])] [bldB .nilp .nils] _ _
          rw [n0, List.nil_append] at n1
          generalize jl (cks 0 (L.take 0)) L[0] = J at n1 jb jn
          have hJ : J ≠ [] := fun e => by rw [e] at jb; simp at jb
          refine call_by (write_fresh J hJ (by omega)) ?_
          rintro r hp' ⟨rfl, rfl⟩
          simp only [Zu, Za, Zb, Zg, Zh, Zi, Zk, Zl, Zm, Zn, ↓reduceIte, reduceCtorEq, Zd, Ze, Zc, Zf, Z17, w1]
          refine ⟨⟨0 + 1, by omega, by rw [n1]; omega, fun x hx2 => ?_⟩, by show L.length - (0 + 1) < _; omega, ?_⟩
          · rw [tk] at hx2
            rcases List.mem_append.1 hx2 with m | m
            · exact hn x m
            · rw [List.mem_singleton.1 m]; exact hno
          · show Weak _ _ ⟨_, _⟩
            exact weak_drop (by simp) (by simp [DropHp, ints_below, flts_below, n1, n2, w1, stJ, bldB, bytB, byts_below, allBelow_cons, allBelow_nil, below, belowM, belowL]) (by simp [DropTm, DropV, below, belowM, belowL, n1, n2, w1, stJ, bldB, bytB, byts_below, allBelow_cons, allBelow_nil, below, belowM, belowL])
        | succ i =>
          change CallP Tryz.prog 36 [.ptr 0 0 0, .str (jl (cks 0 (L.take (i + 1))) L[i + 1])] [bldB (.ptr 0 0 0) (.sl 1 0 (jt 0 (L.take (i + 1))).length), bytB (jt 0 (L.take (i + 1)))] _ _
          generalize jl (cks 0 (L.take (i + 1))) L[i + 1] = J at n1 jb jn
          refine call_by (write_used _ J (by omega)) ?_
          rintro r hp' ⟨rfl, rfl⟩
          simp only [Zu, Za, Zb, Zg, Zh, Zi, Zk, Zl, Zm, Zn, ↓reduceIte, reduceCtorEq, Zd, Ze, Zc, Zf, Z17, w1]
          refine ⟨⟨i + 1 + 1, by omega, by rw [n1, List.length_append]; omega, fun x hx2 => ?_⟩, by show L.length - (i + 1 + 1) < _; omega, ?_⟩
          · rw [tk] at hx2
            rcases List.mem_append.1 hx2 with m | m
            · exact hn x m
            · rw [List.mem_singleton.1 m]; exact hno
          · show Weak _ _ ⟨_, _⟩
            exact weak_names [0, 2] (by decide) (by decide) (by decide) (by simp [SubG, renB, ints_ren, ints_below, kint_ren, kint_below, ren, renM, renL, n1, n2, w1, stJ, bldB, bytB, byts_below, byts_ren, List.length_append, allBelow_cons, allBelow_nil, below, belowM, belowL]) (by simp [LeTm, LeV, ren, renM, renL, below, belowM, belowL, n1, n2, w1, stJ, bldB, bytB, byts_below, byts_ren, List.length_append, allBelow_cons, allBelow_nil, below, belowM, belowL])
  · have hi' : i = L.length := by have := of_decide_eq_false h; omega
    subst hi'
    refine call_by (lenJ L L.length) ?_
    rintro r hp' ⟨rfl, rfl⟩
    simp only [Zu, Za, Zb, Zg, Zh, Zi, Zk, Zl, Zm, Zn, ↓reduceIte, reduceCtorEq, Zd, Ze, Zc, Zf, Z17]
    rw [List.take_length] at hn ⊢
    have al : L.all (fun x => !x.contains 10) = true := by
      rw [List.all_eq_true]
      exact fun x hx => by simp [hn x hx]
    unfold outJ okJn
    rw [al, Bool.true_and]
    refine br_intro (fun z => ?_) (fun z => ?_) <;> simp only [Zu, Za, Zb, Zg, Zh, Zi, Zk, Zl, Zm, Zn, ↓reduceIte, reduceCtorEq, Zd, Ze, Zc, Zf, Z17]
    · rw [decide_eq_false (by have := of_decide_eq_true z; omega)]
      exact PostR.pure ⟨rfl, rfl⟩ rfl
    · have hz : (jt 0 L).length ≤ 16000 := by have := of_decide_eq_false z; omega
      rw [decide_eq_true hz]
      cases hl0 : L.length with
      | zero =>
        exact absurd (List.length_eq_zero_iff.1 hl0) hL0
      | succ n =>
        have e1 : stJ L (n + 1) = [bldB (.ptr 0 0 0) (.sl 1 0 (jt 0 L).length), bytB (jt 0 L)] := by
          have e0 : L.take (n + 1) = L := by rw [← hl0, List.take_length]
          show [bldB (.ptr 0 0 0) (.sl 1 0 (jt 0 (L.take (n + 1))).length), bytB (jt 0 (L.take (n + 1)))] = _
          rw [e0]
        have hne : jt 0 L ≠ [] := fun e => by
          have h1 := tot_le L 0 (by decide) (by decide)
          rw [e] at h1
          cases L with
          | nil => simp at hl0
          | cons x L => simp [tot] at h1
        rw [e1]
        refine call_by (builderStringA _ (jt 0 L) hne (by omega)) ?_
        rintro r hp' ⟨rfl, rfl⟩
        simp only [Zu, Za, Zb, Zg, Zh, Zi, Zk, Zl, Zm, Zn, ↓reduceIte, reduceCtorEq, Zd, Ze, Zc, Zf, Z17]
        exact PostR.pure ⟨rfl, rfl⟩ rfl
set_option maxHeartbeats 2000000
theorem firstAt_no {c : UInt8} : ∀ {s : List UInt8}, c ∉ s → firstAt c s = none
  | [], _ => rfl
  | x :: t, h => by
    have h1 : x ≠ c := fun e => h (by simp [e])
    have h2 : c ∉ t := fun e => h (by simp [e])
    rw [firstAt, if_neg h1, firstAt_no h2]; rfl
theorem firstAt_at {c : UInt8} : ∀ (a b : List UInt8), c ∉ a → firstAt c (a ++ c :: b) = some (a, b)
  | [], b, _ => by simp [firstAt]
  | x :: a, b, h => by
    have h1 : x ≠ c := fun e => h (by simp [e])
    have h2 : c ∉ a := fun e => h (by simp [e])
    rw [List.cons_append, firstAt, if_neg h1, firstAt_at a b h2]; rfl
theorem rec_take : ∀ (n : Nat) (t : List UInt8) (c : Int), t.length ≤ n → jt c (recL (rowsOf t) c).1 = t.take (recL (rowsOf t) c).2 ∧ (recL (rowsOf t) c).2 ≤ t.length ∧ (∀ x ∈ (recL (rowsOf t) c).1, (10 : UInt8) ∉ x ∧ x.length ≤ t.length) ∧ (recL (rowsOf t) c).1.length ≤ t.length := by
  intro n
  induction n with
  | zero =>
    intro t c h
    have : t = [] := List.eq_nil_of_length_eq_zero (by omega)
    subst this
    rw [rows_none rfl]
    exact ⟨rfl, Nat.le_refl _, fun x hx => absurd hx List.not_mem_nil, Nat.le_refl _⟩
  | succ n ih =>
    intro t c h
    cases e : firstAt 10 t with
    | none =>
      rw [rows_none e]
      exact ⟨rfl, Nat.zero_le _, fun x hx => absurd hx List.not_mem_nil, Nat.zero_le _⟩
    | some p =>
      obtain ⟨a, b⟩ := p
      obtain ⟨_, ht, ha⟩ := firstAt_some e
      rw [rows_some e, recL_cons]
      cases f : firstAt 32 a with
      | none => exact ⟨rfl, Nat.zero_le _, fun x hx => absurd hx List.not_mem_nil, Nat.zero_le _⟩
      | some q =>
        obtain ⟨num, line⟩ := q
        obtain ⟨_, ea, _⟩ := firstAt_some f
        dsimp only
        by_cases g : num = Lib.itoa (chk c line)
        · rw [if_pos g]
          have lt : t.length = a.length + 1 + b.length := by rw [ht]; simp; omega
          have la : a.length = num.length + 1 + line.length := by rw [ea]; simp; omega
          obtain ⟨i1, i2, i3, i4⟩ := ih b (chk c line) (by omega)
          refine ⟨?_, by omega, ?_, by simp only [List.length_cons]; omega⟩
          · rw [jt, i1, jl, ← g, ht]
            have e1 : num ++ [32] ++ line ++ [10] = a ++ [10] := by rw [ea]; simp
            rw [e1, show a ++ 10 :: b = (a ++ [10]) ++ b by simp, Nat.add_assoc, show a.length + (1 + (recL (rowsOf b) (chk c line)).2) = (a ++ [10]).length + (recL (rowsOf b) (chk c line)).2 by simp; omega, List.take_length_add_append]
          · intro x hx
            rcases List.mem_cons.1 hx with rfl | hx
            · refine ⟨fun m => ha (by rw [ea]; simp [m]), by omega⟩
            · have := i3 x hx
              exact ⟨this.1, by omega⟩
        · rw [if_neg g]
          exact ⟨rfl, Nat.zero_le _, fun x hx => absurd hx List.not_mem_nil, Nat.zero_le _⟩
theorem jl_pos (c : Int) (l : List UInt8) : jl c l = (Lib.itoa (chk c l) ++ 32 :: l) ++ [10] := by simp [jl]
theorem rec_cut : ∀ (L : List (List UInt8)) (c : Int) (a : Nat), (∀ x ∈ L, (10 : UInt8) ∉ x) → ∃ k, k ≤ L.length ∧ recL (rowsOf ((jt c L).take a)) c = (L.take k, (jt c (L.take k)).length) ∧ (jt c (L.take k)).length ≤ a ∧ (k < L.length → a < (jt c (L.take (k + 1))).length)
  | [], c, a, _ => ⟨0, Nat.le_refl _, by simp only [jt, List.take_nil]; rw [rows_none rfl]; rfl, Nat.zero_le _, fun h => absurd h (Nat.lt_irrefl _)⟩
  | l :: L, c, a, h => by
    have hl : (10 : UInt8) ∉ Lib.itoa (chk c l) ++ 32 :: l := by
      intro m
      rcases List.mem_append.1 m with m | m
      · exact itoa_no (by decide) (by decide) _ m
      · rcases List.mem_cons.1 m with m | m
        · exact absurd m (by decide)
        · exact h l List.mem_cons_self m
    have h32 : (32 : UInt8) ∉ Lib.itoa (chk c l) := itoa_no (by decide) (by decide) _
    by_cases ha : a < (jl c l).length
    · refine ⟨0, Nat.zero_le _, ?_, Nat.zero_le _, fun _ => by simp [jt]; omega⟩
      have e : (jt c (l :: L)).take a = (Lib.itoa (chk c l) ++ 32 :: l).take a := by
        rw [jt, List.take_append_of_le_length (by omega), jl_pos]
        rw [jl_pos, List.length_append] at ha
        exact List.take_append_of_le_length (by simp only [List.length_cons, List.length_nil] at ha; omega)
      rw [e, rows_none (firstAt_no fun m => hl (List.mem_of_mem_take m))]
      rfl
    · obtain ⟨k, k1, k2, k3, k4⟩ := rec_cut L (chk c l) (a - (jl c l).length) fun x hx => h x (List.mem_cons_of_mem _ hx)
      refine ⟨k + 1, by simp; omega, ?_, ?_, ?_⟩
      · have e : (jt c (l :: L)).take a = (Lib.itoa (chk c l) ++ 32 :: l) ++ 10 :: (jt (chk c l) L).take (a - (jl c l).length) := by
          rw [jt, List.take_append, List.take_of_length_le (by omega), jl_pos]
          simp
        rw [e, rows_some (firstAt_at _ _ hl), recL_cons, firstAt_at _ _ h32]
        simp only [if_true]
        rw [k2]
        simp only [List.take_succ_cons, jt, List.length_append, Prod.mk.injEq, true_and]
        rw [jl_pos]; simp; omega
      · simp only [List.take_succ_cons, jt, List.length_append]; omega
      · intro hk
        have := k4 (by simp at hk; omega)
        simp only [List.take_succ_cons, jt, List.length_append] at this ⊢; omega
end Go.Proofs.YtodjjpmigcacoaaGreatDoor
