/- What is saved, as bytes that are read: the program's reading. -/
import Derived.Test.YtigipcckflcilaaGreatDoorLdC
import Derived.Test.YtigipcckflcilaaGreatDoorLdB
import Derived.Test.YtigipcckflcilaaGreatDoorAbsM3
set_option maxRecDepth 10000
set_option maxHeartbeats 8000000
set_option linter.unusedSimpArgs false
set_option linter.unusedVariables false
namespace Go.Proofs.YtigipcckflcilaaGreatDoor
open Go Go.Abs

def Pos (s : List UInt8) (a : Nat) (b : Bool) (p : Nat) : Prop := a ≤ s.length ∧ (b = false → a = p) ∧ (b = true → s.length < size s)
theorem Pos.take {s : List UInt8} {a c p : Nat} {b : Bool} (h : Pos s a b p) (hp : b = false → a + c ≤ size s) : Pos s (tkA s a b c) (tkB s a b c) (p + c) ∧ (tkB s a b c = false → tkS s a b c = (s.drop p).take c ∧ b = false) := by
  obtain ⟨h1, h2, h3⟩ := h
  cases b with
  | true =>
    have tB : tkB s a true c = true := rfl
    have tA : tkA s a true c = a := by unfold tkA; rw [tB]; rfl
    refine ⟨⟨by rw [tA]; exact h1, fun h => (by rw [tB] at h; cases h), fun _ => h3 rfl⟩, fun h => by rw [tB] at h; cases h⟩
  | false =>
    have e := h2 rfl
    subst e
    have tB : tkB s a false c = decide (s.length < a + c) := rfl
    by_cases hc : s.length < a + c
    · have tB : tkB s a false c = true := by rw [tB, decide_eq_true hc]
      have tA : tkA s a false c = a := by unfold tkA; rw [tB]; rfl
      refine ⟨⟨by rw [tA]; exact h1, fun h => (by rw [tB] at h; cases h), fun _ => by have := hp rfl; omega⟩, fun h => by rw [tB] at h; cases h⟩
    · have tB : tkB s a false c = false := by rw [tB, decide_eq_false hc]
      have tA : tkA s a false c = a + c := by unfold tkA; rw [tB]; rfl
      refine ⟨⟨by rw [tA]; omega, fun _ => tA, fun h => (by rw [tB] at h; cases h)⟩, fun _ => ⟨by unfold tkS; rw [tB]; rfl, rfl⟩⟩
def loadedA (o : Option (Sav × Nat)) : AV := match o with
  | some (x, n) => .tup [.agg [.str x.1, .sl 0 0 x.2.1.length, .sl (x.2.1.length + 1) 0 x.2.2.length], .int .i64 ((n : Nat) : Int), .bool true]
  | none => .tup [sav0, .int .i64 0, .bool false]
def loadedH (o : Option (Sav × Nat)) : List Blk := match o with
  | some (x, _) => encR 0 x.2.1 ++ [intB x.2.2]
  | none => []
theorem PostR_shift {r2 : AV} {Q : AV → List Blk → Prop} (A H : List Blk) (hf : ∀ q ∈ H, allBelow H.length q.els = true) (hb : below H.length r2 = true) (h : Q r2 H) : PostR 0 (ren (fun b => b + A.length) r2) (A ++ H.map (renB fun b => b + A.length)) Q :=
  PostR.names (fun b => b + A.length) r2 H (.inr ⟨rfl, hb⟩)
    { len := rfl, hn0 := Nat.zero_le _, low := fun b hb => absurd hb (Nat.not_lt_zero _), inj := fun b b' _ _ h => by omega
      blk := fun b r hr => ⟨renB (fun b => b + A.length) r, by
        rw [List.getElem?_append_right (by omega), show b + A.length - A.length = b by omega, List.getElem?_map, hr]
        rfl, rfl, fun hl => ⟨hl, rfl, rfl, fun e he => by
          have := hf r (List.mem_of_getElem? hr)
          simp only [allBelow, List.all_eq_true] at this
          exact this e he⟩⟩ } h
theorem sav_lent {hp : List Blk} {R : List Rul} {nm : List UInt8} {xs : List Int} {v : AV} (h : HasR hp 3 R) (hv : nilD 3 (view 3 hp v) = .ro (ints xs)) : (([AV.agg [.str nm, .sl 3 0 R.length, v]].map (view 4 hp)).map (nilD 4)) = [savA (nm, R, xs)] := by
  have e : nilD 4 (view 4 hp (.agg [.str nm, .sl 3 0 R.length, v])) = .agg [nilD 3 (view 3 hp (.str nm)), nilD 3 (view 3 hp (.sl 3 0 R.length)), nilD 3 (view 3 hp v)] := rfl
  rw [List.map_cons, List.map_cons, e, h.lent 0, hv]
  rfl
theorem hasR_3 (a b c : Blk) (R : List Rul) (T : List Blk) : HasR (a :: b :: c :: (encR 3 R ++ T)) 3 R := hasR_at [a, b, c] T R
theorem hasR_30 (a b c : Blk) (R : List Rul) : HasR (a :: b :: c :: encR 3 R) 3 R := by
  have := hasR_3 a b c R []
  rw [List.append_nil] at this
  exact this
theorem incs_lent (a b c : Blk) (R : List Rul) (xs : List Int) {i : Nat} (h : xs.length = i) : nilD 3 (view 3 (a :: b :: c :: (encR 3 R ++ [intB xs])) (.sl (R.length + 4) 0 i)) = .ro (ints xs) := by
  subst h
  have hg : (a :: b :: c :: (encR 3 R ++ [intB xs]))[R.length + 4]? = some (intB xs) := encR_last 3 R (intB xs)
  rw [view_sl, hg]
  simp only [intB, ints_len, map_view_ints, take_ints, List.drop_zero, Nat.zero_add, Nat.le_refl, decide_true, Bool.and_self, if_true]
  show AV.ro ((ints xs).map (nilD 2)) = _
  rw [nilD_ints]
theorem loaded_end {nm : List UInt8} {R : List Rul} {xs : List Int} {n : Nat} (a b c : Blk) : PostR 0 (.tup [.agg [.str nm, .sl 3 0 R.length, .sl (R.length + 4) 0 xs.length], .int .i64 ((n : Nat) : Int), .bool true]) (a :: b :: c :: (encR 3 R ++ [intB xs])) (Ret (loadedA (some ((nm, R, xs), n))) (loadedH (some ((nm, R, xs), n)))) := by
  have hl : (encR 0 R ++ [intB xs]).length = R.length + 2 := by rw [List.length_append, encR_len]; rfl
  have := PostR_shift (r2 := loadedA (some ((nm, R, xs), n))) (Q := Ret (loadedA (some ((nm, R, xs), n))) (loadedH (some ((nm, R, xs), n)))) [a, b, c] (encR 0 R ++ [intB xs]) (fun q hq => by
    rcases List.mem_append.1 hq with m | m
    · exact encR_flat (by omega) q m
    · rw [List.mem_singleton.1 m]; exact ints_below _ _) (by simp [loadedA, below, belowM, belowL, hl]) ⟨rfl, rfl⟩
  rw [List.map_append, encR_ren] at this
  have e1 : ren (fun x => x + [a, b, c].length) (loadedA (some ((nm, R, xs), n))) = .tup [.agg [.str nm, .sl 3 0 R.length, .sl (R.length + 4) 0 xs.length], .int .i64 ((n : Nat) : Int), .bool true] := by
    simp [loadedA, ren, renM, renL]
  have e2 : [intB xs].map (renB fun x => x + [a, b, c].length) = [intB xs] := by
    rw [List.map_cons, List.map_nil, renB_flat (ints_below _ _)]
  rw [e1, e2] at this
  exact this
theorem ld_flat {s nm : List UInt8} {a : Nat} {b : Bool} {V W : AV} {T : List Blk} (hT : ∀ q ∈ T, allBelow (3 + T.length) q.els = true) (hV : below (3 + T.length) (.agg [.str nm, V, W]) = true) : ∀ q ∈ (savB [sav0] :: rdB s a b :: savB [.agg [.str nm, V, W]] :: T), allBelow (savB [sav0] :: rdB s a b :: savB [.agg [.str nm, V, W]] :: T).length q.els = true := by
  have e : (savB [sav0] :: rdB s a b :: savB [.agg [.str nm, V, W]] :: T).length = 3 + T.length := by simp only [List.length_cons]; omega
  rw [e]
  intro q hq
  simp only [List.mem_cons] at hq
  rcases hq with rfl | rfl | rfl | hq
  · rfl
  · simp [rdB, allBelow, below, belowM, belowL]
  · show ([AV.agg [.str nm, V, W]].all (below (3 + T.length))) = true
    rw [List.all_cons, hV]; rfl
  · exact hT q hq
def ldN (s nm : List UInt8) (a : Nat) (b : Bool) (xs : List Int) : List Blk := [savB [sav0], rdB s a b, savB [.agg [.str nm, .nils, slV 3 xs.length]]] ++ ifsH xs
def ldS (s nm : List UInt8) (R : List Rul) (a : Nat) (b : Bool) (xs : List Int) : List Blk := savB [sav0] :: rdB s a b :: savB [.agg [.str nm, .sl 3 0 R.length, slV (R.length + 4) xs.length]] :: (encR 3 R ++ ifsH xs)
theorem loaded_call (s : List UInt8) (hs : s.length ≤ 1048576) : CallA Tryz.prog 38 [.str s] [] (Ret (loadedA (beginOf s)) (loadedH (beginOf s))) := by
  have hA := at1_lt s 4
  have hT := at2_lt s (pA s)
  have hN := at1_lt s (pB s)
  have eA : pA s = 5 + at1 s 4 := rfl
  have eB : pB s = pA s + 2 + at2 s (pA s) := rfl
  have eN : cN s = at1 s (pB s) := rfl
  have eS : size s = pB s + 1 + 4 * cN s + 2 := rfl
  refine CallP.out (t := .mk) (go_in (md := md38) mixed Tryz.func38 rfl go38 (by kernel_rfl) ?_)
  simp only [q0, q1, q2, q3, q4, q5, q6, q7, q8, q9, zr0, zr1, zr2, zr3, zq0, zq1, zq2, zq3, zq4, Nat.reduceAdd, Nat.reduceSub, lenA, convA, indexA, indexS, Int.reduceToNat, cond_true, cond_false, ↓reduceIte, reduceCtorEq, Nat.reduceLT, Nat.reduceLeDiff, Nat.reduceMul, Nat.reduceEqDiff, exists_eq', implies_true, exists_true_left, tys0, tys1, tys2, und0, und1, md38, Tryz.ntmps38, Tryz.results38]
  have P0 : Pos s 0 false 0 := ⟨Nat.zero_le _, fun _ => rfl, fun h => by cases h⟩
  refine call_handed [1] (take_call s 0 false 4 (Nat.zero_le _) (by omega) hs) (by decide) ⟨⟨rfl, rfl⟩, trivial⟩ rfl rfl rfl rfl (by simp [rdB, allBelow_cons, allBelow_nil, below, belowM, belowL]) ?_
  obtain ⟨P1, _⟩ := P0.take (c := 4) (fun _ => by omega)
  generalize tkA s 0 false 4 = a1 at P1
  generalize tkB s 0 false 4 = b1 at P1
  simp only [q0, q1, q2, q3, q4, q5, q6, q7, q8, q9, zr0, zr1, zr2, zr3, zq0, zq1, zq2, zq3, zq4, Nat.reduceAdd, Nat.reduceSub, lenA, convA, indexA, indexS, Int.reduceToNat, cond_true, cond_false, ↓reduceIte, reduceCtorEq, Nat.reduceLT, Nat.reduceLeDiff, Nat.reduceMul, Nat.reduceEqDiff, exists_eq', implies_true, exists_true_left, tys0, tys1, tys2, und0, und1, md38, Tryz.ntmps38, Tryz.results38]
  refine call_handed [1] (number_call s a1 b1 1 P1.1 (by omega) hs) (by decide) ⟨⟨rfl, rfl⟩, trivial⟩ rfl rfl rfl rfl (by simp [rdB, allBelow_cons, allBelow_nil, below, belowM, belowL]) ?_
  obtain ⟨P2, R2⟩ := P1.take (c := 1) (fun h => by have := P1.2.1 h; omega)
  have c2 := num_lt (tkS s a1 b1 1)
  have l2 : (256 : Nat) ^ (tkS s a1 b1 1).length ≤ 256 ^ 1 := Nat.pow_le_pow_right (by decide) (tkS_len s a1 b1 1)
  have N2 : tkB s a1 b1 1 = false → num (tkS s a1 b1 1) = at1 s 4 := fun h => by rw [(R2 h).1]; rfl
  generalize tkS s a1 b1 1 = x2 at c2 l2 N2 R2
  generalize tkA s a1 b1 1 = a2 at P2
  generalize tkB s a1 b1 1 = b2 at P2 N2 R2
  generalize num x2 = n2 at c2 N2
  clear R2
  simp only [q0, q1, q2, q3, q4, q5, q6, q7, q8, q9, zr0, zr1, zr2, zr3, zq0, zq1, zq2, zq3, zq4, Nat.reduceAdd, Nat.reduceSub, lenA, convA, indexA, indexS, Int.reduceToNat, cond_true, cond_false, ↓reduceIte, reduceCtorEq, Nat.reduceLT, Nat.reduceLeDiff, Nat.reduceMul, Nat.reduceEqDiff, exists_eq', implies_true, exists_true_left, tys0, tys1, tys2, und0, und1, md38, Tryz.ntmps38, Tryz.results38]
  refine call_handed [1] (take_call s a2 b2 n2 P2.1 (by omega) hs) (by decide) ⟨⟨rfl, rfl⟩, trivial⟩ rfl rfl rfl rfl (by simp [rdB, allBelow_cons, allBelow_nil, below, belowM, belowL]) ?_
  obtain ⟨P3, R3⟩ := P2.take (c := n2) (fun h => by have := P2.2.1 h; have := N2 h; omega)
  have P3 : Pos s (tkA s a2 b2 n2) (tkB s a2 b2 n2) (pA s) := ⟨P3.1, fun h => (by have := P3.2.1 h; have := N2 (R3 h).2; omega), P3.2.2⟩
  have N3 : tkB s a2 b2 n2 = false → tkS s a2 b2 n2 = nameOf s := fun h => by
    rw [(R3 h).1, N2 (R3 h).2]
    unfold nameOf
    rw [eA, List.drop_take, show 5 + at1 s 4 - 5 = at1 s 4 by omega]
  have l3 := tkS_len s a2 b2 n2
  generalize tkS s a2 b2 n2 = nm at l3 N3 R3
  generalize tkA s a2 b2 n2 = a3 at P3
  generalize tkB s a2 b2 n2 = b3 at P3 N3 R3
  clear R3
  simp only [q0, q1, q2, q3, q4, q5, q6, q7, q8, q9, zr0, zr1, zr2, zr3, zq0, zq1, zq2, zq3, zq4, Nat.reduceAdd, Nat.reduceSub, lenA, convA, indexA, indexS, Int.reduceToNat, cond_true, cond_false, ↓reduceIte, reduceCtorEq, Nat.reduceLT, Nat.reduceLeDiff, Nat.reduceMul, Nat.reduceEqDiff, exists_eq', implies_true, exists_true_left, tys0, tys1, tys2, und0, und1, md38, Tryz.ntmps38, Tryz.results38]
  refine call_handed [1] (number_call s a3 b3 2 P3.1 (by omega) hs) (by decide) ⟨⟨rfl, rfl⟩, trivial⟩ rfl rfl rfl rfl (by simp [rdB, allBelow_cons, allBelow_nil, below, belowM, belowL]) ?_
  obtain ⟨P4, R4⟩ := P3.take (c := 2) (fun h => by have := P3.2.1 h; omega)
  have c4 := num_lt (tkS s a3 b3 2)
  have l4 : (256 : Nat) ^ (tkS s a3 b3 2).length ≤ 256 ^ 2 := Nat.pow_le_pow_right (by decide) (tkS_len s a3 b3 2)
  have N4 : tkB s a3 b3 2 = false → num (tkS s a3 b3 2) = at2 s (pA s) := fun h => by rw [(R4 h).1]; rfl
  have K4 : tkB s a3 b3 2 = false → b3 = false := fun h => (R4 h).2
  generalize tkS s a3 b3 2 = x4 at c4 l4 N4 R4
  generalize tkA s a3 b3 2 = a4 at P4
  generalize tkB s a3 b3 2 = b4 at P4 N4 R4 K4
  generalize num x4 = n4 at c4 N4
  clear R4
  simp only [q0, q1, q2, q3, q4, q5, q6, q7, q8, q9, zr0, zr1, zr2, zr3, zq0, zq1, zq2, zq3, zq4, Nat.reduceAdd, Nat.reduceSub, lenA, convA, indexA, indexS, Int.reduceToNat, cond_true, cond_false, ↓reduceIte, reduceCtorEq, Nat.reduceLT, Nat.reduceLeDiff, Nat.reduceMul, Nat.reduceEqDiff, exists_eq', implies_true, exists_true_left, tys0, tys1, tys2, und0, und1, md38, Tryz.ntmps38, Tryz.results38]
  refine call_handed [1] (take_call s a4 b4 n4 P4.1 (by omega) hs) (by decide) ⟨⟨rfl, rfl⟩, trivial⟩ rfl rfl rfl rfl (by simp [rdB, allBelow_cons, allBelow_nil, below, belowM, belowL]) ?_
  obtain ⟨P5, R5⟩ := P4.take (c := n4) (fun h => by have := P4.2.1 h; have := N4 h; omega)
  have P5 : Pos s (tkA s a4 b4 n4) (tkB s a4 b4 n4) (pB s) := ⟨P5.1, fun h => (by have := P5.2.1 h; have := N4 (R5 h).2; omega), P5.2.2⟩
  have N5 : tkB s a4 b4 n4 = false → tkS s a4 b4 n4 = textOf s := fun h => by
    rw [(R5 h).1, N4 (R5 h).2]
    unfold textOf
    rw [eB, List.drop_take, show pA s + 2 + at2 s (pA s) - (pA s + 2) = at2 s (pA s) by omega]
  have K5 : tkB s a4 b4 n4 = false → nm = nameOf s := fun h => N3 (K4 (R5 h).2)
  have l5 := tkS_len2 s a4 b4 n4
  generalize tkS s a4 b4 n4 = tx at l5 N5 R5
  generalize tkA s a4 b4 n4 = a5 at P5
  generalize tkB s a4 b4 n4 = b5 at P5 N5 R5 K5
  clear R5 P0 P1 P2 P3 P4 N2 N3 N4 K4
  simp only [q0, q1, q2, q3, q4, q5, q6, q7, q8, q9, zr0, zr1, zr2, zr3, zq0, zq1, zq2, zq3, zq4, Nat.reduceAdd, Nat.reduceSub, lenA, convA, indexA, indexS, Int.reduceToNat, cond_true, cond_false, ↓reduceIte, reduceCtorEq, Nat.reduceLT, Nat.reduceLeDiff, Nat.reduceMul, Nat.reduceEqDiff, exists_eq', implies_true, exists_true_left, tys0, tys1, tys2, und0, und1, md38, Tryz.ntmps38, Tryz.results38]
  have rr := implReadRules_call tx (by omega)
  cases hr : rulesOf tx with
  | none =>
    rw [hr] at rr
    refine call_ret (r := .tup [.nils, .bool false]) rr rfl rfl ?_
    simp only [q0, q1, q2, q3, q4, q5, q6, q7, q8, q9, zr0, zr1, zr2, zr3, zq0, zq1, zq2, zq3, zq4, Nat.reduceAdd, Nat.reduceSub, lenA, convA, indexA, indexS, Int.reduceToNat, cond_true, cond_false, ↓reduceIte, reduceCtorEq, Nat.reduceLT, Nat.reduceLeDiff, Nat.reduceMul, Nat.reduceEqDiff, exists_eq', implies_true, exists_true_left, tys0, tys1, tys2, und0, und1, md38, Tryz.ntmps38, Tryz.results38]
    refine call_handed [1] (number_call s a5 b5 1 P5.1 (by omega) hs) (by decide) ⟨⟨rfl, rfl⟩, trivial⟩ rfl rfl rfl rfl (by simp [rdB, allBelow_cons, allBelow_nil, below, belowM, belowL]) ?_
    obtain ⟨P6, R6⟩ := P5.take (c := 1) (fun h => by have := P5.2.1 h; omega)
    have c6 := num_lt (tkS s a5 b5 1)
    have l6 : (256 : Nat) ^ (tkS s a5 b5 1).length ≤ 256 ^ 1 := Nat.pow_le_pow_right (by decide) (tkS_len s a5 b5 1)
    have N6 : tkB s a5 b5 1 = false → num (tkS s a5 b5 1) = cN s := fun h => by rw [(R6 h).1]; rfl
    have K6 : tkB s a5 b5 1 = false → b5 = false := fun h => (R6 h).2
    generalize tkS s a5 b5 1 = x6 at c6 l6 N6 R6
    generalize tkA s a5 b5 1 = a6 at P6
    generalize tkB s a5 b5 1 = b6 at P6 N6 R6 K6
    generalize num x6 = n6 at c6 N6
    clear R6
    simp only [q0, q1, q2, q3, q4, q5, q6, q7, q8, q9, zr0, zr1, zr2, zr3, zq0, zq1, zq2, zq3, zq4, Nat.reduceAdd, Nat.reduceSub, lenA, convA, indexA, indexS, Int.reduceToNat, cond_true, cond_false, ↓reduceIte, reduceCtorEq, Nat.reduceLT, Nat.reduceLeDiff, Nat.reduceMul, Nat.reduceEqDiff, exists_eq', implies_true, exists_true_left, tys0, tys1, tys2, und0, und1, md38, Tryz.ntmps38, Tryz.results38]
    refine go_round (md := md38) mixed (by kernel_rfl) (fun p : {p : Nat × Nat × Bool × List Int // p.1 ≤ n6 ∧ p.2.2.2.length = p.1 ∧ Pos s p.2.1 p.2.2.1 (pB s + 1 + 4 * p.1) ∧ (p.2.2.1 = false → b6 = false ∧ p.2.2.2 = incsOf s p.1)} => ⟨[.str s, .any, .ptr 0 0 0, .any, .any, .ptr 1 0 0, .ptr 2 0 0, .any, .bool false, .any, .any, .any, .any, .any, .any, .any, .any, .any, .any, .any, .any, .any, .any, .any, .any, .any, .any, .any, .any, .any, .any, .int .i64 ((n6 : Nat) : Int), .int .i64 ((p.1.1 : Nat) : Int), .any, .any, .any, .any, .any, .any, .any, .any, .any, .any, .any, .any, .any, .any, .any, .any, .any, .any, .any, .any, .any, .any, .any, .any, .any, .any, .any, .any, .any, .any, .any, .any, .any, .any, .any, .any, .any, .any, .any, .any, .any], ldN s nm p.1.2.1 p.1.2.2.1 p.1.2.2.2⟩) (fun p => n6 - p.1.1) ⟨(0, a6, b6, []), Nat.zero_le _, rfl, P6, fun h => ⟨h, rfl⟩⟩ ?_ ?_
    · refine weak_same (by simp [ldN, ifsH, slV, savB, sav0, rdB]) ?_
      simp [SameTm]
    rintro ⟨⟨i, a7, b7, xs⟩, hi, hxl, P7, K7⟩
    dsimp only at hi hxl P7 K7
    have w7 : IntKind.i64.wrap ((i : Int) + 1) = ((i + 1 : Nat) : Int) := by rw [w64 (by omega) (by omega)]; omega
    by_cases hz : xs.length = 0
    case pos =>
      obtain rfl : xs = [] := List.length_eq_zero_iff.1 hz
      obtain rfl : i = 0 := hxl.symm
      have eh : ldN s nm a7 b7 [] = (savB [sav0] :: rdB s a7 b7 :: savB [.agg [.str nm, .nils, .nils]] :: []) := by simp [ldN, slV, ifsH]
      rw [eh]
      simp only [q0, q1, q2, q3, q4, q5, q6, q7, q8, q9, zr0, zr1, zr2, zr3, zq0, zq1, zq2, zq3, zq4, Nat.reduceAdd, Nat.reduceSub, lenA, convA, indexA, indexS, Int.reduceToNat, cond_true, cond_false, ↓reduceIte, reduceCtorEq, Nat.reduceLT, Nat.reduceLeDiff, Nat.reduceMul, Nat.reduceEqDiff, exists_eq', implies_true, exists_true_left, tys0, tys1, tys2, und0, und1, md38, Tryz.ntmps38, Tryz.results38, savB, sav0, encR_len]
      refine br_intro (fun g => ?_) (fun g => ?_) <;> simp only [q0, q1, q2, q3, q4, q5, q6, q7, q8, q9, zr0, zr1, zr2, zr3, zq0, zq1, zq2, zq3, zq4, Nat.reduceAdd, Nat.reduceSub, lenA, convA, indexA, indexS, Int.reduceToNat, cond_true, cond_false, ↓reduceIte, reduceCtorEq, Nat.reduceLT, Nat.reduceLeDiff, Nat.reduceMul, Nat.reduceEqDiff, exists_eq', implies_true, exists_true_left, tys0, tys1, tys2, und0, und1, md38, Tryz.ntmps38, Tryz.results38, savB, sav0, encR_len]
      · have g : 0 < n6 := by have := of_decide_eq_true g; omega
        refine go_calls mixed (fun hp => ∃ (a : Nat) (b : Bool), hp = (savB [sav0] :: rdB s a b :: savB [.agg [.str nm, .nils, .nils]] :: [])) [0, 1, 2, 3, 4, 5, 6, 7] [0, 0, 0, 2, 0, 1, 1, 1] (by kernel_rfl) ?_
        refine oh_quiet (by rfl) (by rfl) (by rfl) ⟨_, _, rfl⟩ (v := .ptr 2 0 2) ?_ ?_
        · rintro hp ⟨a, b, rfl⟩
          simp only [q0, q1, q2, q3, q4, q5, q6, q7, q8, q9, zr0, zr1, zr2, zr3, zq0, zq1, zq2, zq3, zq4, Nat.reduceAdd, Nat.reduceSub, lenA, convA, indexA, indexS, Int.reduceToNat, cond_true, cond_false, ↓reduceIte, reduceCtorEq, Nat.reduceLT, Nat.reduceLeDiff, Nat.reduceMul, Nat.reduceEqDiff, exists_eq', implies_true, exists_true_left, tys0, tys1, tys2, und0, und1, md38, Tryz.ntmps38, Tryz.results38, savB, sav0, encR_len]
        simp only [q0, q1, q2, q3, q4, q5, q6, q7, q8, q9, zr0, zr1, zr2, zr3, zq0, zq1, zq2, zq3, zq4, Nat.reduceAdd, Nat.reduceSub, lenA, convA, indexA, indexS, Int.reduceToNat, cond_true, cond_false, ↓reduceIte, reduceCtorEq, Nat.reduceLT, Nat.reduceLeDiff, Nat.reduceMul, Nat.reduceEqDiff, exists_eq', implies_true, exists_true_left, tys0, tys1, tys2, und0, und1, md38, Tryz.ntmps38, Tryz.results38, savB, sav0, encR_len]
        refine oh_quiet (by rfl) (by rfl) (by rfl) ⟨_, _, rfl⟩ (v := .nils) ?_ ?_
        · rintro hp ⟨a, b, rfl⟩
          simp only [q0, q1, q2, q3, q4, q5, q6, q7, q8, q9, zr0, zr1, zr2, zr3, zq0, zq1, zq2, zq3, zq4, Nat.reduceAdd, Nat.reduceSub, lenA, convA, indexA, indexS, Int.reduceToNat, cond_true, cond_false, ↓reduceIte, reduceCtorEq, Nat.reduceLT, Nat.reduceLeDiff, Nat.reduceMul, Nat.reduceEqDiff, exists_eq', implies_true, exists_true_left, tys0, tys1, tys2, und0, und1, md38, Tryz.ntmps38, Tryz.results38, savB, sav0, encR_len]
        simp only [q0, q1, q2, q3, q4, q5, q6, q7, q8, q9, zr0, zr1, zr2, zr3, zq0, zq1, zq2, zq3, zq4, Nat.reduceAdd, Nat.reduceSub, lenA, convA, indexA, indexS, Int.reduceToNat, cond_true, cond_false, ↓reduceIte, reduceCtorEq, Nat.reduceLT, Nat.reduceLeDiff, Nat.reduceMul, Nat.reduceEqDiff, exists_eq', implies_true, exists_true_left, tys0, tys1, tys2, und0, und1, md38, Tryz.ntmps38, Tryz.results38, savB, sav0, encR_len]
        refine oh_quiet (by rfl) (by rfl) (by rfl) ⟨_, _, rfl⟩ (v := .ptr 1 0 0) ?_ ?_
        · rintro hp ⟨a, b, rfl⟩
          simp only [q0, q1, q2, q3, q4, q5, q6, q7, q8, q9, zr0, zr1, zr2, zr3, zq0, zq1, zq2, zq3, zq4, Nat.reduceAdd, Nat.reduceSub, lenA, convA, indexA, indexS, Int.reduceToNat, cond_true, cond_false, ↓reduceIte, reduceCtorEq, Nat.reduceLT, Nat.reduceLeDiff, Nat.reduceMul, Nat.reduceEqDiff, exists_eq', implies_true, exists_true_left, tys0, tys1, tys2, und0, und1, md38, Tryz.ntmps38, Tryz.results38, savB, sav0, encR_len]
        simp only [q0, q1, q2, q3, q4, q5, q6, q7, q8, q9, zr0, zr1, zr2, zr3, zq0, zq1, zq2, zq3, zq4, Nat.reduceAdd, Nat.reduceSub, lenA, convA, indexA, indexS, Int.reduceToNat, cond_true, cond_false, ↓reduceIte, reduceCtorEq, Nat.reduceLT, Nat.reduceLeDiff, Nat.reduceMul, Nat.reduceEqDiff, exists_eq', implies_true, exists_true_left, tys0, tys1, tys2, und0, und1, md38, Tryz.ntmps38, Tryz.results38, savB, sav0, encR_len]
        refine oh_call (by rfl) (by rfl) (by rfl) (by rfl) (by rfl) ?_
        simp only [q0, q1, q2, q3, q4, q5, q6, q7, q8, q9, zr0, zr1, zr2, zr3, zq0, zq1, zq2, zq3, zq4, Nat.reduceAdd, Nat.reduceSub, lenA, convA, indexA, indexS, Int.reduceToNat, cond_true, cond_false, ↓reduceIte, reduceCtorEq, Nat.reduceLT, Nat.reduceLeDiff, Nat.reduceMul, Nat.reduceEqDiff, exists_eq', implies_true, exists_true_left, tys0, tys1, tys2, und0, und1, md38, Tryz.ntmps38, Tryz.results38, savB, sav0, encR_len]
        refine call_handed [1] (number_call s a7 b7 4 P7.1 (by omega) hs) (by decide) ⟨⟨rfl, rfl⟩, trivial⟩ rfl rfl rfl rfl (by simp [rdB, allBelow_cons, allBelow_nil, below, belowM, belowL]) ?_
        obtain ⟨P8, R8⟩ := P7.take (c := 4) (fun h => by have := P7.2.1 h; have := N6 (K7 h).1; omega)
        have N8 : tkB s a7 b7 4 = false → num (tkS s a7 b7 4) = at4 s (pB s + 1 + 4 * 0) := fun h => by rw [(R8 h).1]; rfl
        have K8 : tkB s a7 b7 4 = false → b7 = false := fun h => (R8 h).2
        generalize tkS s a7 b7 4 = x8 at N8 R8
        generalize tkA s a7 b7 4 = a8 at P8
        generalize tkB s a7 b7 4 = b8 at P8 N8 R8 K8
        generalize num x8 = n8 at N8
        clear R8
        simp only [q0, q1, q2, q3, q4, q5, q6, q7, q8, q9, zr0, zr1, zr2, zr3, zq0, zq1, zq2, zq3, zq4, Nat.reduceAdd, Nat.reduceSub, lenA, convA, indexA, indexS, Int.reduceToNat, cond_true, cond_false, ↓reduceIte, reduceCtorEq, Nat.reduceLT, Nat.reduceLeDiff, Nat.reduceMul, Nat.reduceEqDiff, exists_eq', implies_true, exists_true_left, tys0, tys1, tys2, und0, und1, md38, Tryz.ntmps38, Tryz.results38, savB, sav0, encR_len]
        refine ⟨⟨_, _, rfl⟩, ?_⟩
        refine oh_fresh (by rfl) (by rfl) (by rfl) ⟨_, _, rfl⟩ { ty := 2, w := 1, els := [.int .i64 ((n8 : Nat) : Int)] } 1 (.sl 0 0 1) rfl rfl rfl ?_ ?_ ?_
        · rintro hp ⟨a, b, rfl⟩
          exact ld_flat (by rintro q ⟨⟩) (by simp [below, belowM, belowL, encR_len]; try omega)
        · rintro hp ⟨a, b, rfl⟩
          simp only [q0, q1, q2, q3, q4, q5, q6, q7, q8, q9, zr0, zr1, zr2, zr3, zq0, zq1, zq2, zq3, zq4, Nat.reduceAdd, Nat.reduceSub, lenA, convA, indexA, indexS, Int.reduceToNat, cond_true, cond_false, ↓reduceIte, reduceCtorEq, Nat.reduceLT, Nat.reduceLeDiff, Nat.reduceMul, Nat.reduceEqDiff, exists_eq', implies_true, exists_true_left, tys0, tys1, tys2, und0, und1, md38, Tryz.ntmps38, Tryz.results38, savB, sav0, encR_len]
          try rfl
        rw [show view 1 [({ ty := 2, w := 1, els := [.int .i64 ((n8 : Nat) : Int)] } : Blk)] (.sl 0 0 1) = .ro [.int .i64 ((n8 : Nat) : Int)] from by simp [view_sl, view_int]]
        simp only [q0, q1, q2, q3, q4, q5, q6, q7, q8, q9, zr0, zr1, zr2, zr3, zq0, zq1, zq2, zq3, zq4, Nat.reduceAdd, Nat.reduceSub, lenA, convA, indexA, indexS, Int.reduceToNat, cond_true, cond_false, ↓reduceIte, reduceCtorEq, Nat.reduceLT, Nat.reduceLeDiff, Nat.reduceMul, Nat.reduceEqDiff, exists_eq', implies_true, exists_true_left, tys0, tys1, tys2, und0, und1, md38, Tryz.ntmps38, Tryz.results38, savB, sav0, encR_len]
        refine oh_one (by rfl) (by rfl) (by rfl) ?_
        simp only [q0, q1, q2, q3, q4, q5, q6, q7, q8, q9, zr0, zr1, zr2, zr3, zq0, zq1, zq2, zq3, zq4, Nat.reduceAdd, Nat.reduceSub, lenA, convA, indexA, indexS, Int.reduceToNat, cond_true, cond_false, ↓reduceIte, reduceCtorEq, Nat.reduceLT, Nat.reduceLeDiff, Nat.reduceMul, Nat.reduceEqDiff, exists_eq', implies_true, exists_true_left, tys0, tys1, tys2, und0, und1, md38, Tryz.ntmps38, Tryz.results38, savB, sav0, encR_len, encR_last, encR_last_set, allW_int, fits, List.isEmpty_cons, brk_false, Nat.reduceMul]
        skip
        refine oh_one (by rfl) (by rfl) (by rfl) ?_
        simp only [q0, q1, q2, q3, q4, q5, q6, q7, q8, q9, zr0, zr1, zr2, zr3, zq0, zq1, zq2, zq3, zq4, Nat.reduceAdd, Nat.reduceSub, lenA, convA, indexA, indexS, Int.reduceToNat, cond_true, cond_false, ↓reduceIte, reduceCtorEq, Nat.reduceLT, Nat.reduceLeDiff, Nat.reduceMul, Nat.reduceEqDiff, exists_eq', implies_true, exists_true_left, tys0, tys1, tys2, und0, und1, md38, Tryz.ntmps38, Tryz.results38, savB, sav0, encR_len]
        refine oh_one (by rfl) (by rfl) (by rfl) ?_
        simp only [q0, q1, q2, q3, q4, q5, q6, q7, q8, q9, zr0, zr1, zr2, zr3, zq0, zq1, zq2, zq3, zq4, Nat.reduceAdd, Nat.reduceSub, lenA, convA, indexA, indexS, Int.reduceToNat, cond_true, cond_false, ↓reduceIte, reduceCtorEq, Nat.reduceLT, Nat.reduceLeDiff, Nat.reduceMul, Nat.reduceEqDiff, exists_eq', implies_true, exists_true_left, tys0, tys1, tys2, und0, und1, md38, Tryz.ntmps38, Tryz.results38, savB, sav0, encR_len]
        refine oh_nil ?_
        simp only [q0, q1, q2, q3, q4, q5, q6, q7, q8, q9, zr0, zr1, zr2, zr3, zq0, zq1, zq2, zq3, zq4, Nat.reduceAdd, Nat.reduceSub, lenA, convA, indexA, indexS, Int.reduceToNat, cond_true, cond_false, ↓reduceIte, reduceCtorEq, Nat.reduceLT, Nat.reduceLeDiff, Nat.reduceMul, Nat.reduceEqDiff, exists_eq', implies_true, exists_true_left, tys0, tys1, tys2, und0, und1, md38, Tryz.ntmps38, Tryz.results38, savB, sav0, encR_len, w7]
        have P9 : Pos s a8 b8 (pB s + 1 + 4 * (0 + 1)) := ⟨P8.1, fun h => (by have := P8.2.1 h; omega), P8.2.2⟩
        have K9 : b8 = false → b6 = false ∧ [] ++ [((n8 : Nat) : Int)] = incsOf s (0 + 1) := fun h => ⟨(K7 (K8 h)).1, by rw [incsOf_succ, ← (K7 (K8 h)).2, N8 h]⟩
        refine ⟨⟨(0 + 1, a8, b8, [] ++ [((n8 : Nat) : Int)]), by show 0 + 1 ≤ n6; omega, by simp [hxl], P9, K9⟩, by show n6 - (0 + 1) < n6 - 0; omega, ?_⟩
        show Weak 0 _ ⟨_, ldN s nm a8 b8 ([] ++ [((n8 : Nat) : Int)])⟩
        rw [show ldN s nm a8 b8 ([] ++ [((n8 : Nat) : Int)]) = (savB [sav0] :: rdB s a8 b8 :: savB [.agg [.str nm, .nils, .sl 3 0 (0 + 1)]] :: [intB ([] ++ [((n8 : Nat) : Int)])]) by
          unfold ldN ifsH slV
          rw [if_neg (by simp), if_neg (by simp)]
          simp [hxl]]
        refine weak_same rfl ?_
        simp [SameTm]
      · have g : 0 = n6 := by have := of_decide_eq_false g; omega
        refine call_handed [1] (take_call s a7 b7 2 P7.1 (by omega) hs) (by decide) ⟨⟨rfl, rfl⟩, trivial⟩ rfl rfl rfl rfl (by simp [rdB, allBelow_cons, allBelow_nil, below, belowM, belowL]) ?_
        obtain ⟨P8, R8⟩ := P7.take (c := 2) (fun h => by have := P7.2.1 h; have := N6 (K7 h).1; omega)
        have K8 : tkB s a7 b7 2 = false → b7 = false := fun h => (R8 h).2
        clear R8
        generalize tkS s a7 b7 2 = x8
        generalize tkA s a7 b7 2 = a8 at P8
        generalize tkB s a7 b7 2 = b8 at P8 K8
        simp only [q0, q1, q2, q3, q4, q5, q6, q7, q8, q9, zr0, zr1, zr2, zr3, zq0, zq1, zq2, zq3, zq4, Nat.reduceAdd, Nat.reduceSub, lenA, convA, indexA, indexS, Int.reduceToNat, cond_true, cond_false, ↓reduceIte, reduceCtorEq, Nat.reduceLT, Nat.reduceLeDiff, Nat.reduceMul, Nat.reduceEqDiff, exists_eq', implies_true, exists_true_left, tys0, tys1, tys2, und0, und1, md38, Tryz.ntmps38, Tryz.results38, savB, sav0, encR_len, rdB]
        cases b8 with
        | true =>
          simp only [q0, q1, q2, q3, q4, q5, q6, q7, q8, q9, zr0, zr1, zr2, zr3, zq0, zq1, zq2, zq3, zq4, Nat.reduceAdd, Nat.reduceSub, lenA, convA, indexA, indexS, Int.reduceToNat, cond_true, cond_false, ↓reduceIte, reduceCtorEq, Nat.reduceLT, Nat.reduceLeDiff, Nat.reduceMul, Nat.reduceEqDiff, exists_eq', implies_true, exists_true_left, tys0, tys1, tys2, und0, und1, md38, Tryz.ntmps38, Tryz.results38, savB, sav0, encR_len, rdB]
          rw [begin_short (P8.2.2 rfl)]
          exact PostR.pure ⟨rfl, rfl⟩ rfl
        | false =>
          have k7 := K8 rfl
          obtain ⟨k6, hxs⟩ := K7 k7
          have k5 := K6 k6
          have htx := N5 k5
          have hnm := K5 k5
          have hn6 := N6 k6
          have ha8 : a8 = size s := by have := P8.2.1 rfl; omega
          rw [htx] at hr
          simp only [q0, q1, q2, q3, q4, q5, q6, q7, q8, q9, zr0, zr1, zr2, zr3, zq0, zq1, zq2, zq3, zq4, Nat.reduceAdd, Nat.reduceSub, lenA, convA, indexA, indexS, Int.reduceToNat, cond_true, cond_false, ↓reduceIte, reduceCtorEq, Nat.reduceLT, Nat.reduceLeDiff, Nat.reduceMul, Nat.reduceEqDiff, exists_eq', implies_true, exists_true_left, tys0, tys1, tys2, und0, und1, md38, Tryz.ntmps38, Tryz.results38, savB, sav0, encR_len, rdB]
          rw [begin_none hr]
          exact PostR.pure ⟨rfl, rfl⟩ rfl
    case neg =>
      have eh : ldN s nm a7 b7 xs = (savB [sav0] :: rdB s a7 b7 :: savB [.agg [.str nm, .nils, .sl 3 0 i]] :: [intB xs]) := by
        unfold ldN ifsH slV
        rw [if_neg hz, if_neg hz, hxl]
        try simp
      rw [eh]
      simp only [q0, q1, q2, q3, q4, q5, q6, q7, q8, q9, zr0, zr1, zr2, zr3, zq0, zq1, zq2, zq3, zq4, Nat.reduceAdd, Nat.reduceSub, lenA, convA, indexA, indexS, Int.reduceToNat, cond_true, cond_false, ↓reduceIte, reduceCtorEq, Nat.reduceLT, Nat.reduceLeDiff, Nat.reduceMul, Nat.reduceEqDiff, exists_eq', implies_true, exists_true_left, tys0, tys1, tys2, und0, und1, md38, Tryz.ntmps38, Tryz.results38, savB, sav0, encR_len]
      refine br_intro (fun g => ?_) (fun g => ?_) <;> simp only [q0, q1, q2, q3, q4, q5, q6, q7, q8, q9, zr0, zr1, zr2, zr3, zq0, zq1, zq2, zq3, zq4, Nat.reduceAdd, Nat.reduceSub, lenA, convA, indexA, indexS, Int.reduceToNat, cond_true, cond_false, ↓reduceIte, reduceCtorEq, Nat.reduceLT, Nat.reduceLeDiff, Nat.reduceMul, Nat.reduceEqDiff, exists_eq', implies_true, exists_true_left, tys0, tys1, tys2, und0, und1, md38, Tryz.ntmps38, Tryz.results38, savB, sav0, encR_len]
      · have g : i < n6 := by have := of_decide_eq_true g; omega
        refine go_calls mixed (fun hp => ∃ (a : Nat) (b : Bool), hp = (savB [sav0] :: rdB s a b :: savB [.agg [.str nm, .nils, .sl 3 0 i]] :: [intB xs])) [0, 1, 2, 3, 4, 5, 6, 7] [0, 0, 0, 2, 0, 1, 1, 1] (by kernel_rfl) ?_
        refine oh_quiet (by rfl) (by rfl) (by rfl) ⟨_, _, rfl⟩ (v := .ptr 2 0 2) ?_ ?_
        · rintro hp ⟨a, b, rfl⟩
          simp only [q0, q1, q2, q3, q4, q5, q6, q7, q8, q9, zr0, zr1, zr2, zr3, zq0, zq1, zq2, zq3, zq4, Nat.reduceAdd, Nat.reduceSub, lenA, convA, indexA, indexS, Int.reduceToNat, cond_true, cond_false, ↓reduceIte, reduceCtorEq, Nat.reduceLT, Nat.reduceLeDiff, Nat.reduceMul, Nat.reduceEqDiff, exists_eq', implies_true, exists_true_left, tys0, tys1, tys2, und0, und1, md38, Tryz.ntmps38, Tryz.results38, savB, sav0, encR_len]
        simp only [q0, q1, q2, q3, q4, q5, q6, q7, q8, q9, zr0, zr1, zr2, zr3, zq0, zq1, zq2, zq3, zq4, Nat.reduceAdd, Nat.reduceSub, lenA, convA, indexA, indexS, Int.reduceToNat, cond_true, cond_false, ↓reduceIte, reduceCtorEq, Nat.reduceLT, Nat.reduceLeDiff, Nat.reduceMul, Nat.reduceEqDiff, exists_eq', implies_true, exists_true_left, tys0, tys1, tys2, und0, und1, md38, Tryz.ntmps38, Tryz.results38, savB, sav0, encR_len]
        refine oh_quiet (by rfl) (by rfl) (by rfl) ⟨_, _, rfl⟩ (v := .sl 3 0 i) ?_ ?_
        · rintro hp ⟨a, b, rfl⟩
          simp only [q0, q1, q2, q3, q4, q5, q6, q7, q8, q9, zr0, zr1, zr2, zr3, zq0, zq1, zq2, zq3, zq4, Nat.reduceAdd, Nat.reduceSub, lenA, convA, indexA, indexS, Int.reduceToNat, cond_true, cond_false, ↓reduceIte, reduceCtorEq, Nat.reduceLT, Nat.reduceLeDiff, Nat.reduceMul, Nat.reduceEqDiff, exists_eq', implies_true, exists_true_left, tys0, tys1, tys2, und0, und1, md38, Tryz.ntmps38, Tryz.results38, savB, sav0, encR_len]
        simp only [q0, q1, q2, q3, q4, q5, q6, q7, q8, q9, zr0, zr1, zr2, zr3, zq0, zq1, zq2, zq3, zq4, Nat.reduceAdd, Nat.reduceSub, lenA, convA, indexA, indexS, Int.reduceToNat, cond_true, cond_false, ↓reduceIte, reduceCtorEq, Nat.reduceLT, Nat.reduceLeDiff, Nat.reduceMul, Nat.reduceEqDiff, exists_eq', implies_true, exists_true_left, tys0, tys1, tys2, und0, und1, md38, Tryz.ntmps38, Tryz.results38, savB, sav0, encR_len]
        refine oh_quiet (by rfl) (by rfl) (by rfl) ⟨_, _, rfl⟩ (v := .ptr 1 0 0) ?_ ?_
        · rintro hp ⟨a, b, rfl⟩
          simp only [q0, q1, q2, q3, q4, q5, q6, q7, q8, q9, zr0, zr1, zr2, zr3, zq0, zq1, zq2, zq3, zq4, Nat.reduceAdd, Nat.reduceSub, lenA, convA, indexA, indexS, Int.reduceToNat, cond_true, cond_false, ↓reduceIte, reduceCtorEq, Nat.reduceLT, Nat.reduceLeDiff, Nat.reduceMul, Nat.reduceEqDiff, exists_eq', implies_true, exists_true_left, tys0, tys1, tys2, und0, und1, md38, Tryz.ntmps38, Tryz.results38, savB, sav0, encR_len]
        simp only [q0, q1, q2, q3, q4, q5, q6, q7, q8, q9, zr0, zr1, zr2, zr3, zq0, zq1, zq2, zq3, zq4, Nat.reduceAdd, Nat.reduceSub, lenA, convA, indexA, indexS, Int.reduceToNat, cond_true, cond_false, ↓reduceIte, reduceCtorEq, Nat.reduceLT, Nat.reduceLeDiff, Nat.reduceMul, Nat.reduceEqDiff, exists_eq', implies_true, exists_true_left, tys0, tys1, tys2, und0, und1, md38, Tryz.ntmps38, Tryz.results38, savB, sav0, encR_len]
        refine oh_call (by rfl) (by rfl) (by rfl) (by rfl) (by rfl) ?_
        simp only [q0, q1, q2, q3, q4, q5, q6, q7, q8, q9, zr0, zr1, zr2, zr3, zq0, zq1, zq2, zq3, zq4, Nat.reduceAdd, Nat.reduceSub, lenA, convA, indexA, indexS, Int.reduceToNat, cond_true, cond_false, ↓reduceIte, reduceCtorEq, Nat.reduceLT, Nat.reduceLeDiff, Nat.reduceMul, Nat.reduceEqDiff, exists_eq', implies_true, exists_true_left, tys0, tys1, tys2, und0, und1, md38, Tryz.ntmps38, Tryz.results38, savB, sav0, encR_len]
        refine call_handed [1] (number_call s a7 b7 4 P7.1 (by omega) hs) (by decide) ⟨⟨rfl, rfl⟩, trivial⟩ rfl rfl rfl rfl (by simp [rdB, allBelow_cons, allBelow_nil, below, belowM, belowL]) ?_
        obtain ⟨P8, R8⟩ := P7.take (c := 4) (fun h => by have := P7.2.1 h; have := N6 (K7 h).1; omega)
        have N8 : tkB s a7 b7 4 = false → num (tkS s a7 b7 4) = at4 s (pB s + 1 + 4 * i) := fun h => by rw [(R8 h).1]; rfl
        have K8 : tkB s a7 b7 4 = false → b7 = false := fun h => (R8 h).2
        generalize tkS s a7 b7 4 = x8 at N8 R8
        generalize tkA s a7 b7 4 = a8 at P8
        generalize tkB s a7 b7 4 = b8 at P8 N8 R8 K8
        generalize num x8 = n8 at N8
        clear R8
        simp only [q0, q1, q2, q3, q4, q5, q6, q7, q8, q9, zr0, zr1, zr2, zr3, zq0, zq1, zq2, zq3, zq4, Nat.reduceAdd, Nat.reduceSub, lenA, convA, indexA, indexS, Int.reduceToNat, cond_true, cond_false, ↓reduceIte, reduceCtorEq, Nat.reduceLT, Nat.reduceLeDiff, Nat.reduceMul, Nat.reduceEqDiff, exists_eq', implies_true, exists_true_left, tys0, tys1, tys2, und0, und1, md38, Tryz.ntmps38, Tryz.results38, savB, sav0, encR_len]
        refine ⟨⟨_, _, rfl⟩, ?_⟩
        refine oh_fresh (by rfl) (by rfl) (by rfl) ⟨_, _, rfl⟩ { ty := 2, w := 1, els := [.int .i64 ((n8 : Nat) : Int)] } 1 (.sl 0 0 1) rfl rfl rfl ?_ ?_ ?_
        · rintro hp ⟨a, b, rfl⟩
          exact ld_flat (fun q hq => by rw [List.mem_singleton.1 hq]; exact ints_below _ _) (by simp [below, belowM, belowL, encR_len]; try omega)
        · rintro hp ⟨a, b, rfl⟩
          simp only [q0, q1, q2, q3, q4, q5, q6, q7, q8, q9, zr0, zr1, zr2, zr3, zq0, zq1, zq2, zq3, zq4, Nat.reduceAdd, Nat.reduceSub, lenA, convA, indexA, indexS, Int.reduceToNat, cond_true, cond_false, ↓reduceIte, reduceCtorEq, Nat.reduceLT, Nat.reduceLeDiff, Nat.reduceMul, Nat.reduceEqDiff, exists_eq', implies_true, exists_true_left, tys0, tys1, tys2, und0, und1, md38, Tryz.ntmps38, Tryz.results38, savB, sav0, encR_len]
          try rfl
        rw [show view 1 [({ ty := 2, w := 1, els := [.int .i64 ((n8 : Nat) : Int)] } : Blk)] (.sl 0 0 1) = .ro [.int .i64 ((n8 : Nat) : Int)] from by simp [view_sl, view_int]]
        simp only [q0, q1, q2, q3, q4, q5, q6, q7, q8, q9, zr0, zr1, zr2, zr3, zq0, zq1, zq2, zq3, zq4, Nat.reduceAdd, Nat.reduceSub, lenA, convA, indexA, indexS, Int.reduceToNat, cond_true, cond_false, ↓reduceIte, reduceCtorEq, Nat.reduceLT, Nat.reduceLeDiff, Nat.reduceMul, Nat.reduceEqDiff, exists_eq', implies_true, exists_true_left, tys0, tys1, tys2, und0, und1, md38, Tryz.ntmps38, Tryz.results38, savB, sav0, encR_len]
        refine oh_one (by rfl) (by rfl) (by rfl) ?_
        simp only [q0, q1, q2, q3, q4, q5, q6, q7, q8, q9, zr0, zr1, zr2, zr3, zq0, zq1, zq2, zq3, zq4, Nat.reduceAdd, Nat.reduceSub, lenA, convA, indexA, indexS, Int.reduceToNat, cond_true, cond_false, ↓reduceIte, reduceCtorEq, Nat.reduceLT, Nat.reduceLeDiff, Nat.reduceMul, Nat.reduceEqDiff, exists_eq', implies_true, exists_true_left, tys0, tys1, tys2, und0, und1, md38, Tryz.ntmps38, Tryz.results38, savB, sav0, encR_len, encR_last, encR_last_set, allW_int, fits, List.isEmpty_cons, brk_false, Nat.reduceMul]
        refine ⟨rfl, rfl, by rw [show (intB xs).els = ints xs from rfl, ints_len, hxl], rfl, by omega, ?_⟩
        refine oh_one (by rfl) (by rfl) (by rfl) ?_
        simp only [q0, q1, q2, q3, q4, q5, q6, q7, q8, q9, zr0, zr1, zr2, zr3, zq0, zq1, zq2, zq3, zq4, Nat.reduceAdd, Nat.reduceSub, lenA, convA, indexA, indexS, Int.reduceToNat, cond_true, cond_false, ↓reduceIte, reduceCtorEq, Nat.reduceLT, Nat.reduceLeDiff, Nat.reduceMul, Nat.reduceEqDiff, exists_eq', implies_true, exists_true_left, tys0, tys1, tys2, und0, und1, md38, Tryz.ntmps38, Tryz.results38, savB, sav0, encR_len]
        refine oh_one (by rfl) (by rfl) (by rfl) ?_
        simp only [q0, q1, q2, q3, q4, q5, q6, q7, q8, q9, zr0, zr1, zr2, zr3, zq0, zq1, zq2, zq3, zq4, Nat.reduceAdd, Nat.reduceSub, lenA, convA, indexA, indexS, Int.reduceToNat, cond_true, cond_false, ↓reduceIte, reduceCtorEq, Nat.reduceLT, Nat.reduceLeDiff, Nat.reduceMul, Nat.reduceEqDiff, exists_eq', implies_true, exists_true_left, tys0, tys1, tys2, und0, und1, md38, Tryz.ntmps38, Tryz.results38, savB, sav0, encR_len]
        refine oh_nil ?_
        simp only [q0, q1, q2, q3, q4, q5, q6, q7, q8, q9, zr0, zr1, zr2, zr3, zq0, zq1, zq2, zq3, zq4, Nat.reduceAdd, Nat.reduceSub, lenA, convA, indexA, indexS, Int.reduceToNat, cond_true, cond_false, ↓reduceIte, reduceCtorEq, Nat.reduceLT, Nat.reduceLeDiff, Nat.reduceMul, Nat.reduceEqDiff, exists_eq', implies_true, exists_true_left, tys0, tys1, tys2, und0, und1, md38, Tryz.ntmps38, Tryz.results38, savB, sav0, encR_len, w7]
        have P9 : Pos s a8 b8 (pB s + 1 + 4 * (i + 1)) := ⟨P8.1, fun h => (by have := P8.2.1 h; omega), P8.2.2⟩
        have K9 : b8 = false → b6 = false ∧ xs ++ [((n8 : Nat) : Int)] = incsOf s (i + 1) := fun h => ⟨(K7 (K8 h)).1, by rw [incsOf_succ, ← (K7 (K8 h)).2, N8 h]⟩
        refine ⟨⟨(i + 1, a8, b8, xs ++ [((n8 : Nat) : Int)]), by show i + 1 ≤ n6; omega, by simp [hxl], P9, K9⟩, by show n6 - (i + 1) < n6 - i; omega, ?_⟩
        show Weak 0 _ ⟨_, ldN s nm a8 b8 (xs ++ [((n8 : Nat) : Int)])⟩
        rw [show ldN s nm a8 b8 (xs ++ [((n8 : Nat) : Int)]) = (savB [sav0] :: rdB s a8 b8 :: savB [.agg [.str nm, .nils, .sl 3 0 (i + 1)]] :: [intB (xs ++ [((n8 : Nat) : Int)])]) by
          unfold ldN ifsH slV
          rw [if_neg (by simp), if_neg (by simp)]
          simp [hxl]]
        rw [intB_more]
        refine weak_same rfl ?_
        simp [SameTm]
      · have g : i = n6 := by have := of_decide_eq_false g; omega
        refine call_handed [1] (take_call s a7 b7 2 P7.1 (by omega) hs) (by decide) ⟨⟨rfl, rfl⟩, trivial⟩ rfl rfl rfl rfl (by simp [rdB, allBelow_cons, allBelow_nil, below, belowM, belowL]) ?_
        obtain ⟨P8, R8⟩ := P7.take (c := 2) (fun h => by have := P7.2.1 h; have := N6 (K7 h).1; omega)
        have K8 : tkB s a7 b7 2 = false → b7 = false := fun h => (R8 h).2
        clear R8
        generalize tkS s a7 b7 2 = x8
        generalize tkA s a7 b7 2 = a8 at P8
        generalize tkB s a7 b7 2 = b8 at P8 K8
        simp only [q0, q1, q2, q3, q4, q5, q6, q7, q8, q9, zr0, zr1, zr2, zr3, zq0, zq1, zq2, zq3, zq4, Nat.reduceAdd, Nat.reduceSub, lenA, convA, indexA, indexS, Int.reduceToNat, cond_true, cond_false, ↓reduceIte, reduceCtorEq, Nat.reduceLT, Nat.reduceLeDiff, Nat.reduceMul, Nat.reduceEqDiff, exists_eq', implies_true, exists_true_left, tys0, tys1, tys2, und0, und1, md38, Tryz.ntmps38, Tryz.results38, savB, sav0, encR_len, rdB]
        cases b8 with
        | true =>
          simp only [q0, q1, q2, q3, q4, q5, q6, q7, q8, q9, zr0, zr1, zr2, zr3, zq0, zq1, zq2, zq3, zq4, Nat.reduceAdd, Nat.reduceSub, lenA, convA, indexA, indexS, Int.reduceToNat, cond_true, cond_false, ↓reduceIte, reduceCtorEq, Nat.reduceLT, Nat.reduceLeDiff, Nat.reduceMul, Nat.reduceEqDiff, exists_eq', implies_true, exists_true_left, tys0, tys1, tys2, und0, und1, md38, Tryz.ntmps38, Tryz.results38, savB, sav0, encR_len, rdB]
          rw [begin_short (P8.2.2 rfl)]
          exact PostR.pure ⟨rfl, rfl⟩ rfl
        | false =>
          have k7 := K8 rfl
          obtain ⟨k6, hxs⟩ := K7 k7
          have k5 := K6 k6
          have htx := N5 k5
          have hnm := K5 k5
          have hn6 := N6 k6
          have ha8 : a8 = size s := by have := P8.2.1 rfl; omega
          rw [htx] at hr
          simp only [q0, q1, q2, q3, q4, q5, q6, q7, q8, q9, zr0, zr1, zr2, zr3, zq0, zq1, zq2, zq3, zq4, Nat.reduceAdd, Nat.reduceSub, lenA, convA, indexA, indexS, Int.reduceToNat, cond_true, cond_false, ↓reduceIte, reduceCtorEq, Nat.reduceLT, Nat.reduceLeDiff, Nat.reduceMul, Nat.reduceEqDiff, exists_eq', implies_true, exists_true_left, tys0, tys1, tys2, und0, und1, md38, Tryz.ntmps38, Tryz.results38, savB, sav0, encR_len, rdB]
          rw [begin_none hr]
          exact PostR.pure ⟨rfl, rfl⟩ rfl
  | some R =>
    rw [hr] at rr
    have rl : R.length ≤ 24 := rulesB_le (rulesOf_iff.1 hr).1
    refine call_joined (r := .tup [.sl 0 0 R.length, .bool true]) (new := encR 0 R) rr rfl ?_
    unfold joinHp
    rw [encR_ren]
    simp only [q0, q1, q2, q3, q4, q5, q6, q7, q8, q9, zr0, zr1, zr2, zr3, zq0, zq1, zq2, zq3, zq4, Nat.reduceAdd, Nat.reduceSub, lenA, convA, indexA, indexS, Int.reduceToNat, cond_true, cond_false, ↓reduceIte, reduceCtorEq, Nat.reduceLT, Nat.reduceLeDiff, Nat.reduceMul, Nat.reduceEqDiff, exists_eq', implies_true, exists_true_left, tys0, tys1, tys2, und0, und1, md38, Tryz.ntmps38, Tryz.results38, ren, renM, renL]
    refine call_handed [1] (number_call s a5 b5 1 P5.1 (by omega) hs) (by decide) ⟨⟨rfl, rfl⟩, trivial⟩ rfl rfl rfl rfl (by simp [rdB, allBelow_cons, allBelow_nil, below, belowM, belowL]) ?_
    obtain ⟨P6, R6⟩ := P5.take (c := 1) (fun h => by have := P5.2.1 h; omega)
    have c6 := num_lt (tkS s a5 b5 1)
    have l6 : (256 : Nat) ^ (tkS s a5 b5 1).length ≤ 256 ^ 1 := Nat.pow_le_pow_right (by decide) (tkS_len s a5 b5 1)
    have N6 : tkB s a5 b5 1 = false → num (tkS s a5 b5 1) = cN s := fun h => by rw [(R6 h).1]; rfl
    have K6 : tkB s a5 b5 1 = false → b5 = false := fun h => (R6 h).2
    generalize tkS s a5 b5 1 = x6 at c6 l6 N6 R6
    generalize tkA s a5 b5 1 = a6 at P6
    generalize tkB s a5 b5 1 = b6 at P6 N6 R6 K6
    generalize num x6 = n6 at c6 N6
    clear R6
    simp only [q0, q1, q2, q3, q4, q5, q6, q7, q8, q9, zr0, zr1, zr2, zr3, zq0, zq1, zq2, zq3, zq4, Nat.reduceAdd, Nat.reduceSub, lenA, convA, indexA, indexS, Int.reduceToNat, cond_true, cond_false, ↓reduceIte, reduceCtorEq, Nat.reduceLT, Nat.reduceLeDiff, Nat.reduceMul, Nat.reduceEqDiff, exists_eq', implies_true, exists_true_left, tys0, tys1, tys2, und0, und1, md38, Tryz.ntmps38, Tryz.results38]
    refine go_round (md := md38) mixed (by kernel_rfl) (fun p : {p : Nat × Nat × Bool × List Int // p.1 ≤ n6 ∧ p.2.2.2.length = p.1 ∧ Pos s p.2.1 p.2.2.1 (pB s + 1 + 4 * p.1) ∧ (p.2.2.1 = false → b6 = false ∧ p.2.2.2 = incsOf s p.1)} => ⟨[.str s, .any, .ptr 0 0 0, .any, .any, .ptr 1 0 0, .ptr 2 0 0, .any, .bool true, .any, .any, .any, .any, .any, .any, .any, .any, .any, .any, .any, .any, .any, .any, .any, .any, .any, .any, .any, .any, .any, .any, .int .i64 ((n6 : Nat) : Int), .int .i64 ((p.1.1 : Nat) : Int), .any, .any, .any, .any, .any, .any, .any, .any, .any, .any, .any, .any, .any, .any, .any, .any, .any, .any, .any, .any, .any, .any, .any, .any, .any, .any, .any, .any, .any, .any, .any, .any, .any, .any, .any, .any, .any, .any, .any, .any, .any], ldS s nm R p.1.2.1 p.1.2.2.1 p.1.2.2.2⟩) (fun p => n6 - p.1.1) ⟨(0, a6, b6, []), Nat.zero_le _, rfl, P6, fun h => ⟨h, rfl⟩⟩ ?_ ?_
    · refine weak_same (by simp [ldS, ifsH, slV, savB, sav0, rdB]) ?_
      simp [SameTm]
    rintro ⟨⟨i, a7, b7, xs⟩, hi, hxl, P7, K7⟩
    dsimp only at hi hxl P7 K7
    have w7 : IntKind.i64.wrap ((i : Int) + 1) = ((i + 1 : Nat) : Int) := by rw [w64 (by omega) (by omega)]; omega
    by_cases hz : xs.length = 0
    case pos =>
      obtain rfl : xs = [] := List.length_eq_zero_iff.1 hz
      obtain rfl : i = 0 := hxl.symm
      have eh : ldS s nm R a7 b7 [] = (savB [sav0] :: rdB s a7 b7 :: savB [.agg [.str nm, .sl 3 0 R.length, .nils]] :: encR 3 R) := by simp [ldS, slV, ifsH]
      rw [eh]
      simp only [q0, q1, q2, q3, q4, q5, q6, q7, q8, q9, zr0, zr1, zr2, zr3, zq0, zq1, zq2, zq3, zq4, Nat.reduceAdd, Nat.reduceSub, lenA, convA, indexA, indexS, Int.reduceToNat, cond_true, cond_false, ↓reduceIte, reduceCtorEq, Nat.reduceLT, Nat.reduceLeDiff, Nat.reduceMul, Nat.reduceEqDiff, exists_eq', implies_true, exists_true_left, tys0, tys1, tys2, und0, und1, md38, Tryz.ntmps38, Tryz.results38, savB, sav0, encR_len]
      refine br_intro (fun g => ?_) (fun g => ?_) <;> simp only [q0, q1, q2, q3, q4, q5, q6, q7, q8, q9, zr0, zr1, zr2, zr3, zq0, zq1, zq2, zq3, zq4, Nat.reduceAdd, Nat.reduceSub, lenA, convA, indexA, indexS, Int.reduceToNat, cond_true, cond_false, ↓reduceIte, reduceCtorEq, Nat.reduceLT, Nat.reduceLeDiff, Nat.reduceMul, Nat.reduceEqDiff, exists_eq', implies_true, exists_true_left, tys0, tys1, tys2, und0, und1, md38, Tryz.ntmps38, Tryz.results38, savB, sav0, encR_len]
      · have g : 0 < n6 := by have := of_decide_eq_true g; omega
        refine go_calls mixed (fun hp => ∃ (a : Nat) (b : Bool), hp = (savB [sav0] :: rdB s a b :: savB [.agg [.str nm, .sl 3 0 R.length, .nils]] :: encR 3 R)) [0, 1, 2, 3, 4, 5, 6, 7] [0, 0, 0, 2, 0, 1, 1, 1] (by kernel_rfl) ?_
        refine oh_quiet (by rfl) (by rfl) (by rfl) ⟨_, _, rfl⟩ (v := .ptr 2 0 2) ?_ ?_
        · rintro hp ⟨a, b, rfl⟩
          simp only [q0, q1, q2, q3, q4, q5, q6, q7, q8, q9, zr0, zr1, zr2, zr3, zq0, zq1, zq2, zq3, zq4, Nat.reduceAdd, Nat.reduceSub, lenA, convA, indexA, indexS, Int.reduceToNat, cond_true, cond_false, ↓reduceIte, reduceCtorEq, Nat.reduceLT, Nat.reduceLeDiff, Nat.reduceMul, Nat.reduceEqDiff, exists_eq', implies_true, exists_true_left, tys0, tys1, tys2, und0, und1, md38, Tryz.ntmps38, Tryz.results38, savB, sav0, encR_len]
        simp only [q0, q1, q2, q3, q4, q5, q6, q7, q8, q9, zr0, zr1, zr2, zr3, zq0, zq1, zq2, zq3, zq4, Nat.reduceAdd, Nat.reduceSub, lenA, convA, indexA, indexS, Int.reduceToNat, cond_true, cond_false, ↓reduceIte, reduceCtorEq, Nat.reduceLT, Nat.reduceLeDiff, Nat.reduceMul, Nat.reduceEqDiff, exists_eq', implies_true, exists_true_left, tys0, tys1, tys2, und0, und1, md38, Tryz.ntmps38, Tryz.results38, savB, sav0, encR_len]
        refine oh_quiet (by rfl) (by rfl) (by rfl) ⟨_, _, rfl⟩ (v := .nils) ?_ ?_
        · rintro hp ⟨a, b, rfl⟩
          simp only [q0, q1, q2, q3, q4, q5, q6, q7, q8, q9, zr0, zr1, zr2, zr3, zq0, zq1, zq2, zq3, zq4, Nat.reduceAdd, Nat.reduceSub, lenA, convA, indexA, indexS, Int.reduceToNat, cond_true, cond_false, ↓reduceIte, reduceCtorEq, Nat.reduceLT, Nat.reduceLeDiff, Nat.reduceMul, Nat.reduceEqDiff, exists_eq', implies_true, exists_true_left, tys0, tys1, tys2, und0, und1, md38, Tryz.ntmps38, Tryz.results38, savB, sav0, encR_len]
        simp only [q0, q1, q2, q3, q4, q5, q6, q7, q8, q9, zr0, zr1, zr2, zr3, zq0, zq1, zq2, zq3, zq4, Nat.reduceAdd, Nat.reduceSub, lenA, convA, indexA, indexS, Int.reduceToNat, cond_true, cond_false, ↓reduceIte, reduceCtorEq, Nat.reduceLT, Nat.reduceLeDiff, Nat.reduceMul, Nat.reduceEqDiff, exists_eq', implies_true, exists_true_left, tys0, tys1, tys2, und0, und1, md38, Tryz.ntmps38, Tryz.results38, savB, sav0, encR_len]
        refine oh_quiet (by rfl) (by rfl) (by rfl) ⟨_, _, rfl⟩ (v := .ptr 1 0 0) ?_ ?_
        · rintro hp ⟨a, b, rfl⟩
          simp only [q0, q1, q2, q3, q4, q5, q6, q7, q8, q9, zr0, zr1, zr2, zr3, zq0, zq1, zq2, zq3, zq4, Nat.reduceAdd, Nat.reduceSub, lenA, convA, indexA, indexS, Int.reduceToNat, cond_true, cond_false, ↓reduceIte, reduceCtorEq, Nat.reduceLT, Nat.reduceLeDiff, Nat.reduceMul, Nat.reduceEqDiff, exists_eq', implies_true, exists_true_left, tys0, tys1, tys2, und0, und1, md38, Tryz.ntmps38, Tryz.results38, savB, sav0, encR_len]
        simp only [q0, q1, q2, q3, q4, q5, q6, q7, q8, q9, zr0, zr1, zr2, zr3, zq0, zq1, zq2, zq3, zq4, Nat.reduceAdd, Nat.reduceSub, lenA, convA, indexA, indexS, Int.reduceToNat, cond_true, cond_false, ↓reduceIte, reduceCtorEq, Nat.reduceLT, Nat.reduceLeDiff, Nat.reduceMul, Nat.reduceEqDiff, exists_eq', implies_true, exists_true_left, tys0, tys1, tys2, und0, und1, md38, Tryz.ntmps38, Tryz.results38, savB, sav0, encR_len]
        refine oh_call (by rfl) (by rfl) (by rfl) (by rfl) (by rfl) ?_
        simp only [q0, q1, q2, q3, q4, q5, q6, q7, q8, q9, zr0, zr1, zr2, zr3, zq0, zq1, zq2, zq3, zq4, Nat.reduceAdd, Nat.reduceSub, lenA, convA, indexA, indexS, Int.reduceToNat, cond_true, cond_false, ↓reduceIte, reduceCtorEq, Nat.reduceLT, Nat.reduceLeDiff, Nat.reduceMul, Nat.reduceEqDiff, exists_eq', implies_true, exists_true_left, tys0, tys1, tys2, und0, und1, md38, Tryz.ntmps38, Tryz.results38, savB, sav0, encR_len]
        refine call_handed [1] (number_call s a7 b7 4 P7.1 (by omega) hs) (by decide) ⟨⟨rfl, rfl⟩, trivial⟩ rfl rfl rfl rfl (by simp [rdB, allBelow_cons, allBelow_nil, below, belowM, belowL]) ?_
        obtain ⟨P8, R8⟩ := P7.take (c := 4) (fun h => by have := P7.2.1 h; have := N6 (K7 h).1; omega)
        have N8 : tkB s a7 b7 4 = false → num (tkS s a7 b7 4) = at4 s (pB s + 1 + 4 * 0) := fun h => by rw [(R8 h).1]; rfl
        have K8 : tkB s a7 b7 4 = false → b7 = false := fun h => (R8 h).2
        generalize tkS s a7 b7 4 = x8 at N8 R8
        generalize tkA s a7 b7 4 = a8 at P8
        generalize tkB s a7 b7 4 = b8 at P8 N8 R8 K8
        generalize num x8 = n8 at N8
        clear R8
        simp only [q0, q1, q2, q3, q4, q5, q6, q7, q8, q9, zr0, zr1, zr2, zr3, zq0, zq1, zq2, zq3, zq4, Nat.reduceAdd, Nat.reduceSub, lenA, convA, indexA, indexS, Int.reduceToNat, cond_true, cond_false, ↓reduceIte, reduceCtorEq, Nat.reduceLT, Nat.reduceLeDiff, Nat.reduceMul, Nat.reduceEqDiff, exists_eq', implies_true, exists_true_left, tys0, tys1, tys2, und0, und1, md38, Tryz.ntmps38, Tryz.results38, savB, sav0, encR_len]
        refine ⟨⟨_, _, rfl⟩, ?_⟩
        refine oh_fresh (by rfl) (by rfl) (by rfl) ⟨_, _, rfl⟩ { ty := 2, w := 1, els := [.int .i64 ((n8 : Nat) : Int)] } 1 (.sl 0 0 1) rfl rfl rfl ?_ ?_ ?_
        · rintro hp ⟨a, b, rfl⟩
          exact ld_flat (fun q hq => encR_flat (by rw [encR_len]; omega) q hq) (by simp [below, belowM, belowL, encR_len]; try omega)
        · rintro hp ⟨a, b, rfl⟩
          simp only [q0, q1, q2, q3, q4, q5, q6, q7, q8, q9, zr0, zr1, zr2, zr3, zq0, zq1, zq2, zq3, zq4, Nat.reduceAdd, Nat.reduceSub, lenA, convA, indexA, indexS, Int.reduceToNat, cond_true, cond_false, ↓reduceIte, reduceCtorEq, Nat.reduceLT, Nat.reduceLeDiff, Nat.reduceMul, Nat.reduceEqDiff, exists_eq', implies_true, exists_true_left, tys0, tys1, tys2, und0, und1, md38, Tryz.ntmps38, Tryz.results38, savB, sav0, encR_len]
          try rfl
        rw [show view 1 [({ ty := 2, w := 1, els := [.int .i64 ((n8 : Nat) : Int)] } : Blk)] (.sl 0 0 1) = .ro [.int .i64 ((n8 : Nat) : Int)] from by simp [view_sl, view_int]]
        simp only [q0, q1, q2, q3, q4, q5, q6, q7, q8, q9, zr0, zr1, zr2, zr3, zq0, zq1, zq2, zq3, zq4, Nat.reduceAdd, Nat.reduceSub, lenA, convA, indexA, indexS, Int.reduceToNat, cond_true, cond_false, ↓reduceIte, reduceCtorEq, Nat.reduceLT, Nat.reduceLeDiff, Nat.reduceMul, Nat.reduceEqDiff, exists_eq', implies_true, exists_true_left, tys0, tys1, tys2, und0, und1, md38, Tryz.ntmps38, Tryz.results38, savB, sav0, encR_len]
        refine oh_one (by rfl) (by rfl) (by rfl) ?_
        simp only [q0, q1, q2, q3, q4, q5, q6, q7, q8, q9, zr0, zr1, zr2, zr3, zq0, zq1, zq2, zq3, zq4, Nat.reduceAdd, Nat.reduceSub, lenA, convA, indexA, indexS, Int.reduceToNat, cond_true, cond_false, ↓reduceIte, reduceCtorEq, Nat.reduceLT, Nat.reduceLeDiff, Nat.reduceMul, Nat.reduceEqDiff, exists_eq', implies_true, exists_true_left, tys0, tys1, tys2, und0, und1, md38, Tryz.ntmps38, Tryz.results38, savB, sav0, encR_len, encR_last, encR_last_set, allW_int, fits, List.isEmpty_cons, brk_false, Nat.reduceMul]
        skip
        refine oh_one (by rfl) (by rfl) (by rfl) ?_
        simp only [q0, q1, q2, q3, q4, q5, q6, q7, q8, q9, zr0, zr1, zr2, zr3, zq0, zq1, zq2, zq3, zq4, Nat.reduceAdd, Nat.reduceSub, lenA, convA, indexA, indexS, Int.reduceToNat, cond_true, cond_false, ↓reduceIte, reduceCtorEq, Nat.reduceLT, Nat.reduceLeDiff, Nat.reduceMul, Nat.reduceEqDiff, exists_eq', implies_true, exists_true_left, tys0, tys1, tys2, und0, und1, md38, Tryz.ntmps38, Tryz.results38, savB, sav0, encR_len]
        refine oh_one (by rfl) (by rfl) (by rfl) ?_
        simp only [q0, q1, q2, q3, q4, q5, q6, q7, q8, q9, zr0, zr1, zr2, zr3, zq0, zq1, zq2, zq3, zq4, Nat.reduceAdd, Nat.reduceSub, lenA, convA, indexA, indexS, Int.reduceToNat, cond_true, cond_false, ↓reduceIte, reduceCtorEq, Nat.reduceLT, Nat.reduceLeDiff, Nat.reduceMul, Nat.reduceEqDiff, exists_eq', implies_true, exists_true_left, tys0, tys1, tys2, und0, und1, md38, Tryz.ntmps38, Tryz.results38, savB, sav0, encR_len]
        refine oh_nil ?_
        simp only [q0, q1, q2, q3, q4, q5, q6, q7, q8, q9, zr0, zr1, zr2, zr3, zq0, zq1, zq2, zq3, zq4, Nat.reduceAdd, Nat.reduceSub, lenA, convA, indexA, indexS, Int.reduceToNat, cond_true, cond_false, ↓reduceIte, reduceCtorEq, Nat.reduceLT, Nat.reduceLeDiff, Nat.reduceMul, Nat.reduceEqDiff, exists_eq', implies_true, exists_true_left, tys0, tys1, tys2, und0, und1, md38, Tryz.ntmps38, Tryz.results38, savB, sav0, encR_len, w7]
        have P9 : Pos s a8 b8 (pB s + 1 + 4 * (0 + 1)) := ⟨P8.1, fun h => (by have := P8.2.1 h; omega), P8.2.2⟩
        have K9 : b8 = false → b6 = false ∧ [] ++ [((n8 : Nat) : Int)] = incsOf s (0 + 1) := fun h => ⟨(K7 (K8 h)).1, by rw [incsOf_succ, ← (K7 (K8 h)).2, N8 h]⟩
        refine ⟨⟨(0 + 1, a8, b8, [] ++ [((n8 : Nat) : Int)]), by show 0 + 1 ≤ n6; omega, by simp [hxl], P9, K9⟩, by show n6 - (0 + 1) < n6 - 0; omega, ?_⟩
        show Weak 0 _ ⟨_, ldS s nm R a8 b8 ([] ++ [((n8 : Nat) : Int)])⟩
        rw [show ldS s nm R a8 b8 ([] ++ [((n8 : Nat) : Int)]) = (savB [sav0] :: rdB s a8 b8 :: savB [.agg [.str nm, .sl 3 0 R.length, .sl (R.length + 4) 0 (0 + 1)]] :: (encR 3 R ++ [intB ([] ++ [((n8 : Nat) : Int)])])) by
          unfold ldS ifsH slV
          rw [if_neg (by simp), if_neg (by simp)]
          simp [hxl]]
        refine weak_same rfl ?_
        simp [SameTm]
      · have g : 0 = n6 := by have := of_decide_eq_false g; omega
        refine call_handed [1] (take_call s a7 b7 2 P7.1 (by omega) hs) (by decide) ⟨⟨rfl, rfl⟩, trivial⟩ rfl rfl rfl rfl (by simp [rdB, allBelow_cons, allBelow_nil, below, belowM, belowL]) ?_
        obtain ⟨P8, R8⟩ := P7.take (c := 2) (fun h => by have := P7.2.1 h; have := N6 (K7 h).1; omega)
        have K8 : tkB s a7 b7 2 = false → b7 = false := fun h => (R8 h).2
        clear R8
        generalize tkS s a7 b7 2 = x8
        generalize tkA s a7 b7 2 = a8 at P8
        generalize tkB s a7 b7 2 = b8 at P8 K8
        simp only [q0, q1, q2, q3, q4, q5, q6, q7, q8, q9, zr0, zr1, zr2, zr3, zq0, zq1, zq2, zq3, zq4, Nat.reduceAdd, Nat.reduceSub, lenA, convA, indexA, indexS, Int.reduceToNat, cond_true, cond_false, ↓reduceIte, reduceCtorEq, Nat.reduceLT, Nat.reduceLeDiff, Nat.reduceMul, Nat.reduceEqDiff, exists_eq', implies_true, exists_true_left, tys0, tys1, tys2, und0, und1, md38, Tryz.ntmps38, Tryz.results38, savB, sav0, encR_len, rdB]
        cases b8 with
        | true =>
          simp only [q0, q1, q2, q3, q4, q5, q6, q7, q8, q9, zr0, zr1, zr2, zr3, zq0, zq1, zq2, zq3, zq4, Nat.reduceAdd, Nat.reduceSub, lenA, convA, indexA, indexS, Int.reduceToNat, cond_true, cond_false, ↓reduceIte, reduceCtorEq, Nat.reduceLT, Nat.reduceLeDiff, Nat.reduceMul, Nat.reduceEqDiff, exists_eq', implies_true, exists_true_left, tys0, tys1, tys2, und0, und1, md38, Tryz.ntmps38, Tryz.results38, savB, sav0, encR_len, rdB]
          rw [begin_short (P8.2.2 rfl)]
          exact PostR.pure ⟨rfl, rfl⟩ rfl
        | false =>
          have k7 := K8 rfl
          obtain ⟨k6, hxs⟩ := K7 k7
          have k5 := K6 k6
          have htx := N5 k5
          have hnm := K5 k5
          have hn6 := N6 k6
          have ha8 : a8 = size s := by have := P8.2.1 rfl; omega
          rw [htx] at hr
          simp only [q0, q1, q2, q3, q4, q5, q6, q7, q8, q9, zr0, zr1, zr2, zr3, zq0, zq1, zq2, zq3, zq4, Nat.reduceAdd, Nat.reduceSub, lenA, convA, indexA, indexS, Int.reduceToNat, cond_true, cond_false, ↓reduceIte, reduceCtorEq, Nat.reduceLT, Nat.reduceLeDiff, Nat.reduceMul, Nat.reduceEqDiff, exists_eq', implies_true, exists_true_left, tys0, tys1, tys2, und0, und1, md38, Tryz.ntmps38, Tryz.results38, savB, sav0, encR_len, rdB]
          have sx : savedOf s R = (nm, R, []) := by unfold savedOf; rw [← hnm, ← hn6, ← g, hxs]
          have bs := begin_some (s := s) (by have := P8.1; omega) hr
          have sz := sizS_small hs (pA_le s) hr
          rw [sx] at bs sz
          have vp : ∀ a b : Blk, _ := fun a b => sav_lent (nm := nm) (xs := []) (v := .nils) (hasR_30 a b (savB [.agg [.str nm, .sl 3 0 R.length, .nils]]) R) (rfl)
          refine callr_lentN 4 4 (vp _ _) (validSaved_call (nm, R, []) sz) rfl rfl ?_
          simp only [q0, q1, q2, q3, q4, q5, q6, q7, q8, q9, zr0, zr1, zr2, zr3, zq0, zq1, zq2, zq3, zq4, Nat.reduceAdd, Nat.reduceSub, lenA, convA, indexA, indexS, Int.reduceToNat, cond_true, cond_false, ↓reduceIte, reduceCtorEq, Nat.reduceLT, Nat.reduceLeDiff, Nat.reduceMul, Nat.reduceEqDiff, exists_eq', implies_true, exists_true_left, tys0, tys1, tys2, und0, und1, md38, Tryz.ntmps38, Tryz.results38, savB, sav0, encR_len, rdB]
          refine br_intro (fun v => ?_) (fun v => ?_) <;> simp only [q0, q1, q2, q3, q4, q5, q6, q7, q8, q9, zr0, zr1, zr2, zr3, zq0, zq1, zq2, zq3, zq4, Nat.reduceAdd, Nat.reduceSub, lenA, convA, indexA, indexS, Int.reduceToNat, cond_true, cond_false, ↓reduceIte, reduceCtorEq, Nat.reduceLT, Nat.reduceLeDiff, Nat.reduceMul, Nat.reduceEqDiff, exists_eq', implies_true, exists_true_left, tys0, tys1, tys2, und0, und1, md38, Tryz.ntmps38, Tryz.results38, savB, sav0, encR_len, rdB]
          · exact absurd (validB_pos v) (by simp)
          · rw [bs, if_neg (fun h => by rw [h.1] at v; cases v)]
            exact PostR.pure ⟨rfl, rfl⟩ rfl
    case neg =>
      have eh : ldS s nm R a7 b7 xs = (savB [sav0] :: rdB s a7 b7 :: savB [.agg [.str nm, .sl 3 0 R.length, .sl (R.length + 4) 0 i]] :: (encR 3 R ++ [intB xs])) := by
        unfold ldS ifsH slV
        rw [if_neg hz, if_neg hz, hxl]
        try simp
      rw [eh]
      simp only [q0, q1, q2, q3, q4, q5, q6, q7, q8, q9, zr0, zr1, zr2, zr3, zq0, zq1, zq2, zq3, zq4, Nat.reduceAdd, Nat.reduceSub, lenA, convA, indexA, indexS, Int.reduceToNat, cond_true, cond_false, ↓reduceIte, reduceCtorEq, Nat.reduceLT, Nat.reduceLeDiff, Nat.reduceMul, Nat.reduceEqDiff, exists_eq', implies_true, exists_true_left, tys0, tys1, tys2, und0, und1, md38, Tryz.ntmps38, Tryz.results38, savB, sav0, encR_len]
      refine br_intro (fun g => ?_) (fun g => ?_) <;> simp only [q0, q1, q2, q3, q4, q5, q6, q7, q8, q9, zr0, zr1, zr2, zr3, zq0, zq1, zq2, zq3, zq4, Nat.reduceAdd, Nat.reduceSub, lenA, convA, indexA, indexS, Int.reduceToNat, cond_true, cond_false, ↓reduceIte, reduceCtorEq, Nat.reduceLT, Nat.reduceLeDiff, Nat.reduceMul, Nat.reduceEqDiff, exists_eq', implies_true, exists_true_left, tys0, tys1, tys2, und0, und1, md38, Tryz.ntmps38, Tryz.results38, savB, sav0, encR_len]
      · have g : i < n6 := by have := of_decide_eq_true g; omega
        refine go_calls mixed (fun hp => ∃ (a : Nat) (b : Bool), hp = (savB [sav0] :: rdB s a b :: savB [.agg [.str nm, .sl 3 0 R.length, .sl (R.length + 4) 0 i]] :: (encR 3 R ++ [intB xs]))) [0, 1, 2, 3, 4, 5, 6, 7] [0, 0, 0, 2, 0, 1, 1, 1] (by kernel_rfl) ?_
        refine oh_quiet (by rfl) (by rfl) (by rfl) ⟨_, _, rfl⟩ (v := .ptr 2 0 2) ?_ ?_
        · rintro hp ⟨a, b, rfl⟩
          simp only [q0, q1, q2, q3, q4, q5, q6, q7, q8, q9, zr0, zr1, zr2, zr3, zq0, zq1, zq2, zq3, zq4, Nat.reduceAdd, Nat.reduceSub, lenA, convA, indexA, indexS, Int.reduceToNat, cond_true, cond_false, ↓reduceIte, reduceCtorEq, Nat.reduceLT, Nat.reduceLeDiff, Nat.reduceMul, Nat.reduceEqDiff, exists_eq', implies_true, exists_true_left, tys0, tys1, tys2, und0, und1, md38, Tryz.ntmps38, Tryz.results38, savB, sav0, encR_len]
        simp only [q0, q1, q2, q3, q4, q5, q6, q7, q8, q9, zr0, zr1, zr2, zr3, zq0, zq1, zq2, zq3, zq4, Nat.reduceAdd, Nat.reduceSub, lenA, convA, indexA, indexS, Int.reduceToNat, cond_true, cond_false, ↓reduceIte, reduceCtorEq, Nat.reduceLT, Nat.reduceLeDiff, Nat.reduceMul, Nat.reduceEqDiff, exists_eq', implies_true, exists_true_left, tys0, tys1, tys2, und0, und1, md38, Tryz.ntmps38, Tryz.results38, savB, sav0, encR_len]
        refine oh_quiet (by rfl) (by rfl) (by rfl) ⟨_, _, rfl⟩ (v := .sl (R.length + 4) 0 i) ?_ ?_
        · rintro hp ⟨a, b, rfl⟩
          simp only [q0, q1, q2, q3, q4, q5, q6, q7, q8, q9, zr0, zr1, zr2, zr3, zq0, zq1, zq2, zq3, zq4, Nat.reduceAdd, Nat.reduceSub, lenA, convA, indexA, indexS, Int.reduceToNat, cond_true, cond_false, ↓reduceIte, reduceCtorEq, Nat.reduceLT, Nat.reduceLeDiff, Nat.reduceMul, Nat.reduceEqDiff, exists_eq', implies_true, exists_true_left, tys0, tys1, tys2, und0, und1, md38, Tryz.ntmps38, Tryz.results38, savB, sav0, encR_len]
        simp only [q0, q1, q2, q3, q4, q5, q6, q7, q8, q9, zr0, zr1, zr2, zr3, zq0, zq1, zq2, zq3, zq4, Nat.reduceAdd, Nat.reduceSub, lenA, convA, indexA, indexS, Int.reduceToNat, cond_true, cond_false, ↓reduceIte, reduceCtorEq, Nat.reduceLT, Nat.reduceLeDiff, Nat.reduceMul, Nat.reduceEqDiff, exists_eq', implies_true, exists_true_left, tys0, tys1, tys2, und0, und1, md38, Tryz.ntmps38, Tryz.results38, savB, sav0, encR_len]
        refine oh_quiet (by rfl) (by rfl) (by rfl) ⟨_, _, rfl⟩ (v := .ptr 1 0 0) ?_ ?_
        · rintro hp ⟨a, b, rfl⟩
          simp only [q0, q1, q2, q3, q4, q5, q6, q7, q8, q9, zr0, zr1, zr2, zr3, zq0, zq1, zq2, zq3, zq4, Nat.reduceAdd, Nat.reduceSub, lenA, convA, indexA, indexS, Int.reduceToNat, cond_true, cond_false, ↓reduceIte, reduceCtorEq, Nat.reduceLT, Nat.reduceLeDiff, Nat.reduceMul, Nat.reduceEqDiff, exists_eq', implies_true, exists_true_left, tys0, tys1, tys2, und0, und1, md38, Tryz.ntmps38, Tryz.results38, savB, sav0, encR_len]
        simp only [q0, q1, q2, q3, q4, q5, q6, q7, q8, q9, zr0, zr1, zr2, zr3, zq0, zq1, zq2, zq3, zq4, Nat.reduceAdd, Nat.reduceSub, lenA, convA, indexA, indexS, Int.reduceToNat, cond_true, cond_false, ↓reduceIte, reduceCtorEq, Nat.reduceLT, Nat.reduceLeDiff, Nat.reduceMul, Nat.reduceEqDiff, exists_eq', implies_true, exists_true_left, tys0, tys1, tys2, und0, und1, md38, Tryz.ntmps38, Tryz.results38, savB, sav0, encR_len]
        refine oh_call (by rfl) (by rfl) (by rfl) (by rfl) (by rfl) ?_
        simp only [q0, q1, q2, q3, q4, q5, q6, q7, q8, q9, zr0, zr1, zr2, zr3, zq0, zq1, zq2, zq3, zq4, Nat.reduceAdd, Nat.reduceSub, lenA, convA, indexA, indexS, Int.reduceToNat, cond_true, cond_false, ↓reduceIte, reduceCtorEq, Nat.reduceLT, Nat.reduceLeDiff, Nat.reduceMul, Nat.reduceEqDiff, exists_eq', implies_true, exists_true_left, tys0, tys1, tys2, und0, und1, md38, Tryz.ntmps38, Tryz.results38, savB, sav0, encR_len]
        refine call_handed [1] (number_call s a7 b7 4 P7.1 (by omega) hs) (by decide) ⟨⟨rfl, rfl⟩, trivial⟩ rfl rfl rfl rfl (by simp [rdB, allBelow_cons, allBelow_nil, below, belowM, belowL]) ?_
        obtain ⟨P8, R8⟩ := P7.take (c := 4) (fun h => by have := P7.2.1 h; have := N6 (K7 h).1; omega)
        have N8 : tkB s a7 b7 4 = false → num (tkS s a7 b7 4) = at4 s (pB s + 1 + 4 * i) := fun h => by rw [(R8 h).1]; rfl
        have K8 : tkB s a7 b7 4 = false → b7 = false := fun h => (R8 h).2
        generalize tkS s a7 b7 4 = x8 at N8 R8
        generalize tkA s a7 b7 4 = a8 at P8
        generalize tkB s a7 b7 4 = b8 at P8 N8 R8 K8
        generalize num x8 = n8 at N8
        clear R8
        simp only [q0, q1, q2, q3, q4, q5, q6, q7, q8, q9, zr0, zr1, zr2, zr3, zq0, zq1, zq2, zq3, zq4, Nat.reduceAdd, Nat.reduceSub, lenA, convA, indexA, indexS, Int.reduceToNat, cond_true, cond_false, ↓reduceIte, reduceCtorEq, Nat.reduceLT, Nat.reduceLeDiff, Nat.reduceMul, Nat.reduceEqDiff, exists_eq', implies_true, exists_true_left, tys0, tys1, tys2, und0, und1, md38, Tryz.ntmps38, Tryz.results38, savB, sav0, encR_len]
        refine ⟨⟨_, _, rfl⟩, ?_⟩
        refine oh_fresh (by rfl) (by rfl) (by rfl) ⟨_, _, rfl⟩ { ty := 2, w := 1, els := [.int .i64 ((n8 : Nat) : Int)] } 1 (.sl 0 0 1) rfl rfl rfl ?_ ?_ ?_
        · rintro hp ⟨a, b, rfl⟩
          exact ld_flat (fun q hq => by
            rcases List.mem_append.1 hq with m | m
            · exact encR_flat (by rw [List.length_append, encR_len]; omega) q m
            · rw [List.mem_singleton.1 m]; exact ints_below _ _) (by simp [below, belowM, belowL, encR_len]; try omega)
        · rintro hp ⟨a, b, rfl⟩
          simp only [q0, q1, q2, q3, q4, q5, q6, q7, q8, q9, zr0, zr1, zr2, zr3, zq0, zq1, zq2, zq3, zq4, Nat.reduceAdd, Nat.reduceSub, lenA, convA, indexA, indexS, Int.reduceToNat, cond_true, cond_false, ↓reduceIte, reduceCtorEq, Nat.reduceLT, Nat.reduceLeDiff, Nat.reduceMul, Nat.reduceEqDiff, exists_eq', implies_true, exists_true_left, tys0, tys1, tys2, und0, und1, md38, Tryz.ntmps38, Tryz.results38, savB, sav0, encR_len]
          try rfl
        rw [show view 1 [({ ty := 2, w := 1, els := [.int .i64 ((n8 : Nat) : Int)] } : Blk)] (.sl 0 0 1) = .ro [.int .i64 ((n8 : Nat) : Int)] from by simp [view_sl, view_int]]
        simp only [q0, q1, q2, q3, q4, q5, q6, q7, q8, q9, zr0, zr1, zr2, zr3, zq0, zq1, zq2, zq3, zq4, Nat.reduceAdd, Nat.reduceSub, lenA, convA, indexA, indexS, Int.reduceToNat, cond_true, cond_false, ↓reduceIte, reduceCtorEq, Nat.reduceLT, Nat.reduceLeDiff, Nat.reduceMul, Nat.reduceEqDiff, exists_eq', implies_true, exists_true_left, tys0, tys1, tys2, und0, und1, md38, Tryz.ntmps38, Tryz.results38, savB, sav0, encR_len]
        refine oh_one (by rfl) (by rfl) (by rfl) ?_
        simp only [q0, q1, q2, q3, q4, q5, q6, q7, q8, q9, zr0, zr1, zr2, zr3, zq0, zq1, zq2, zq3, zq4, Nat.reduceAdd, Nat.reduceSub, lenA, convA, indexA, indexS, Int.reduceToNat, cond_true, cond_false, ↓reduceIte, reduceCtorEq, Nat.reduceLT, Nat.reduceLeDiff, Nat.reduceMul, Nat.reduceEqDiff, exists_eq', implies_true, exists_true_left, tys0, tys1, tys2, und0, und1, md38, Tryz.ntmps38, Tryz.results38, savB, sav0, encR_len, encR_last, encR_last_set, allW_int, fits, List.isEmpty_cons, brk_false, Nat.reduceMul]
        refine ⟨rfl, rfl, by rw [show (intB xs).els = ints xs from rfl, ints_len, hxl], rfl, by omega, ?_⟩
        rw [List.map_append, encR_kill (R.length + 4) 3 R (by omega)]
        refine oh_one (by rfl) (by rfl) (by rfl) ?_
        simp only [q0, q1, q2, q3, q4, q5, q6, q7, q8, q9, zr0, zr1, zr2, zr3, zq0, zq1, zq2, zq3, zq4, Nat.reduceAdd, Nat.reduceSub, lenA, convA, indexA, indexS, Int.reduceToNat, cond_true, cond_false, ↓reduceIte, reduceCtorEq, Nat.reduceLT, Nat.reduceLeDiff, Nat.reduceMul, Nat.reduceEqDiff, exists_eq', implies_true, exists_true_left, tys0, tys1, tys2, und0, und1, md38, Tryz.ntmps38, Tryz.results38, savB, sav0, encR_len]
        refine oh_one (by rfl) (by rfl) (by rfl) ?_
        simp only [q0, q1, q2, q3, q4, q5, q6, q7, q8, q9, zr0, zr1, zr2, zr3, zq0, zq1, zq2, zq3, zq4, Nat.reduceAdd, Nat.reduceSub, lenA, convA, indexA, indexS, Int.reduceToNat, cond_true, cond_false, ↓reduceIte, reduceCtorEq, Nat.reduceLT, Nat.reduceLeDiff, Nat.reduceMul, Nat.reduceEqDiff, exists_eq', implies_true, exists_true_left, tys0, tys1, tys2, und0, und1, md38, Tryz.ntmps38, Tryz.results38, savB, sav0, encR_len]
        refine oh_nil ?_
        simp only [q0, q1, q2, q3, q4, q5, q6, q7, q8, q9, zr0, zr1, zr2, zr3, zq0, zq1, zq2, zq3, zq4, Nat.reduceAdd, Nat.reduceSub, lenA, convA, indexA, indexS, Int.reduceToNat, cond_true, cond_false, ↓reduceIte, reduceCtorEq, Nat.reduceLT, Nat.reduceLeDiff, Nat.reduceMul, Nat.reduceEqDiff, exists_eq', implies_true, exists_true_left, tys0, tys1, tys2, und0, und1, md38, Tryz.ntmps38, Tryz.results38, savB, sav0, encR_len, w7]
        have P9 : Pos s a8 b8 (pB s + 1 + 4 * (i + 1)) := ⟨P8.1, fun h => (by have := P8.2.1 h; omega), P8.2.2⟩
        have K9 : b8 = false → b6 = false ∧ xs ++ [((n8 : Nat) : Int)] = incsOf s (i + 1) := fun h => ⟨(K7 (K8 h)).1, by rw [incsOf_succ, ← (K7 (K8 h)).2, N8 h]⟩
        refine ⟨⟨(i + 1, a8, b8, xs ++ [((n8 : Nat) : Int)]), by show i + 1 ≤ n6; omega, by simp [hxl], P9, K9⟩, by show n6 - (i + 1) < n6 - i; omega, ?_⟩
        show Weak 0 _ ⟨_, ldS s nm R a8 b8 (xs ++ [((n8 : Nat) : Int)])⟩
        rw [show ldS s nm R a8 b8 (xs ++ [((n8 : Nat) : Int)]) = (savB [sav0] :: rdB s a8 b8 :: savB [.agg [.str nm, .sl 3 0 R.length, .sl (R.length + 4) 0 (i + 1)]] :: (encR 3 R ++ [intB (xs ++ [((n8 : Nat) : Int)])])) by
          unfold ldS ifsH slV
          rw [if_neg (by simp), if_neg (by simp)]
          simp [hxl]]
        rw [intB_more]
        refine weak_same rfl ?_
        simp [SameTm]
      · have g : i = n6 := by have := of_decide_eq_false g; omega
        refine call_handed [1] (take_call s a7 b7 2 P7.1 (by omega) hs) (by decide) ⟨⟨rfl, rfl⟩, trivial⟩ rfl rfl rfl rfl (by simp [rdB, allBelow_cons, allBelow_nil, below, belowM, belowL]) ?_
        obtain ⟨P8, R8⟩ := P7.take (c := 2) (fun h => by have := P7.2.1 h; have := N6 (K7 h).1; omega)
        have K8 : tkB s a7 b7 2 = false → b7 = false := fun h => (R8 h).2
        clear R8
        generalize tkS s a7 b7 2 = x8
        generalize tkA s a7 b7 2 = a8 at P8
        generalize tkB s a7 b7 2 = b8 at P8 K8
        simp only [q0, q1, q2, q3, q4, q5, q6, q7, q8, q9, zr0, zr1, zr2, zr3, zq0, zq1, zq2, zq3, zq4, Nat.reduceAdd, Nat.reduceSub, lenA, convA, indexA, indexS, Int.reduceToNat, cond_true, cond_false, ↓reduceIte, reduceCtorEq, Nat.reduceLT, Nat.reduceLeDiff, Nat.reduceMul, Nat.reduceEqDiff, exists_eq', implies_true, exists_true_left, tys0, tys1, tys2, und0, und1, md38, Tryz.ntmps38, Tryz.results38, savB, sav0, encR_len, rdB]
        cases b8 with
        | true =>
          simp only [q0, q1, q2, q3, q4, q5, q6, q7, q8, q9, zr0, zr1, zr2, zr3, zq0, zq1, zq2, zq3, zq4, Nat.reduceAdd, Nat.reduceSub, lenA, convA, indexA, indexS, Int.reduceToNat, cond_true, cond_false, ↓reduceIte, reduceCtorEq, Nat.reduceLT, Nat.reduceLeDiff, Nat.reduceMul, Nat.reduceEqDiff, exists_eq', implies_true, exists_true_left, tys0, tys1, tys2, und0, und1, md38, Tryz.ntmps38, Tryz.results38, savB, sav0, encR_len, rdB]
          rw [begin_short (P8.2.2 rfl)]
          exact PostR.pure ⟨rfl, rfl⟩ rfl
        | false =>
          have k7 := K8 rfl
          obtain ⟨k6, hxs⟩ := K7 k7
          have k5 := K6 k6
          have htx := N5 k5
          have hnm := K5 k5
          have hn6 := N6 k6
          have ha8 : a8 = size s := by have := P8.2.1 rfl; omega
          rw [htx] at hr
          simp only [q0, q1, q2, q3, q4, q5, q6, q7, q8, q9, zr0, zr1, zr2, zr3, zq0, zq1, zq2, zq3, zq4, Nat.reduceAdd, Nat.reduceSub, lenA, convA, indexA, indexS, Int.reduceToNat, cond_true, cond_false, ↓reduceIte, reduceCtorEq, Nat.reduceLT, Nat.reduceLeDiff, Nat.reduceMul, Nat.reduceEqDiff, exists_eq', implies_true, exists_true_left, tys0, tys1, tys2, und0, und1, md38, Tryz.ntmps38, Tryz.results38, savB, sav0, encR_len, rdB]
          have sx : savedOf s R = (nm, R, xs) := by unfold savedOf; rw [← hnm, ← hn6, ← g, hxs]
          have bs := begin_some (s := s) (by have := P8.1; omega) hr
          have sz := sizS_small hs (pA_le s) hr
          rw [sx] at bs sz
          have vp : ∀ a b : Blk, _ := fun a b => sav_lent (nm := nm) (xs := xs) (v := .sl (R.length + 4) 0 i) (hasR_3 a b (savB [.agg [.str nm, .sl 3 0 R.length, .sl (R.length + 4) 0 i]]) R [intB xs]) (incs_lent _ _ _ R xs hxl)
          refine callr_lentN 4 4 (vp _ _) (validSaved_call (nm, R, xs) sz) rfl rfl ?_
          simp only [q0, q1, q2, q3, q4, q5, q6, q7, q8, q9, zr0, zr1, zr2, zr3, zq0, zq1, zq2, zq3, zq4, Nat.reduceAdd, Nat.reduceSub, lenA, convA, indexA, indexS, Int.reduceToNat, cond_true, cond_false, ↓reduceIte, reduceCtorEq, Nat.reduceLT, Nat.reduceLeDiff, Nat.reduceMul, Nat.reduceEqDiff, exists_eq', implies_true, exists_true_left, tys0, tys1, tys2, und0, und1, md38, Tryz.ntmps38, Tryz.results38, savB, sav0, encR_len, rdB]
          refine br_intro (fun v => ?_) (fun v => ?_) <;> simp only [q0, q1, q2, q3, q4, q5, q6, q7, q8, q9, zr0, zr1, zr2, zr3, zq0, zq1, zq2, zq3, zq4, Nat.reduceAdd, Nat.reduceSub, lenA, convA, indexA, indexS, Int.reduceToNat, cond_true, cond_false, ↓reduceIte, reduceCtorEq, Nat.reduceLT, Nat.reduceLeDiff, Nat.reduceMul, Nat.reduceEqDiff, exists_eq', implies_true, exists_true_left, tys0, tys1, tys2, und0, und1, md38, Tryz.ntmps38, Tryz.results38, savB, sav0, encR_len, rdB]
          · refine callr_lentN 4 4 (vp _ _) (stored_call (nm, R, xs) (okS_of v)) rfl rfl ?_
            simp only [q0, q1, q2, q3, q4, q5, q6, q7, q8, q9, zr0, zr1, zr2, zr3, zq0, zq1, zq2, zq3, zq4, Nat.reduceAdd, Nat.reduceSub, lenA, convA, indexA, indexS, Int.reduceToNat, cond_true, cond_false, ↓reduceIte, reduceCtorEq, Nat.reduceLT, Nat.reduceLeDiff, Nat.reduceMul, Nat.reduceEqDiff, exists_eq', implies_true, exists_true_left, tys0, tys1, tys2, und0, und1, md38, Tryz.ntmps38, Tryz.results38, savB, sav0, encR_len, rdB]
            have h8 := P8.1
            refine ⟨by omega, by omega, ?_⟩
            subst ha8
            subst hxl
            refine br_intro (fun t => ?_) (fun t => ?_) <;> simp only [q0, q1, q2, q3, q4, q5, q6, q7, q8, q9, zr0, zr1, zr2, zr3, zq0, zq1, zq2, zq3, zq4, Nat.reduceAdd, Nat.reduceSub, lenA, convA, indexA, indexS, Int.reduceToNat, cond_true, cond_false, ↓reduceIte, reduceCtorEq, Nat.reduceLT, Nat.reduceLeDiff, Nat.reduceMul, Nat.reduceEqDiff, exists_eq', implies_true, exists_true_left, tys0, tys1, tys2, und0, und1, md38, Tryz.ntmps38, Tryz.results38, savB, sav0, encR_len, rdB]
            · have t : storeT (nm, R, xs) = s.take (size s) := by simpa using t
              refine go_late mixed 2 0 (by rfl) [0, 1, 2, 3, 4, 5, 6, 7] [false, false, false, false, false, true, false, false] [false, true, true, true, true, false, false, false] (by kernel_rfl) ?_
              refine ol_quiet (by rfl) (by rfl) (by rfl) (by rfl) ?_
              simp only [q0, q1, q2, q3, q4, q5, q6, q7, q8, q9, zr0, zr1, zr2, zr3, zq0, zq1, zq2, zq3, zq4, Nat.reduceAdd, Nat.reduceSub, lenA, convA, indexA, indexS, Int.reduceToNat, cond_true, cond_false, ↓reduceIte, reduceCtorEq, Nat.reduceLT, Nat.reduceLeDiff, Nat.reduceMul, Nat.reduceEqDiff, exists_eq', implies_true, exists_true_left, tys0, tys1, tys2, und0, und1, md38, Tryz.ntmps38, Tryz.results38, savB, sav0, encR_len, rdB]
              refine ol_blind (by rfl) (by rfl) (by rfl) (v := .ptr 1 0 0) (fun hp => ?_) ?_
              · simp only [q0, q1, q2, q3, q4, q5, q6, q7, q8, q9, zr0, zr1, zr2, zr3, zq0, zq1, zq2, zq3, zq4, Nat.reduceAdd, Nat.reduceSub, lenA, convA, indexA, indexS, Int.reduceToNat, cond_true, cond_false, ↓reduceIte, reduceCtorEq, Nat.reduceLT, Nat.reduceLeDiff, Nat.reduceMul, Nat.reduceEqDiff, exists_eq', implies_true, exists_true_left, tys0, tys1, tys2, und0, und1, md38, Tryz.ntmps38, Tryz.results38, savB, sav0, encR_len, rdB]
              simp only [q0, q1, q2, q3, q4, q5, q6, q7, q8, q9, zr0, zr1, zr2, zr3, zq0, zq1, zq2, zq3, zq4, Nat.reduceAdd, Nat.reduceSub, lenA, convA, indexA, indexS, Int.reduceToNat, cond_true, cond_false, ↓reduceIte, reduceCtorEq, Nat.reduceLT, Nat.reduceLeDiff, Nat.reduceMul, Nat.reduceEqDiff, exists_eq', implies_true, exists_true_left, tys0, tys1, tys2, und0, und1, md38, Tryz.ntmps38, Tryz.results38, savB, sav0, encR_len, rdB]
              refine ol_blind (by rfl) (by rfl) (by rfl) (v := .ptr 1 0 0) (fun hp => ?_) ?_
              · simp only [q0, q1, q2, q3, q4, q5, q6, q7, q8, q9, zr0, zr1, zr2, zr3, zq0, zq1, zq2, zq3, zq4, Nat.reduceAdd, Nat.reduceSub, lenA, convA, indexA, indexS, Int.reduceToNat, cond_true, cond_false, ↓reduceIte, reduceCtorEq, Nat.reduceLT, Nat.reduceLeDiff, Nat.reduceMul, Nat.reduceEqDiff, exists_eq', implies_true, exists_true_left, tys0, tys1, tys2, und0, und1, md38, Tryz.ntmps38, Tryz.results38, savB, sav0, encR_len, rdB]
              simp only [q0, q1, q2, q3, q4, q5, q6, q7, q8, q9, zr0, zr1, zr2, zr3, zq0, zq1, zq2, zq3, zq4, Nat.reduceAdd, Nat.reduceSub, lenA, convA, indexA, indexS, Int.reduceToNat, cond_true, cond_false, ↓reduceIte, reduceCtorEq, Nat.reduceLT, Nat.reduceLeDiff, Nat.reduceMul, Nat.reduceEqDiff, exists_eq', implies_true, exists_true_left, tys0, tys1, tys2, und0, und1, md38, Tryz.ntmps38, Tryz.results38, savB, sav0, encR_len, rdB]
              refine ol_blind (by rfl) (by rfl) (by rfl) (v := .ptr 1 0 1) (fun hp => ?_) ?_
              · simp only [q0, q1, q2, q3, q4, q5, q6, q7, q8, q9, zr0, zr1, zr2, zr3, zq0, zq1, zq2, zq3, zq4, Nat.reduceAdd, Nat.reduceSub, lenA, convA, indexA, indexS, Int.reduceToNat, cond_true, cond_false, ↓reduceIte, reduceCtorEq, Nat.reduceLT, Nat.reduceLeDiff, Nat.reduceMul, Nat.reduceEqDiff, exists_eq', implies_true, exists_true_left, tys0, tys1, tys2, und0, und1, md38, Tryz.ntmps38, Tryz.results38, savB, sav0, encR_len, rdB]
              simp only [q0, q1, q2, q3, q4, q5, q6, q7, q8, q9, zr0, zr1, zr2, zr3, zq0, zq1, zq2, zq3, zq4, Nat.reduceAdd, Nat.reduceSub, lenA, convA, indexA, indexS, Int.reduceToNat, cond_true, cond_false, ↓reduceIte, reduceCtorEq, Nat.reduceLT, Nat.reduceLeDiff, Nat.reduceMul, Nat.reduceEqDiff, exists_eq', implies_true, exists_true_left, tys0, tys1, tys2, und0, und1, md38, Tryz.ntmps38, Tryz.results38, savB, sav0, encR_len, rdB]
              refine ol_apart (by rfl) (by rfl) (by rfl) (v := .int .i64 ((size s : Nat) : Int)) ?_ (fun q => ?_) ?_
              · simp only [q0, q1, q2, q3, q4, q5, q6, q7, q8, q9, zr0, zr1, zr2, zr3, zq0, zq1, zq2, zq3, zq4, Nat.reduceAdd, Nat.reduceSub, lenA, convA, indexA, indexS, Int.reduceToNat, cond_true, cond_false, ↓reduceIte, reduceCtorEq, Nat.reduceLT, Nat.reduceLeDiff, Nat.reduceMul, Nat.reduceEqDiff, exists_eq', implies_true, exists_true_left, tys0, tys1, tys2, und0, und1, md38, Tryz.ntmps38, Tryz.results38, savB, sav0, encR_len, rdB]
              · simp only [q0, q1, q2, q3, q4, q5, q6, q7, q8, q9, zr0, zr1, zr2, zr3, zq0, zq1, zq2, zq3, zq4, Nat.reduceAdd, Nat.reduceSub, lenA, convA, indexA, indexS, Int.reduceToNat, cond_true, cond_false, ↓reduceIte, reduceCtorEq, Nat.reduceLT, Nat.reduceLeDiff, Nat.reduceMul, Nat.reduceEqDiff, exists_eq', implies_true, exists_true_left, tys0, tys1, tys2, und0, und1, md38, Tryz.ntmps38, Tryz.results38, savB, sav0, encR_len, rdB]
              simp only [q0, q1, q2, q3, q4, q5, q6, q7, q8, q9, zr0, zr1, zr2, zr3, zq0, zq1, zq2, zq3, zq4, Nat.reduceAdd, Nat.reduceSub, lenA, convA, indexA, indexS, Int.reduceToNat, cond_true, cond_false, ↓reduceIte, reduceCtorEq, Nat.reduceLT, Nat.reduceLeDiff, Nat.reduceMul, Nat.reduceEqDiff, exists_eq', implies_true, exists_true_left, tys0, tys1, tys2, und0, und1, md38, Tryz.ntmps38, Tryz.results38, savB, sav0, encR_len, rdB]
              refine ol_store (by rfl) (by rfl) (by rfl) ?_
              simp only [q0, q1, q2, q3, q4, q5, q6, q7, q8, q9, zr0, zr1, zr2, zr3, zq0, zq1, zq2, zq3, zq4, Nat.reduceAdd, Nat.reduceSub, lenA, convA, indexA, indexS, Int.reduceToNat, cond_true, cond_false, ↓reduceIte, reduceCtorEq, Nat.reduceLT, Nat.reduceLeDiff, Nat.reduceMul, Nat.reduceEqDiff, exists_eq', implies_true, exists_true_left, tys0, tys1, tys2, und0, und1, md38, Tryz.ntmps38, Tryz.results38, savB, sav0, encR_len, rdB]
              refine ol_quiet (by rfl) (by rfl) (by rfl) (by rfl) ?_
              simp only [q0, q1, q2, q3, q4, q5, q6, q7, q8, q9, zr0, zr1, zr2, zr3, zq0, zq1, zq2, zq3, zq4, Nat.reduceAdd, Nat.reduceSub, lenA, convA, indexA, indexS, Int.reduceToNat, cond_true, cond_false, ↓reduceIte, reduceCtorEq, Nat.reduceLT, Nat.reduceLeDiff, Nat.reduceMul, Nat.reduceEqDiff, exists_eq', implies_true, exists_true_left, tys0, tys1, tys2, und0, und1, md38, Tryz.ntmps38, Tryz.results38, savB, sav0, encR_len, rdB]
              refine ol_quiet (by rfl) (by rfl) (by rfl) (by rfl) ?_
              simp only [q0, q1, q2, q3, q4, q5, q6, q7, q8, q9, zr0, zr1, zr2, zr3, zq0, zq1, zq2, zq3, zq4, Nat.reduceAdd, Nat.reduceSub, lenA, convA, indexA, indexS, Int.reduceToNat, cond_true, cond_false, ↓reduceIte, reduceCtorEq, Nat.reduceLT, Nat.reduceLeDiff, Nat.reduceMul, Nat.reduceEqDiff, exists_eq', implies_true, exists_true_left, tys0, tys1, tys2, und0, und1, md38, Tryz.ntmps38, Tryz.results38, savB, sav0, encR_len, rdB]
              refine ol_nil ?_
              simp only [q0, q1, q2, q3, q4, q5, q6, q7, q8, q9, zr0, zr1, zr2, zr3, zq0, zq1, zq2, zq3, zq4, Nat.reduceAdd, Nat.reduceSub, lenA, convA, indexA, indexS, Int.reduceToNat, cond_true, cond_false, ↓reduceIte, reduceCtorEq, Nat.reduceLT, Nat.reduceLeDiff, Nat.reduceMul, Nat.reduceEqDiff, exists_eq', implies_true, exists_true_left, tys0, tys1, tys2, und0, und1, md38, Tryz.ntmps38, Tryz.results38, savB, sav0, encR_len, rdB]
              rw [bs, if_pos ⟨v, t⟩]
              exact loaded_end _ _ _
            · have t : ¬ storeT (nm, R, xs) = s.take (size s) := by simpa using t
              rw [bs, if_neg (fun h => t h.2)]
              exact PostR.pure ⟨rfl, rfl⟩ rfl
          · rw [bs, if_neg (fun h => by rw [h.1] at v; cases v)]
            exact PostR.pure ⟨rfl, rfl⟩ rfl
end Go.Proofs.YtigipcckflcilaaGreatDoor
