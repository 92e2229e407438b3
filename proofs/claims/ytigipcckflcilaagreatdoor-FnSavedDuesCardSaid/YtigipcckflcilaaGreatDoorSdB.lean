/- What can be saved, drawn. -/
import Derived.Test.YtigipcckflcilaaGreatDoorRtC
import Derived.Test.YtigipcckflcilaaGreatDoorReB
import Derived.Test.YtigipcckflcilaaGreatDoorAbsM3
set_option maxRecDepth 10000
set_option maxHeartbeats 8000000
set_option linter.unusedSimpArgs false
set_option linter.unusedVariables false
namespace Go.Proofs.YtigipcckflcilaaGreatDoor
open Go Go.Abs

def txB (l : List (List UInt8)) : Blk := { ty := 9, w := 1, els := strs l }
theorem text_call (code : List Int) (hc : byteL code) (hl : code.length ≤ 1048576) (a : Nat) (ha : a ≤ 1000000) (sd : Int) (l : List (List UInt8)) (h1 : 1 ≤ l.length) (h2 : l.length ≤ 1000) :
    CallA Tryz.prog 35 [.ptr 0 0 0, .sl 1 0 l.length] [srcB code a sd, txB l] (fun r hp => ∃ (x : List UInt8) (a' : Nat) (sd' : Int), x ∈ l ∧ a' ≤ a + 2 ∧ r = .str x ∧ hp = [srcB code a' sd', txB l]) := by
  refine CallP.out (t := .mk) (go_in (md := md35) mixed Tryz.func35 rfl go35 (by kernel_rfl) ?_)
  simp only [q0, q1, q2, q3, q4, q5, q6, q7, q8, q9, zr0, zr1, zr2, zr3, zq0, zq1, zq2, zq3, zq4, Nat.reduceAdd, Nat.reduceSub, lenA, convA, indexA, indexS, Int.reduceToNat, cond_true, cond_false, ↓reduceIte, reduceCtorEq, Nat.reduceLT, Nat.reduceLeDiff, Nat.reduceMul, Nat.reduceEqDiff, exists_eq', implies_true, exists_true_left, tys0, tys1, tys2, und0, und1, md35, Tryz.ntmps35, Tryz.results35, txB, strs_len]
  refine pick_at hc hl (by omega) (by omega) (by omega) (fun x a' sd' hx ha' => ?_)
  obtain ⟨k, rfl, hk⟩ : ∃ k : Nat, x = (k : Int) ∧ k < l.length := ⟨x.toNat, by omega, by omega⟩
  have kI : (k : Int) < (l.length : Int) := by omega
  have E0 : ∀ h, (strs l)[k]'h = .str l[k] := fun h => strs_get _ _ _
  simp only [q0, q1, q2, q3, q4, q5, q6, q7, q8, q9, zr0, zr1, zr2, zr3, zq0, zq1, zq2, zq3, zq4, Nat.reduceAdd, Nat.reduceSub, lenA, convA, indexA, indexS, Int.reduceToNat, cond_true, cond_false, ↓reduceIte, reduceCtorEq, Nat.reduceLT, Nat.reduceLeDiff, Nat.reduceMul, Nat.reduceEqDiff, exists_eq', implies_true, exists_true_left, tys0, tys1, tys2, und0, und1, md35, Tryz.ntmps35, Tryz.results35, txB, strs_len, E0, hk, kI]
  exact PostR.same ⟨l[k], a', sd', List.getElem_mem _, ha', rfl, rfl⟩
def names4 : List (List UInt8) := [[97], [100, 117, 101, 115], [99, 111, 100, 101], [122, 122]]
theorem names4_ok : ∀ x ∈ names4, nameB x = true := by decide
def ruH (R : List Rul) : List Blk := if R.length = 0 then [] else [rulB (R.map rulA)]
structure DrS (n : Nat) (L : List Sav) (a0 a : Nat) : Prop where
  len : L.length ≤ n
  ok : ∀ x ∈ L, validB x = true
  at_ : a ≤ a0 + 200 * L.length
structure DrI (k : Nat) (xs : List Int) (a0 a : Nat) : Prop where
  len : xs.length ≤ k
  ok : ∀ x ∈ xs, 0 ≤ x ∧ x < 100000
  at_ : a ≤ a0 + 2 * xs.length
theorem DrI.next {k : Nat} {xs : List Int} {a0 a a' : Nat} {x : Int} (D : DrI k xs a0 a) (hl : xs.length < k) (hx : 0 ≤ x ∧ x < 100000) (ha : a' ≤ a + 2) : DrI k (xs ++ [x]) a0 a' :=
  ⟨by simp; omega, fun y hy => by
    rcases List.mem_append.1 hy with h | h
    · exact D.ok y h
    · rw [List.mem_singleton.1 h]; exact hx, by have := D.at_; simp; omega⟩
theorem bs_flatR0 (code : List Int) (a : Nat) (sd : Int) (L : List Sav) (nm : List UInt8) (R : List Rul) : ∀ b ∈ (srcB code a sd :: savB (L.map savA) :: savB [.agg [.str nm, .nils, .nils]] :: []), allBelow (srcB code a sd :: savB (L.map savA) :: savB [.agg [.str nm, .nils, .nils]] :: []).length b.els = true := by
  intro b hb
  simp only [List.mem_cons, List.not_mem_nil, or_false] at hb
  rcases hb with rfl | rfl | rfl
  · rfl
  · exact savs_below _ _
  · rfl
theorem bs_flatR1 (code : List Int) (a : Nat) (sd : Int) (L : List Sav) (nm : List UInt8) (R : List Rul) : ∀ b ∈ (srcB code a sd :: savB (L.map savA) :: savB [.agg [.str nm, .sl 3 0 R.length, .nils]] :: [rulB (R.map rulA)]), allBelow (srcB code a sd :: savB (L.map savA) :: savB [.agg [.str nm, .sl 3 0 R.length, .nils]] :: [rulB (R.map rulA)]).length b.els = true := by
  intro b hb
  simp only [List.mem_cons, List.not_mem_nil, or_false] at hb
  rcases hb with rfl | rfl | rfl | rfl
  · rfl
  · exact savs_below _ _
  · rfl
  · exact ruls_below _ _
theorem bs_flatI0 (code : List Int) (a : Nat) (sd : Int) (L : List Sav) (nm : List UInt8) (R : List Rul) (xs : List Int) : ∀ b ∈ (srcB code a sd :: savB (L.map savA) :: savB [.agg [.str nm, .ro (R.map rulA), .nils]] :: []), allBelow (srcB code a sd :: savB (L.map savA) :: savB [.agg [.str nm, .ro (R.map rulA), .nils]] :: []).length b.els = true := by
  intro b hb
  simp only [List.mem_cons, List.not_mem_nil, or_false] at hb
  rcases hb with rfl | rfl | rfl
  · rfl
  · exact savs_below _ _
  · rfl
theorem bs_flatI1 (code : List Int) (a : Nat) (sd : Int) (L : List Sav) (nm : List UInt8) (R : List Rul) (xs : List Int) : ∀ b ∈ (srcB code a sd :: savB (L.map savA) :: savB [.agg [.str nm, .ro (R.map rulA), .sl 3 0 xs.length]] :: [intB xs]), allBelow (srcB code a sd :: savB (L.map savA) :: savB [.agg [.str nm, .ro (R.map rulA), .sl 3 0 xs.length]] :: [intB xs]).length b.els = true := by
  intro b hb
  simp only [List.mem_cons, List.not_mem_nil, or_false] at hb
  rcases hb with rfl | rfl | rfl | rfl
  · rfl
  · exact savs_below _ _
  · rfl
  · exact ints_below _ _
theorem frzTm_drop {new : List Blk} {N : Nat} : ∀ {tm tm2 : List AV}, DropTm N tm tm2 → FrzTm new N tm tm2
  | [], [], _ => trivial
  | a :: l, b :: m, h => ⟨by
      rcases h.1 with e | ⟨e, hb⟩
      · exact .inl (.inl e)
      · exact .inl (.inr (.inl ⟨by rw [e]; exact hb, e.symm⟩)), frzTm_drop h.2⟩
  | [], _ :: _, h => h.elim
  | _ :: _, [], h => h.elim
theorem dropTm_more {N M : Nat} (hm : N ≤ M) : ∀ {tm tm2 : List AV}, DropTm N tm tm2 → DropTm M tm tm2
  | [], [], _ => trivial
  | a :: l, b :: m, h => ⟨by
      rcases h.1 with e | ⟨e, hb⟩
      · exact .inl e
      · exact .inr ⟨e, below_le hm b hb⟩, dropTm_more hm h.2⟩
  | [], _ :: _, h => h.elim
  | _ :: _, [], h => h.elim
theorem dropTm_self {N : Nat} : ∀ {tm tm2 : List AV}, DropTm N tm tm2 → DropTm N tm2 tm2
  | [], [], _ => trivial
  | a :: l, b :: m, h => ⟨by
      rcases h.1 with e | ⟨e, hb⟩
      · exact .inl e
      · exact .inr ⟨rfl, hb⟩, dropTm_self h.2⟩
  | [], _ :: _, h => h.elim
  | _ :: _, [], h => h.elim
theorem frzC_keep {new : List Blk} {N : Nat} {a : AV} (h : below N a = true) : FrzC new N a a := .inr (.inl ⟨h, rfl⟩)
theorem frzB_agg {new : List Blk} {N : Nat} {ty : TypeId} {w : Nat} {a b c a2 b2 c2 : AV} (h1 : FrzC new N a a2) (h2 : FrzC new N b b2) (h3 : FrzC new N c c2) : FrzB new N { ty := ty, w := w, els := [.agg [a, b, c]] } { ty := ty, w := w, els := [.agg [a2, b2, c2]] } :=
  ⟨rfl, rfl, rfl, fun i e2 h => by
    cases i with
    | zero =>
      obtain rfl : AV.agg [a2, b2, c2] = e2 := by simpa using h
      refine ⟨.agg [a, b, c], rfl, rfl, fun j x y hx hy => ?_⟩
      rcases j with _ | _ | _ | j
      · cases hx; cases hy; exact h1
      · cases hx; cases hy; exact h2
      · cases hx; cases hy; exact h3
      · simp [AV.cells] at hx
    | succ i => simp at h⟩
theorem frzC_rules (R : List Rul) : FrzC (ruH R) 3 (slV 3 R.length) (.ro (R.map rulA)) := by
  by_cases hz : R.length = 0
  · obtain rfl : R = [] := List.length_eq_zero_iff.1 hz
    exact .inr (.inr ⟨1, 1, .nils, rfl, rfl, rfl⟩)
  · have er : ruH R = [rulB (R.map rulA)] := if_neg hz
    rw [er, slV_pos hz]
    have lm : (R.map rulA).length = R.length := List.length_map _
    have hv : (R.map rulA).map (view 2 [rulB (R.map rulA)]) = R.map rulA := by
      rw [List.map_map]
      exact List.map_congr_left fun r _ => rul_view 1 _ r
    have ht : List.take R.length (R.map rulA) = R.map rulA := by rw [← lm]; exact List.take_length
    refine .inr (.inr ⟨3, 1, .sl 0 0 R.length, by simp [ren, renM, renL], by simp [below, belowM, belowL], ?_⟩)
    have e : view 3 [rulB (R.map rulA)] (.sl 0 0 R.length) = .ro (R.map rulA) := by
      simp only [rulB] at hv ⊢
      simp only [view_sl, List.getElem?_cons_zero, List.drop_zero, ht, hv, lm, Nat.zero_add, Nat.le_refl, decide_true, Bool.and_self, if_true]
    rw [e]
    show _ = AV.ro ((R.map rulA).map (nilD 0))
    rw [nilD_zero]
theorem frzC_incs (xs : List Int) : FrzC [intB xs] 3 (.sl 3 0 xs.length) (.ro (ints xs)) := by
  refine .inr (.inr ⟨2, 1, .sl 0 0 xs.length, by simp [ren, renM, renL], by simp [below, belowM, belowL], ?_⟩)
  rw [view_intB]
  show _ = AV.ro ((ints xs).map (nilD 0))
  rw [nilD_zero]
theorem below_cells {N : Nat} {e : AV} (h : below N e = true) : ∀ c ∈ e.cells, below N c = true := by
  intro c hc
  cases e with
  | agg l =>
    have hl : ∀ x ∈ l, belowL N x = true := by simpa [below, belowM] using h
    have := hl c hc
    cases c <;> simp_all [belowL, below, belowM]
  | _ => simp only [AV.cells, List.mem_singleton] at hc; subst hc; exact h
theorem frzB_flat {new : List Blk} {N : Nat} {q : Blk} (hb : allBelow 0 q.els = true) : FrzB new N q q := frzB_keep fun e he c hc => by
  simp only [allBelow, List.all_eq_true] at hb
  exact below_cells (below_mono0 (N := N) (fun b => b) e (hb e he)).1 c hc
theorem weak_rules {tm tm2 : List AV} (code : List Int) (a : Nat) (sd : Int) (L : List Sav) (nm : List UInt8) (R : List Rul) (ht : DropTm 3 tm tm2) : Weak 0 ⟨tm, srcB code a sd :: savB (L.map savA) :: savB [.agg [.str nm, slV 3 R.length, .nils]] :: ruH R⟩ ⟨tm2, [srcB code a sd, savB (L.map savA), savB [.agg [.str nm, .ro (R.map rulA), .nils]]]⟩ :=
  weak_freeze (K := [srcB code a sd, savB (L.map savA), savB [.agg [.str nm, slV 3 R.length, .nils]]]) (new := ruH R) (Nat.zero_le _) (fun q hq => by
    unfold ruH at hq
    split at hq
    · cases hq
    · rw [List.mem_singleton.1 hq]; exact ruls_below _ _)
    ⟨frzB_flat (srcB_below _ _ _ _), frzB_flat (savs_below _ _), frzB_agg (frzC_keep rfl) (frzC_rules R) (frzC_keep rfl), trivial⟩ (frzTm_drop ht)
theorem frzB_last {new : List Blk} {N : Nat} (L : List Sav) (x : Sav) {c0 c1 c2 : AV} (h0 : FrzC new N c0 (.str x.1)) (h1 : FrzC new N c1 (.ro (x.2.1.map rulA))) (h2 : FrzC new N c2 (.ro (ints x.2.2))) : FrzB new N (savB (L.map savA ++ [.agg [c0, c1, c2]])) (savB ((L ++ [x]).map savA)) :=
  ⟨rfl, rfl, rfl, fun i e2 h => by
    have h : ((L ++ [x]).map savA)[i]? = some e2 := h
    rw [List.map_append] at h
    by_cases hi : i < L.length
    · have hi2 : i < (L.map savA).length := by rw [List.length_map]; exact hi
      rw [List.getElem?_append_left hi2] at h
      refine ⟨e2, by show (L.map savA ++ _)[i]? = _; rw [List.getElem?_append_left hi2]; exact h, rfl, fun j x' y hx hy => ?_⟩
      rw [hx] at hy
      cases hy
      have hm := List.mem_of_getElem? h
      obtain ⟨y, _, rfl⟩ := List.mem_map.1 hm
      exact frzC_keep (below_cells (sav_below N y) x' (List.mem_of_getElem? hx))
    · have hl : (L.map savA).length = L.length := List.length_map _
      rw [List.getElem?_append_right (by omega), hl] at h
      have hz : i - L.length = 0 := by
        rcases Nat.eq_zero_or_pos (i - L.length) with e | e
        · exact e
        · obtain ⟨k, hk⟩ : ∃ k, i - L.length = k + 1 := ⟨i - L.length - 1, by omega⟩
          rw [hk] at h
          simp at h
      rw [hz] at h
      obtain rfl : savA x = e2 := by simpa using h
      refine ⟨.agg [c0, c1, c2], by show (L.map savA ++ _)[i]? = _; rw [List.getElem?_append_right (by omega), hl, hz]; rfl, rfl, fun j x' y hx hy => ?_⟩
      rcases j with _ | _ | _ | j
      · cases hx; cases hy; exact h0
      · cases hx; cases hy; exact h1
      · cases hx; cases hy; exact h2
      · simp [AV.cells] at hx⟩
theorem weak_saved {tm tm2 : List AV} (code : List Int) (a : Nat) (sd : Int) (L : List Sav) (x : Sav) (T : Blk) (ht : DropTm 2 tm tm2) :
    Weak 0 ⟨tm, [srcB code a sd, savB (L.map savA ++ [.agg [.str x.1, .ro (x.2.1.map rulA), .sl 3 0 x.2.2.length]]), savB [.agg [.str x.1, .ro (x.2.1.map rulA), .sl 3 0 x.2.2.length]], intB x.2.2, T]⟩ ⟨tm2, [srcB code a sd, savB ((L ++ [x]).map savA)]⟩ := by
  have fl : allBelow 4 (savB (L.map savA ++ [.agg [.str x.1, .ro (x.2.1.map rulA), .sl 3 0 x.2.2.length]])).els = true := by
    show ((L.map savA ++ [AV.agg [.str x.1, .ro (x.2.1.map rulA), .sl 3 0 x.2.2.length]]).all (below 4)) = true
    rw [List.all_append, Bool.and_eq_true]
    exact ⟨savs_below 4 L, rfl⟩
  refine Weak.and (b := ⟨tm2, [srcB code a sd, savB (L.map savA ++ [.agg [.str x.1, .ro (x.2.1.map rulA), .sl 3 0 x.2.2.length]]), savB [.agg [.str x.1, .ro (x.2.1.map rulA), .sl 3 0 x.2.2.length]]] ++ [intB x.2.2]⟩) (weak_drop (Nat.zero_le _) ?_ (dropTm_more (Nat.le_of_ble_eq_true rfl) ht)) ?_
  · exact ⟨⟨rfl, fun _ => ⟨rfl, rfl, rfl, srcB_below _ _ _ _⟩⟩, ⟨rfl, fun _ => ⟨rfl, rfl, rfl, fl⟩⟩, ⟨rfl, fun _ => ⟨rfl, rfl, rfl, rfl⟩⟩, ⟨rfl, fun _ => ⟨rfl, rfl, rfl, ints_below _ _⟩⟩, trivial⟩
  · refine Weak.and (b := ⟨tm2, [srcB code a sd, savB ((L ++ [x]).map savA), savB [savA x]]⟩) (weak_freeze (Nat.zero_le _) (fun q hq => by rw [List.mem_singleton.1 hq]; exact ints_below _ _) ?_ (frzTm_drop (dropTm_more (Nat.le_of_ble_eq_true rfl) (dropTm_self ht)))) (weak_drop (Nat.zero_le _) ?_ (dropTm_self ht))
    · exact ⟨frzB_flat (srcB_below _ _ _ _), frzB_last L x (frzC_keep rfl) (frzC_keep rfl) (frzC_incs _), frzB_agg (frzC_keep rfl) (frzC_keep rfl) (frzC_incs _), trivial⟩
    · exact ⟨⟨rfl, fun _ => ⟨rfl, rfl, rfl, srcB_below _ _ _ _⟩⟩, ⟨rfl, fun _ => ⟨rfl, rfl, rfl, savs_below _ _⟩⟩, trivial⟩
theorem b10Saved0_call (code : List Int) (hc : byteL code) (hl : code.length ≤ 1048576) :
    CallA Tryz.prog 8 [.ro (kint .u8 code)] [] (fun r hp => ∃ L : List Sav, (∀ x ∈ L, validB x = true) ∧ L.length ≤ 4 ∧ r = .sl 0 0 L.length ∧ hp = [savB (L.map savA)]) := by
  refine CallP.out (t := .mk) (go_in (md := md8) mixed Tryz.func8 rfl go8 (by kernel_rfl) ?_)
  simp only [q0, q1, q2, q3, q4, q5, q6, q7, q8, q9, zr0, zr1, zr2, zr3, zq0, zq1, zq2, zq3, zq4, Nat.reduceAdd, Nat.reduceSub, lenA, convA, indexA, indexS, Int.reduceToNat, cond_true, cond_false, ↓reduceIte, reduceCtorEq, Nat.reduceLT, Nat.reduceLeDiff, Nat.reduceMul, Nat.reduceEqDiff, exists_eq', implies_true, exists_true_left, tys0, tys1, tys2, und0, und1, md8, Tryz.ntmps8, Tryz.results8]
  refine call_new (l00From_call code) rfl (by intro q hq; simp at hq; subst hq; rfl) ?_
  simp only [q0, q1, q2, q3, q4, q5, q6, q7, q8, q9, zr0, zr1, zr2, zr3, zq0, zq1, zq2, zq3, zq4, Nat.reduceAdd, Nat.reduceSub, lenA, convA, indexA, indexS, Int.reduceToNat, cond_true, cond_false, ↓reduceIte, reduceCtorEq, Nat.reduceLT, Nat.reduceLeDiff, Nat.reduceMul, Nat.reduceEqDiff, exists_eq', implies_true, exists_true_left, tys0, tys1, tys2, und0, und1, md8, Tryz.ntmps8, Tryz.results8, ren, renM, renL]
  refine pick_at hc hl (by omega) (by omega) (by omega) (fun x a1 sd1 hx ha1 => ?_)
  obtain ⟨n, hn, rfl⟩ : ∃ n : Nat, n ≤ 4 ∧ x = (n : Int) := ⟨x.toNat, by omega, by omega⟩
  simp only [q0, q1, q2, q3, q4, q5, q6, q7, q8, q9, zr0, zr1, zr2, zr3, zq0, zq1, zq2, zq3, zq4, Nat.reduceAdd, Nat.reduceSub, lenA, convA, indexA, indexS, Int.reduceToNat, cond_true, cond_false, ↓reduceIte, reduceCtorEq, Nat.reduceLT, Nat.reduceLeDiff, Nat.reduceMul, Nat.reduceEqDiff, exists_eq', implies_true, exists_true_left, tys0, tys1, tys2, und0, und1, md8, Tryz.ntmps8, Tryz.results8, srcB_kill]
  refine go_round (md := md8) mixed (by kernel_rfl) (fun p : {p : List Sav × Nat × Int // DrS n p.1 a1 p.2.1} => ⟨[.any, .any, .any, .ptr 0 0 0, .sl 1 0 p.1.1.length, .int .i64 ((n : Int) - p.1.1.length), .any, .any, .any, .any, .any, .any, .any, .any, .any, .any, .any, .any, .any, .any, .any, .any, .any, .any, .any, .any, .any, .any, .any, .any, .any, .any, .any, .any, .any, .any, .any, .any, .any, .any, .any, .any, .any, .any, .any, .any, .any, .any, .any, .any, .any, .any, .any, .any], [srcB code p.1.2.1 p.1.2.2, savB (p.1.1.map savA)]⟩) (fun p => n - p.1.1.length) ⟨([], a1, sd1), ⟨by simp, by simp, by simp⟩⟩ ?_ ?_
  · exact weak_drop (by simp) (by simp [DropHp, ints_below, flts_below, srcB_below, savB, allBelow_cons, allBelow_nil, below, belowM, belowL]) (by simp [DropTm, DropV, below, belowM, belowL, srcB_below, savB, allBelow_cons, allBelow_nil, below, belowM, belowL])
  rintro ⟨⟨L, a, sd⟩, D⟩
  have D1 := D.len
  have D2 := D.at_
  simp only [] at D1 D2
  simp only [q0, q1, q2, q3, q4, q5, q6, q7, q8, q9, zr0, zr1, zr2, zr3, zq0, zq1, zq2, zq3, zq4, Nat.reduceAdd, Nat.reduceSub, lenA, convA, indexA, indexS, Int.reduceToNat, cond_true, cond_false, ↓reduceIte, reduceCtorEq, Nat.reduceLT, Nat.reduceLeDiff, Nat.reduceMul, Nat.reduceEqDiff, exists_eq', implies_true, exists_true_left, tys0, tys1, tys2, und0, und1, md8, Tryz.ntmps8, Tryz.results8, savB]
  refine br_intro (fun g => ?_) (fun g => ?_) <;> simp only [q0, q1, q2, q3, q4, q5, q6, q7, q8, q9, zr0, zr1, zr2, zr3, zq0, zq1, zq2, zq3, zq4, Nat.reduceAdd, Nat.reduceSub, lenA, convA, indexA, indexS, Int.reduceToNat, cond_true, cond_false, ↓reduceIte, reduceCtorEq, Nat.reduceLT, Nat.reduceLeDiff, Nat.reduceMul, Nat.reduceEqDiff, exists_eq', implies_true, exists_true_left, tys0, tys1, tys2, und0, und1, md8, Tryz.ntmps8, Tryz.results8, savB]
  · have hR : L.length < n := by have := of_decide_eq_true g; omega
    refine call_handedQ [0, 2] (text_call code hc hl a (by omega) sd names4 (by decide) (by decide)) (by decide) ⟨⟨rfl, rfl⟩, ⟨rfl, rfl⟩, trivial⟩ rfl rfl ?_
    rintro r hps' ⟨nm, a2, sd2, hnm, ha2, rfl, rfl⟩
    refine ⟨by intro q hq; simp at hq; rcases hq with rfl | rfl <;> rfl, ?_⟩
    simp only [q0, q1, q2, q3, q4, q5, q6, q7, q8, q9, zr0, zr1, zr2, zr3, zq0, zq1, zq2, zq3, zq4, Nat.reduceAdd, Nat.reduceSub, lenA, convA, indexA, indexS, Int.reduceToNat, cond_true, cond_false, ↓reduceIte, reduceCtorEq, Nat.reduceLT, Nat.reduceLeDiff, Nat.reduceMul, Nat.reduceEqDiff, exists_eq', implies_true, exists_true_left, tys0, tys1, tys2, und0, und1, md8, Tryz.ntmps8, Tryz.results8, ren, renM, renL, srcB_kill]
    refine pick_at hc hl (by omega) (by omega) (by omega) (fun x a3 sd3 hx ha3 => ?_)
    obtain ⟨k, hk, rfl⟩ : ∃ k : Nat, k ≤ 3 ∧ x = (k : Int) := ⟨x.toNat, by omega, by omega⟩
    simp only [q0, q1, q2, q3, q4, q5, q6, q7, q8, q9, zr0, zr1, zr2, zr3, zq0, zq1, zq2, zq3, zq4, Nat.reduceAdd, Nat.reduceSub, lenA, convA, indexA, indexS, Int.reduceToNat, cond_true, cond_false, ↓reduceIte, reduceCtorEq, Nat.reduceLT, Nat.reduceLeDiff, Nat.reduceMul, Nat.reduceEqDiff, exists_eq', implies_true, exists_true_left, tys0, tys1, tys2, und0, und1, md8, Tryz.ntmps8, Tryz.results8, srcB_kill]
    refine go_round (md := md8) mixed (by kernel_rfl) (fun p : {p : List Rul × Nat × Int // DrL k p.1 a3 p.2.1} => ⟨[.any, .any, .any, .ptr 0 0 0, .sl 1 0 L.length, .int .i64 ((n : Int) - L.length), .ptr 2 0 0, .int .i64 ((k : Int) - p.1.1.length), .any, .any, .any, .any, .any, .any, .any, .any, .any, .any, .any, .any, .any, .any, .any, .any, .any, .any, .any, .any, .any, .any, .any, .any, .any, .any, .any, .any, .any, .any, .any, .any, .any, .any, .any, .any, .any, .any, .any, .any, .any, .any, .any, .any, .any, .any], [srcB code p.1.2.1 p.1.2.2, savB (L.map savA), savB [.agg [.str nm, slV 3 p.1.1.length, .nils]]] ++ ruH p.1.1⟩) (fun p => k - p.1.1.length) ⟨([], a3, sd3), ⟨by simp, by simp, by simp⟩⟩ ?_ ?_
    · exact weak_names [0, 1, 3] (by decide) (by decide) (by decide) (by simp [SubG, renB, ints_ren, ints_below, kint_ren, kint_below, ren, renM, renL, srcB, savB, savs_below, savA, slV, ruH, allBelow_cons, allBelow_nil, below, belowM, belowL]) (by simp [LeTm, LeV, ren, renM, renL, below, belowM, belowL, srcB, savB, savs_below, savA, slV, ruH, allBelow_cons, allBelow_nil, below, belowM, belowL])
    rintro ⟨⟨R, a4, sd4⟩, DR⟩
    have E1 := DR.len
    have E2 := DR.at_
    simp only [] at E1 E2
    dsimp only
    simp only [q0, q1, q2, q3, q4, q5, q6, q7, q8, q9, zr0, zr1, zr2, zr3, zq0, zq1, zq2, zq3, zq4, Nat.reduceAdd, Nat.reduceSub, lenA, convA, indexA, indexS, Int.reduceToNat, cond_true, cond_false, ↓reduceIte, reduceCtorEq, Nat.reduceLT, Nat.reduceLeDiff, Nat.reduceMul, Nat.reduceEqDiff, exists_eq', implies_true, exists_true_left, tys0, tys1, tys2, und0, und1, md8, Tryz.ntmps8, Tryz.results8, savB]
    refine br_intro (fun g2 => ?_) (fun g2 => ?_) <;> simp only [q0, q1, q2, q3, q4, q5, q6, q7, q8, q9, zr0, zr1, zr2, zr3, zq0, zq1, zq2, zq3, zq4, Nat.reduceAdd, Nat.reduceSub, lenA, convA, indexA, indexS, Int.reduceToNat, cond_true, cond_false, ↓reduceIte, reduceCtorEq, Nat.reduceLT, Nat.reduceLeDiff, Nat.reduceMul, Nat.reduceEqDiff, exists_eq', implies_true, exists_true_left, tys0, tys1, tys2, und0, und1, md8, Tryz.ntmps8, Tryz.results8, savB]
    · have g2 : R.length < k := by have := of_decide_eq_true g2; omega
      by_cases hz : R.length = 0
      · obtain rfl : R = [] := List.length_eq_zero_iff.1 hz
        have er : ruH [] = [] := rfl
        have ev : slV 3 ([] : List Rul).length = .nils := rfl
        rw [er, ev]
        --GEN R0
        refine go_calls mixed (fun hp => ∃ (a5 : Nat) (sd5 : Int), a5 ≤ a4 + 30 ∧ hp = (srcB code a5 sd5 :: savB (L.map savA) :: savB [.agg [.str nm, .nils, .nils]] :: [])) [0, 1, 2, 3, 4, 5, 6, 7] [0, 0, 0, 2, 0, 1, 1, 1] (by kernel_rfl) ?_
        refine oh_quiet (by rfl) (by rfl) (by rfl) ⟨a4, sd4, by omega, rfl⟩ (v := .ptr 2 0 1) ?_ ?_
        · rintro hp ⟨a5, sd5, h5, rfl⟩
          simp only [q0, q1, q2, q3, q4, q5, q6, q7, q8, q9, zr0, zr1, zr2, zr3, zq0, zq1, zq2, zq3, zq4, Nat.reduceAdd, Nat.reduceSub, lenA, convA, indexA, indexS, Int.reduceToNat, cond_true, cond_false, ↓reduceIte, reduceCtorEq, Nat.reduceLT, Nat.reduceLeDiff, Nat.reduceMul, Nat.reduceEqDiff, exists_eq', implies_true, exists_true_left, tys0, tys1, tys2, und0, und1, md8, Tryz.ntmps8, Tryz.results8, rulA, savB]
        simp only [q0, q1, q2, q3, q4, q5, q6, q7, q8, q9, zr0, zr1, zr2, zr3, zq0, zq1, zq2, zq3, zq4, Nat.reduceAdd, Nat.reduceSub, lenA, convA, indexA, indexS, Int.reduceToNat, cond_true, cond_false, ↓reduceIte, reduceCtorEq, Nat.reduceLT, Nat.reduceLeDiff, Nat.reduceMul, Nat.reduceEqDiff, exists_eq', implies_true, exists_true_left, tys0, tys1, tys2, und0, und1, md8, Tryz.ntmps8, Tryz.results8, rulA, savB]
        refine oh_quiet (by rfl) (by rfl) (by rfl) ⟨a4, sd4, by omega, rfl⟩ (v := .nils) ?_ ?_
        · rintro hp ⟨a5, sd5, h5, rfl⟩
          simp only [q0, q1, q2, q3, q4, q5, q6, q7, q8, q9, zr0, zr1, zr2, zr3, zq0, zq1, zq2, zq3, zq4, Nat.reduceAdd, Nat.reduceSub, lenA, convA, indexA, indexS, Int.reduceToNat, cond_true, cond_false, ↓reduceIte, reduceCtorEq, Nat.reduceLT, Nat.reduceLeDiff, Nat.reduceMul, Nat.reduceEqDiff, exists_eq', implies_true, exists_true_left, tys0, tys1, tys2, und0, und1, md8, Tryz.ntmps8, Tryz.results8, rulA, savB]
        simp only [q0, q1, q2, q3, q4, q5, q6, q7, q8, q9, zr0, zr1, zr2, zr3, zq0, zq1, zq2, zq3, zq4, Nat.reduceAdd, Nat.reduceSub, lenA, convA, indexA, indexS, Int.reduceToNat, cond_true, cond_false, ↓reduceIte, reduceCtorEq, Nat.reduceLT, Nat.reduceLeDiff, Nat.reduceMul, Nat.reduceEqDiff, exists_eq', implies_true, exists_true_left, tys0, tys1, tys2, und0, und1, md8, Tryz.ntmps8, Tryz.results8, rulA, savB]
        refine oh_quiet (by rfl) (by rfl) (by rfl) ⟨a4, sd4, by omega, rfl⟩ (v := .ptr 0 0 0) ?_ ?_
        · rintro hp ⟨a5, sd5, h5, rfl⟩
          simp only [q0, q1, q2, q3, q4, q5, q6, q7, q8, q9, zr0, zr1, zr2, zr3, zq0, zq1, zq2, zq3, zq4, Nat.reduceAdd, Nat.reduceSub, lenA, convA, indexA, indexS, Int.reduceToNat, cond_true, cond_false, ↓reduceIte, reduceCtorEq, Nat.reduceLT, Nat.reduceLeDiff, Nat.reduceMul, Nat.reduceEqDiff, exists_eq', implies_true, exists_true_left, tys0, tys1, tys2, und0, und1, md8, Tryz.ntmps8, Tryz.results8, rulA, savB]
        simp only [q0, q1, q2, q3, q4, q5, q6, q7, q8, q9, zr0, zr1, zr2, zr3, zq0, zq1, zq2, zq3, zq4, Nat.reduceAdd, Nat.reduceSub, lenA, convA, indexA, indexS, Int.reduceToNat, cond_true, cond_false, ↓reduceIte, reduceCtorEq, Nat.reduceLT, Nat.reduceLeDiff, Nat.reduceMul, Nat.reduceEqDiff, exists_eq', implies_true, exists_true_left, tys0, tys1, tys2, und0, und1, md8, Tryz.ntmps8, Tryz.results8, rulA, savB]
        refine oh_call (by rfl) (by rfl) (by rfl) (by rfl) (by rfl) ?_
        simp only [q0, q1, q2, q3, q4, q5, q6, q7, q8, q9, zr0, zr1, zr2, zr3, zq0, zq1, zq2, zq3, zq4, Nat.reduceAdd, Nat.reduceSub, lenA, convA, indexA, indexS, Int.reduceToNat, cond_true, cond_false, ↓reduceIte, reduceCtorEq, Nat.reduceLT, Nat.reduceLeDiff, Nat.reduceMul, Nat.reduceEqDiff, exists_eq', implies_true, exists_true_left, tys0, tys1, tys2, und0, und1, md8, Tryz.ntmps8, Tryz.results8, rulA, savB]
        refine drawRule_at hc hl (by omega) (fun q a5 sd5 hq ha5 => ?_)
        have h5' := ha5
        refine ⟨⟨a5, sd5, by omega, rfl⟩, ?_⟩
        refine oh_fresh (by rfl) (by rfl) (by rfl) ⟨a5, sd5, by omega, rfl⟩ { ty := 48, w := 5, els := [.agg [.int .i64 q.1, .ro (ints q.2.1), .int .i64 q.2.2.1, .int .i64 q.2.2.2.1, .int .i64 q.2.2.2.2]] } 3 (.sl 0 0 1) rfl rfl rfl ?_ ?_ ?_
        · rintro hp ⟨a5, sd5, h5, rfl⟩
          exact bs_flatR0 code a5 sd5 L nm []
        · rintro hp ⟨a5, sd5, h5, rfl⟩
          simp only [q0, q1, q2, q3, q4, q5, q6, q7, q8, q9, zr0, zr1, zr2, zr3, zq0, zq1, zq2, zq3, zq4, Nat.reduceAdd, Nat.reduceSub, lenA, convA, indexA, indexS, Int.reduceToNat, cond_true, cond_false, ↓reduceIte, reduceCtorEq, Nat.reduceLT, Nat.reduceLeDiff, Nat.reduceMul, Nat.reduceEqDiff, exists_eq', implies_true, exists_true_left, tys0, tys1, tys2, und0, und1, md8, Tryz.ntmps8, Tryz.results8, rulA, savB]
          try rfl
        rw [show view 3 [({ ty := 48, w := 5, els := [.agg [.int .i64 q.1, .ro (ints q.2.1), .int .i64 q.2.2.1, .int .i64 q.2.2.2.1, .int .i64 q.2.2.2.2]] } : Blk)] (.sl 0 0 1) = .ro [.agg [.int .i64 q.1, .ro (ints q.2.1), .int .i64 q.2.2.1, .int .i64 q.2.2.2.1, .int .i64 q.2.2.2.2]] from rfl]
        simp only [q0, q1, q2, q3, q4, q5, q6, q7, q8, q9, zr0, zr1, zr2, zr3, zq0, zq1, zq2, zq3, zq4, Nat.reduceAdd, Nat.reduceSub, lenA, convA, indexA, indexS, Int.reduceToNat, cond_true, cond_false, ↓reduceIte, reduceCtorEq, Nat.reduceLT, Nat.reduceLeDiff, Nat.reduceMul, Nat.reduceEqDiff, exists_eq', implies_true, exists_true_left, tys0, tys1, tys2, und0, und1, md8, Tryz.ntmps8, Tryz.results8, rulA, savB]
        refine oh_one (by rfl) (by rfl) (by rfl) ?_
        simp only [q0, q1, q2, q3, q4, q5, q6, q7, q8, q9, zr0, zr1, zr2, zr3, zq0, zq1, zq2, zq3, zq4, Nat.reduceAdd, Nat.reduceSub, lenA, convA, indexA, indexS, Int.reduceToNat, cond_true, cond_false, ↓reduceIte, reduceCtorEq, Nat.reduceLT, Nat.reduceLeDiff, Nat.reduceMul, Nat.reduceEqDiff, exists_eq', implies_true, exists_true_left, tys0, tys1, tys2, und0, und1, md8, Tryz.ntmps8, Tryz.results8, rulA, savB, rulB, intB, allW_int, fits, List.isEmpty_cons, brk_false, Nat.reduceMul, srcB_kill]
        refine ⟨fun v hv => (by rw [List.mem_singleton.1 hv]; exact ⟨rfl, rfl⟩), ?_⟩
        refine oh_one (by rfl) (by rfl) (by rfl) ?_
        simp only [q0, q1, q2, q3, q4, q5, q6, q7, q8, q9, zr0, zr1, zr2, zr3, zq0, zq1, zq2, zq3, zq4, Nat.reduceAdd, Nat.reduceSub, lenA, convA, indexA, indexS, Int.reduceToNat, cond_true, cond_false, ↓reduceIte, reduceCtorEq, Nat.reduceLT, Nat.reduceLeDiff, Nat.reduceMul, Nat.reduceEqDiff, exists_eq', implies_true, exists_true_left, tys0, tys1, tys2, und0, und1, md8, Tryz.ntmps8, Tryz.results8, rulA, savB, rulB, intB, allW_int, fits, List.isEmpty_cons, brk_false, Nat.reduceMul, srcB_kill]
        refine oh_one (by rfl) (by rfl) (by rfl) ?_
        simp only [q0, q1, q2, q3, q4, q5, q6, q7, q8, q9, zr0, zr1, zr2, zr3, zq0, zq1, zq2, zq3, zq4, Nat.reduceAdd, Nat.reduceSub, lenA, convA, indexA, indexS, Int.reduceToNat, cond_true, cond_false, ↓reduceIte, reduceCtorEq, Nat.reduceLT, Nat.reduceLeDiff, Nat.reduceMul, Nat.reduceEqDiff, exists_eq', implies_true, exists_true_left, tys0, tys1, tys2, und0, und1, md8, Tryz.ntmps8, Tryz.results8, rulA, savB, rulB, intB, allW_int, fits, List.isEmpty_cons, brk_false, Nat.reduceMul, srcB_kill]
        refine oh_nil ?_
        simp only [q0, q1, q2, q3, q4, q5, q6, q7, q8, q9, zr0, zr1, zr2, zr3, zq0, zq1, zq2, zq3, zq4, Nat.reduceAdd, Nat.reduceSub, lenA, convA, indexA, indexS, Int.reduceToNat, cond_true, cond_false, ↓reduceIte, reduceCtorEq, Nat.reduceLT, Nat.reduceLeDiff, Nat.reduceMul, Nat.reduceEqDiff, exists_eq', implies_true, exists_true_left, tys0, tys1, tys2, und0, und1, md8, Tryz.ntmps8, Tryz.results8, rulA, savB, rulB, intB, allW_int, fits, List.isEmpty_cons, brk_false, Nat.reduceMul, srcB_kill]
        --END R0
        have DN := DR.next g2 hq h5'
        have ek : IntKind.i64.wrap ((k : Int) - ((0 : Nat) : Int) - 1) = (k : Int) - (([q] : List Rul).length : Int) := by rw [w64 (by omega) (by omega)]; simp
        refine ⟨⟨([q], a5, sd5), DN⟩, by show k - 1 < k - 0; have : 0 < k := g2; omega, ?_⟩
        rw [ek]
        exact weak_drop (by simp [ruH]) (dropHp_refl (bs_flatR1 code a5 sd5 L nm [q])) (by simp [DropTm, DropV, below, belowM, belowL, ruH])
      · have er : ruH R = [rulB (R.map rulA)] := if_neg hz
        have ev : slV 3 R.length = .sl 3 0 R.length := slV_pos hz
        rw [er, ev]
        --GEN R1
        refine go_calls mixed (fun hp => ∃ (a5 : Nat) (sd5 : Int), a5 ≤ a4 + 30 ∧ hp = (srcB code a5 sd5 :: savB (L.map savA) :: savB [.agg [.str nm, .sl 3 0 R.length, .nils]] :: [rulB (R.map rulA)])) [0, 1, 2, 3, 4, 5, 6, 7] [0, 0, 0, 2, 0, 1, 1, 1] (by kernel_rfl) ?_
        refine oh_quiet (by rfl) (by rfl) (by rfl) ⟨a4, sd4, by omega, rfl⟩ (v := .ptr 2 0 1) ?_ ?_
        · rintro hp ⟨a5, sd5, h5, rfl⟩
          simp only [q0, q1, q2, q3, q4, q5, q6, q7, q8, q9, zr0, zr1, zr2, zr3, zq0, zq1, zq2, zq3, zq4, Nat.reduceAdd, Nat.reduceSub, lenA, convA, indexA, indexS, Int.reduceToNat, cond_true, cond_false, ↓reduceIte, reduceCtorEq, Nat.reduceLT, Nat.reduceLeDiff, Nat.reduceMul, Nat.reduceEqDiff, exists_eq', implies_true, exists_true_left, tys0, tys1, tys2, und0, und1, md8, Tryz.ntmps8, Tryz.results8, rulA, savB]
        simp only [q0, q1, q2, q3, q4, q5, q6, q7, q8, q9, zr0, zr1, zr2, zr3, zq0, zq1, zq2, zq3, zq4, Nat.reduceAdd, Nat.reduceSub, lenA, convA, indexA, indexS, Int.reduceToNat, cond_true, cond_false, ↓reduceIte, reduceCtorEq, Nat.reduceLT, Nat.reduceLeDiff, Nat.reduceMul, Nat.reduceEqDiff, exists_eq', implies_true, exists_true_left, tys0, tys1, tys2, und0, und1, md8, Tryz.ntmps8, Tryz.results8, rulA, savB]
        refine oh_quiet (by rfl) (by rfl) (by rfl) ⟨a4, sd4, by omega, rfl⟩ (v := .sl 3 0 R.length) ?_ ?_
        · rintro hp ⟨a5, sd5, h5, rfl⟩
          simp only [q0, q1, q2, q3, q4, q5, q6, q7, q8, q9, zr0, zr1, zr2, zr3, zq0, zq1, zq2, zq3, zq4, Nat.reduceAdd, Nat.reduceSub, lenA, convA, indexA, indexS, Int.reduceToNat, cond_true, cond_false, ↓reduceIte, reduceCtorEq, Nat.reduceLT, Nat.reduceLeDiff, Nat.reduceMul, Nat.reduceEqDiff, exists_eq', implies_true, exists_true_left, tys0, tys1, tys2, und0, und1, md8, Tryz.ntmps8, Tryz.results8, rulA, savB]
        simp only [q0, q1, q2, q3, q4, q5, q6, q7, q8, q9, zr0, zr1, zr2, zr3, zq0, zq1, zq2, zq3, zq4, Nat.reduceAdd, Nat.reduceSub, lenA, convA, indexA, indexS, Int.reduceToNat, cond_true, cond_false, ↓reduceIte, reduceCtorEq, Nat.reduceLT, Nat.reduceLeDiff, Nat.reduceMul, Nat.reduceEqDiff, exists_eq', implies_true, exists_true_left, tys0, tys1, tys2, und0, und1, md8, Tryz.ntmps8, Tryz.results8, rulA, savB]
        refine oh_quiet (by rfl) (by rfl) (by rfl) ⟨a4, sd4, by omega, rfl⟩ (v := .ptr 0 0 0) ?_ ?_
        · rintro hp ⟨a5, sd5, h5, rfl⟩
          simp only [q0, q1, q2, q3, q4, q5, q6, q7, q8, q9, zr0, zr1, zr2, zr3, zq0, zq1, zq2, zq3, zq4, Nat.reduceAdd, Nat.reduceSub, lenA, convA, indexA, indexS, Int.reduceToNat, cond_true, cond_false, ↓reduceIte, reduceCtorEq, Nat.reduceLT, Nat.reduceLeDiff, Nat.reduceMul, Nat.reduceEqDiff, exists_eq', implies_true, exists_true_left, tys0, tys1, tys2, und0, und1, md8, Tryz.ntmps8, Tryz.results8, rulA, savB]
        simp only [q0, q1, q2, q3, q4, q5, q6, q7, q8, q9, zr0, zr1, zr2, zr3, zq0, zq1, zq2, zq3, zq4, Nat.reduceAdd, Nat.reduceSub, lenA, convA, indexA, indexS, Int.reduceToNat, cond_true, cond_false, ↓reduceIte, reduceCtorEq, Nat.reduceLT, Nat.reduceLeDiff, Nat.reduceMul, Nat.reduceEqDiff, exists_eq', implies_true, exists_true_left, tys0, tys1, tys2, und0, und1, md8, Tryz.ntmps8, Tryz.results8, rulA, savB]
        refine oh_call (by rfl) (by rfl) (by rfl) (by rfl) (by rfl) ?_
        simp only [q0, q1, q2, q3, q4, q5, q6, q7, q8, q9, zr0, zr1, zr2, zr3, zq0, zq1, zq2, zq3, zq4, Nat.reduceAdd, Nat.reduceSub, lenA, convA, indexA, indexS, Int.reduceToNat, cond_true, cond_false, ↓reduceIte, reduceCtorEq, Nat.reduceLT, Nat.reduceLeDiff, Nat.reduceMul, Nat.reduceEqDiff, exists_eq', implies_true, exists_true_left, tys0, tys1, tys2, und0, und1, md8, Tryz.ntmps8, Tryz.results8, rulA, savB]
        refine drawRule_at hc hl (by omega) (fun q a5 sd5 hq ha5 => ?_)
        have h5' := ha5
        refine ⟨⟨a5, sd5, by omega, rfl⟩, ?_⟩
        refine oh_fresh (by rfl) (by rfl) (by rfl) ⟨a5, sd5, by omega, rfl⟩ { ty := 48, w := 5, els := [.agg [.int .i64 q.1, .ro (ints q.2.1), .int .i64 q.2.2.1, .int .i64 q.2.2.2.1, .int .i64 q.2.2.2.2]] } 3 (.sl 0 0 1) rfl rfl rfl ?_ ?_ ?_
        · rintro hp ⟨a5, sd5, h5, rfl⟩
          exact bs_flatR1 code a5 sd5 L nm R
        · rintro hp ⟨a5, sd5, h5, rfl⟩
          simp only [q0, q1, q2, q3, q4, q5, q6, q7, q8, q9, zr0, zr1, zr2, zr3, zq0, zq1, zq2, zq3, zq4, Nat.reduceAdd, Nat.reduceSub, lenA, convA, indexA, indexS, Int.reduceToNat, cond_true, cond_false, ↓reduceIte, reduceCtorEq, Nat.reduceLT, Nat.reduceLeDiff, Nat.reduceMul, Nat.reduceEqDiff, exists_eq', implies_true, exists_true_left, tys0, tys1, tys2, und0, und1, md8, Tryz.ntmps8, Tryz.results8, rulA, savB]
          try rfl
        rw [show view 3 [({ ty := 48, w := 5, els := [.agg [.int .i64 q.1, .ro (ints q.2.1), .int .i64 q.2.2.1, .int .i64 q.2.2.2.1, .int .i64 q.2.2.2.2]] } : Blk)] (.sl 0 0 1) = .ro [.agg [.int .i64 q.1, .ro (ints q.2.1), .int .i64 q.2.2.1, .int .i64 q.2.2.2.1, .int .i64 q.2.2.2.2]] from rfl]
        simp only [q0, q1, q2, q3, q4, q5, q6, q7, q8, q9, zr0, zr1, zr2, zr3, zq0, zq1, zq2, zq3, zq4, Nat.reduceAdd, Nat.reduceSub, lenA, convA, indexA, indexS, Int.reduceToNat, cond_true, cond_false, ↓reduceIte, reduceCtorEq, Nat.reduceLT, Nat.reduceLeDiff, Nat.reduceMul, Nat.reduceEqDiff, exists_eq', implies_true, exists_true_left, tys0, tys1, tys2, und0, und1, md8, Tryz.ntmps8, Tryz.results8, rulA, savB]
        refine oh_one (by rfl) (by rfl) (by rfl) ?_
        simp only [q0, q1, q2, q3, q4, q5, q6, q7, q8, q9, zr0, zr1, zr2, zr3, zq0, zq1, zq2, zq3, zq4, Nat.reduceAdd, Nat.reduceSub, lenA, convA, indexA, indexS, Int.reduceToNat, cond_true, cond_false, ↓reduceIte, reduceCtorEq, Nat.reduceLT, Nat.reduceLeDiff, Nat.reduceMul, Nat.reduceEqDiff, exists_eq', implies_true, exists_true_left, tys0, tys1, tys2, und0, und1, md8, Tryz.ntmps8, Tryz.results8, rulA, savB, rulB, intB, allW_int, fits, List.isEmpty_cons, brk_false, Nat.reduceMul, srcB_kill]
        refine ⟨by rw [List.length_map], fun v hv => (by rw [List.mem_singleton.1 hv]; exact ⟨rfl, rfl⟩), by omega, ?_⟩
        refine oh_one (by rfl) (by rfl) (by rfl) ?_
        simp only [q0, q1, q2, q3, q4, q5, q6, q7, q8, q9, zr0, zr1, zr2, zr3, zq0, zq1, zq2, zq3, zq4, Nat.reduceAdd, Nat.reduceSub, lenA, convA, indexA, indexS, Int.reduceToNat, cond_true, cond_false, ↓reduceIte, reduceCtorEq, Nat.reduceLT, Nat.reduceLeDiff, Nat.reduceMul, Nat.reduceEqDiff, exists_eq', implies_true, exists_true_left, tys0, tys1, tys2, und0, und1, md8, Tryz.ntmps8, Tryz.results8, rulA, savB, rulB, intB, allW_int, fits, List.isEmpty_cons, brk_false, Nat.reduceMul, srcB_kill]
        refine oh_one (by rfl) (by rfl) (by rfl) ?_
        simp only [q0, q1, q2, q3, q4, q5, q6, q7, q8, q9, zr0, zr1, zr2, zr3, zq0, zq1, zq2, zq3, zq4, Nat.reduceAdd, Nat.reduceSub, lenA, convA, indexA, indexS, Int.reduceToNat, cond_true, cond_false, ↓reduceIte, reduceCtorEq, Nat.reduceLT, Nat.reduceLeDiff, Nat.reduceMul, Nat.reduceEqDiff, exists_eq', implies_true, exists_true_left, tys0, tys1, tys2, und0, und1, md8, Tryz.ntmps8, Tryz.results8, rulA, savB, rulB, intB, allW_int, fits, List.isEmpty_cons, brk_false, Nat.reduceMul, srcB_kill]
        refine oh_nil ?_
        simp only [q0, q1, q2, q3, q4, q5, q6, q7, q8, q9, zr0, zr1, zr2, zr3, zq0, zq1, zq2, zq3, zq4, Nat.reduceAdd, Nat.reduceSub, lenA, convA, indexA, indexS, Int.reduceToNat, cond_true, cond_false, ↓reduceIte, reduceCtorEq, Nat.reduceLT, Nat.reduceLeDiff, Nat.reduceMul, Nat.reduceEqDiff, exists_eq', implies_true, exists_true_left, tys0, tys1, tys2, und0, und1, md8, Tryz.ntmps8, Tryz.results8, rulA, savB, rulB, intB, allW_int, fits, List.isEmpty_cons, brk_false, Nat.reduceMul, srcB_kill]
        --END R1
        have DN := DR.next g2 hq h5'
        have ek : IntKind.i64.wrap ((k : Int) - (R.length : Int) - 1) = (k : Int) - ((R ++ [q]).length : Int) := by rw [w64 (by omega) (by omega)]; simp; omega
        have ks : List.map (kill 3) (L.map savA) = L.map savA := by
          rw [List.map_map]
          exact List.map_congr_left fun y _ => rfl
        have kr : List.map (kill 3) (R.map rulA ++ [.agg [.int .i64 q.1, .ro (ints q.2.1), .int .i64 q.2.2.1, .int .i64 q.2.2.2.1, .int .i64 q.2.2.2.2]]) = (R ++ [q]).map rulA := by
          rw [show R.map rulA ++ [.agg [.int .i64 q.1, .ro (ints q.2.1), .int .i64 q.2.2.1, .int .i64 q.2.2.2.1, .int .i64 q.2.2.2.2]] = (R ++ [q]).map rulA by simp [rulA], List.map_map]
          exact List.map_congr_left fun y _ => rfl
        have hn : (R ++ [q]).length ≠ 0 := by simp
        have er2 : ruH (R ++ [q]) = [rulB ((R ++ [q]).map rulA)] := if_neg hn
        have ev2 : slV 3 (R ++ [q]).length = .sl 3 0 (R ++ [q]).length := slV_pos hn
        refine ⟨⟨(R ++ [q], a5, sd5), DN⟩, by show k - (R ++ [q]).length < _; rw [List.length_append]; simp; omega, ?_⟩
        rw [ek, ks, kr, show R.length + 1 = (R ++ [q]).length by simp]
        dsimp only
        rw [er2, ev2]
        generalize R ++ [q] = R2
        exact weak_drop (by simp) (dropHp_refl (bs_flatR1 code a5 sd5 L nm R2)) (by simp [DropTm, DropV, below, belowM, belowL])
    · refine pick_at hc hl (by omega) (by omega) (by omega) (fun x a5 sd5 hx ha5 => ?_)
      obtain ⟨k2, hk2, hk3, e1⟩ : ∃ k2 : Nat, 1 ≤ k2 ∧ k2 ≤ 4 ∧ 1 + x = (k2 : Int) := ⟨(1 + x).toNat, by omega, by omega, by omega⟩
      have w1 : IntKind.i64.wrap (1 + x) = (k2 : Int) := by rw [w64 (by omega) (by omega)]; exact e1
      simp only [q0, q1, q2, q3, q4, q5, q6, q7, q8, q9, zr0, zr1, zr2, zr3, zq0, zq1, zq2, zq3, zq4, Nat.reduceAdd, Nat.reduceSub, lenA, convA, indexA, indexS, Int.reduceToNat, cond_true, cond_false, ↓reduceIte, reduceCtorEq, Nat.reduceLT, Nat.reduceLeDiff, Nat.reduceMul, Nat.reduceEqDiff, exists_eq', implies_true, exists_true_left, tys0, tys1, tys2, und0, und1, md8, Tryz.ntmps8, Tryz.results8, w1]
      have hRn : R.length ≤ 3 := by omega
      have rok := DR.ok
      refine go_round (md := md8) mixed (by kernel_rfl) (fun p : {p : List Int × Nat × Int // DrI k2 p.1 a5 p.2.1} => ⟨[.any, .any, .any, .ptr 0 0 0, .sl 1 0 L.length, .int .i64 ((n : Int) - L.length), .ptr 2 0 0, .any, .int .i64 ((k2 : Int) - p.1.1.length), .any, .any, .any, .any, .any, .any, .any, .any, .any, .any, .any, .any, .any, .any, .any, .any, .any, .any, .any, .any, .any, .any, .any, .any, .any, .any, .any, .any, .any, .any, .any, .any, .any, .any, .any, .any, .any, .any, .any, .any, .any, .any, .any, .any, .any], [srcB code p.1.2.1 p.1.2.2, savB (L.map savA), savB [.agg [.str nm, .ro (R.map rulA), slV 3 p.1.1.length]]] ++ ifsH p.1.1⟩) (fun p => k2 - p.1.1.length) ⟨([], a5, sd5), ⟨by simp, by simp, by simp⟩⟩ ?_ ?_
      · exact weak_rules code a5 sd5 L nm R (by simp [DropTm, DropV, below, belowM, belowL])
      rintro ⟨⟨xs, a4, sd4⟩, DI⟩
      have F1 := DI.len
      have F2 := DI.at_
      simp only [] at F1 F2
      dsimp only
      simp only [q0, q1, q2, q3, q4, q5, q6, q7, q8, q9, zr0, zr1, zr2, zr3, zq0, zq1, zq2, zq3, zq4, Nat.reduceAdd, Nat.reduceSub, lenA, convA, indexA, indexS, Int.reduceToNat, cond_true, cond_false, ↓reduceIte, reduceCtorEq, Nat.reduceLT, Nat.reduceLeDiff, Nat.reduceMul, Nat.reduceEqDiff, exists_eq', implies_true, exists_true_left, tys0, tys1, tys2, und0, und1, md8, Tryz.ntmps8, Tryz.results8, savB]
      refine br_intro (fun g3 => ?_) (fun g3 => ?_) <;> simp only [q0, q1, q2, q3, q4, q5, q6, q7, q8, q9, zr0, zr1, zr2, zr3, zq0, zq1, zq2, zq3, zq4, Nat.reduceAdd, Nat.reduceSub, lenA, convA, indexA, indexS, Int.reduceToNat, cond_true, cond_false, ↓reduceIte, reduceCtorEq, Nat.reduceLT, Nat.reduceLeDiff, Nat.reduceMul, Nat.reduceEqDiff, exists_eq', implies_true, exists_true_left, tys0, tys1, tys2, und0, und1, md8, Tryz.ntmps8, Tryz.results8, savB]
      · have g3 : xs.length < k2 := by have := of_decide_eq_true g3; omega
        by_cases hz : xs.length = 0
        · obtain rfl : xs = [] := List.length_eq_zero_iff.1 hz
          have er : ifsH [] = [] := rfl
          have ev : slV 3 ([] : List Int).length = .nils := rfl
          rw [er, ev]
          --GEN I0
          refine go_calls mixed (fun hp => ∃ (a5 : Nat) (sd5 : Int), a5 ≤ a4 + 2 ∧ hp = (srcB code a5 sd5 :: savB (L.map savA) :: savB [.agg [.str nm, .ro (R.map rulA), .nils]] :: [])) [0, 1, 2, 3, 4, 5, 6, 7] [0, 0, 0, 2, 0, 1, 1, 1] (by kernel_rfl) ?_
          refine oh_quiet (by rfl) (by rfl) (by rfl) ⟨a4, sd4, by omega, rfl⟩ (v := .ptr 2 0 2) ?_ ?_
          · rintro hp ⟨a5, sd5, h5, rfl⟩
            simp only [q0, q1, q2, q3, q4, q5, q6, q7, q8, q9, zr0, zr1, zr2, zr3, zq0, zq1, zq2, zq3, zq4, Nat.reduceAdd, Nat.reduceSub, lenA, convA, indexA, indexS, Int.reduceToNat, cond_true, cond_false, ↓reduceIte, reduceCtorEq, Nat.reduceLT, Nat.reduceLeDiff, Nat.reduceMul, Nat.reduceEqDiff, exists_eq', implies_true, exists_true_left, tys0, tys1, tys2, und0, und1, md8, Tryz.ntmps8, Tryz.results8, savB]
          simp only [q0, q1, q2, q3, q4, q5, q6, q7, q8, q9, zr0, zr1, zr2, zr3, zq0, zq1, zq2, zq3, zq4, Nat.reduceAdd, Nat.reduceSub, lenA, convA, indexA, indexS, Int.reduceToNat, cond_true, cond_false, ↓reduceIte, reduceCtorEq, Nat.reduceLT, Nat.reduceLeDiff, Nat.reduceMul, Nat.reduceEqDiff, exists_eq', implies_true, exists_true_left, tys0, tys1, tys2, und0, und1, md8, Tryz.ntmps8, Tryz.results8, savB]
          refine oh_quiet (by rfl) (by rfl) (by rfl) ⟨a4, sd4, by omega, rfl⟩ (v := .nils) ?_ ?_
          · rintro hp ⟨a5, sd5, h5, rfl⟩
            simp only [q0, q1, q2, q3, q4, q5, q6, q7, q8, q9, zr0, zr1, zr2, zr3, zq0, zq1, zq2, zq3, zq4, Nat.reduceAdd, Nat.reduceSub, lenA, convA, indexA, indexS, Int.reduceToNat, cond_true, cond_false, ↓reduceIte, reduceCtorEq, Nat.reduceLT, Nat.reduceLeDiff, Nat.reduceMul, Nat.reduceEqDiff, exists_eq', implies_true, exists_true_left, tys0, tys1, tys2, und0, und1, md8, Tryz.ntmps8, Tryz.results8, savB]
          simp only [q0, q1, q2, q3, q4, q5, q6, q7, q8, q9, zr0, zr1, zr2, zr3, zq0, zq1, zq2, zq3, zq4, Nat.reduceAdd, Nat.reduceSub, lenA, convA, indexA, indexS, Int.reduceToNat, cond_true, cond_false, ↓reduceIte, reduceCtorEq, Nat.reduceLT, Nat.reduceLeDiff, Nat.reduceMul, Nat.reduceEqDiff, exists_eq', implies_true, exists_true_left, tys0, tys1, tys2, und0, und1, md8, Tryz.ntmps8, Tryz.results8, savB]
          refine oh_quiet (by rfl) (by rfl) (by rfl) ⟨a4, sd4, by omega, rfl⟩ (v := .ptr 0 0 0) ?_ ?_
          · rintro hp ⟨a5, sd5, h5, rfl⟩
            simp only [q0, q1, q2, q3, q4, q5, q6, q7, q8, q9, zr0, zr1, zr2, zr3, zq0, zq1, zq2, zq3, zq4, Nat.reduceAdd, Nat.reduceSub, lenA, convA, indexA, indexS, Int.reduceToNat, cond_true, cond_false, ↓reduceIte, reduceCtorEq, Nat.reduceLT, Nat.reduceLeDiff, Nat.reduceMul, Nat.reduceEqDiff, exists_eq', implies_true, exists_true_left, tys0, tys1, tys2, und0, und1, md8, Tryz.ntmps8, Tryz.results8, savB]
          simp only [q0, q1, q2, q3, q4, q5, q6, q7, q8, q9, zr0, zr1, zr2, zr3, zq0, zq1, zq2, zq3, zq4, Nat.reduceAdd, Nat.reduceSub, lenA, convA, indexA, indexS, Int.reduceToNat, cond_true, cond_false, ↓reduceIte, reduceCtorEq, Nat.reduceLT, Nat.reduceLeDiff, Nat.reduceMul, Nat.reduceEqDiff, exists_eq', implies_true, exists_true_left, tys0, tys1, tys2, und0, und1, md8, Tryz.ntmps8, Tryz.results8, savB]
          refine oh_call (by rfl) (by rfl) (by rfl) (by rfl) (by rfl) ?_
          simp only [q0, q1, q2, q3, q4, q5, q6, q7, q8, q9, zr0, zr1, zr2, zr3, zq0, zq1, zq2, zq3, zq4, Nat.reduceAdd, Nat.reduceSub, lenA, convA, indexA, indexS, Int.reduceToNat, cond_true, cond_false, ↓reduceIte, reduceCtorEq, Nat.reduceLT, Nat.reduceLeDiff, Nat.reduceMul, Nat.reduceEqDiff, exists_eq', implies_true, exists_true_left, tys0, tys1, tys2, und0, und1, md8, Tryz.ntmps8, Tryz.results8, savB]
          refine pick_at hc hl (by omega) (by omega) (by omega) (fun q a5 sd5 hq ha5 => ?_)
          have h5' := ha5
          refine ⟨⟨a5, sd5, by omega, rfl⟩, ?_⟩
          refine oh_fresh (by rfl) (by rfl) (by rfl) ⟨a5, sd5, by omega, rfl⟩ { ty := 2, w := 1, els := [.int .i64 q] } 3 (.sl 0 0 1) rfl rfl rfl ?_ ?_ ?_
          · rintro hp ⟨a5, sd5, h5, rfl⟩
            exact bs_flatI0 code a5 sd5 L nm R []
          · rintro hp ⟨a5, sd5, h5, rfl⟩
            simp only [q0, q1, q2, q3, q4, q5, q6, q7, q8, q9, zr0, zr1, zr2, zr3, zq0, zq1, zq2, zq3, zq4, Nat.reduceAdd, Nat.reduceSub, lenA, convA, indexA, indexS, Int.reduceToNat, cond_true, cond_false, ↓reduceIte, reduceCtorEq, Nat.reduceLT, Nat.reduceLeDiff, Nat.reduceMul, Nat.reduceEqDiff, exists_eq', implies_true, exists_true_left, tys0, tys1, tys2, und0, und1, md8, Tryz.ntmps8, Tryz.results8, savB]
            try rfl
          rw [show view 3 [({ ty := 2, w := 1, els := [.int .i64 q] } : Blk)] (.sl 0 0 1) = .ro [.int .i64 q] from rfl]
          simp only [q0, q1, q2, q3, q4, q5, q6, q7, q8, q9, zr0, zr1, zr2, zr3, zq0, zq1, zq2, zq3, zq4, Nat.reduceAdd, Nat.reduceSub, lenA, convA, indexA, indexS, Int.reduceToNat, cond_true, cond_false, ↓reduceIte, reduceCtorEq, Nat.reduceLT, Nat.reduceLeDiff, Nat.reduceMul, Nat.reduceEqDiff, exists_eq', implies_true, exists_true_left, tys0, tys1, tys2, und0, und1, md8, Tryz.ntmps8, Tryz.results8, savB]
          refine oh_one (by rfl) (by rfl) (by rfl) ?_
          simp only [q0, q1, q2, q3, q4, q5, q6, q7, q8, q9, zr0, zr1, zr2, zr3, zq0, zq1, zq2, zq3, zq4, Nat.reduceAdd, Nat.reduceSub, lenA, convA, indexA, indexS, Int.reduceToNat, cond_true, cond_false, ↓reduceIte, reduceCtorEq, Nat.reduceLT, Nat.reduceLeDiff, Nat.reduceMul, Nat.reduceEqDiff, exists_eq', implies_true, exists_true_left, tys0, tys1, tys2, und0, und1, md8, Tryz.ntmps8, Tryz.results8, savB, rulB, intB, allW_int, fits, List.isEmpty_cons, brk_false, Nat.reduceMul, srcB_kill]
          refine oh_one (by rfl) (by rfl) (by rfl) ?_
          simp only [q0, q1, q2, q3, q4, q5, q6, q7, q8, q9, zr0, zr1, zr2, zr3, zq0, zq1, zq2, zq3, zq4, Nat.reduceAdd, Nat.reduceSub, lenA, convA, indexA, indexS, Int.reduceToNat, cond_true, cond_false, ↓reduceIte, reduceCtorEq, Nat.reduceLT, Nat.reduceLeDiff, Nat.reduceMul, Nat.reduceEqDiff, exists_eq', implies_true, exists_true_left, tys0, tys1, tys2, und0, und1, md8, Tryz.ntmps8, Tryz.results8, savB, rulB, intB, allW_int, fits, List.isEmpty_cons, brk_false, Nat.reduceMul, srcB_kill]
          refine oh_one (by rfl) (by rfl) (by rfl) ?_
          simp only [q0, q1, q2, q3, q4, q5, q6, q7, q8, q9, zr0, zr1, zr2, zr3, zq0, zq1, zq2, zq3, zq4, Nat.reduceAdd, Nat.reduceSub, lenA, convA, indexA, indexS, Int.reduceToNat, cond_true, cond_false, ↓reduceIte, reduceCtorEq, Nat.reduceLT, Nat.reduceLeDiff, Nat.reduceMul, Nat.reduceEqDiff, exists_eq', implies_true, exists_true_left, tys0, tys1, tys2, und0, und1, md8, Tryz.ntmps8, Tryz.results8, savB, rulB, intB, allW_int, fits, List.isEmpty_cons, brk_false, Nat.reduceMul, srcB_kill]
          refine oh_nil ?_
          simp only [q0, q1, q2, q3, q4, q5, q6, q7, q8, q9, zr0, zr1, zr2, zr3, zq0, zq1, zq2, zq3, zq4, Nat.reduceAdd, Nat.reduceSub, lenA, convA, indexA, indexS, Int.reduceToNat, cond_true, cond_false, ↓reduceIte, reduceCtorEq, Nat.reduceLT, Nat.reduceLeDiff, Nat.reduceMul, Nat.reduceEqDiff, exists_eq', implies_true, exists_true_left, tys0, tys1, tys2, und0, und1, md8, Tryz.ntmps8, Tryz.results8, savB, rulB, intB, allW_int, fits, List.isEmpty_cons, brk_false, Nat.reduceMul, srcB_kill]
          --END I0
          have DN := DI.next g3 hq h5'
          have ek : IntKind.i64.wrap ((k2 : Int) - ((0 : Nat) : Int) - 1) = (k2 : Int) - (([q] : List Int).length : Int) := by rw [w64 (by omega) (by omega)]; simp
          refine ⟨⟨([q], a5, sd5), DN⟩, by show k2 - 1 < k2 - 0; omega, ?_⟩
          rw [ek]
          exact weak_drop (by simp [ifsH]) (dropHp_refl (bs_flatI1 code a5 sd5 L nm R [q])) (by simp [DropTm, DropV, below, belowM, belowL, ifsH])
        · have er : ifsH xs = [intB xs] := if_neg hz
          have ev : slV 3 xs.length = .sl 3 0 xs.length := slV_pos hz
          rw [er, ev]
          --GEN I1
          refine go_calls mixed (fun hp => ∃ (a5 : Nat) (sd5 : Int), a5 ≤ a4 + 2 ∧ hp = (srcB code a5 sd5 :: savB (L.map savA) :: savB [.agg [.str nm, .ro (R.map rulA), .sl 3 0 xs.length]] :: [intB xs])) [0, 1, 2, 3, 4, 5, 6, 7] [0, 0, 0, 2, 0, 1, 1, 1] (by kernel_rfl) ?_
          refine oh_quiet (by rfl) (by rfl) (by rfl) ⟨a4, sd4, by omega, rfl⟩ (v := .ptr 2 0 2) ?_ ?_
          · rintro hp ⟨a5, sd5, h5, rfl⟩
            simp only [q0, q1, q2, q3, q4, q5, q6, q7, q8, q9, zr0, zr1, zr2, zr3, zq0, zq1, zq2, zq3, zq4, Nat.reduceAdd, Nat.reduceSub, lenA, convA, indexA, indexS, Int.reduceToNat, cond_true, cond_false, ↓reduceIte, reduceCtorEq, Nat.reduceLT, Nat.reduceLeDiff, Nat.reduceMul, Nat.reduceEqDiff, exists_eq', implies_true, exists_true_left, tys0, tys1, tys2, und0, und1, md8, Tryz.ntmps8, Tryz.results8, savB]
          simp only [q0, q1, q2, q3, q4, q5, q6, q7, q8, q9, zr0, zr1, zr2, zr3, zq0, zq1, zq2, zq3, zq4, Nat.reduceAdd, Nat.reduceSub, lenA, convA, indexA, indexS, Int.reduceToNat, cond_true, cond_false, ↓reduceIte, reduceCtorEq, Nat.reduceLT, Nat.reduceLeDiff, Nat.reduceMul, Nat.reduceEqDiff, exists_eq', implies_true, exists_true_left, tys0, tys1, tys2, und0, und1, md8, Tryz.ntmps8, Tryz.results8, savB]
          refine oh_quiet (by rfl) (by rfl) (by rfl) ⟨a4, sd4, by omega, rfl⟩ (v := .sl 3 0 xs.length) ?_ ?_
          · rintro hp ⟨a5, sd5, h5, rfl⟩
            simp only [q0, q1, q2, q3, q4, q5, q6, q7, q8, q9, zr0, zr1, zr2, zr3, zq0, zq1, zq2, zq3, zq4, Nat.reduceAdd, Nat.reduceSub, lenA, convA, indexA, indexS, Int.reduceToNat, cond_true, cond_false, ↓reduceIte, reduceCtorEq, Nat.reduceLT, Nat.reduceLeDiff, Nat.reduceMul, Nat.reduceEqDiff, exists_eq', implies_true, exists_true_left, tys0, tys1, tys2, und0, und1, md8, Tryz.ntmps8, Tryz.results8, savB]
          simp only [q0, q1, q2, q3, q4, q5, q6, q7, q8, q9, zr0, zr1, zr2, zr3, zq0, zq1, zq2, zq3, zq4, Nat.reduceAdd, Nat.reduceSub, lenA, convA, indexA, indexS, Int.reduceToNat, cond_true, cond_false, ↓reduceIte, reduceCtorEq, Nat.reduceLT, Nat.reduceLeDiff, Nat.reduceMul, Nat.reduceEqDiff, exists_eq', implies_true, exists_true_left, tys0, tys1, tys2, und0, und1, md8, Tryz.ntmps8, Tryz.results8, savB]
          refine oh_quiet (by rfl) (by rfl) (by rfl) ⟨a4, sd4, by omega, rfl⟩ (v := .ptr 0 0 0) ?_ ?_
          · rintro hp ⟨a5, sd5, h5, rfl⟩
            simp only [q0, q1, q2, q3, q4, q5, q6, q7, q8, q9, zr0, zr1, zr2, zr3, zq0, zq1, zq2, zq3, zq4, Nat.reduceAdd, Nat.reduceSub, lenA, convA, indexA, indexS, Int.reduceToNat, cond_true, cond_false, ↓reduceIte, reduceCtorEq, Nat.reduceLT, Nat.reduceLeDiff, Nat.reduceMul, Nat.reduceEqDiff, exists_eq', implies_true, exists_true_left, tys0, tys1, tys2, und0, und1, md8, Tryz.ntmps8, Tryz.results8, savB]
          simp only [q0, q1, q2, q3, q4, q5, q6, q7, q8, q9, zr0, zr1, zr2, zr3, zq0, zq1, zq2, zq3, zq4, Nat.reduceAdd, Nat.reduceSub, lenA, convA, indexA, indexS, Int.reduceToNat, cond_true, cond_false, ↓reduceIte, reduceCtorEq, Nat.reduceLT, Nat.reduceLeDiff, Nat.reduceMul, Nat.reduceEqDiff, exists_eq', implies_true, exists_true_left, tys0, tys1, tys2, und0, und1, md8, Tryz.ntmps8, Tryz.results8, savB]
          refine oh_call (by rfl) (by rfl) (by rfl) (by rfl) (by rfl) ?_
          simp only [q0, q1, q2, q3, q4, q5, q6, q7, q8, q9, zr0, zr1, zr2, zr3, zq0, zq1, zq2, zq3, zq4, Nat.reduceAdd, Nat.reduceSub, lenA, convA, indexA, indexS, Int.reduceToNat, cond_true, cond_false, ↓reduceIte, reduceCtorEq, Nat.reduceLT, Nat.reduceLeDiff, Nat.reduceMul, Nat.reduceEqDiff, exists_eq', implies_true, exists_true_left, tys0, tys1, tys2, und0, und1, md8, Tryz.ntmps8, Tryz.results8, savB]
          refine pick_at hc hl (by omega) (by omega) (by omega) (fun q a5 sd5 hq ha5 => ?_)
          have h5' := ha5
          refine ⟨⟨a5, sd5, by omega, rfl⟩, ?_⟩
          refine oh_fresh (by rfl) (by rfl) (by rfl) ⟨a5, sd5, by omega, rfl⟩ { ty := 2, w := 1, els := [.int .i64 q] } 3 (.sl 0 0 1) rfl rfl rfl ?_ ?_ ?_
          · rintro hp ⟨a5, sd5, h5, rfl⟩
            exact bs_flatI1 code a5 sd5 L nm R xs
          · rintro hp ⟨a5, sd5, h5, rfl⟩
            simp only [q0, q1, q2, q3, q4, q5, q6, q7, q8, q9, zr0, zr1, zr2, zr3, zq0, zq1, zq2, zq3, zq4, Nat.reduceAdd, Nat.reduceSub, lenA, convA, indexA, indexS, Int.reduceToNat, cond_true, cond_false, ↓reduceIte, reduceCtorEq, Nat.reduceLT, Nat.reduceLeDiff, Nat.reduceMul, Nat.reduceEqDiff, exists_eq', implies_true, exists_true_left, tys0, tys1, tys2, und0, und1, md8, Tryz.ntmps8, Tryz.results8, savB]
            try rfl
          rw [show view 3 [({ ty := 2, w := 1, els := [.int .i64 q] } : Blk)] (.sl 0 0 1) = .ro [.int .i64 q] from rfl]
          simp only [q0, q1, q2, q3, q4, q5, q6, q7, q8, q9, zr0, zr1, zr2, zr3, zq0, zq1, zq2, zq3, zq4, Nat.reduceAdd, Nat.reduceSub, lenA, convA, indexA, indexS, Int.reduceToNat, cond_true, cond_false, ↓reduceIte, reduceCtorEq, Nat.reduceLT, Nat.reduceLeDiff, Nat.reduceMul, Nat.reduceEqDiff, exists_eq', implies_true, exists_true_left, tys0, tys1, tys2, und0, und1, md8, Tryz.ntmps8, Tryz.results8, savB]
          refine oh_one (by rfl) (by rfl) (by rfl) ?_
          simp only [q0, q1, q2, q3, q4, q5, q6, q7, q8, q9, zr0, zr1, zr2, zr3, zq0, zq1, zq2, zq3, zq4, Nat.reduceAdd, Nat.reduceSub, lenA, convA, indexA, indexS, Int.reduceToNat, cond_true, cond_false, ↓reduceIte, reduceCtorEq, Nat.reduceLT, Nat.reduceLeDiff, Nat.reduceMul, Nat.reduceEqDiff, exists_eq', implies_true, exists_true_left, tys0, tys1, tys2, und0, und1, md8, Tryz.ntmps8, Tryz.results8, savB, rulB, intB, allW_int, fits, List.isEmpty_cons, brk_false, Nat.reduceMul, srcB_kill]
          refine ⟨by omega, ?_⟩
          refine oh_one (by rfl) (by rfl) (by rfl) ?_
          simp only [q0, q1, q2, q3, q4, q5, q6, q7, q8, q9, zr0, zr1, zr2, zr3, zq0, zq1, zq2, zq3, zq4, Nat.reduceAdd, Nat.reduceSub, lenA, convA, indexA, indexS, Int.reduceToNat, cond_true, cond_false, ↓reduceIte, reduceCtorEq, Nat.reduceLT, Nat.reduceLeDiff, Nat.reduceMul, Nat.reduceEqDiff, exists_eq', implies_true, exists_true_left, tys0, tys1, tys2, und0, und1, md8, Tryz.ntmps8, Tryz.results8, savB, rulB, intB, allW_int, fits, List.isEmpty_cons, brk_false, Nat.reduceMul, srcB_kill]
          refine oh_one (by rfl) (by rfl) (by rfl) ?_
          simp only [q0, q1, q2, q3, q4, q5, q6, q7, q8, q9, zr0, zr1, zr2, zr3, zq0, zq1, zq2, zq3, zq4, Nat.reduceAdd, Nat.reduceSub, lenA, convA, indexA, indexS, Int.reduceToNat, cond_true, cond_false, ↓reduceIte, reduceCtorEq, Nat.reduceLT, Nat.reduceLeDiff, Nat.reduceMul, Nat.reduceEqDiff, exists_eq', implies_true, exists_true_left, tys0, tys1, tys2, und0, und1, md8, Tryz.ntmps8, Tryz.results8, savB, rulB, intB, allW_int, fits, List.isEmpty_cons, brk_false, Nat.reduceMul, srcB_kill]
          refine oh_nil ?_
          simp only [q0, q1, q2, q3, q4, q5, q6, q7, q8, q9, zr0, zr1, zr2, zr3, zq0, zq1, zq2, zq3, zq4, Nat.reduceAdd, Nat.reduceSub, lenA, convA, indexA, indexS, Int.reduceToNat, cond_true, cond_false, ↓reduceIte, reduceCtorEq, Nat.reduceLT, Nat.reduceLeDiff, Nat.reduceMul, Nat.reduceEqDiff, exists_eq', implies_true, exists_true_left, tys0, tys1, tys2, und0, und1, md8, Tryz.ntmps8, Tryz.results8, savB, rulB, intB, allW_int, fits, List.isEmpty_cons, brk_false, Nat.reduceMul, srcB_kill]
          --END I1
          have DN := DI.next g3 hq h5'
          have ek : IntKind.i64.wrap ((k2 : Int) - (xs.length : Int) - 1) = (k2 : Int) - ((xs ++ [q]).length : Int) := by rw [w64 (by omega) (by omega)]; simp; omega
          have ks : List.map (kill 3) (L.map savA) = L.map savA := by
            rw [List.map_map]
            exact List.map_congr_left fun y _ => rfl
          have hn : (xs ++ [q]).length ≠ 0 := by simp
          have er2 : ifsH (xs ++ [q]) = [intB (xs ++ [q])] := if_neg hn
          have ev2 : slV 3 (xs ++ [q]).length = .sl 3 0 (xs ++ [q]).length := slV_pos hn
          refine ⟨⟨(xs ++ [q], a5, sd5), DN⟩, by show k2 - (xs ++ [q]).length < _; rw [List.length_append]; simp; omega, ?_⟩
          rw [ek, ks, show xs.length + 1 = (xs ++ [q]).length by simp]
          dsimp only
          rw [er2, ev2]
          generalize xs ++ [q] = xs2
          exact weak_drop (by simp) (dropHp_refl (bs_flatI1 code a5 sd5 L nm R xs2)) (by simp [DropTm, DropV, below, belowM, belowL])
      · have g3 : xs.length = k2 := by have := of_decide_eq_false g3; omega
        have er : ifsH xs = [intB xs] := if_neg (by omega)
        have ev : slV 3 xs.length = .sl 3 0 xs.length := slV_pos (by omega)
        rw [er, ev]
        simp only [q0, q1, q2, q3, q4, q5, q6, q7, q8, q9, zr0, zr1, zr2, zr3, zq0, zq1, zq2, zq3, zq4, Nat.reduceAdd, Nat.reduceSub, lenA, convA, indexA, indexS, Int.reduceToNat, cond_true, cond_false, ↓reduceIte, reduceCtorEq, Nat.reduceLT, Nat.reduceLeDiff, Nat.reduceMul, Nat.reduceEqDiff, exists_eq', implies_true, exists_true_left, tys0, tys1, tys2, und0, und1, md8, Tryz.ntmps8, Tryz.results8, savB, allW_int, fits, List.isEmpty_cons, brk_false, Nat.reduceMul, srcB_kill]
        have kk : List.map (kill 1) (L.map savA ++ [.agg [.str nm, .ro (R.map rulA), .sl 3 0 xs.length]]) = L.map savA ++ [.agg [.str nm, .ro (R.map rulA), .sl 3 0 xs.length]] := by
          rw [List.map_append, List.map_map]
          congr 1
        have ki : ({ ty := (intB xs).ty, w := (intB xs).w, els := List.map (kill 1) (intB xs).els, live := (intB xs).live } : Blk) = intB xs := List.singleton_inj.1 (intB_kill 1 xs)
        have vx : validB (nm, R, xs) = true := by
          unfold validB
          rw [names4_ok nm hnm, Bool.true_and, Bool.and_eq_true]
          constructor
          · unfold rulesB
            rw [decide_eq_true (show R.length ≤ 24 by omega), Bool.and_true, List.all_eq_true]
            exact rok
          · unfold incB
            simp only [Bool.and_eq_true, decide_eq_true_eq, List.all_eq_true]
            exact ⟨⟨by omega, by omega⟩, fun y hy => by have := DI.ok y hy; exact inR_yes (by omega) (by omega)⟩
        have DN : DrS n (L ++ [(nm, R, xs)]) a1 a4 := ⟨by simp; omega, fun y hy => by
          rcases List.mem_append.1 hy with h | h
          · exact D.ok y h
          · rw [List.mem_singleton.1 h]; exact vx, by simp; omega⟩
        have ek : IntKind.i64.wrap ((n : Int) - L.length - 1) = (n : Int) - (L ++ [(nm, R, xs)]).length := by rw [w64 (by omega) (by omega)]; simp; omega
        refine ⟨by rw [List.length_map], fun v hv => (by rw [List.mem_singleton.1 hv]; exact ⟨rfl, rfl⟩), by omega, ⟨(L ++ [(nm, R, xs)], a4, sd4), DN⟩, by show n - (L ++ [(nm, R, xs)]).length < _; rw [List.length_append]; simp; omega, ?_⟩
        rw [kk, ki, ek, show L.length + 1 = (L ++ [(nm, R, xs)]).length by simp]
        exact weak_saved code a4 sd4 L (nm, R, xs) _ (by simp [DropTm, DropV, below, belowM, belowL])
  · have hR : L.length = n := by have := of_decide_eq_false g; omega
    refine PostR.tell [1] (hp2 := [savB (L.map savA)]) (by decide) (by decide) (by decide) ?_ rfl rfl ⟨L, D.ok, by omega, rfl, rfl⟩
    simp [SubG, renB, savB, savs_below, savA, ren, renM, renL]
theorem b10Saved_call (code : List Int) (hc : byteL code) (hl : code.length ≤ 1048576) :
    CallA Tryz.prog 8 [.ro (kint .u8 code)] [] (fun r hp => ∃ L : List Sav, (∀ x ∈ L, validB x = true) ∧ L.length ≤ 4 ∧ r = .ro (L.map savA) ∧ hp = []) := by
  refine (CallA.freezeQ 4 (b10Saved0_call code hc hl)).mono ?_
  rintro r hp ⟨r0, new, ⟨L, h1, h2, rfl, rfl⟩, rfl, rfl⟩
  refine ⟨L, h1, h2, ?_, rfl⟩
  have lm : (L.map savA).length = L.length := List.length_map _
  have hv : (L.map savA).map (view 3 [savB (L.map savA)]) = L.map savA := by
    rw [List.map_map]
    exact List.map_congr_left fun r _ => sav_view 2 _ r
  have ht : List.take L.length (L.map savA) = L.map savA := by rw [← lm]; exact List.take_length
  simp only [savB] at hv ⊢
  simp only [view_sl, List.getElem?_cons_zero, List.drop_zero, ht, hv, lm, Nat.zero_add, Nat.le_refl, decide_true, Bool.and_self, if_true]
end Go.Proofs.YtigipcckflcilaaGreatDoor
