/- What a proof needs: the program's search. -/
import Derived.Test.YthcfklkpabfkbaaGreatQrM
set_option maxRecDepth 10000
set_option maxHeartbeats 8000000
set_option linter.unusedSimpArgs false
set_option linter.unusedVariables false
namespace Go.Proofs.YthcfklkpabfkbaaGreat
open Go Go.Abs

theorem indexFuncN_call (fid : FuncId) (caps : List AV) (q : Int → Bool) (hc : caps.all (below 0) = true) (hc2 : caps.all (belowL 0) = true) (xs : List Int) (hq : ∀ x ∈ xs, CallA Tryz.prog fid (.int .i64 x :: caps) [] (Ret (.bool (q x)) [])) (hm : xs.length ≤ 9223372036854775807) :
    CallA Tryz.prog 30 [.ro (ints xs), .fn fid caps] [] (Ret (.int .i64 (findI q xs 0)) []) := by
  refine CallP.out (t := .mk) (go_in (md := md30) mixed Tryz.func30 rfl go30 (by kernel_rfl) ?_)
  simp only [q0, q1, q2, q3, q4, q5, q6, q7, q8, q9, zr0, zr1, zr2, zr3, zq0, zq1, zq2, zq3, zq4, Nat.reduceAdd, Nat.reduceSub, lenA, convA, indexA, indexS, Int.reduceToNat, cond_true, cond_false, ↓reduceIte, reduceCtorEq, Nat.reduceLT, Nat.reduceLeDiff, Nat.reduceMul, Nat.reduceEqDiff, exists_eq', implies_true, exists_true_left, tys0, tys1, tys2, tys3, tys4, und0, und1, und2, und3, md30, Tryz.ntmps30, Tryz.results30]
  have hb : below 0 (.fn fid caps) = true := hc2
  have hb2 : ∀ l, below 0 (.ro l) = true := fun _ => rfl
  have hb3 : ∀ k n, below 0 (.int k n) = true := fun _ _ => rfl
  have hb4 : below 0 .any = true := rfl
  refine go_round (md := md30) mixed (by kernel_rfl) (fun i : {i : Nat // i ≤ xs.length ∧ findI q xs 0 = findI q (xs.drop i) i} => ⟨[.ro (ints xs), .fn fid caps, .any, .any, .any, .any, .any, .int .i64 xs.length, .int .i64 i.1, .any, .any, .any, .any, .any, .any, .any, .any, .any, .any], []⟩) (fun i => xs.length - i.1) ⟨0, by simp⟩ ?_ ?_
  · exact weak_drop (by simp) (by simp [DropHp]) (by simp [DropTm, DropV, hb, hb2, hb3, hb4])
  · intro ⟨i, hi, he⟩
    simp only [q0, q1, q2, q3, q4, q5, q6, q7, q8, q9, zr0, zr1, zr2, zr3, zq0, zq1, zq2, zq3, zq4, Nat.reduceAdd, Nat.reduceSub, lenA, convA, indexA, indexS, Int.reduceToNat, cond_true, cond_false, ↓reduceIte, reduceCtorEq, Nat.reduceLT, Nat.reduceLeDiff, Nat.reduceMul, Nat.reduceEqDiff, exists_eq', implies_true, exists_true_left, tys0, tys1, tys2, tys3, tys4, und0, und1, und2, und3, md30, Tryz.ntmps30, Tryz.results30]
    refine br_intro (fun h => ?_) (fun h => ?_) <;> simp only [q0, q1, q2, q3, q4, q5, q6, q7, q8, q9, zr0, zr1, zr2, zr3, zq0, zq1, zq2, zq3, zq4, Nat.reduceAdd, Nat.reduceSub, lenA, convA, indexA, indexS, Int.reduceToNat, cond_true, cond_false, ↓reduceIte, reduceCtorEq, Nat.reduceLT, Nat.reduceLeDiff, Nat.reduceMul, Nat.reduceEqDiff, exists_eq', implies_true, exists_true_left, tys0, tys1, tys2, tys3, tys4, und0, und1, und2, und3, md30, Tryz.ntmps30, Tryz.results30]
    · have hi' : i < xs.length := by simpa using h
      refine ⟨hi', call_ret (hq _ (List.getElem_mem hi')) (by rw [List.all_cons, hc]; rfl) rfl ?_⟩
      simp only [q0, q1, q2, q3, q4, q5, q6, q7, q8, q9, zr0, zr1, zr2, zr3, zq0, zq1, zq2, zq3, zq4, Nat.reduceAdd, Nat.reduceSub, lenA, convA, indexA, indexS, Int.reduceToNat, cond_true, cond_false, ↓reduceIte, reduceCtorEq, Nat.reduceLT, Nat.reduceLeDiff, Nat.reduceMul, Nat.reduceEqDiff, exists_eq', implies_true, exists_true_left, tys0, tys1, tys2, tys3, tys4, und0, und1, und2, und3, md30, Tryz.ntmps30, Tryz.results30]
      rw [findI_step q xs i hi'] at he
      refine br_intro (fun h2 => ?_) (fun h2 => ?_) <;> simp only [q0, q1, q2, q3, q4, q5, q6, q7, q8, q9, zr0, zr1, zr2, zr3, zq0, zq1, zq2, zq3, zq4, Nat.reduceAdd, Nat.reduceSub, lenA, convA, indexA, indexS, Int.reduceToNat, cond_true, cond_false, ↓reduceIte, reduceCtorEq, Nat.reduceLT, Nat.reduceLeDiff, Nat.reduceMul, Nat.reduceEqDiff, exists_eq', implies_true, exists_true_left, tys0, tys1, tys2, tys3, tys4, und0, und1, und2, und3, md30, Tryz.ntmps30, Tryz.results30]
      · rw [h2] at he
        exact PostR.pure ⟨by rw [he]; rfl, rfl⟩ rfl
      · rw [h2] at he
        refine ⟨⟨i + 1, by omega, he⟩, by show xs.length - (i + 1) < _; omega, ?_⟩
        exact weak_drop (by simp) (by simp [DropHp]) (by simp [DropTm, DropV, hb, hb2, hb3, hb4, w64_succ i (by omega)])
    · have hi' : i = xs.length := by simp at h; omega
      subst hi'
      rw [List.drop_length] at he
      exact PostR.pure ⟨by rw [he]; rfl, rfl⟩ rfl

theorem findI_case {α : Type} (q : α → Bool) : ∀ (xs : List α) (n : Nat), (findI q xs n = -1 ∧ xs.find? q = none) ∨ ∃ (k : Nat) (h : k < xs.length), findI q xs n = ((n + k : Nat) : Int) ∧ xs.find? q = some xs[k]
  | [], n => .inl ⟨rfl, rfl⟩
  | x :: xs, n => by
    unfold findI
    by_cases hx : q x = true
    · right
      exact ⟨0, by simp, by simp [hx], by simp [List.find?, hx]⟩
    · have hx' : q x = false := by simpa using hx
      rcases findI_case q xs (n + 1) with ⟨h1, h2⟩ | ⟨k, hk, h1, h2⟩
      · left
        exact ⟨by simp [hx', h1], by simp [List.find?, hx', h2]⟩
      · right
        refine ⟨k + 1, by simp; omega, ?_, by simp [List.find?, hx', h2]⟩
        rw [if_neg hx, h1]
        congr 1
        omega

def fst1 (ru : Nat → Rul) (order : List Nat) (v : Int) : Option Nat := order.find? fun i => (ru i).1 == v
structure NdL (ru : Nat → Rul) (order : List Nat) (F : Int → Bool) (g : Int → Bool) (ws : List Int) (g' : Int → Bool) : Prop where
  sub : ∀ z, g z = true → g' z = true
  has : ∀ w ∈ ws, F w = false → ∀ i, fst1 ru order w = some i → g' (i : Nat) = true
  new : ∀ i : Nat, g' i = true → g i = false → ∀ v ∈ (ru i).2.1, F v = false → ∀ j, fst1 ru order v = some j → g' (j : Nat) = true
  low : ∀ S : Nat → Prop, (∀ i, S i → ∀ v ∈ (ru i).2.1, F v = false → ∀ j, fst1 ru order v = some j → S j) → (∀ w ∈ ws, F w = false → ∀ i, fst1 ru order w = some i → S i) → ∀ z : Int, g' z = true → g z = true ∨ ∃ i : Nat, z = i ∧ S i
section
variable {ru : Nat → Rul} {order : List Nat} {F : Int → Bool} {g g' g'' : Int → Bool} {ws : List Int} {w : Int}
theorem NdL.nil : NdL ru order F g [] g :=
  ⟨fun _ h => h, fun w h => (by cases h), fun i h1 h2 => (by rw [h1] at h2; cases h2), fun S _ _ z h => .inl h⟩
theorem NdL.none (h : F w = true ∨ (∀ i, fst1 ru order w = some i → g (i : Nat) = true)) : NdL ru order F g [w] g := by
  refine ⟨fun _ h => h, fun v hv hF i hi => ?_, fun i h1 h2 => (by rw [h1] at h2; cases h2), fun S _ _ z h => .inl h⟩
  rw [List.mem_singleton.1 hv] at hF hi
  rcases h with h | h
  · rw [h] at hF; cases hF
  · exact h i hi
theorem NdL.snoc (h : NdL ru order F g ws g') (h2 : NdL ru order F g' [w] g'') : NdL ru order F g (ws ++ [w]) g'' := by
  refine ⟨fun z hz => h2.sub z (h.sub z hz), fun v hv hF i hi => ?_, fun i h3 h4 v hv hF j hj => ?_, fun S hS hw z hz => ?_⟩
  · rcases List.mem_append.1 hv with hv | hv
    · exact h2.sub _ (h.has v hv hF i hi)
    · exact h2.has v hv hF i hi
  · cases hg : g' (i : Nat) with
    | true => exact h2.sub _ (h.new i hg h4 v hv hF j hj)
    | false => exact h2.new i h3 hg v hv hF j hj
  · rcases h2.low S hS (fun v hv => hw v (List.mem_append.2 (.inr hv))) z hz with h5 | h5
    · exact h.low S hS (fun v hv => hw v (List.mem_append.2 (.inl hv))) z h5
    · exact .inr h5
theorem NdL.node {i : Nat} (hi : fst1 ru order w = some i) (hF : F w = false) (hg : g (i : Nat) = false) (h : NdL ru order F (upY g (i : Nat)) (ru i).2.1 g') : NdL ru order F g [w] g' := by
  have hu : ∀ z, g z = true → upY g (i : Nat) z = true := fun z hz => by unfold upY; split <;> first | rfl | exact hz
  refine ⟨fun z hz => h.sub z (hu z hz), fun v hv hFv j hj => ?_, fun k h3 h4 v hv hFv j hj => ?_, fun S hS hw z hz => ?_⟩
  · rw [List.mem_singleton.1 hv] at hj
    rw [hi] at hj
    cases hj
    exact h.sub _ (by unfold upY; simp)
  · by_cases e : k = i
    · subst e
      exact h.has v hv hFv j hj
    · exact h.new k h3 (by unfold upY; rw [if_neg (by omega)]; exact h4) v hv hFv j hj
  · have hSi : S i := hw w (by simp) hF i hi
    rcases h.low S hS (fun v hv hFv j hj => hS i hSi v hv hFv j hj) z hz with h5 | h5
    · unfold upY at h5
      split at h5
      · rename_i e
        exact .inr ⟨i, e, hSi⟩
      · exact .inl h5
    · exact .inr h5
end
def cntO (order : List Nat) (g : Int → Bool) : Nat := order.countP fun i : Nat => !g i
theorem cntO_sub {order : List Nat} {g g' : Int → Bool} (h : ∀ z, g z = true → g' z = true) : cntO order g' ≤ cntO order g := by
  apply List.countP_mono_left
  intro i _ hi
  cases hg : g (i : Nat) with
  | false => rfl
  | true => rw [h _ hg] at hi; cases hi
theorem cntO_up {order : List Nat} {g : Int → Bool} {i : Nat} (hi : i ∈ order) (hg : g (i : Nat) = false) : cntO order (upY g (i : Nat)) < cntO order g := by
  unfold cntO
  have hle : ∀ l : List Nat, l.countP (fun k : Nat => !upY g (i : Nat) k) ≤ l.countP (fun k : Nat => !g k) := fun l => by
    apply List.countP_mono_left
    intro k _ hk
    unfold upY at hk
    split at hk
    · cases hk
    · exact hk
  induction order with
  | nil => cases hi
  | cons k l ih =>
    rw [List.countP_cons, List.countP_cons]
    have h1 := hle l
    by_cases e : k = i
    · subst e
      simp only [upY, if_true, Bool.not_true, Bool.false_eq_true, if_false, hg, Bool.not_false]
      unfold upY at h1
      omega
    · have hi' : i ∈ l := by
        rcases List.mem_cons.1 hi with h2 | h2
        · exact absurd h2.symm e
        · exact h2
      have := ih hi'
      have e2 : upY g (i : Nat) (k : Nat) = g k := by unfold upY; rw [if_neg (by omega)]
      rw [e2]
      omega
def mnB (ps : List (Int × Bool)) : Blk := { ty := 62, w := 0, els := ps.map entA }
def ceB (t : TypeId) (v : AV) : Blk := { ty := t, w := 1, els := [v] }
def neF : AV := .fn 29 [.ptr 2 0 0, .ptr 0 0 0, .ptr 3 0 0, .ptr 4 0 0]
def neH (C : AV) (order : List Nat) (m : List (Int × Bool)) : List Blk := [ceB 55 C, mnB m, ceB 60 (.ro (ints (nI order))), ceB 62 (.mp 1), ceB 63 neF]
section
variable {R : List Rul} {idx fs : List Int} {p q : List AV}
theorem need11_call (i : Nat) (hi : i < R.length) (w : Int) : CallA Tryz.prog 31 [.int .i64 (i : Int), .rop [crtA R idx fs p q], .rop [.int .i64 w]] [] (Ret (.bool ((rkR R i).1 == w)) []) := by
  have hl : (i : Int) < (R.length : Int) := by omega
  rw [rkR_at R i hi]
  refine CallP.out (t := .mk) (go_in (md := md31) mixed Tryz.func31 rfl go31 (by kernel_rfl) ?_)
  simp only [q0, q1, q2, q3, q4, q5, q6, q7, q8, q9, zr0, zr1, zr2, zr3, zq0, zq1, zq2, zq3, zq4, Nat.reduceAdd, Nat.reduceSub, lenA, convA, indexA, indexS, Int.reduceToNat, cond_true, cond_false, ↓reduceIte, reduceCtorEq, Nat.reduceLT, Nat.reduceLeDiff, Nat.reduceMul, Nat.reduceEqDiff, exists_eq', implies_true, exists_true_left, tys0, tys1, tys2, tys3, tys4, und0, und1, und2, und3, md31, Tryz.ntmps31, Tryz.results31, crtA, List.length_map, List.getElem_map, rulA, hi]
  exact PostR.pure ⟨rfl, rfl⟩ (by rfl)
theorem fst1_nI (ru : Nat → Rul) (order : List Nat) (w : Int) : (nI order).find? (fun z => (ru z.toNat).1 == w) = (fst1 ru order w).map fun i : Nat => (i : Int) := by
  unfold nI fst1
  rw [List.find?_map]
  congr 1
theorem need_call (hR : Rls R) (hf : Fcs fs) (order : List Nat) (ho : ∀ i ∈ order, i < R.length) (hol : order.length ≤ 24) : ∀ (c : Nat) (m : List (Int × Bool)) (w : Int), cntO order (yP (m.map entA)) < c →
    CallA Tryz.prog 29 [.int .i64 w, .ptr 2 0 0, .ptr 0 0 0, .ptr 3 0 0, .ptr 4 0 0] (neH (crtA R idx fs p q) order m) (fun r hp => ∃ m' : List (Int × Bool), NdL (rkR R) order (fun w => decide (w ∈ fs)) (yP (m.map entA)) [w] (yP (m'.map entA)) ∧ r = .tup [] ∧ hp = neH (crtA R idx fs p q) order m') := by
  intro c
  induction c with
  | zero => intro m w hc; omega
  | succ c ih =>
  intro m w hc
  have f1 := isFact_call (R := R) (idx := idx) (fs := fs) (p := p) (q := q) (fcs_short hf) w
  have ix := indexFuncN_call 31 [.rop [crtA R idx fs p q], .rop [.int .i64 w]] (fun z => (rkR R z.toNat).1 == w) rfl rfl (nI order) (fun x hx => by
    obtain ⟨i, hi, rfl⟩ := List.mem_map.1 hx
    rw [Int.toNat_natCast]
    exact need11_call i (ho i hi) w) (by rw [nI_len]; omega)
  have fin : ∀ (m' : List (Int × Bool)) (v : List Blk), NdL (rkR R) order (fun w => decide (w ∈ fs)) (yP (m.map entA)) [w] (yP (m'.map entA)) → v = [{ ty := 55, w := 1, els := [crtA R idx fs p q] }, { ty := 62, w := 0, els := m'.map entA }, { ty := 60, w := 1, els := [.ro (ints (nI order))] }, { ty := 62, w := 1, els := [.mp 1] }, { ty := 63, w := 1, els := [.fn 29 [.ptr 2 0 0, .ptr 0 0 0, .ptr 3 0 0, .ptr 4 0 0]] }, { ty := 2, w := 1, els := [.int .i64 w] }] → PostR 5 (.tup []) v (fun r hp => ∃ m' : List (Int × Bool), NdL (rkR R) order (fun w => decide (w ∈ fs)) (yP (m.map entA)) [w] (yP (m'.map entA)) ∧ r = .tup [] ∧ hp = neH (crtA R idx fs p q) order m') := by
    rintro m' v N rfl
    refine PostR.tell [0, 1, 2, 3, 4] (hp2 := neH (crtA R idx fs p q) order m') (by decide) (by decide) (by decide) ?_ (r2 := .tup []) (by rfl) (by rfl) ⟨m', N, rfl, rfl⟩
    refine ⟨⟨?_, ?_⟩, ⟨?_, ?_⟩, ⟨?_, ?_⟩, ⟨?_, ?_⟩, ⟨?_, ?_⟩, trivial⟩
    · simp [renB, ceB, ren, renM, renL, crtA]
    · rfl
    · simp only [List.getElem?_cons_succ, List.getElem?_cons_zero, renB, mnB, Option.some.injEq, Blk.mk.injEq, true_and, and_true]
      rw [List.map_map]
      exact List.map_congr_left fun y _ => rfl
    · exact ent_below _ _
    · simp [renB, ceB, ren, renM, renL]
    · rfl
    · simp [renB, ceB, ren, renM, renL]
    · rfl
    · simp [renB, ceB, neF, ren, renM, renL]
    · rfl
  refine CallP.out (t := .mk) (go_in (md := md29) mixed Tryz.func29 rfl go29 (by kernel_rfl) ?_)
  unfold neH ceB neF
  simp only [q0, q1, q2, q3, q4, q5, q6, q7, q8, q9, zr0, zr1, zr2, zr3, zq0, zq1, zq2, zq3, zq4, Nat.reduceAdd, Nat.reduceSub, lenA, convA, indexA, indexS, Int.reduceToNat, cond_true, cond_false, ↓reduceIte, reduceCtorEq, Nat.reduceLT, Nat.reduceLeDiff, Nat.reduceMul, Nat.reduceEqDiff, exists_eq', implies_true, exists_true_left, tys0, tys1, tys2, tys3, tys4, und0, und1, und2, und3, md29, Tryz.ntmps29, Tryz.results29, crtA, mnB, updE_ents, nI_len, ints_len]
  have fi := fst1_nI (rkR R) order w
  rcases findI_case (fun z => (rkR R z.toNat).1 == w) (nI order) 0 with ⟨e1, e2⟩ | ⟨k, hk, e1, e2⟩
  · rw [e1] at ix
    rw [e2] at fi
    have hno : fst1 (rkR R) order w = none := by
      cases h : fst1 (rkR R) order w with
      | none => rfl
      | some i => rw [h] at fi; cases fi
    refine call_lent 3 (by simp [view_ptr, view_fn, view_ro, view_int, AV.cells, crtA, rop_view]) ix rfl rfl ?_
    simp only [q0, q1, q2, q3, q4, q5, q6, q7, q8, q9, zr0, zr1, zr2, zr3, zq0, zq1, zq2, zq3, zq4, Nat.reduceAdd, Nat.reduceSub, lenA, convA, indexA, indexS, Int.reduceToNat, cond_true, cond_false, ↓reduceIte, reduceCtorEq, Nat.reduceLT, Nat.reduceLeDiff, Nat.reduceMul, Nat.reduceEqDiff, exists_eq', implies_true, exists_true_left, tys0, tys1, tys2, tys3, tys4, und0, und1, und2, und3, md29, Tryz.ntmps29, Tryz.results29, crtA, mnB, updE_ents, nI_len, ints_len]
    refine callr_ret f1 rfl rfl ?_
    simp only [q0, q1, q2, q3, q4, q5, q6, q7, q8, q9, zr0, zr1, zr2, zr3, zq0, zq1, zq2, zq3, zq4, Nat.reduceAdd, Nat.reduceSub, lenA, convA, indexA, indexS, Int.reduceToNat, cond_true, cond_false, ↓reduceIte, reduceCtorEq, Nat.reduceLT, Nat.reduceLeDiff, Nat.reduceMul, Nat.reduceEqDiff, exists_eq', implies_true, exists_true_left, tys0, tys1, tys2, tys3, tys4, und0, und1, und2, und3, md29, Tryz.ntmps29, Tryz.results29, crtA, mnB, updE_ents, nI_len, ints_len]
    refine br_intro (fun b1 => ?_) (fun b1 => ?_) <;> simp only [q0, q1, q2, q3, q4, q5, q6, q7, q8, q9, zr0, zr1, zr2, zr3, zq0, zq1, zq2, zq3, zq4, Nat.reduceAdd, Nat.reduceSub, lenA, convA, indexA, indexS, Int.reduceToNat, cond_true, cond_false, ↓reduceIte, reduceCtorEq, Nat.reduceLT, Nat.reduceLeDiff, Nat.reduceMul, Nat.reduceEqDiff, exists_eq', implies_true, exists_true_left, tys0, tys1, tys2, tys3, tys4, und0, und1, und2, und3, md29, Tryz.ntmps29, Tryz.results29, crtA, mnB, updE_ents, nI_len, ints_len, Int.reduceLT, Int.reduceLE, Int.reduceNeg, Int.reduceEq, Int.reduceGT, Int.reduceGE, decide_true, decide_false, beq_self_eq_true, bne_self_eq_false, Int.reduceBEq, Int.reduceBNe, Int.reduceAdd, Int.reduceSub]
    · exact fin m _ (NdL.none (.inl b1)) (by simp [crtA])
    · exact fin m _ (NdL.none (.inr (fun i hi => by rw [hno] at hi; cases hi))) (by simp [crtA])
  · have hk' : k < order.length := by rw [nI_len] at hk; exact hk
    have ek : (nI order)[k] = (order[k] : Nat) := by simp [nI]
    rw [Nat.zero_add] at e1
    rw [e1] at ix
    rw [e2, ek] at fi
    have hsome : fst1 (rkR R) order w = some order[k] := by
      cases h : fst1 (rkR R) order w with
      | none => rw [h] at fi; cases fi
      | some i =>
        rw [h] at fi
        simp only [Option.map_some, Option.some.injEq] at fi
        congr 1
        omega
    have hmem := List.getElem_mem hk'
    have hi := ho _ hmem
    have hru := rkR_at R order[k] hi
    refine call_lent 3 (by simp [view_ptr, view_fn, view_ro, view_int, AV.cells, crtA, rop_view]) ix rfl rfl ?_
    simp only [q0, q1, q2, q3, q4, q5, q6, q7, q8, q9, zr0, zr1, zr2, zr3, zq0, zq1, zq2, zq3, zq4, Nat.reduceAdd, Nat.reduceSub, lenA, convA, indexA, indexS, Int.reduceToNat, cond_true, cond_false, ↓reduceIte, reduceCtorEq, Nat.reduceLT, Nat.reduceLeDiff, Nat.reduceMul, Nat.reduceEqDiff, exists_eq', implies_true, exists_true_left, tys0, tys1, tys2, tys3, tys4, und0, und1, und2, und3, md29, Tryz.ntmps29, Tryz.results29, crtA, mnB, updE_ents, nI_len, ints_len]
    refine callr_ret f1 rfl rfl ?_
    simp only [q0, q1, q2, q3, q4, q5, q6, q7, q8, q9, zr0, zr1, zr2, zr3, zq0, zq1, zq2, zq3, zq4, Nat.reduceAdd, Nat.reduceSub, lenA, convA, indexA, indexS, Int.reduceToNat, cond_true, cond_false, ↓reduceIte, reduceCtorEq, Nat.reduceLT, Nat.reduceLeDiff, Nat.reduceMul, Nat.reduceEqDiff, exists_eq', implies_true, exists_true_left, tys0, tys1, tys2, tys3, tys4, und0, und1, und2, und3, md29, Tryz.ntmps29, Tryz.results29, crtA, mnB, updE_ents, nI_len, ints_len]
    refine br_intro (fun b1 => ?_) (fun b1 => ?_) <;> simp only [q0, q1, q2, q3, q4, q5, q6, q7, q8, q9, zr0, zr1, zr2, zr3, zq0, zq1, zq2, zq3, zq4, Nat.reduceAdd, Nat.reduceSub, lenA, convA, indexA, indexS, Int.reduceToNat, cond_true, cond_false, ↓reduceIte, reduceCtorEq, Nat.reduceLT, Nat.reduceLeDiff, Nat.reduceMul, Nat.reduceEqDiff, exists_eq', implies_true, exists_true_left, tys0, tys1, tys2, tys3, tys4, und0, und1, und2, und3, md29, Tryz.ntmps29, Tryz.results29, crtA, mnB, updE_ents, nI_len, ints_len]
    · exact fin m _ (NdL.none (.inl b1)) (by simp [crtA])
    · refine br_no (by first | exact decide_eq_false (by omega) | exact beq_false_of_ne (by omega) | (simp only [bne_eq_false_iff_eq, beq_eq_false_iff_ne, ne_eq]; omega)) ?_; simp only [q0, q1, q2, q3, q4, q5, q6, q7, q8, q9, zr0, zr1, zr2, zr3, zq0, zq1, zq2, zq3, zq4, Nat.reduceAdd, Nat.reduceSub, lenA, convA, indexA, indexS, Int.reduceToNat, cond_true, cond_false, ↓reduceIte, reduceCtorEq, Nat.reduceLT, Nat.reduceLeDiff, Nat.reduceMul, Nat.reduceEqDiff, exists_eq', implies_true, exists_true_left, tys0, tys1, tys2, tys3, tys4, und0, und1, und2, und3, md29, Tryz.ntmps29, Tryz.results29, crtA, mnB, updE_ents, nI_len, ints_len]
      refine ⟨hk', ?_⟩
      refine br_intro (fun b2 => ?_) (fun b2 => ?_) <;> simp only [q0, q1, q2, q3, q4, q5, q6, q7, q8, q9, zr0, zr1, zr2, zr3, zq0, zq1, zq2, zq3, zq4, Nat.reduceAdd, Nat.reduceSub, lenA, convA, indexA, indexS, Int.reduceToNat, cond_true, cond_false, ↓reduceIte, reduceCtorEq, Nat.reduceLT, Nat.reduceLeDiff, Nat.reduceMul, Nat.reduceEqDiff, exists_eq', implies_true, exists_true_left, tys0, tys1, tys2, tys3, tys4, und0, und1, und2, und3, md29, Tryz.ntmps29, Tryz.results29, crtA, mnB, updE_ents, nI_len, ints_len, ek]
      · rw [ek] at b2
        exact fin m _ (NdL.none (.inr (fun i hi => by rw [hsome] at hi; cases hi; exact b2))) (by simp [crtA])
      rw [ek] at b2
      refine ⟨hk', hk', ?_⟩
      have hI : (order[k] : Int) < (R.length : Int) := by omega
      simp only [q0, q1, q2, q3, q4, q5, q6, q7, q8, q9, zr0, zr1, zr2, zr3, zq0, zq1, zq2, zq3, zq4, Nat.reduceAdd, Nat.reduceSub, lenA, convA, indexA, indexS, Int.reduceToNat, cond_true, cond_false, ↓reduceIte, reduceCtorEq, Nat.reduceLT, Nat.reduceLeDiff, Nat.reduceMul, Nat.reduceEqDiff, exists_eq', implies_true, exists_true_left, tys0, tys1, tys2, tys3, tys4, und0, und1, und2, und3, md29, Tryz.ntmps29, Tryz.results29, crtA, mnB, updE_ents, nI_len, ints_len, ek, List.length_map, List.getElem_map, rulA, hi, hI]
      have eu := yP_upd (order[k] : Nat) m
      have hlt := cntO_up (g := yP (m.map entA)) hmem b2
      have h6 := (hR.ok _ (List.getElem_mem hi)).2.1.1
      refine go_round (md := md29) mixed (by kernel_rfl) (fun x : {x : Nat × List (Int × Bool) // x.1 ≤ R[order[k]].2.1.length ∧ NdL (rkR R) order (fun w => decide (w ∈ fs)) (upY (yP (m.map entA)) (order[k] : Nat)) (R[order[k]].2.1.take x.1) (yP (x.2.map entA))} => ⟨[.any, .any, .any, .any, .ptr 4 0 0, .any, .any, .any, .any, .any, .any, .any, .any, .any, .any, .any, .any, .any, .any, .any, .any, .any, .any, .any, .any, .any, .any, .any, .any, .any, .any, .any, .any, .any, .any, .any, .any, .any, .any, .any, .any, .any, .ro (ints R[order[k]].2.1), .int .i64 R[order[k]].2.1.length, .int .i64 x.1.1, .any, .any, .any, .any, .any, .any, .any], [{ ty := 55, w := 1, els := [.rop [.ro (R.map rulA), .ro (ints idx), .ro (ints fs), .rom p, .rom q]] }, { ty := 62, w := 0, els := x.1.2.map entA }, { ty := 60, w := 1, els := [.ro (ints (nI order))] }, { ty := 62, w := 1, els := [.mp 1] }, { ty := 63, w := 1, els := [.fn 29 [.ptr 2 0 0, .ptr 0 0 0, .ptr 3 0 0, .ptr 4 0 0]] }]⟩) (fun x => R[order[k]].2.1.length - x.1.1) ⟨(0, updP (order[k] : Nat) true m), Nat.zero_le _, by rw [eu]; exact NdL.nil⟩ ?_ ?_
      · exact weak_drop (by simp) (by simp [DropHp, ints_below, flts_below, ent_below, allBelow_cons, allBelow_nil, below, belowM, belowL]) (by simp [DropTm, DropV, below, belowM, belowL, ent_below, allBelow_cons, allBelow_nil, below, belowM, belowL])
      rintro ⟨⟨j, m'⟩, hj, N⟩
      dsimp only at hj N ⊢
      simp only [q0, q1, q2, q3, q4, q5, q6, q7, q8, q9, zr0, zr1, zr2, zr3, zq0, zq1, zq2, zq3, zq4, Nat.reduceAdd, Nat.reduceSub, lenA, convA, indexA, indexS, Int.reduceToNat, cond_true, cond_false, ↓reduceIte, reduceCtorEq, Nat.reduceLT, Nat.reduceLeDiff, Nat.reduceMul, Nat.reduceEqDiff, exists_eq', implies_true, exists_true_left, tys0, tys1, tys2, tys3, tys4, und0, und1, und2, und3, md29, Tryz.ntmps29, Tryz.results29, crtA, mnB, updE_ents, nI_len, ints_len]
      refine br_intro (fun h => ?_) (fun h => ?_) <;> simp only [q0, q1, q2, q3, q4, q5, q6, q7, q8, q9, zr0, zr1, zr2, zr3, zq0, zq1, zq2, zq3, zq4, Nat.reduceAdd, Nat.reduceSub, lenA, convA, indexA, indexS, Int.reduceToNat, cond_true, cond_false, ↓reduceIte, reduceCtorEq, Nat.reduceLT, Nat.reduceLeDiff, Nat.reduceMul, Nat.reduceEqDiff, exists_eq', implies_true, exists_true_left, tys0, tys1, tys2, tys3, tys4, und0, und1, und2, und3, md29, Tryz.ntmps29, Tryz.results29, crtA, mnB, updE_ents, nI_len, ints_len]
      · have hj' : j < R[order[k]].2.1.length := by simpa using h
        refine ⟨hj', ?_⟩
        have hc2 : cntO order (yP (m'.map entA)) < c := by
          have := cntO_sub (order := order) N.sub
          have e0 : cntO order (yP (m.map entA)) < c + 1 := hc
          omega
        refine call_by (ih m' _ hc2) ?_
        rintro r hp ⟨m2, N2, rfl, rfl⟩
        unfold neH ceB neF
        simp only [q0, q1, q2, q3, q4, q5, q6, q7, q8, q9, zr0, zr1, zr2, zr3, zq0, zq1, zq2, zq3, zq4, Nat.reduceAdd, Nat.reduceSub, lenA, convA, indexA, indexS, Int.reduceToNat, cond_true, cond_false, ↓reduceIte, reduceCtorEq, Nat.reduceLT, Nat.reduceLeDiff, Nat.reduceMul, Nat.reduceEqDiff, exists_eq', implies_true, exists_true_left, tys0, tys1, tys2, tys3, tys4, und0, und1, und2, und3, md29, Tryz.ntmps29, Tryz.results29, crtA, mnB, updE_ents, nI_len, ints_len]
        have N3 := N.snoc N2
        rw [← take_snoc _ _ hj'] at N3
        refine ⟨⟨(j + 1, m2), by show j + 1 ≤ _; omega, N3⟩, by show _ - (j + 1) < _; omega, ?_⟩
        exact weak_drop (by simp) (by simp [DropHp, ints_below, flts_below, w64_succ j (by omega), ent_below, allBelow_cons, allBelow_nil, below, belowM, belowL]) (by simp [DropTm, DropV, below, belowM, belowL, w64_succ j (by omega), ent_below, allBelow_cons, allBelow_nil, below, belowM, belowL])
      · have hj' : j = R[order[k]].2.1.length := by simp at h; omega
        subst hj'
        rw [List.take_length, ← hru] at N
        exact PostR.same ⟨m', NdL.node hsome b1 b2 N, rfl, by simp [neH, ceB, neF, mnB, crtA]⟩
end
end Go.Proofs.YthcfklkpabfkbaaGreat
