/- What a word needs: the program's. -/
import Derived.Test.YthcfklkpabfkbaaGreatQrS
import Derived.Test.YthcfklkpabfkbaaGreatQrT
set_option maxRecDepth 10000
set_option maxHeartbeats 8000000
set_option linter.unusedSimpArgs false
set_option linter.unusedVariables false
namespace Go.Proofs.YthcfklkpabfkbaaGreat
open Go Go.Abs

def NClo (R : List Rul) (day x : Int) (S : Int → Prop) : Prop := S (atomF x) ∧ ∀ r ∈ R, onB day r = true → S (atomF r.1) → ∀ w ∈ r.2.1, S (atomF w)
structure NB (R : List Rul) (day x : Int) (out : List Int) : Prop where
  nd : out.Nodup
  rng : ∀ v ∈ out, 1 ≤ v ∧ v ≤ 16
  base : atomF x ∈ out
  low : ∀ S, NClo R day x S → ∀ v ∈ out, S v
def Dn (R : List Rul) (day : Int) (out : List Int) (a : Nat) : Prop := ∀ i v, i < a → out[i]? = some v → ∀ r ∈ R, onB day r = true → atomF r.1 = v → ∀ w ∈ r.2.1, atomF w ∈ out
def a16 : List Int := (List.range 16).map fun i : Nat => (i : Int) + 1
theorem a16_mem {v : Int} (h : 1 ≤ v ∧ v ≤ 16) : v ∈ a16 := by
  unfold a16
  rw [List.mem_map]
  exact ⟨v.toNat - 1, List.mem_range.2 (by omega), by omega⟩
theorem NB.len {R : List Rul} {day x : Int} {out : List Int} (h : NB R day x out) : out.length ≤ 16 := by
  have := h.nd.length_le_of_subset (l₂ := a16) (fun v hv => a16_mem (h.rng v hv))
  simpa [a16] using this
theorem NB.snoc {R : List Rul} {day x : Int} {out : List Int} (h : NB R day x out) {u : Int} (hu : u ∉ out) (hr : 1 ≤ u ∧ u ≤ 16) (hl : ∀ S, NClo R day x S → S u) : NB R day x (out ++ [u]) where
  nd := by
    rw [List.nodup_append]
    refine ⟨h.nd, by simp, fun a ha b hb e => ?_⟩
    rw [List.mem_singleton.1 hb] at e
    exact hu (e ▸ ha)
  rng := fun v hv => by
    rcases List.mem_append.1 hv with hv | hv
    · exact h.rng v hv
    · rw [List.mem_singleton.1 hv]; exact hr
  base := List.mem_append.2 (.inl h.base)
  low := fun S hS v hv => by
    rcases List.mem_append.1 hv with hv | hv
    · exact h.low S hS v hv
    · rw [List.mem_singleton.1 hv]; exact hl S hS
theorem Dn.snoc {R : List Rul} {day : Int} {out : List Int} {a : Nat} (h : Dn R day out a) (ha : a ≤ out.length) (u : Int) : Dn R day (out ++ [u]) a := fun i v hi hv r hr hon he w hw => by
  rw [List.getElem?_append_left (by omega)] at hv
  exact List.mem_append.2 (.inl (h i v hi hv r hr hon he w hw))
theorem atomF_rng {w : Int} (h : wordB w = true) : 1 ≤ atomF w ∧ atomF w ≤ 16 := by
  have h1 := wordB_low h
  have h2 : w ≠ 0 := fun e => by rw [e] at h; exact absurd h (by decide)
  unfold atomF
  split <;> omega
structure NM (R : List Rul) (day x : Int) (a : Nat) (v : Int) (out : List Int) (k : Nat) : Prop where
  b : NB R day x out
  d : Dn R day out a
  at' : out[a]? = some v
  m : ∀ r ∈ R.take k, onB day r = true → atomF r.1 = v → ∀ w ∈ r.2.1, atomF w ∈ out
theorem NM.lt {R : List Rul} {day x : Int} {a : Nat} {v : Int} {out : List Int} {k : Nat} (h : NM R day x a v out k) : a < out.length := (List.getElem?_eq_some_iff.1 h.at').1
theorem NM.skip {R : List Rul} {day x : Int} {a : Nat} {v : Int} {out : List Int} {k : Nat} (h : NM R day x a v out k) (hk : k < R.length) (hn : onB day R[k] = false ∨ atomF R[k].1 ≠ v) : NM R day x a v out (k + 1) := ⟨h.b, h.d, h.at', fun r hr hon he w hw => by
  rw [take_snoc _ _ hk] at hr
  rcases List.mem_append.1 hr with hr | hr
  · exact h.m r hr hon he w hw
  · rw [List.mem_singleton.1 hr] at hon he
    rcases hn with hn | hn
    · rw [hon] at hn; cases hn
    · exact absurd he hn⟩
theorem NM.all {R : List Rul} {day x : Int} {a : Nat} {v : Int} {out : List Int} {k : Nat} (h : NM R day x a v out k) (hk : k < R.length) (hn : ∀ w ∈ R[k].2.1, atomF w ∈ out) : NM R day x a v out (k + 1) := ⟨h.b, h.d, h.at', fun r hr hon he w hw => by
  rw [take_snoc _ _ hk] at hr
  rcases List.mem_append.1 hr with hr | hr
  · exact h.m r hr hon he w hw
  · rw [List.mem_singleton.1 hr] at hw
    exact hn w hw⟩
theorem NM.add {R : List Rul} {day x : Int} {a : Nat} {v : Int} {out : List Int} {k : Nat} (h : NM R day x a v out k) {u : Int} (hu : u ∉ out) (hr : 1 ≤ u ∧ u ≤ 16) (hl : ∀ S, NClo R day x S → S u) : NM R day x a v (out ++ [u]) k :=
  ⟨h.b.snoc hu hr hl, h.d.snoc (Nat.le_of_lt h.lt) u, by rw [List.getElem?_append_left h.lt]; exact h.at', fun r hr hon he w hw => List.mem_append.2 (.inl (h.m r hr hon he w hw))⟩
theorem NM.done {R : List Rul} {day x : Int} {a : Nat} {v : Int} {out : List Int} (h : NM R day x a v out R.length) : Dn R day out (a + 1) := fun i u hi hu r hr hon he w hw => by
  by_cases e : i = a
  · subst e
    rw [h.at'] at hu
    cases hu
    exact h.m r (by rw [List.take_length]; exact hr) hon he w hw
  · exact h.d i u (by omega) hu r hr hon he w hw
def ascB (S : Int → Bool) : List Int := ((List.range 17).map fun i : Nat => (i : Int)).filter S
theorem sortI_asc (xs : List Int) (hn : xs.Nodup) (S : Int → Bool) (h : ∀ v, v ∈ xs ↔ (0 ≤ v ∧ v ≤ 16) ∧ S v = true) : sortI xs = ascB S := by
  have p0 : ((List.range 17).map fun i : Nat => (i : Int)).Pairwise (· < ·) := by
    rw [List.pairwise_map]
    exact List.pairwise_lt_range.imp fun h => by omega
  have p1 : (ascB S).Pairwise (· < ·) := p0.filter S
  have hperm : (sortI xs).Perm (ascB S) := by
    refine (List.mergeSort_perm xs _).trans ((List.perm_ext_iff_of_nodup hn (p1.imp fun h => by omega)).2 fun v => ?_)
    rw [h v]
    unfold ascB
    rw [List.mem_filter, List.mem_map]
    constructor
    · rintro ⟨⟨h1, h2⟩, h3⟩
      exact ⟨⟨v.toNat, List.mem_range.2 (by omega), by omega⟩, h3⟩
    · rintro ⟨⟨i, hi, rfl⟩, h3⟩
      exact ⟨⟨by omega, by have := List.mem_range.1 hi; omega⟩, h3⟩
  refine List.Perm.eq_of_pairwise (le := fun a b : Int => a ≤ b) (fun a b _ _ h1 h2 => by omega) ?_ (p1.imp fun h => by omega) hperm
  have := List.pairwise_mergeSort (le := fun a b : Int => decide (a ≤ b)) (fun a b c h1 h2 => by simp at *; omega) (fun a b => by simp; omega) xs
  exact this.imp fun h => by simpa using h

theorem sortI_call (xs : List Int) (h : xs.length ≤ 1048576) (e : TypeId) : CallA Tryz.prog 50 [.sl 0 0 xs.length] [{ ty := e, w := 1, els := ints xs }] (Ret (.tup []) [{ ty := e, w := 1, els := ints (sortI xs) }]) :=
  sort_call go50 fun blk off cap w hH hb => slices_Sort_int blk off cap xs w hH hb (by omega)

theorem implNeeds0_call (R : List Rul) (hR : Rls R) (rb : rulesB R = true) (day : Int) (hd : inR 0 100000 day = true) (x : Int) (hx : wordB x = true) :
    CallA Tryz.prog 16 [.ro (R.map rulA), .int .i64 day, .int .i64 x] [] (fun r hp => ∃ out, NB R day x out ∧ Dn R day out out.length ∧ r = .tup [.sl 0 0 (sortI out).length, .bool true] ∧ hp = [intB (sortI out)]) := by
  have hl := hR.len
  have c1 := areRules_call R (by omega) (fun r h => by have := (hR.ok r h).2.1.1; omega)
  rw [rb] at c1
  have c3 := isDate_call day
  rw [hd] at c3
  have wx := isWord_call x
  rw [hx] at wx
  refine CallP.out (t := .mk) (go_in (md := md16) mixed Tryz.func16 rfl go16 (by kernel_rfl) ?_)
  simp only [q0, q1, q2, q3, q4, q5, q6, q7, q8, q9, zr0, zr1, zr2, zr3, zq0, zq1, zq2, zq3, zq4, Nat.reduceAdd, Nat.reduceSub, lenA, convA, indexA, indexS, Int.reduceToNat, cond_true, cond_false, ↓reduceIte, reduceCtorEq, Nat.reduceLT, Nat.reduceLeDiff, Nat.reduceMul, Nat.reduceEqDiff, exists_eq', implies_true, exists_true_left, tys0, tys1, tys2, tys3, tys4, und0, und1, und2, und3, md16, Tryz.ntmps16, Tryz.results16]
  refine call_ret c1 rfl rfl ?_
  simp only [q0, q1, q2, q3, q4, q5, q6, q7, q8, q9, zr0, zr1, zr2, zr3, zq0, zq1, zq2, zq3, zq4, Nat.reduceAdd, Nat.reduceSub, lenA, convA, indexA, indexS, Int.reduceToNat, cond_true, cond_false, ↓reduceIte, reduceCtorEq, Nat.reduceLT, Nat.reduceLeDiff, Nat.reduceMul, Nat.reduceEqDiff, exists_eq', implies_true, exists_true_left, tys0, tys1, tys2, tys3, tys4, und0, und1, und2, und3, md16, Tryz.ntmps16, Tryz.results16]
  refine call_ret c3 rfl rfl ?_
  simp only [q0, q1, q2, q3, q4, q5, q6, q7, q8, q9, zr0, zr1, zr2, zr3, zq0, zq1, zq2, zq3, zq4, Nat.reduceAdd, Nat.reduceSub, lenA, convA, indexA, indexS, Int.reduceToNat, cond_true, cond_false, ↓reduceIte, reduceCtorEq, Nat.reduceLT, Nat.reduceLeDiff, Nat.reduceMul, Nat.reduceEqDiff, exists_eq', implies_true, exists_true_left, tys0, tys1, tys2, tys3, tys4, und0, und1, und2, und3, md16, Tryz.ntmps16, Tryz.results16]
  refine call_ret wx rfl rfl ?_
  simp only [q0, q1, q2, q3, q4, q5, q6, q7, q8, q9, zr0, zr1, zr2, zr3, zq0, zq1, zq2, zq3, zq4, Nat.reduceAdd, Nat.reduceSub, lenA, convA, indexA, indexS, Int.reduceToNat, cond_true, cond_false, ↓reduceIte, reduceCtorEq, Nat.reduceLT, Nat.reduceLeDiff, Nat.reduceMul, Nat.reduceEqDiff, exists_eq', implies_true, exists_true_left, tys0, tys1, tys2, tys3, tys4, und0, und1, und2, und3, md16, Tryz.ntmps16, Tryz.results16]
  refine call_ret (atom_call x (wordB_low hx)) rfl rfl ?_
  simp only [q0, q1, q2, q3, q4, q5, q6, q7, q8, q9, zr0, zr1, zr2, zr3, zq0, zq1, zq2, zq3, zq4, Nat.reduceAdd, Nat.reduceSub, lenA, convA, indexA, indexS, Int.reduceToNat, cond_true, cond_false, ↓reduceIte, reduceCtorEq, Nat.reduceLT, Nat.reduceLeDiff, Nat.reduceMul, Nat.reduceEqDiff, exists_eq', implies_true, exists_true_left, tys0, tys1, tys2, tys3, tys4, und0, und1, und2, und3, md16, Tryz.ntmps16, Tryz.results16]
  refine go_round (md := md16) mixed (by kernel_rfl) (fun s : {s : Nat × List Int // s.1 ≤ s.2.length ∧ NB R day x s.2 ∧ Dn R day s.2 s.1} => ⟨[.ro (R.map rulA), .int .i64 day, .any, .any, .any, .any, .any, .any, .sl 0 0 s.1.2.length, .int .i64 s.1.1, .any, .any, .any, .any, .any, .any, .any, .any, .any, .any, .any, .any, .any, .any, .any, .any, .any, .any, .any, .any, .any, .any, .any, .any, .any, .any, .any, .any, .any, .any, .any, .any, .any, .any, .any, .any, .any, .any, .any, .any, .any, .any, .any, .any, .any, .any, .any, .any, .any, .any, .any, .any, .any, .any, .any, .any, .any, .any, .any, .any, .any, .any, .any, .any, .any, .any, .any, .any], [intB s.1.2]⟩) (fun s => 17 - s.1.1) ⟨(0, [atomF x]), Nat.zero_le _, ⟨by simp, fun v hv => by rw [List.mem_singleton.1 hv]; exact atomF_rng hx, by simp, fun S hS v hv => by rw [List.mem_singleton.1 hv]; exact hS.1⟩, fun i v hi => by cases hi⟩ ?_ ?_
  · exact weak_drop (by simp) (by simp [DropHp, ints_below, flts_below, intB, allBelow_cons, allBelow_nil, below, belowM, belowL, show ints [atomF x] = [.int .i64 (atomF x)] from rfl]) (by simp [DropTm, DropV, below, belowM, belowL, intB, allBelow_cons, allBelow_nil, below, belowM, belowL, show ints [atomF x] = [.int .i64 (atomF x)] from rfl])
  rintro ⟨⟨a, out⟩, ha, B, D⟩
  dsimp only at ha B D ⊢
  have hol := B.len
  simp only [q0, q1, q2, q3, q4, q5, q6, q7, q8, q9, zr0, zr1, zr2, zr3, zq0, zq1, zq2, zq3, zq4, Nat.reduceAdd, Nat.reduceSub, lenA, convA, indexA, indexS, Int.reduceToNat, cond_true, cond_false, ↓reduceIte, reduceCtorEq, Nat.reduceLT, Nat.reduceLeDiff, Nat.reduceMul, Nat.reduceEqDiff, exists_eq', implies_true, exists_true_left, tys0, tys1, tys2, tys3, tys4, und0, und1, und2, und3, md16, Tryz.ntmps16, Tryz.results16, intB, ints_len]
  refine br_intro (fun h => ?_) (fun h => ?_) <;> simp only [q0, q1, q2, q3, q4, q5, q6, q7, q8, q9, zr0, zr1, zr2, zr3, zq0, zq1, zq2, zq3, zq4, Nat.reduceAdd, Nat.reduceSub, lenA, convA, indexA, indexS, Int.reduceToNat, cond_true, cond_false, ↓reduceIte, reduceCtorEq, Nat.reduceLT, Nat.reduceLeDiff, Nat.reduceMul, Nat.reduceEqDiff, exists_eq', implies_true, exists_true_left, tys0, tys1, tys2, tys3, tys4, und0, und1, und2, und3, md16, Tryz.ntmps16, Tryz.results16, intB, ints_len, List.length_map]
  · have ha' : a < out.length := by simpa using h
    refine go_round (md := md16) mixed (by kernel_rfl) (fun s : {s : Nat × List Int // s.1 ≤ R.length ∧ NM R day x a out[a] s.2 s.1} => ⟨[.ro (R.map rulA), .int .i64 day, .any, .any, .any, .any, .any, .any, .sl 0 0 s.1.2.length, .int .i64 a, .any, .any, .any, .any, .any, .any, .any, .any, .any, .any, .any, .any, .any, .any, .any, .any, .any, .any, .any, .any, .any, .any, .any, .any, .any, .any, .ro (R.map rulA), .int .i64 R.length, .int .i64 s.1.1, .any, .any, .any, .any, .any, .any, .any, .any, .any, .any, .any, .any, .any, .any, .any, .any, .any, .any, .any, .any, .any, .any, .any, .any, .any, .any, .any, .any, .any, .any, .any, .any, .any, .any, .any, .any, .any, .any, .any], [intB s.1.2]⟩) (fun s => R.length - s.1.1) ⟨(0, out), Nat.zero_le _, ⟨B, D, by simp [ha'], fun r hr => by cases hr⟩⟩ ?_ ?_
    · exact weak_drop (by simp) (by simp [DropHp, ints_below, flts_below, intB, allBelow_cons, allBelow_nil, below, belowM, belowL]) (by simp [DropTm, DropV, below, belowM, belowL, intB, allBelow_cons, allBelow_nil, below, belowM, belowL])
    generalize out[a] = v
    clear B D hol h ha' ha
    clear out
    rintro ⟨⟨k, out⟩, hk, M⟩
    dsimp only at hk M ⊢
    have hol := M.b.len
    have ha' := M.lt
    simp only [q0, q1, q2, q3, q4, q5, q6, q7, q8, q9, zr0, zr1, zr2, zr3, zq0, zq1, zq2, zq3, zq4, Nat.reduceAdd, Nat.reduceSub, lenA, convA, indexA, indexS, Int.reduceToNat, cond_true, cond_false, ↓reduceIte, reduceCtorEq, Nat.reduceLT, Nat.reduceLeDiff, Nat.reduceMul, Nat.reduceEqDiff, exists_eq', implies_true, exists_true_left, tys0, tys1, tys2, tys3, tys4, und0, und1, und2, und3, md16, Tryz.ntmps16, Tryz.results16, intB, ints_len, List.length_map]
    refine br_intro (fun h => ?_) (fun h => ?_) <;> simp only [q0, q1, q2, q3, q4, q5, q6, q7, q8, q9, zr0, zr1, zr2, zr3, zq0, zq1, zq2, zq3, zq4, Nat.reduceAdd, Nat.reduceSub, lenA, convA, indexA, indexS, Int.reduceToNat, cond_true, cond_false, ↓reduceIte, reduceCtorEq, Nat.reduceLT, Nat.reduceLeDiff, Nat.reduceMul, Nat.reduceEqDiff, exists_eq', implies_true, exists_true_left, tys0, tys1, tys2, tys3, tys4, und0, und1, und2, und3, md16, Tryz.ntmps16, Tryz.results16, intB, ints_len, List.length_map]
    · have hk' : k < R.length := by simpa using h
      refine ⟨hk', ?_⟩
      simp only [q0, q1, q2, q3, q4, q5, q6, q7, q8, q9, zr0, zr1, zr2, zr3, zq0, zq1, zq2, zq3, zq4, Nat.reduceAdd, Nat.reduceSub, lenA, convA, indexA, indexS, Int.reduceToNat, cond_true, cond_false, ↓reduceIte, reduceCtorEq, Nat.reduceLT, Nat.reduceLeDiff, Nat.reduceMul, Nat.reduceEqDiff, exists_eq', implies_true, exists_true_left, tys0, tys1, tys2, tys3, tys4, und0, und1, und2, und3, md16, Tryz.ntmps16, Tryz.results16, List.getElem_map, rulA, intB]
      have hr := hR.ok _ (List.getElem_mem hk')
      have h6 := hr.2.1.1
      refine callr_ret (isActive_call R[k] day) (by rfl) rfl ?_
      simp only [q0, q1, q2, q3, q4, q5, q6, q7, q8, q9, zr0, zr1, zr2, zr3, zq0, zq1, zq2, zq3, zq4, Nat.reduceAdd, Nat.reduceSub, lenA, convA, indexA, indexS, Int.reduceToNat, cond_true, cond_false, ↓reduceIte, reduceCtorEq, Nat.reduceLT, Nat.reduceLeDiff, Nat.reduceMul, Nat.reduceEqDiff, exists_eq', implies_true, exists_true_left, tys0, tys1, tys2, tys3, tys4, und0, und1, und2, und3, md16, Tryz.ntmps16, Tryz.results16, List.getElem_map, rulA, intB]
      refine br_intro (fun b1 => ?_) (fun b1 => ?_) <;> simp only [q0, q1, q2, q3, q4, q5, q6, q7, q8, q9, zr0, zr1, zr2, zr3, zq0, zq1, zq2, zq3, zq4, Nat.reduceAdd, Nat.reduceSub, lenA, convA, indexA, indexS, Int.reduceToNat, cond_true, cond_false, ↓reduceIte, reduceCtorEq, Nat.reduceLT, Nat.reduceLeDiff, Nat.reduceMul, Nat.reduceEqDiff, exists_eq', implies_true, exists_true_left, tys0, tys1, tys2, tys3, tys4, und0, und1, und2, und3, md16, Tryz.ntmps16, Tryz.results16, List.getElem_map, rulA, intB]
      rotate_left
      · refine ⟨⟨(k + 1, out), by show k + 1 ≤ _; omega, M.skip hk' (.inl b1)⟩, by show R.length - (k + 1) < _; omega, ?_⟩
        exact weak_drop (by simp) (by simp [DropHp, ints_below, flts_below, intB, allBelow_cons, allBelow_nil, below, belowM, belowL, w64_succ k (by omega)]) (by simp [DropTm, DropV, below, belowM, belowL, intB, allBelow_cons, allBelow_nil, below, belowM, belowL, w64_succ k (by omega)])
      refine callr_ret (atom_call R[k].1 (wordB_low hr.1)) (by rfl) rfl ?_
      have ga : ∀ h, (ints out)[a]'h = .int .i64 v := fun h => by
        have := M.at'
        rw [List.getElem?_eq_getElem ha'] at this
        simp only [Option.some.injEq] at this
        simp [ints, this]
      simp only [q0, q1, q2, q3, q4, q5, q6, q7, q8, q9, zr0, zr1, zr2, zr3, zq0, zq1, zq2, zq3, zq4, Nat.reduceAdd, Nat.reduceSub, lenA, convA, indexA, indexS, Int.reduceToNat, cond_true, cond_false, ↓reduceIte, reduceCtorEq, Nat.reduceLT, Nat.reduceLeDiff, Nat.reduceMul, Nat.reduceEqDiff, exists_eq', implies_true, exists_true_left, tys0, tys1, tys2, tys3, tys4, und0, und1, und2, und3, md16, Tryz.ntmps16, Tryz.results16, List.getElem_map, rulA, intB, ga]
      refine ⟨by omega, ha', ?_⟩
      refine br_intro (fun b2 => ?_) (fun b2 => ?_) <;> simp only [q0, q1, q2, q3, q4, q5, q6, q7, q8, q9, zr0, zr1, zr2, zr3, zq0, zq1, zq2, zq3, zq4, Nat.reduceAdd, Nat.reduceSub, lenA, convA, indexA, indexS, Int.reduceToNat, cond_true, cond_false, ↓reduceIte, reduceCtorEq, Nat.reduceLT, Nat.reduceLeDiff, Nat.reduceMul, Nat.reduceEqDiff, exists_eq', implies_true, exists_true_left, tys0, tys1, tys2, tys3, tys4, und0, und1, und2, und3, md16, Tryz.ntmps16, Tryz.results16, List.getElem_map, rulA, intB, ga, ints_len]
      · have hne : atomF R[k].1 ≠ v := by simpa using b2
        refine ⟨⟨(k + 1, out), by show k + 1 ≤ _; omega, M.skip hk' (.inr hne)⟩, by show R.length - (k + 1) < _; omega, ?_⟩
        exact weak_drop (by simp) (by simp [DropHp, ints_below, flts_below, intB, allBelow_cons, allBelow_nil, below, belowM, belowL, w64_succ k (by omega)]) (by simp [DropTm, DropV, below, belowM, belowL, intB, allBelow_cons, allBelow_nil, below, belowM, belowL, w64_succ k (by omega)])
      have heq : atomF R[k].1 = v := by simpa using b2
      refine go_round (md := md16) mixed (by kernel_rfl) (fun s : {s : Nat × List Int // s.1 ≤ R[k].2.1.length ∧ NM R day x a v s.2 k ∧ ∀ w ∈ R[k].2.1.take s.1, atomF w ∈ s.2} => ⟨[.ro (R.map rulA), .int .i64 day, .any, .any, .any, .any, .any, .any, .sl 0 0 s.1.2.length, .int .i64 a, .any, .any, .any, .any, .any, .any, .any, .any, .any, .any, .any, .any, .any, .any, .any, .any, .any, .any, .any, .any, .any, .any, .any, .any, .any, .any, .ro (R.map rulA), .int .i64 R.length, .int .i64 k, .any, .any, .any, .any, .any, .any, .any, .any, .any, .any, .any, .any, .any, .any, .any, .any, .any, .any, .ro (ints R[k].2.1), .int .i64 R[k].2.1.length, .int .i64 s.1.1, .any, .any, .any, .any, .any, .any, .any, .any, .any, .any, .any, .any, .any, .any, .any, .any, .any, .any], [intB s.1.2]⟩) (fun s => R[k].2.1.length - s.1.1) ⟨(0, out), Nat.zero_le _, M, fun w hw => by cases hw⟩ ?_ ?_
      · exact weak_drop (by simp) (by simp [DropHp, ints_below, flts_below, intB, allBelow_cons, allBelow_nil, below, belowM, belowL]) (by simp [DropTm, DropV, below, belowM, belowL, intB, allBelow_cons, allBelow_nil, below, belowM, belowL])
      clear M hol ha' ga
      clear out
      rintro ⟨⟨j, out⟩, hj, M, J⟩
      dsimp only at hj M J ⊢
      have hol := M.b.len
      simp only [q0, q1, q2, q3, q4, q5, q6, q7, q8, q9, zr0, zr1, zr2, zr3, zq0, zq1, zq2, zq3, zq4, Nat.reduceAdd, Nat.reduceSub, lenA, convA, indexA, indexS, Int.reduceToNat, cond_true, cond_false, ↓reduceIte, reduceCtorEq, Nat.reduceLT, Nat.reduceLeDiff, Nat.reduceMul, Nat.reduceEqDiff, exists_eq', implies_true, exists_true_left, tys0, tys1, tys2, tys3, tys4, und0, und1, und2, und3, md16, Tryz.ntmps16, Tryz.results16, intB, ints_len]
      refine br_intro (fun h3 => ?_) (fun h3 => ?_) <;> simp only [q0, q1, q2, q3, q4, q5, q6, q7, q8, q9, zr0, zr1, zr2, zr3, zq0, zq1, zq2, zq3, zq4, Nat.reduceAdd, Nat.reduceSub, lenA, convA, indexA, indexS, Int.reduceToNat, cond_true, cond_false, ↓reduceIte, reduceCtorEq, Nat.reduceLT, Nat.reduceLeDiff, Nat.reduceMul, Nat.reduceEqDiff, exists_eq', implies_true, exists_true_left, tys0, tys1, tys2, tys3, tys4, und0, und1, und2, und3, md16, Tryz.ntmps16, Tryz.results16, intB, ints_len]
      · have hj' : j < R[k].2.1.length := by simpa using h3
        have hw := hr.2.1.2 _ (List.getElem_mem hj')
        refine ⟨hj', ?_⟩
        refine call_ret (atom_call _ (wordB_low hw)) (by rfl) rfl ?_
        simp only [q0, q1, q2, q3, q4, q5, q6, q7, q8, q9, zr0, zr1, zr2, zr3, zq0, zq1, zq2, zq3, zq4, Nat.reduceAdd, Nat.reduceSub, lenA, convA, indexA, indexS, Int.reduceToNat, cond_true, cond_false, ↓reduceIte, reduceCtorEq, Nat.reduceLT, Nat.reduceLeDiff, Nat.reduceMul, Nat.reduceEqDiff, exists_eq', implies_true, exists_true_left, tys0, tys1, tys2, tys3, tys4, und0, und1, und2, und3, md16, Tryz.ntmps16, Tryz.results16, intB, ints_len]
        have hcl : ∀ S, NClo R day x S → S (atomF R[k].2.1[j]) := fun S hS => hS.2 _ (List.getElem_mem hk') b1 (by rw [heq]; exact M.b.low S hS v (List.mem_of_getElem? M.at')) _ (List.getElem_mem hj')
        refine call_lent 2 (by show [view 2 [intB out] (.sl 0 0 out.length), view 2 _ _] = _; rw [view_intB]; rfl) (contains_call out (atomF R[k].2.1[j]) (by omega)) rfl rfl ?_
        simp only [q0, q1, q2, q3, q4, q5, q6, q7, q8, q9, zr0, zr1, zr2, zr3, zq0, zq1, zq2, zq3, zq4, Nat.reduceAdd, Nat.reduceSub, lenA, convA, indexA, indexS, Int.reduceToNat, cond_true, cond_false, ↓reduceIte, reduceCtorEq, Nat.reduceLT, Nat.reduceLeDiff, Nat.reduceMul, Nat.reduceEqDiff, exists_eq', implies_true, exists_true_left, tys0, tys1, tys2, tys3, tys4, und0, und1, und2, und3, md16, Tryz.ntmps16, Tryz.results16, intB, ints_len]
        refine br_intro (fun b3 => ?_) (fun b3 => ?_) <;> simp only [q0, q1, q2, q3, q4, q5, q6, q7, q8, q9, zr0, zr1, zr2, zr3, zq0, zq1, zq2, zq3, zq4, Nat.reduceAdd, Nat.reduceSub, lenA, convA, indexA, indexS, Int.reduceToNat, cond_true, cond_false, ↓reduceIte, reduceCtorEq, Nat.reduceLT, Nat.reduceLeDiff, Nat.reduceMul, Nat.reduceEqDiff, exists_eq', implies_true, exists_true_left, tys0, tys1, tys2, tys3, tys4, und0, und1, und2, und3, md16, Tryz.ntmps16, Tryz.results16, intB, ints_len]
        · have hin : atomF R[k].2.1[j] ∈ out := of_decide_eq_true b3
          refine ⟨⟨(j + 1, out), by show j + 1 ≤ _; omega, M, fun w hw => ?_⟩, by show _ - (j + 1) < _; omega, ?_⟩
          · rw [take_snoc _ _ hj'] at hw
            rcases List.mem_append.1 hw with hw | hw
            · exact J w hw
            · rw [List.mem_singleton.1 hw]; exact hin
          exact weak_drop (by simp) (by simp [DropHp, ints_below, flts_below, intB, allBelow_cons, allBelow_nil, below, belowM, belowL, w64_succ j (by omega)]) (by simp [DropTm, DropV, below, belowM, belowL, intB, allBelow_cons, allBelow_nil, below, belowM, belowL, w64_succ j (by omega)])
        · have hin : atomF R[k].2.1[j] ∉ out := of_decide_eq_false b3
          refine call_ret (atom_call _ (wordB_low hw)) (by rfl) rfl ?_
          simp only [q0, q1, q2, q3, q4, q5, q6, q7, q8, q9, zr0, zr1, zr2, zr3, zq0, zq1, zq2, zq3, zq4, Nat.reduceAdd, Nat.reduceSub, lenA, convA, indexA, indexS, Int.reduceToNat, cond_true, cond_false, ↓reduceIte, reduceCtorEq, Nat.reduceLT, Nat.reduceLeDiff, Nat.reduceMul, Nat.reduceEqDiff, exists_eq', implies_true, exists_true_left, tys0, tys1, tys2, tys3, tys4, und0, und1, und2, und3, md16, Tryz.ntmps16, Tryz.results16, intB, ints_len, allW_int, fits, List.isEmpty_cons, brk_false, Nat.reduceMul]
          have M2 := M.add hin (atomF_rng hw) hcl
          have el : (out ++ [atomF R[k].2.1[j]]).length = out.length + 1 := by simp
          refine ⟨by omega, ⟨(j + 1, out ++ [atomF R[k].2.1[j]]), by show j + 1 ≤ _; omega, M2, fun w hw => ?_⟩, by show _ - (j + 1) < _; omega, ?_⟩
          · rw [take_snoc _ _ hj'] at hw
            rcases List.mem_append.1 hw with hw | hw
            · exact List.mem_append.2 (.inl (J w hw))
            · rw [List.mem_singleton.1 hw]; exact List.mem_append.2 (.inr (by simp))
          dsimp only
          rw [el]
          exact weak_drop (by simp) (by simp [DropHp, ints_below, flts_below, intB, allBelow_cons, allBelow_nil, below, belowM, belowL, w64_succ j (by omega)]) (by simp [DropTm, DropV, below, belowM, belowL, intB, allBelow_cons, allBelow_nil, below, belowM, belowL, w64_succ j (by omega)])
      · have hj' : j = R[k].2.1.length := by simp at h3; omega
        subst hj'
        rw [List.take_length] at J
        refine ⟨⟨(k + 1, out), by show k + 1 ≤ R.length; omega, M.all hk' J⟩, by show R.length - (k + 1) < _; omega, ?_⟩
        exact weak_drop (by simp) (by simp [DropHp, ints_below, flts_below, intB, allBelow_cons, allBelow_nil, below, belowM, belowL, w64_succ k (by omega)]) (by simp [DropTm, DropV, below, belowM, belowL, intB, allBelow_cons, allBelow_nil, below, belowM, belowL, w64_succ k (by omega)])
    · have hk' : k = R.length := by simp at h; omega
      subst hk'
      refine ⟨⟨(a + 1, out), by show a + 1 ≤ out.length; omega, M.b, M.done⟩, by show 17 - (a + 1) < _; omega, ?_⟩
      exact weak_drop (by simp) (by simp [DropHp, ints_below, flts_below, intB, allBelow_cons, allBelow_nil, below, belowM, belowL, w64_succ a (by omega)]) (by simp [DropTm, DropV, below, belowM, belowL, intB, allBelow_cons, allBelow_nil, below, belowM, belowL, w64_succ a (by omega)])
  · have ha' : a = out.length := by simp at h; omega
    subst ha'
    refine call_by (sortI_call out (by omega) 2) ?_
    rintro r hp ⟨rfl, rfl⟩
    simp only [q0, q1, q2, q3, q4, q5, q6, q7, q8, q9, zr0, zr1, zr2, zr3, zq0, zq1, zq2, zq3, zq4, Nat.reduceAdd, Nat.reduceSub, lenA, convA, indexA, indexS, Int.reduceToNat, cond_true, cond_false, ↓reduceIte, reduceCtorEq, Nat.reduceLT, Nat.reduceLeDiff, Nat.reduceMul, Nat.reduceEqDiff, exists_eq', implies_true, exists_true_left, tys0, tys1, tys2, tys3, tys4, und0, und1, und2, und3, md16, Tryz.ntmps16, Tryz.results16]
    have e : (sortI out).length = out.length := (List.mergeSort_perm out _).length_eq
    exact PostR.same ⟨out, B, D, by rw [e], rfl⟩
theorem implNeeds_call (R : List Rul) (hR : Rls R) (rb : rulesB R = true) (day : Int) (hd : inR 0 100000 day = true) (x : Int) (hx : wordB x = true) :
    CallA Tryz.prog 16 [.ro (R.map rulA), .int .i64 day, .int .i64 x] [] (fun r hp => ∃ out, NB R day x out ∧ Dn R day out out.length ∧ r = .tup [.ro (ints (sortI out)), .bool true] ∧ hp = []) := by
  refine (CallA.freezeQ 3 (implNeeds0_call R hR rb day hd x hx)).mono ?_
  rintro r hp ⟨r0, new, ⟨out, B, D, rfl, rfl⟩, rfl, rfl⟩
  refine ⟨out, B, D, ?_, rfl⟩
  show AV.tup [view 2 _ _, view 2 _ _] = _
  rw [view_intB]
  rfl
theorem implClashes_call (R : List Rul) (hR : Rls R) (rb : rulesB R = true) (day : Int) (hd : inR 0 100000 day = true) : CallA Tryz.prog 14 [.ro (R.map rulA), .int .i64 day] [] (Ret (.tup [.ro (ints (prs (clP R) (idxD R day R.length))), .bool true]) []) := by
  have h1 := idxD_len R day R.length (Nat.le_refl _)
  have h2 := List.length_filter_le (onB day) (R.take R.length)
  have hl := hR.len
  rw [List.take_length] at h1 h2
  refine (implClashes0_call R hR rb day hd _ rfl (by omega) (fun i hi => ?_)).frozen 3 ?_
  · unfold idxD at hi
    obtain ⟨j, hj, rfl⟩ := List.mem_map.1 hi
    have := List.mem_range.1 (List.mem_filter.1 hj).1
    omega
  show AV.tup [view 2 _ _, view 2 _ _] = _
  rw [view_intB]
  rfl
end Go.Proofs.YthcfklkpabfkbaaGreat
