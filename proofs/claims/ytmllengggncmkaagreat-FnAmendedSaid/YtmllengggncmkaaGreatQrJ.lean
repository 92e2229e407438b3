/- The program's court when it has gone through everything: plain. -/
import Derived.Test.YtmllengggncmkaaGreatQrI
set_option maxRecDepth 10000
set_option maxHeartbeats 8000000
set_option linter.unusedSimpArgs false
set_option linter.unusedVariables false
namespace Go.Proofs.YtmllengggncmkaaGreat
open Go Go.Abs

def wdsL (n : Nat) : List Int := (List.range n).flatMap fun a : Nat => [(a : Int) + 1, -((a : Int) + 1)]
theorem wdsL_succ (n : Nat) : wdsL (n + 1) = wdsL n ++ [(n : Int) + 1, -((n : Int) + 1)] := by
  unfold wdsL
  rw [List.range_succ, List.flatMap_append]; simp
theorem wdsL_len : ∀ n, (wdsL n).length = 2 * n
  | 0 => rfl
  | n + 1 => by rw [wdsL_succ, List.length_append, wdsL_len n]; simp; omega
theorem wdsL_mem (w : Int) : w ∈ wdsL 16 ↔ wordB w = true := by
  unfold wdsL
  rw [List.mem_flatMap]
  constructor
  · rintro ⟨a, ha, h⟩
    have ha := List.mem_range.1 ha
    simp only [List.mem_cons, List.not_mem_nil, or_false] at h
    unfold wordB
    simp only [Bool.and_eq_true, bne_iff_ne, ne_eq]
    exact ⟨by omega, inR_yes (by omega) (by omega)⟩
  · intro hw
    have h0 : w ≠ 0 := by unfold wordB at hw; simp at hw; exact hw.1
    have h1 := wordB_low hw
    refine ⟨w.natAbs - 1, List.mem_range.2 (by omega), ?_⟩
    simp only [List.mem_cons, List.not_mem_nil, or_false]
    omega
theorem words0_call : CallA Tryz.prog 53 [] [] (Ret (.sl 0 0 (wdsL 16).length) [intB (wdsL 16)]) := by
  refine CallP.out (t := .mk) (go_in (md := md53) mixed Tryz.func53 rfl go53 (by kernel_rfl) ?_)
  simp only [q0, q1, q2, q3, q4, q5, q6, q7, q8, q9, zr0, zr1, zr2, zr3, zq0, zq1, zq2, zq3, zq4, Nat.reduceAdd, Nat.reduceSub, lenA, convA, indexA, indexS, Int.reduceToNat, cond_true, cond_false, ↓reduceIte, reduceCtorEq, Nat.reduceLT, Nat.reduceLeDiff, Nat.reduceMul, Nat.reduceEqDiff, exists_eq', implies_true, exists_true_left, tys0, tys1, tys2, tys3, tys4, und0, und1, und2, und3, md53, Tryz.ntmps53, Tryz.results53]
  refine go_round (md := md53) mixed (by kernel_rfl) (fun k : {k : Nat // k ≤ 16} => ⟨[.any, .sl 0 0 (wdsL k.1).length, .int .i64 ((k.1 : Int) + 1), .any, .any, .any, .any, .any, .any, .any, .any, .any, .any, .any, .any], [intB (wdsL k.1)]⟩) (fun k => 16 - k.1) ⟨0, by simp⟩ ?_ ?_
  · exact weak_drop (by simp) (by simp [DropHp, ints_below, flts_below, intB, ints, allBelow_cons, allBelow_nil, below, belowM, belowL, show wdsL 0 = [] from rfl]) (by simp [DropTm, DropV, below, belowM, belowL, intB, ints, allBelow_cons, allBelow_nil, below, belowM, belowL, show wdsL 0 = [] from rfl])
  · intro ⟨k, hk⟩
    have hlen := wdsL_len k
    simp only [q0, q1, q2, q3, q4, q5, q6, q7, q8, q9, zr0, zr1, zr2, zr3, zq0, zq1, zq2, zq3, zq4, Nat.reduceAdd, Nat.reduceSub, lenA, convA, indexA, indexS, Int.reduceToNat, cond_true, cond_false, ↓reduceIte, reduceCtorEq, Nat.reduceLT, Nat.reduceLeDiff, Nat.reduceMul, Nat.reduceEqDiff, exists_eq', implies_true, exists_true_left, tys0, tys1, tys2, tys3, tys4, und0, und1, und2, und3, md53, Tryz.ntmps53, Tryz.results53, intB]
    refine br_intro (fun h => ?_) (fun h => ?_)
    · have hk' : k < 16 := by have := of_decide_eq_true h; omega
      have wn : IntKind.i64.wrap (0 - ((k : Int) + 1)) = -((k : Int) + 1) := by rw [w64 (by omega) (by omega)]; omega
      have wk : IntKind.i64.wrap ((k : Int) + 1 + 1) = ((k + 1 : Nat) : Int) + 1 := by rw [w64 (by omega) (by omega)]; omega
      have e := wdsL_succ k
      simp only [q0, q1, q2, q3, q4, q5, q6, q7, q8, q9, zr0, zr1, zr2, zr3, zq0, zq1, zq2, zq3, zq4, Nat.reduceAdd, Nat.reduceSub, lenA, convA, indexA, indexS, Int.reduceToNat, cond_true, cond_false, ↓reduceIte, reduceCtorEq, Nat.reduceLT, Nat.reduceLeDiff, Nat.reduceMul, Nat.reduceEqDiff, exists_eq', implies_true, exists_true_left, tys0, tys1, tys2, tys3, tys4, und0, und1, und2, und3, md53, Tryz.ntmps53, Tryz.results53, intB, allW_int, fits, List.isEmpty_cons, brk_false, Nat.reduceMul, allW_two, wn, ints_two]
      refine ⟨by omega, ⟨k + 1, by omega⟩, by show 16 - (k + 1) < _; omega, ?_⟩
      show Weak 0 _ ⟨_, _⟩
      rw [← e, show (wdsL k).length + 2 = (wdsL (k + 1)).length by rw [e]; simp]
      exact weak_drop (by simp) (by simp [DropHp, ints_below, flts_below, wk, intB, allBelow_cons, allBelow_nil, below, belowM, belowL]) (by simp [DropTm, DropV, below, belowM, belowL, wk, intB, allBelow_cons, allBelow_nil, below, belowM, belowL])
    · simp only [q0, q1, q2, q3, q4, q5, q6, q7, q8, q9, zr0, zr1, zr2, zr3, zq0, zq1, zq2, zq3, zq4, Nat.reduceAdd, Nat.reduceSub, lenA, convA, indexA, indexS, Int.reduceToNat, cond_true, cond_false, ↓reduceIte, reduceCtorEq, Nat.reduceLT, Nat.reduceLeDiff, Nat.reduceMul, Nat.reduceEqDiff, exists_eq', implies_true, exists_true_left, tys0, tys1, tys2, tys3, tys4, und0, und1, und2, und3, md53, Tryz.ntmps53, Tryz.results53, intB]
      have hk' : k = 16 := by have := of_decide_eq_false h; omega
      subst hk'
      exact PostR.ret
theorem words_call : CallA Tryz.prog 53 [] [] (Ret (.ro (ints (wdsL 16))) []) := words0_call.frozen 2 (view_intB _)

theorem setE_upd (n : Int) (v x : Bool) (ps : List (Int × Bool)) : setE (findE n (ps.map entA)) x (updE n v (ps.map entA)) = some ((updP n x ps).map entA) := by
  rw [updE_ents, setE_ents]
  have hle := findE_le n ps
  unfold updP
  by_cases h : findE n (ps.map entA) < ps.length
  · rw [if_pos h, if_pos h, List.getElem?_set_self h]
    simp
  · have e : findE n (ps.map entA) = ps.length := by omega
    rw [if_neg h, if_neg h, e]
    simp
theorem look_updP (n : Int) (x : Bool) (v : Int) : ∀ ps : List (Int × Bool), lookE v ((updP n x ps).map entA) = if v = n then x else lookE v (ps.map entA) := by
  intro ps
  rw [← updE_ents]
  induction ps with
  | nil =>
    show (if v == n then x else false) = _
    by_cases h : v = n <;> simp [h, lookE]
  | cons p ps ih =>
    show lookE v (if n == p.1 then AV.agg [.int .i64 p.1, .bool x] :: ps.map entA else AV.agg [.int .i64 p.1, .bool p.2] :: updE n x (ps.map entA)) = _
    by_cases hp : n = p.1
    · subst hp
      simp only [beq_self_eq_true, if_true]
      show (if v == p.1 then x else lookE v (ps.map entA)) = if v = p.1 then x else (if v == p.1 then p.2 else lookE v (ps.map entA))
      by_cases h : v = p.1 <;> simp [h]
    · have hp' : (n == p.1) = false := by simpa using hp
      rw [hp']
      simp only [Bool.false_eq_true, if_false]
      show (if v == p.1 then p.2 else lookE v (updE n x (ps.map entA))) = if v = n then x else (if v == p.1 then p.2 else lookE v (ps.map entA))
      rw [ih]
      by_cases h : v = p.1
      · have h2 : ¬ v = n := fun e => hp (e ▸ h)
        have h3 : (v == p.1) = true := by simpa using h
        simp only [h2, h3, if_true, if_false]
      · rw [show (v == p.1) = false by simpa using h]
        rfl
def upY (Y : Int → Bool) (n : Int) : Int → Bool := fun w => if w = n then true else Y w
theorem yP_upd (n : Int) (ps : List (Int × Bool)) : yP ((updP n true ps).map entA) = upY (yP (ps.map entA)) n := by
  funext w
  exact look_updP n true w ps

def cntY (Y N : Int → Bool) : Nat := (wdsL 16).countP (fun w => !Y w) + (wdsL 16).countP (fun w => !N w)
theorem countP_upY (Y : Int → Bool) (n : Int) (L : List Int) : L.countP (fun w => !upY Y n w) ≤ L.countP (fun w => !Y w) := by
  apply List.countP_mono_left
  intro w _ h
  unfold upY at h
  split at h
  · simp at h
  · exact h
theorem countP_upY_lt (Y : Int → Bool) (n : Int) (h : Y n = false) : ∀ L : List Int, n ∈ L → L.countP (fun w => !upY Y n w) < L.countP (fun w => !Y w)
  | [], hn => by cases hn
  | w :: L, hn => by
    rw [List.countP_cons, List.countP_cons]
    have h1 := countP_upY Y n L
    by_cases e : w = n
    · subst e
      simp only [upY, if_true, Bool.not_true, Bool.false_eq_true, if_false, h, Bool.not_false]
      have : (L.countP fun v => !upY Y w v) ≤ L.countP fun v => !Y v := h1
      unfold upY at this
      omega
    · have hn' : n ∈ L := by
        rcases List.mem_cons.1 hn with h2 | h2
        · exact absurd h2.symm e
        · exact h2
      have ih := countP_upY_lt Y n h L hn'
      have : upY Y n w = Y w := by unfold upY; rw [if_neg e]
      rw [this]
      omega
structure InvP (R : List Rul) (fs : List Int) (Y N : Int → Bool) : Prop where
  low : ∀ Y' N', Clo R fs Y' N' → LeS Y N Y' N'
theorem InvP.setY {R : List Rul} {fs : List Int} {Y N : Int → Bool} (I : InvP R fs Y N) (hR : Rls R) {x : Int} (hx : wordB x = true) (hp : prvP Y N R fs x = true) : InvP R fs (upY Y x) N := by
  refine ⟨fun Y' N' C w hw => ⟨fun h => ?_, (I.low Y' N' C w hw).2⟩⟩
  unfold upY at h
  split at h
  · rename_i e
    subst e
    unfold prvP at hp
    simp only [Bool.or_eq_true, Bool.and_eq_true, decide_eq_true_eq, Bool.not_eq_true', decide_eq_false_iff_not] at hp
    by_cases hf : w ∈ fs
    · exact C.fy w hf
    · rcases hp with hp | ⟨h1, h2⟩
      · exact absurd hp hf
      · exact C.py w hw hf h1 ((I.low Y' N' C).prG hR h2)
  · exact (I.low Y' N' C w hw).1 h
theorem InvP.setN {R : List Rul} {fs : List Int} {Y N : Int → Bool} (I : InvP R fs Y N) (hR : Rls R) {x : Int} (hx : wordB x = true) (hp : dsvP Y N R fs x = true) : InvP R fs Y (upY N x) := by
  refine ⟨fun Y' N' C w hw => ⟨(I.low Y' N' C w hw).1, fun h => ?_⟩⟩
  unfold upY at h
  split at h
  · rename_i e
    subst e
    unfold dsvP at hp
    simp only [Bool.or_eq_true, Bool.and_eq_true, decide_eq_true_eq, Bool.not_eq_true', decide_eq_false_iff_not] at hp
    by_cases hf : -w ∈ fs
    · have := C.fn (-w) hf
      rwa [Int.neg_neg] at this
    · rcases hp.2 with h1 | h1
      · exact absurd h1 hf
      · exact C.pn w hw hp.1 hf ((I.low Y' N' C).dsG hR h1)
  · exact (I.low Y' N' C w hw).2 h
def StabP (R : List Rul) (fs : List Int) (Y N : Int → Bool) (w : Int) : Prop := (prvP Y N R fs w = true → Y w = true) ∧ (dsvP Y N R fs w = true → N w = true)
structure PassP (R : List Rul) (fs : List Int) (Y0 N0 Y N : Int → Bool) (more : Bool) (k : Nat) : Prop where
  inv : InvP R fs Y N
  le : cntY Y N ≤ cntY Y0 N0
  lt : more = true → cntY Y N < cntY Y0 N0
  st : more = false → ∀ w ∈ (wdsL 16).take k, StabP R fs Y N w
structure PassH (R : List Rul) (fs : List Int) (Y0 N0 Y N : Int → Bool) (more : Bool) (k : Nat) (x : Int) : Prop where
  ps : PassP R fs Y0 N0 Y N more k
  sy : more = false → prvP Y N R fs x = true → Y x = true
section
variable {R : List Rul} {fs : List Int} {Y0 N0 Y N : Int → Bool} {m : Bool} {k : Nat} {x : Int}
theorem passP_y0 (P : PassP R fs Y0 N0 Y N m k) (h : Y x = true) : PassH R fs Y0 N0 Y N m k x := ⟨P, fun _ _ => h⟩
theorem passP_y2 (P : PassP R fs Y0 N0 Y N m k) (h : prvP Y N R fs x = false) : PassH R fs Y0 N0 Y N m k x := ⟨P, fun _ hp => by rw [h] at hp; cases hp⟩
theorem passP_y1 (hR : Rls R) (P : PassP R fs Y0 N0 Y N m k) (hx : wordB x = true) (h : Y x = false) (hp : prvP Y N R fs x = true) : PassH R fs Y0 N0 (upY Y x) N true k x := by
  have h1 := countP_upY_lt Y x h _ ((wdsL_mem x).2 hx)
  have hle := P.le
  unfold cntY at hle
  exact ⟨⟨P.inv.setY hR hx hp, by unfold cntY; omega, fun _ => by unfold cntY; omega, fun hm => by cases hm⟩, fun hm => by cases hm⟩
theorem passP_n0 (hk : k < (wdsL 16).length) (he : (wdsL 16)[k] = x) (P : PassH R fs Y0 N0 Y N m k x) (h : N x = true) : PassP R fs Y0 N0 Y N m (k + 1) :=
  ⟨P.ps.inv, P.ps.le, P.ps.lt, fun hm w hw => by
    rw [take_snoc _ _ hk, List.mem_append, List.mem_singleton] at hw
    rcases hw with hw | hw
    · exact P.ps.st hm w hw
    · rw [hw, he]; exact ⟨P.sy hm, fun _ => h⟩⟩
theorem passP_n2 (hk : k < (wdsL 16).length) (he : (wdsL 16)[k] = x) (P : PassH R fs Y0 N0 Y N m k x) (h : dsvP Y N R fs x = false) : PassP R fs Y0 N0 Y N m (k + 1) :=
  ⟨P.ps.inv, P.ps.le, P.ps.lt, fun hm w hw => by
    rw [take_snoc _ _ hk, List.mem_append, List.mem_singleton] at hw
    rcases hw with hw | hw
    · exact P.ps.st hm w hw
    · rw [hw, he]; exact ⟨P.sy hm, fun hp => by rw [h] at hp; cases hp⟩⟩
theorem passP_n1 (hR : Rls R) (P : PassH R fs Y0 N0 Y N m k x) (hx : wordB x = true) (h : N x = false) (hp : dsvP Y N R fs x = true) : PassP R fs Y0 N0 Y (upY N x) true (k + 1) := by
  have h1 := countP_upY_lt N x h _ ((wdsL_mem x).2 hx)
  have hle := P.ps.le
  unfold cntY at hle
  exact ⟨P.ps.inv.setN hR hx hp, by unfold cntY; omega, fun _ => by unfold cntY; omega, fun hm => by cases hm⟩
end
theorem InvP.least {R : List Rul} {fs : List Int} (hf : Fcs fs) {Y N : Int → Bool} (I : InvP R fs Y N) (h : ∀ w, wordB w = true → StabP R fs Y N w) : Least R fs Y N := by
  refine ⟨⟨fun w hw => ?_, fun w hw => ?_, fun w hw h1 h2 hp => ?_, fun w hw h1 h2 hp => ?_⟩, I.low⟩
  · exact (h w (hf.ok w hw)).1 (by unfold prvP; simp [hw])
  · refine (h (-w) (word_neg (hf.ok w hw))).2 ?_
    unfold dsvP
    simp [hf.one w hw, hw]
  · exact (h w hw).1 (by unfold prvP; simp [h1, h2, hp])
  · exact (h w hw).2 (by unfold dsvP; simp [h1, hp])
end Go.Proofs.YtmllengggncmkaaGreat
