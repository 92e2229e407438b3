/- The program's order of rules. -/
import Derived.Test.YthcfklkpabfkbaaGreatQrL
set_option maxRecDepth 10000
set_option maxHeartbeats 8000000
set_option linter.unusedSimpArgs false
set_option linter.unusedVariables false
namespace Go.Proofs.YthcfklkpabfkbaaGreat
open Go Go.Abs

theorem indexN_call (xs : List Int) (x : Int) (hm : xs.length ≤ 1048576) : CallA Tryz.prog 87 [.ro (ints xs), .int .i64 x] [] (Ret (.int .i64 (findI (fun y => x == y) xs 0)) []) := by
  refine CallP.out (t := .mk) (go_in (md := md87) mixed Tryz.func87 rfl go87 (by kernel_rfl) ?_)
  simp only [q0, q1, q2, q3, q4, q5, q6, q7, q8, q9, zr0, zr1, zr2, zr3, zq0, zq1, zq2, zq3, zq4, Nat.reduceAdd, Nat.reduceSub, lenA, convA, indexA, indexS, Int.reduceToNat, cond_true, cond_false, ↓reduceIte, reduceCtorEq, Nat.reduceLT, Nat.reduceLeDiff, Nat.reduceMul, Nat.reduceEqDiff, exists_eq', implies_true, exists_true_left, tys0, tys1, tys2, tys3, tys4, und0, und1, und2, und3, md87, Tryz.ntmps87, Tryz.results87]
  refine go_round (md := md87) mixed (by kernel_rfl) (fun i : {i : Nat // i ≤ xs.length ∧ findI (fun y => x == y) xs 0 = findI (fun y => x == y) (xs.drop i) i} => ⟨[.ro (ints xs), .int .i64 x, .any, .any, .any, .any, .any, .int .i64 xs.length, .int .i64 i.1, .any, .any, .any, .any, .any, .any, .any, .any, .any, .any], []⟩) (fun i => xs.length - i.1) ⟨0, by simp⟩ ?_ ?_
  · exact weak_drop (by simp) (by simp [DropHp, ints_below, flts_below]) (by simp [DropTm, DropV, below, belowM, belowL])
  rintro ⟨i, hi, he⟩
  simp only [q0, q1, q2, q3, q4, q5, q6, q7, q8, q9, zr0, zr1, zr2, zr3, zq0, zq1, zq2, zq3, zq4, Nat.reduceAdd, Nat.reduceSub, lenA, convA, indexA, indexS, Int.reduceToNat, cond_true, cond_false, ↓reduceIte, reduceCtorEq, Nat.reduceLT, Nat.reduceLeDiff, Nat.reduceMul, Nat.reduceEqDiff, exists_eq', implies_true, exists_true_left, tys0, tys1, tys2, tys3, tys4, und0, und1, und2, und3, md87, Tryz.ntmps87, Tryz.results87]
  refine br_intro (fun h => ?_) (fun h => ?_) <;> simp only [q0, q1, q2, q3, q4, q5, q6, q7, q8, q9, zr0, zr1, zr2, zr3, zq0, zq1, zq2, zq3, zq4, Nat.reduceAdd, Nat.reduceSub, lenA, convA, indexA, indexS, Int.reduceToNat, cond_true, cond_false, ↓reduceIte, reduceCtorEq, Nat.reduceLT, Nat.reduceLeDiff, Nat.reduceMul, Nat.reduceEqDiff, exists_eq', implies_true, exists_true_left, tys0, tys1, tys2, tys3, tys4, und0, und1, und2, und3, md87, Tryz.ntmps87, Tryz.results87]
  · have hi' : i < xs.length := by have := of_decide_eq_true h; omega
    have hI : (i : Int) < (xs.length : Int) := by omega
    rw [findI_step (fun y => x == y) xs i hi'] at he
    simp only [q0, q1, q2, q3, q4, q5, q6, q7, q8, q9, zr0, zr1, zr2, zr3, zq0, zq1, zq2, zq3, zq4, Nat.reduceAdd, Nat.reduceSub, lenA, convA, indexA, indexS, Int.reduceToNat, cond_true, cond_false, ↓reduceIte, reduceCtorEq, Nat.reduceLT, Nat.reduceLeDiff, Nat.reduceMul, Nat.reduceEqDiff, exists_eq', implies_true, exists_true_left, tys0, tys1, tys2, tys3, tys4, und0, und1, und2, und3, md87, Tryz.ntmps87, Tryz.results87, hi', hI]
    refine br_intro (fun h2 => ?_) (fun h2 => ?_) <;> simp only [q0, q1, q2, q3, q4, q5, q6, q7, q8, q9, zr0, zr1, zr2, zr3, zq0, zq1, zq2, zq3, zq4, Nat.reduceAdd, Nat.reduceSub, lenA, convA, indexA, indexS, Int.reduceToNat, cond_true, cond_false, ↓reduceIte, reduceCtorEq, Nat.reduceLT, Nat.reduceLeDiff, Nat.reduceMul, Nat.reduceEqDiff, exists_eq', implies_true, exists_true_left, tys0, tys1, tys2, tys3, tys4, und0, und1, und2, und3, md87, Tryz.ntmps87, Tryz.results87]
    · rw [h2] at he
      exact PostR.pure ⟨by rw [he]; rfl, rfl⟩ rfl
    · rw [h2] at he
      refine ⟨⟨i + 1, by omega, he⟩, by show xs.length - (i + 1) < _; omega, ?_⟩
      exact weak_drop (by simp) (by simp [DropHp, ints_below, flts_below, w64_succ i (by omega)]) (by simp [DropTm, DropV, below, belowM, belowL, w64_succ i (by omega)])
  · have hi' : i = xs.length := by have := of_decide_eq_false h; omega
    subst hi'
    rw [List.drop_length] at he
    exact PostR.pure ⟨by rw [he]; rfl, rfl⟩ rfl
theorem containsN_call (xs : List Int) (x : Int) (hm : xs.length ≤ 1048576) : CallA Tryz.prog 62 [.ro (ints xs), .int .i64 x] [] (Ret (.bool (decide (x ∈ xs))) []) := by
  refine CallP.out (t := .mk) (go_in (md := md62) mixed Tryz.func62 rfl go62 (by kernel_rfl) ?_)
  simp only [q0, q1, q2, q3, q4, q5, q6, q7, q8, q9, zr0, zr1, zr2, zr3, zq0, zq1, zq2, zq3, zq4, Nat.reduceAdd, Nat.reduceSub, lenA, convA, indexA, indexS, Int.reduceToNat, cond_true, cond_false, ↓reduceIte, reduceCtorEq, Nat.reduceLT, Nat.reduceLeDiff, Nat.reduceMul, Nat.reduceEqDiff, exists_eq', implies_true, exists_true_left, tys0, tys1, tys2, tys3, tys4, und0, und1, und2, und3, md62, Tryz.ntmps62, Tryz.results62]
  refine call_ret (indexN_call xs x hm) rfl rfl ?_
  simp only [q0, q1, q2, q3, q4, q5, q6, q7, q8, q9, zr0, zr1, zr2, zr3, zq0, zq1, zq2, zq3, zq4, Nat.reduceAdd, Nat.reduceSub, lenA, convA, indexA, indexS, Int.reduceToNat, cond_true, cond_false, ↓reduceIte, reduceCtorEq, Nat.reduceLT, Nat.reduceLeDiff, Nat.reduceMul, Nat.reduceEqDiff, exists_eq', implies_true, exists_true_left, tys0, tys1, tys2, tys3, tys4, und0, und1, und2, und3, md62, Tryz.ntmps62, Tryz.results62]
  exact PostR.pure ⟨by rw [← any_mem, ← findI_any (fun y => x == y) xs 0], rfl⟩ rfl
section
variable {R : List Rul} {idx fs : List Int} {p q : List AV}
theorem taken1_call (hf : fs.length ≤ 1048576) (kn : List (Int × Bool)) (w : Int) : CallA Tryz.prog 63 [.int .i64 w, .rop [crtA R idx fs p q], .rop [.rom (kn.map entA)]] [] (Ret (.bool (!(decide (w ∈ fs) || yP (kn.map entA) w))) []) := by
  have f1 := isFact_call (R := R) (idx := idx) (p := p) (q := q) hf w
  refine CallP.out (t := .mk) (go_in (md := md63) mixed Tryz.func63 rfl go63 (by kernel_rfl) ?_)
  simp only [q0, q1, q2, q3, q4, q5, q6, q7, q8, q9, zr0, zr1, zr2, zr3, zq0, zq1, zq2, zq3, zq4, Nat.reduceAdd, Nat.reduceSub, lenA, convA, indexA, indexS, Int.reduceToNat, cond_true, cond_false, ↓reduceIte, reduceCtorEq, Nat.reduceLT, Nat.reduceLeDiff, Nat.reduceMul, Nat.reduceEqDiff, exists_eq', implies_true, exists_true_left, tys0, tys1, tys2, tys3, tys4, und0, und1, und2, und3, md63, Tryz.ntmps63, Tryz.results63, crtA]
  refine call_ret f1 rfl rfl ?_
  simp only [q0, q1, q2, q3, q4, q5, q6, q7, q8, q9, zr0, zr1, zr2, zr3, zq0, zq1, zq2, zq3, zq4, Nat.reduceAdd, Nat.reduceSub, lenA, convA, indexA, indexS, Int.reduceToNat, cond_true, cond_false, ↓reduceIte, reduceCtorEq, Nat.reduceLT, Nat.reduceLeDiff, Nat.reduceMul, Nat.reduceEqDiff, exists_eq', implies_true, exists_true_left, tys0, tys1, tys2, tys3, tys4, und0, und1, und2, und3, md63, Tryz.ntmps63, Tryz.results63, crtA]
  refine br_intro (fun b => ?_) (fun b => ?_) <;> simp only [q0, q1, q2, q3, q4, q5, q6, q7, q8, q9, zr0, zr1, zr2, zr3, zq0, zq1, zq2, zq3, zq4, Nat.reduceAdd, Nat.reduceSub, lenA, convA, indexA, indexS, Int.reduceToNat, cond_true, cond_false, ↓reduceIte, reduceCtorEq, Nat.reduceLT, Nat.reduceLeDiff, Nat.reduceMul, Nat.reduceEqDiff, exists_eq', implies_true, exists_true_left, tys0, tys1, tys2, tys3, tys4, und0, und1, und2, und3, md63, Tryz.ntmps63, Tryz.results63, crtA]
  · rw [b]; exact PostR.pure ⟨rfl, rfl⟩ (by rfl)
  · rw [b]
    exact PostR.pure ⟨rfl, rfl⟩ (by rfl)
end
def rkR (R : List Rul) (i : Nat) : Rul := R.getD i (0, [], 0, 0, 0)
theorem rkR_at (R : List Rul) (i : Nat) (h : i < R.length) : rkR R i = R[i] := by simp [rkR, List.getD_eq_getElem?_getD, h]
def cbB (v : AV) : Blk := { ty := 55, w := 1, els := [v] }
def mcB (v : AV) : Blk := { ty := 57, w := 1, els := [v] }
def inB (xs : List Int) : Blk := { ty := 3, w := 1, els := ints xs }
theorem ent_kill (b : Nat) (ps : List (Int × Bool)) : (ps.map entA).map (kill b) = ps.map entA := by
  rw [List.map_map]; exact List.map_congr_left fun y _ => rfl
def tkK (R : List Rul) (Y F : Int → Bool) (O : List Nat) (K : Int → Bool) (k : Nat) : List Nat := (List.range k).filter (tkP (rkR R) Y F O K)
section
variable {R : List Rul} {Y F : Int → Bool} {O : List Nat} {K : Int → Bool} {k : Nat}
theorem tkK_no (h : tkP (rkR R) Y F O K k = false) : tkK R Y F O K (k + 1) = tkK R Y F O K k := by
  unfold tkK
  rw [List.range_succ, List.filter_append]
  simp [h]
theorem tkK_yes (h : tkP (rkR R) Y F O K k = true) : tkK R Y F O K (k + 1) = tkK R Y F O K k ++ [k] := by
  unfold tkK
  rw [List.range_succ, List.filter_append]
  simp [h]
theorem tkK_not (R : List Rul) (Y F : Int → Bool) (O : List Nat) (K : Int → Bool) (k : Nat) : k ∉ tkK R Y F O K k := fun h => by
  have := List.mem_range.1 (List.mem_filter.1 h).1
  omega
theorem tkK_len (R : List Rul) (Y F : Int → Bool) (O : List Nat) (K : Int → Bool) (k : Nat) : (tkK R Y F O K k).length ≤ k := Nat.le_trans (List.length_filter_le _ _) (by simp)
end
def hdsL (R : List Rul) (l : List Nat) : List Int := l.map fun i => (rkR R i).1
theorem hds_snoc (R : List Rul) (l : List Nat) (k : Nat) (h : k < R.length) : hdsL R (l ++ [k]) = hdsL R l ++ [R[k].1] := by simp [hdsL, rkR_at R k h]
theorem hds_len (R : List Rul) (l : List Nat) : (hdsL R l).length = l.length := by simp [hdsL]
theorem upd_any (R : List Rul) (kn : List (Int × Bool)) : ∀ l : List Nat, yP ((((hdsL R l).foldl (fun ps h => updP h true ps) kn)).map entA) = fun w => yP (kn.map entA) w || l.any fun i => (rkR R i).1 == w := by
  intro l
  induction l generalizing kn with
  | nil => funext w; simp [hdsL]
  | cons i l ih =>
    show yP (((hdsL R l).foldl (fun ps h => updP h true ps) (updP (rkR R i).1 true kn)).map entA) = _
    rw [ih]
    funext w
    rw [yP_upd]
    unfold upY
    rw [List.any_cons]
    by_cases e : w = (rkR R i).1
    · simp [e]
    · have e2 : ((rkR R i).1 == w) = false := by simpa using fun h => e h.symm
      simp [e, e2]
def TkS (r : Rul) (hp : List Blk) : Prop := hp[5]? = some { ty := 40, w := 5, els := [.agg [.int .i64 r.1, .ro (ints r.2.1), .int .i64 r.2.2.1, .int .i64 r.2.2.2.1, .int .i64 r.2.2.2.2]] } ∧ ∀ q ∈ hp, allBelow hp.length q.els = true
theorem taken0_call (R : List Rul) (hR : Rls R) (idx fs : List Int) (hf : Fcs fs) (p : List (Int × Bool)) (q : List AV) {Y F : Int → Bool} (hY : yP (p.map entA) = Y) (hF : (fun w : Int => decide (w ∈ fs)) = F) :
    CallA Tryz.prog 28 [crtA R idx fs (p.map entA) q] [] (fun r hp => ∃ n, tkS (List.range R.length) (rkR R) Y F (tkN (List.range R.length) (rkR R) Y F n).1 (tkN (List.range R.length) (rkR R) Y F n).2 = [] ∧
      r = .sl 1 0 (tkN (List.range R.length) (rkR R) Y F n).1.length ∧ hp = [cbB (crtA R idx fs (p.map entA) q), inB (nI (tkN (List.range R.length) (rkR R) Y F n).1)]) := by
  have hl := hR.len
  have nd : (List.range R.length).Nodup := List.nodup_range
  refine CallP.out (t := .mk) (go_in (md := md28) mixed Tryz.func28 rfl go28 (by kernel_rfl) ?_)
  simp only [q0, q1, q2, q3, q4, q5, q6, q7, q8, q9, zr0, zr1, zr2, zr3, zq0, zq1, zq2, zq3, zq4, Nat.reduceAdd, Nat.reduceSub, lenA, convA, indexA, indexS, Int.reduceToNat, cond_true, cond_false, ↓reduceIte, reduceCtorEq, Nat.reduceLT, Nat.reduceLeDiff, Nat.reduceMul, Nat.reduceEqDiff, exists_eq', implies_true, exists_true_left, tys0, tys1, tys2, tys3, tys4, und0, und1, und2, und3, md28, Tryz.ntmps28, Tryz.results28, crtA]
  refine go_round (md := md28) mixed (by kernel_rfl) (fun x : {x : Nat × List (Int × Bool) // yP (x.2.map entA) = (tkN (List.range R.length) (rkR R) Y F x.1).2} => ⟨[.any, .ptr 0 0 0, .any, .sl 1 0 (tkN (List.range R.length) (rkR R) Y F x.1.1).1.length, .ptr 3 0 0, .any, .any, .any, .any, .any, .any, .any, .any, .any, .any, .any, .any, .any, .any, .any, .any, .any, .any, .any, .any, .any, .any, .any, .any, .any, .any, .any, .any, .any, .any, .any, .any, .any, .any, .any, .any, .any, .any, .any, .any, .any, .any, .any, .any, .any, .any, .any, .any, .any, .any, .any, .any, .any, .any, .any, .any, .any, .any, .any, .any, .any, .any, .any, .any, .any], [cbB (.rop [.ro (R.map rulA), .ro (ints idx), .ro (ints fs), .rom (p.map entA), .rom q]), inB (nI (tkN (List.range R.length) (rkR R) Y F x.1.1).1), mpB x.1.2, mcB (.mp 2)]⟩) (fun x => R.length - (tkN (List.range R.length) (rkR R) Y F x.1.1).1.length) ⟨(0, []), by funext w; rfl⟩ ?_ ?_
  · exact weak_drop (by simp) (by simp [DropHp, ints_below, flts_below, cbB, inB, mpB, mcB, allBelow_cons, allBelow_nil, below, belowM, belowL, show nI [] = [] from rfl, show ints [] = [] from rfl, show (tkN (List.range R.length) (rkR R) Y F 0).1 = [] from rfl]) (by simp [DropTm, DropV, below, belowM, belowL, cbB, inB, mpB, mcB, allBelow_cons, allBelow_nil, below, belowM, belowL, show nI [] = [] from rfl, show ints [] = [] from rfl, show (tkN (List.range R.length) (rkR R) Y F 0).1 = [] from rfl])
  rintro ⟨⟨n, kn⟩, hkn⟩
  dsimp only at hkn ⊢
  have hOl := tkN_len (ru := rkR R) (Y := Y) (F := F) nd n
  rw [List.length_range] at hOl
  generalize hO : (tkN (List.range R.length) (rkR R) Y F n).1 = O at *
  generalize hK : (tkN (List.range R.length) (rkR R) Y F n).2 = K at *
  simp only [q0, q1, q2, q3, q4, q5, q6, q7, q8, q9, zr0, zr1, zr2, zr3, zq0, zq1, zq2, zq3, zq4, Nat.reduceAdd, Nat.reduceSub, lenA, convA, indexA, indexS, Int.reduceToNat, cond_true, cond_false, ↓reduceIte, reduceCtorEq, Nat.reduceLT, Nat.reduceLeDiff, Nat.reduceMul, Nat.reduceEqDiff, exists_eq', implies_true, exists_true_left, tys0, tys1, tys2, tys3, tys4, und0, und1, und2, und3, md28, Tryz.ntmps28, Tryz.results28, crtA, cbB, inB, mpB, mcB, intB, List.length_map, List.getElem_map, rulA, ints_len, nI_len, ent_kill]
  refine go_round (md := md28) mixed (by kernel_rfl) (fun k : {k : Nat // k ≤ R.length} => ⟨[.any, .ptr 0 0 0, .any, .sl 1 0 (O ++ tkK R Y F O K k.1).length, .ptr 3 0 0, .sl 4 0 (tkK R Y F O K k.1).length, .any, .any, .any, .any, .any, .any, .any, .any, .any, .any, .ro (R.map rulA), .int .i64 R.length, .int .i64 k.1, .any, .any, .any, .any, .any, .any, .any, .any, .any, .any, .any, .any, .any, .any, .any, .any, .any, .any, .any, .any, .any, .any, .any, .any, .any, .any, .any, .any, .any, .any, .any, .any, .any, .any, .any, .any, .any, .any, .any, .any, .any, .any, .any, .any, .any, .any, .any, .any, .any, .any, .any], [cbB (.rop [.ro (R.map rulA), .ro (ints idx), .ro (ints fs), .rom (p.map entA), .rom q]), inB (nI (O ++ tkK R Y F O K k.1)), mpB kn, mcB (.mp 2), intB (hdsL R (tkK R Y F O K k.1))]⟩) (fun k => R.length - k.1) ⟨0, Nat.zero_le _⟩ ?_ ?_
  · have e0 : tkK R Y F O K 0 = [] := rfl
    dsimp only
    rw [e0, List.append_nil]
    exact weak_drop (by simp) (by simp [DropHp, ints_below, flts_below, cbB, inB, mpB, mcB, intB, allBelow_cons, allBelow_nil, below, belowM, belowL, ent_below, show hdsL R [] = [] from rfl, show ints [] = [] from rfl]) (by simp [DropTm, DropV, below, belowM, belowL, cbB, inB, mpB, mcB, intB, allBelow_cons, allBelow_nil, below, belowM, belowL, ent_below, show hdsL R [] = [] from rfl, show ints [] = [] from rfl])
  rintro ⟨k, hk⟩
  dsimp only at hk ⊢
  have hNl := tkK_len R Y F O K k
  have hNn := tkK_not R Y F O K k
  simp only [q0, q1, q2, q3, q4, q5, q6, q7, q8, q9, zr0, zr1, zr2, zr3, zq0, zq1, zq2, zq3, zq4, Nat.reduceAdd, Nat.reduceSub, lenA, convA, indexA, indexS, Int.reduceToNat, cond_true, cond_false, ↓reduceIte, reduceCtorEq, Nat.reduceLT, Nat.reduceLeDiff, Nat.reduceMul, Nat.reduceEqDiff, exists_eq', implies_true, exists_true_left, tys0, tys1, tys2, tys3, tys4, und0, und1, und2, und3, md28, Tryz.ntmps28, Tryz.results28, crtA, cbB, inB, mpB, mcB, intB, List.length_map, List.getElem_map, rulA, ints_len, nI_len, ent_kill]
  refine br_intro (fun h => ?_) (fun h => ?_) <;> simp only [q0, q1, q2, q3, q4, q5, q6, q7, q8, q9, zr0, zr1, zr2, zr3, zq0, zq1, zq2, zq3, zq4, Nat.reduceAdd, Nat.reduceSub, lenA, convA, indexA, indexS, Int.reduceToNat, cond_true, cond_false, ↓reduceIte, reduceCtorEq, Nat.reduceLT, Nat.reduceLeDiff, Nat.reduceMul, Nat.reduceEqDiff, exists_eq', implies_true, exists_true_left, tys0, tys1, tys2, tys3, tys4, und0, und1, und2, und3, md28, Tryz.ntmps28, Tryz.results28, crtA, cbB, inB, mpB, mcB, intB, List.length_map, List.getElem_map, rulA, ints_len, nI_len, ent_kill]
  · have hk' : k < R.length := by simpa using h
    have hr := hR.ok _ (List.getElem_mem hk')
    have h6 := hr.2.1.1
    have ek := rkR_at R k hk'
    have f1 := isFact_call (R := R) (idx := idx) (fs := fs) (p := p.map entA) (q := q) (fcs_short hf) R[k].1
    have mI : decide ((k : Int) ∈ nI (O ++ tkK R Y F O K k)) = decide (k ∈ O) := by
      rw [decide_eq_decide, nI_mem, List.mem_append]
      exact ⟨fun h => h.resolve_right hNn, .inl⟩
    have cN := containsN_call (nI (O ++ tkK R Y F O K k)) (k : Int) (by rw [nI_len, List.length_append]; omega)
    rw [mI] at cN
    have vO : view 1 [] (.sl 0 0 0) = (.any : AV) := rfl
    refine ⟨hk', callr_lent 2 ?_ cN rfl rfl ?_⟩
    · simp only [List.map_cons, List.map_nil, view_int, view_sl, List.getElem?_cons_succ, List.getElem?_cons_zero, List.drop_zero, ← nI_len, take_ints, map_view_ints, ints_len]
      simp [nI_len]
    simp only [q0, q1, q2, q3, q4, q5, q6, q7, q8, q9, zr0, zr1, zr2, zr3, zq0, zq1, zq2, zq3, zq4, Nat.reduceAdd, Nat.reduceSub, lenA, convA, indexA, indexS, Int.reduceToNat, cond_true, cond_false, ↓reduceIte, reduceCtorEq, Nat.reduceLT, Nat.reduceLeDiff, Nat.reduceMul, Nat.reduceEqDiff, exists_eq', implies_true, exists_true_left, tys0, tys1, tys2, tys3, tys4, und0, und1, und2, und3, md28, Tryz.ntmps28, Tryz.results28, crtA, cbB, inB, mpB, mcB, intB, List.length_map, List.getElem_map, rulA, ints_len, nI_len, ent_kill]
    refine br_intro (fun b1 => ?_) (fun b1 => ?_) <;> simp only [q0, q1, q2, q3, q4, q5, q6, q7, q8, q9, zr0, zr1, zr2, zr3, zq0, zq1, zq2, zq3, zq4, Nat.reduceAdd, Nat.reduceSub, lenA, convA, indexA, indexS, Int.reduceToNat, cond_true, cond_false, ↓reduceIte, reduceCtorEq, Nat.reduceLT, Nat.reduceLeDiff, Nat.reduceMul, Nat.reduceEqDiff, exists_eq', implies_true, exists_true_left, tys0, tys1, tys2, tys3, tys4, und0, und1, und2, und3, md28, Tryz.ntmps28, Tryz.results28, crtA, cbB, inB, mpB, mcB, intB, List.length_map, List.getElem_map, rulA, ints_len, nI_len, ent_kill]
    · have hT : tkP (rkR R) Y F O K k = false := by
        unfold tkP
        rw [ek]
        rw [b1]; rfl
      refine ⟨⟨k + 1, by omega⟩, by show R.length - (k + 1) < _; omega, ?_⟩
      dsimp only
      rw [tkK_no hT]
      exact weak_drop (by simp) (by simp [DropHp, ints_below, flts_below, w64_succ k (by omega), cbB, inB, mpB, mcB, intB, ent_below, allBelow_cons, allBelow_nil, below, belowM, belowL]) (by simp [DropTm, DropV, below, belowM, belowL, w64_succ k (by omega), cbB, inB, mpB, mcB, intB, ent_below, allBelow_cons, allBelow_nil, below, belowM, belowL])
    refine br_intro (fun b2 => ?_) (fun b2 => ?_) <;> simp only [q0, q1, q2, q3, q4, q5, q6, q7, q8, q9, zr0, zr1, zr2, zr3, zq0, zq1, zq2, zq3, zq4, Nat.reduceAdd, Nat.reduceSub, lenA, convA, indexA, indexS, Int.reduceToNat, cond_true, cond_false, ↓reduceIte, reduceCtorEq, Nat.reduceLT, Nat.reduceLeDiff, Nat.reduceMul, Nat.reduceEqDiff, exists_eq', implies_true, exists_true_left, tys0, tys1, tys2, tys3, tys4, und0, und1, und2, und3, md28, Tryz.ntmps28, Tryz.results28, crtA, cbB, inB, mpB, mcB, intB, List.length_map, List.getElem_map, rulA, ints_len, nI_len, ent_kill]
    rotate_left
    · have hT : tkP (rkR R) Y F O K k = false := by
        unfold tkP
        rw [ek]
        rw [← hY, show yP (p.map entA) R[k].1 = false from b2, b1]; rfl
      refine ⟨⟨k + 1, by omega⟩, by show R.length - (k + 1) < _; omega, ?_⟩
      dsimp only
      rw [tkK_no hT]
      exact weak_drop (by simp) (by simp [DropHp, ints_below, flts_below, w64_succ k (by omega), cbB, inB, mpB, mcB, intB, ent_below, allBelow_cons, allBelow_nil, below, belowM, belowL]) (by simp [DropTm, DropV, below, belowM, belowL, w64_succ k (by omega), cbB, inB, mpB, mcB, intB, ent_below, allBelow_cons, allBelow_nil, below, belowM, belowL])
    refine callr_ret f1 rfl rfl ?_
    simp only [q0, q1, q2, q3, q4, q5, q6, q7, q8, q9, zr0, zr1, zr2, zr3, zq0, zq1, zq2, zq3, zq4, Nat.reduceAdd, Nat.reduceSub, lenA, convA, indexA, indexS, Int.reduceToNat, cond_true, cond_false, ↓reduceIte, reduceCtorEq, Nat.reduceLT, Nat.reduceLeDiff, Nat.reduceMul, Nat.reduceEqDiff, exists_eq', implies_true, exists_true_left, tys0, tys1, tys2, tys3, tys4, und0, und1, und2, und3, md28, Tryz.ntmps28, Tryz.results28, crtA, cbB, inB, mpB, mcB, intB, List.length_map, List.getElem_map, rulA, ints_len, nI_len, ent_kill]
    refine br_intro (fun b3 => ?_) (fun b3 => ?_) <;> simp only [q0, q1, q2, q3, q4, q5, q6, q7, q8, q9, zr0, zr1, zr2, zr3, zq0, zq1, zq2, zq3, zq4, Nat.reduceAdd, Nat.reduceSub, lenA, convA, indexA, indexS, Int.reduceToNat, cond_true, cond_false, ↓reduceIte, reduceCtorEq, Nat.reduceLT, Nat.reduceLeDiff, Nat.reduceMul, Nat.reduceEqDiff, exists_eq', implies_true, exists_true_left, tys0, tys1, tys2, tys3, tys4, und0, und1, und2, und3, md28, Tryz.ntmps28, Tryz.results28, crtA, cbB, inB, mpB, mcB, intB, List.length_map, List.getElem_map, rulA, ints_len, nI_len, ent_kill]
    · have hT : tkP (rkR R) Y F O K k = false := by
        unfold tkP
        rw [ek]
        rw [← hF]; simp only []; rw [b3, b1]; simp
      refine ⟨⟨k + 1, by omega⟩, by show R.length - (k + 1) < _; omega, ?_⟩
      dsimp only
      rw [tkK_no hT]
      exact weak_drop (by simp) (by simp [DropHp, ints_below, flts_below, w64_succ k (by omega), cbB, inB, mpB, mcB, intB, ent_below, allBelow_cons, allBelow_nil, below, belowM, belowL]) (by simp [DropTm, DropV, below, belowM, belowL, w64_succ k (by omega), cbB, inB, mpB, mcB, intB, ent_below, allBelow_cons, allBelow_nil, below, belowM, belowL])
    have t1 := taken1_call (R := R) (idx := idx) (p := p.map entA) (q := q) (fcs_short hf) kn
    have cf := containsFuncI_call 63 [.rop [crtA R idx fs (p.map entA) q], .rop [.rom (kn.map entA)]] (fun w => !(decide (w ∈ fs) || yP (kn.map entA) w)) rfl rfl t1 R[k].2.1 (by omega)
    refine call_lent 4 (by simp [view_ptr, view_fn, view_ro, view_int, AV.cells, crtA, rop_view]; rfl) cf rfl rfl ?_
    simp only [q0, q1, q2, q3, q4, q5, q6, q7, q8, q9, zr0, zr1, zr2, zr3, zq0, zq1, zq2, zq3, zq4, Nat.reduceAdd, Nat.reduceSub, lenA, convA, indexA, indexS, Int.reduceToNat, cond_true, cond_false, ↓reduceIte, reduceCtorEq, Nat.reduceLT, Nat.reduceLeDiff, Nat.reduceMul, Nat.reduceEqDiff, exists_eq', implies_true, exists_true_left, tys0, tys1, tys2, tys3, tys4, und0, und1, und2, und3, md28, Tryz.ntmps28, Tryz.results28, crtA, cbB, inB, mpB, mcB, intB, List.length_map, List.getElem_map, rulA, ints_len, nI_len, ent_kill]
    have eall : (R[k].2.1.all fun w => F w || K w) = !(R[k].2.1.any fun w => !(decide (w ∈ fs) || yP (kn.map entA) w)) := by
      rw [any_notall, hkn, ← hF]
    refine br_intro (fun b4 => ?_) (fun b4 => ?_) <;> simp only [q0, q1, q2, q3, q4, q5, q6, q7, q8, q9, zr0, zr1, zr2, zr3, zq0, zq1, zq2, zq3, zq4, Nat.reduceAdd, Nat.reduceSub, lenA, convA, indexA, indexS, Int.reduceToNat, cond_true, cond_false, ↓reduceIte, reduceCtorEq, Nat.reduceLT, Nat.reduceLeDiff, Nat.reduceMul, Nat.reduceEqDiff, exists_eq', implies_true, exists_true_left, tys0, tys1, tys2, tys3, tys4, und0, und1, und2, und3, md28, Tryz.ntmps28, Tryz.results28, crtA, cbB, inB, mpB, mcB, intB, List.length_map, List.getElem_map, rulA, ints_len, nI_len, ent_kill]
    · have hT : tkP (rkR R) Y F O K k = false := by
        unfold tkP
        rw [ek]
        rw [eall, b4]; simp
      refine ⟨⟨k + 1, by omega⟩, by show R.length - (k + 1) < _; omega, ?_⟩
      dsimp only
      rw [tkK_no hT]
      exact weak_drop (by simp) (by simp [DropHp, ints_below, flts_below, w64_succ k (by omega), cbB, inB, mpB, mcB, intB, ent_below, allBelow_cons, allBelow_nil, below, belowM, belowL]) (by simp [DropTm, DropV, below, belowM, belowL, w64_succ k (by omega), cbB, inB, mpB, mcB, intB, ent_below, allBelow_cons, allBelow_nil, below, belowM, belowL])
    have hT : tkP (rkR R) Y F O K k = true := by
      unfold tkP
      rw [ek, b1, eall, b4, ← hY, show yP (p.map entA) R[k].1 = true from b2, ← hF]
      simp only []
      rw [b3]; rfl
    have hS : TkS R[k] [cbB (.rop [.ro (R.map rulA), .ro (ints idx), .ro (ints fs), .rom (p.map entA), .rom q]), inB (nI (O ++ tkK R Y F O K k)), mpB kn, mcB (.mp 2), intB (hdsL R (tkK R Y F O K k)), { ty := 40, w := 5, els := [.agg [.int .i64 R[k].1, .ro (ints R[k].2.1), .int .i64 R[k].2.2.1, .int .i64 R[k].2.2.2.1, .int .i64 R[k].2.2.2.2]] }] := ⟨rfl, by
      intro b hb
      simp only [List.mem_cons, List.not_mem_nil, or_false] at hb
      rcases hb with rfl | rfl | rfl | rfl | rfl | rfl
      · rfl
      · exact intsB_below _ _
      · exact mp_below _ _
      · simp [mcB, allBelow, below, belowM, belowL]
      · exact intsB_below _ _
      · rfl⟩
    refine go_float mixed (TkS R[k]) [1, 2, 0, 4, 5, 6, 7, 3, 8, 9, 10] [3, 3, 3, 2, 0, 0, 0, 0, 1, 1, 1] [none, none, none, some 1, none, none, none, none, some 4] [[], [], [], [], [1], [1], [1], [1]] (by kernel_rfl) ?_
    iterate 1 (refine om_calm (by rfl) (by rfl) (by rfl) (by rfl) ?_; try simp only []; simp only [q0, q1, q2, q3, q4, q5, q6, q7, q8, q9, zr0, zr1, zr2, zr3, zq0, zq1, zq2, zq3, zq4, Nat.reduceAdd, Nat.reduceSub, lenA, convA, indexA, indexS, Int.reduceToNat, cond_true, cond_false, ↓reduceIte, reduceCtorEq, Nat.reduceLT, Nat.reduceLeDiff, Nat.reduceMul, Nat.reduceEqDiff, exists_eq', implies_true, exists_true_left, tys0, tys1, tys2, tys3, tys4, und0, und1, und2, und3, md28, Tryz.ntmps28, Tryz.results28, crtA, cbB, inB, mpB, mcB, intB, List.length_map, List.getElem_map, rulA, ints_len, nI_len, ent_kill])
    refine om_calmF (by rfl) (by rfl) (by rfl) (by rfl) { ty := 3, w := 1, els := [.int .i64 (k : Int)] } 1 (.sl 0 0 1) rfl rfl hS.2 rfl (by simp only [q0, q1, q2, q3, q4, q5, q6, q7, q8, q9, zr0, zr1, zr2, zr3, zq0, zq1, zq2, zq3, zq4, Nat.reduceAdd, Nat.reduceSub, lenA, convA, indexA, indexS, Int.reduceToNat, cond_true, cond_false, ↓reduceIte, reduceCtorEq, Nat.reduceLT, Nat.reduceLeDiff, Nat.reduceMul, Nat.reduceEqDiff, exists_eq', implies_true, exists_true_left, tys0, tys1, tys2, tys3, tys4, und0, und1, und2, und3, md28, Tryz.ntmps28, Tryz.results28]; rfl) ?_
    rw [show view 1 [({ ty := 3, w := 1, els := [.int .i64 (k : Int)] } : Blk)] (.sl 0 0 1) = .ro [.int .i64 (k : Int)] from by simp [view_sl, view_int]]
    simp only [q0, q1, q2, q3, q4, q5, q6, q7, q8, q9, zr0, zr1, zr2, zr3, zq0, zq1, zq2, zq3, zq4, Nat.reduceAdd, Nat.reduceSub, lenA, convA, indexA, indexS, Int.reduceToNat, cond_true, cond_false, ↓reduceIte, reduceCtorEq, Nat.reduceLT, Nat.reduceLeDiff, Nat.reduceMul, Nat.reduceEqDiff, exists_eq', implies_true, exists_true_left, tys0, tys1, tys2, tys3, tys4, und0, und1, und2, und3, md28, Tryz.ntmps28, Tryz.results28]
    iterate 1 (refine om_calm (by rfl) (by rfl) (by rfl) (by rfl) ?_; try simp only []; simp only [q0, q1, q2, q3, q4, q5, q6, q7, q8, q9, zr0, zr1, zr2, zr3, zq0, zq1, zq2, zq3, zq4, Nat.reduceAdd, Nat.reduceSub, lenA, convA, indexA, indexS, Int.reduceToNat, cond_true, cond_false, ↓reduceIte, reduceCtorEq, Nat.reduceLT, Nat.reduceLeDiff, Nat.reduceMul, Nat.reduceEqDiff, exists_eq', implies_true, exists_true_left, tys0, tys1, tys2, tys3, tys4, und0, und1, und2, und3, md28, Tryz.ntmps28, Tryz.results28, crtA, cbB, inB, mpB, mcB, intB, List.length_map, List.getElem_map, rulA, ints_len, nI_len, ent_kill])
    refine om_quiet (by rfl) (by rfl) (by rfl) hS (v := .sl 4 0 (tkK R Y F O K k).length) (fun hp hH => by obtain ⟨h5, hf⟩ := hH; simp only [q0, q1, q2, q3, q4, q5, q6, q7, q8, q9, zr0, zr1, zr2, zr3, zq0, zq1, zq2, zq3, zq4, Nat.reduceAdd, Nat.reduceSub, lenA, convA, indexA, indexS, Int.reduceToNat, cond_true, cond_false, ↓reduceIte, reduceCtorEq, Nat.reduceLT, Nat.reduceLeDiff, Nat.reduceMul, Nat.reduceEqDiff, exists_eq', implies_true, exists_true_left, tys0, tys1, tys2, tys3, tys4, und0, und1, und2, und3, md28, Tryz.ntmps28, Tryz.results28, h5]) ⟨by simp [Fixed, kill, killM, killL], by intro x hx; simp [Op.operands] at hx; first | (subst hx; simp [Fixed, St.ev, ofV, ofL, kill, killM, killL]) | (rcases hx with rfl | rfl <;> simp [Fixed, St.ev, ofV, ofL, kill, killM, killL]) | (rcases hx with rfl | rfl | rfl <;> simp [Fixed, St.ev, ofV, ofL, kill, killM, killL])⟩ ?_; try simp only []; simp only [q0, q1, q2, q3, q4, q5, q6, q7, q8, q9, zr0, zr1, zr2, zr3, zq0, zq1, zq2, zq3, zq4, Nat.reduceAdd, Nat.reduceSub, lenA, convA, indexA, indexS, Int.reduceToNat, cond_true, cond_false, ↓reduceIte, reduceCtorEq, Nat.reduceLT, Nat.reduceLeDiff, Nat.reduceMul, Nat.reduceEqDiff, exists_eq', implies_true, exists_true_left, tys0, tys1, tys2, tys3, tys4, und0, und1, und2, und3, md28, Tryz.ntmps28, Tryz.results28]
    refine om_quiet (by rfl) (by rfl) (by rfl) hS (v := .ptr 5 0 0) (fun hp hH => by obtain ⟨h5, hf⟩ := hH; simp only [q0, q1, q2, q3, q4, q5, q6, q7, q8, q9, zr0, zr1, zr2, zr3, zq0, zq1, zq2, zq3, zq4, Nat.reduceAdd, Nat.reduceSub, lenA, convA, indexA, indexS, Int.reduceToNat, cond_true, cond_false, ↓reduceIte, reduceCtorEq, Nat.reduceLT, Nat.reduceLeDiff, Nat.reduceMul, Nat.reduceEqDiff, exists_eq', implies_true, exists_true_left, tys0, tys1, tys2, tys3, tys4, und0, und1, und2, und3, md28, Tryz.ntmps28, Tryz.results28, h5]) ⟨by simp [Fixed, kill, killM, killL], by intro x hx; simp [Op.operands] at hx; first | (subst hx; simp [Fixed, St.ev, ofV, ofL, kill, killM, killL]) | (rcases hx with rfl | rfl <;> simp [Fixed, St.ev, ofV, ofL, kill, killM, killL]) | (rcases hx with rfl | rfl | rfl <;> simp [Fixed, St.ev, ofV, ofL, kill, killM, killL])⟩ ?_; try simp only []; simp only [q0, q1, q2, q3, q4, q5, q6, q7, q8, q9, zr0, zr1, zr2, zr3, zq0, zq1, zq2, zq3, zq4, Nat.reduceAdd, Nat.reduceSub, lenA, convA, indexA, indexS, Int.reduceToNat, cond_true, cond_false, ↓reduceIte, reduceCtorEq, Nat.reduceLT, Nat.reduceLeDiff, Nat.reduceMul, Nat.reduceEqDiff, exists_eq', implies_true, exists_true_left, tys0, tys1, tys2, tys3, tys4, und0, und1, und2, und3, md28, Tryz.ntmps28, Tryz.results28]
    refine om_quiet (by rfl) (by rfl) (by rfl) hS (v := .int .i64 R[k].1) (fun hp hH => by obtain ⟨h5, hf⟩ := hH; simp only [q0, q1, q2, q3, q4, q5, q6, q7, q8, q9, zr0, zr1, zr2, zr3, zq0, zq1, zq2, zq3, zq4, Nat.reduceAdd, Nat.reduceSub, lenA, convA, indexA, indexS, Int.reduceToNat, cond_true, cond_false, ↓reduceIte, reduceCtorEq, Nat.reduceLT, Nat.reduceLeDiff, Nat.reduceMul, Nat.reduceEqDiff, exists_eq', implies_true, exists_true_left, tys0, tys1, tys2, tys3, tys4, und0, und1, und2, und3, md28, Tryz.ntmps28, Tryz.results28, h5]) ⟨by simp [Fixed, kill, killM, killL], by intro x hx; simp [Op.operands] at hx; first | (subst hx; simp [Fixed, St.ev, ofV, ofL, kill, killM, killL]) | (rcases hx with rfl | rfl <;> simp [Fixed, St.ev, ofV, ofL, kill, killM, killL]) | (rcases hx with rfl | rfl | rfl <;> simp [Fixed, St.ev, ofV, ofL, kill, killM, killL])⟩ ?_; try simp only []; simp only [q0, q1, q2, q3, q4, q5, q6, q7, q8, q9, zr0, zr1, zr2, zr3, zq0, zq1, zq2, zq3, zq4, Nat.reduceAdd, Nat.reduceSub, lenA, convA, indexA, indexS, Int.reduceToNat, cond_true, cond_false, ↓reduceIte, reduceCtorEq, Nat.reduceLT, Nat.reduceLeDiff, Nat.reduceMul, Nat.reduceEqDiff, exists_eq', implies_true, exists_true_left, tys0, tys1, tys2, tys3, tys4, und0, und1, und2, und3, md28, Tryz.ntmps28, Tryz.results28]
    refine om_fresh (by rfl) (by rfl) (by rfl) hS { ty := 2, w := 1, els := [.int .i64 R[k].1] } 1 (.sl 0 0 1) rfl rfl rfl (fun hp hH => hH.2) (fun hp hH => by simp only [q0, q1, q2, q3, q4, q5, q6, q7, q8, q9, zr0, zr1, zr2, zr3, zq0, zq1, zq2, zq3, zq4, Nat.reduceAdd, Nat.reduceSub, lenA, convA, indexA, indexS, Int.reduceToNat, cond_true, cond_false, ↓reduceIte, reduceCtorEq, Nat.reduceLT, Nat.reduceLeDiff, Nat.reduceMul, Nat.reduceEqDiff, exists_eq', implies_true, exists_true_left, tys0, tys1, tys2, tys3, tys4, und0, und1, und2, und3, md28, Tryz.ntmps28, Tryz.results28]; rfl) (by refine ⟨by simp [view_sl, view_int, Fixed, kill, killM, killL], ?_⟩; intro x hx; simp [Op.operands] at hx; subst hx; simp [Fixed, St.ev, kill, killM, killL]) ?_
    rw [show view 1 [({ ty := 2, w := 1, els := [.int .i64 R[k].1] } : Blk)] (.sl 0 0 1) = .ro [.int .i64 R[k].1] from by simp [view_sl, view_int]]
    simp only [q0, q1, q2, q3, q4, q5, q6, q7, q8, q9, zr0, zr1, zr2, zr3, zq0, zq1, zq2, zq3, zq4, Nat.reduceAdd, Nat.reduceSub, lenA, convA, indexA, indexS, Int.reduceToNat, cond_true, cond_false, ↓reduceIte, reduceCtorEq, Nat.reduceLT, Nat.reduceLeDiff, Nat.reduceMul, Nat.reduceEqDiff, exists_eq', implies_true, exists_true_left, tys0, tys1, tys2, tys3, tys4, und0, und1, und2, und3, md28, Tryz.ntmps28, Tryz.results28]
    refine om_float (by rfl) (by rfl) (by rfl) ?_
    simp only [q0, q1, q2, q3, q4, q5, q6, q7, q8, q9, zr0, zr1, zr2, zr3, zq0, zq1, zq2, zq3, zq4, Nat.reduceAdd, Nat.reduceSub, lenA, convA, indexA, indexS, Int.reduceToNat, cond_true, cond_false, ↓reduceIte, reduceCtorEq, Nat.reduceLT, Nat.reduceLeDiff, Nat.reduceMul, Nat.reduceEqDiff, exists_eq', implies_true, exists_true_left, tys0, tys1, tys2, tys3, tys4, und0, und1, und2, und3, md28, Tryz.ntmps28, Tryz.results28, crtA, cbB, inB, mpB, mcB, intB, List.length_map, List.getElem_map, rulA, ints_len, nI_len, ent_kill, allW_int, fits, List.isEmpty_cons, brk_false, Nat.reduceMul]
    have eO : nI (O ++ tkK R Y F O K k) ++ [(k : Int)] = nI (O ++ tkK R Y F O K (k + 1)) := by
      rw [tkK_yes hT, ← List.append_assoc, nI_append _ [k]]; rfl
    have eH : hdsL R (tkK R Y F O K k) ++ [R[k].1] = hdsL R (tkK R Y F O K (k + 1)) := by rw [tkK_yes hT, hds_snoc R _ k hk']
    have eL : (O ++ tkK R Y F O K k).length + 1 = (O ++ tkK R Y F O K (k + 1)).length := by rw [tkK_yes hT]; simp; omega
    have eM : (tkK R Y F O K k).length + 1 = (tkK R Y F O K (k + 1)).length := by rw [tkK_yes hT]; simp
    rw [eO]
    refine ⟨by rw [List.length_append]; omega, .inr trivial, ⟨rfl, by
      intro b hb
      simp only [List.mem_cons, List.not_mem_nil, or_false] at hb
      rcases hb with rfl | rfl | rfl | rfl | rfl | rfl
      · rfl
      · exact intsB_below _ _
      · exact mp_below _ kn
      · simp [allBelow, below, belowM, belowL]
      · exact intsB_below _ _
      · rfl⟩, ?_⟩
    refine om_one (by rfl) (by rfl) (by rfl) ?_
    simp only [q0, q1, q2, q3, q4, q5, q6, q7, q8, q9, zr0, zr1, zr2, zr3, zq0, zq1, zq2, zq3, zq4, Nat.reduceAdd, Nat.reduceSub, lenA, convA, indexA, indexS, Int.reduceToNat, cond_true, cond_false, ↓reduceIte, reduceCtorEq, Nat.reduceLT, Nat.reduceLeDiff, Nat.reduceMul, Nat.reduceEqDiff, exists_eq', implies_true, exists_true_left, tys0, tys1, tys2, tys3, tys4, und0, und1, und2, und3, md28, Tryz.ntmps28, Tryz.results28, crtA, cbB, inB, mpB, mcB, intB, List.length_map, List.getElem_map, rulA, ints_len, nI_len, ent_kill, allW_int, fits, List.isEmpty_cons, brk_false, Nat.reduceMul, hds_len]
    refine ⟨by omega, ?_⟩
    refine om_one (by rfl) (by rfl) (by rfl) ?_; try simp only []; simp only [q0, q1, q2, q3, q4, q5, q6, q7, q8, q9, zr0, zr1, zr2, zr3, zq0, zq1, zq2, zq3, zq4, Nat.reduceAdd, Nat.reduceSub, lenA, convA, indexA, indexS, Int.reduceToNat, cond_true, cond_false, ↓reduceIte, reduceCtorEq, Nat.reduceLT, Nat.reduceLeDiff, Nat.reduceMul, Nat.reduceEqDiff, exists_eq', implies_true, exists_true_left, tys0, tys1, tys2, tys3, tys4, und0, und1, und2, und3, md28, Tryz.ntmps28, Tryz.results28]
    refine om_one (by rfl) (by rfl) (by rfl) ?_; try simp only []; simp only [q0, q1, q2, q3, q4, q5, q6, q7, q8, q9, zr0, zr1, zr2, zr3, zq0, zq1, zq2, zq3, zq4, Nat.reduceAdd, Nat.reduceSub, lenA, convA, indexA, indexS, Int.reduceToNat, cond_true, cond_false, ↓reduceIte, reduceCtorEq, Nat.reduceLT, Nat.reduceLeDiff, Nat.reduceMul, Nat.reduceEqDiff, exists_eq', implies_true, exists_true_left, tys0, tys1, tys2, tys3, tys4, und0, und1, und2, und3, md28, Tryz.ntmps28, Tryz.results28]
    refine om_nil ?_
    simp only [q0, q1, q2, q3, q4, q5, q6, q7, q8, q9, zr0, zr1, zr2, zr3, zq0, zq1, zq2, zq3, zq4, Nat.reduceAdd, Nat.reduceSub, lenA, convA, indexA, indexS, Int.reduceToNat, cond_true, cond_false, ↓reduceIte, reduceCtorEq, Nat.reduceLT, Nat.reduceLeDiff, Nat.reduceMul, Nat.reduceEqDiff, exists_eq', implies_true, exists_true_left, tys0, tys1, tys2, tys3, tys4, und0, und1, und2, und3, md28, Tryz.ntmps28, Tryz.results28]
    refine ⟨⟨k + 1, by omega⟩, by show R.length - (k + 1) < _; omega, ?_⟩
    dsimp only
    rw [eL, eM, eH]
    exact weak_drop (by simp) (by simp [DropHp, ints_below, flts_below, w64_succ k (by omega), cbB, inB, mpB, mcB, intB, ent_below, allBelow_cons, allBelow_nil, below, belowM, belowL]) (by simp [DropTm, DropV, below, belowM, belowL, w64_succ k (by omega), cbB, inB, mpB, mcB, intB, ent_below, allBelow_cons, allBelow_nil, below, belowM, belowL])
  · have hk' : k = R.length := by simp at h; omega
    subst hk'
    have eS : tkK R Y F O K R.length = tkS (List.range R.length) (rkR R) Y F O K := rfl
    rw [eS]
    have hSl : (tkS (List.range R.length) (rkR R) Y F O K).length ≤ R.length := Nat.le_trans (List.length_filter_le _ _) (by simp)
    refine br_intro (fun g => ?_) (fun g => ?_) <;> simp only [q0, q1, q2, q3, q4, q5, q6, q7, q8, q9, zr0, zr1, zr2, zr3, zq0, zq1, zq2, zq3, zq4, Nat.reduceAdd, Nat.reduceSub, lenA, convA, indexA, indexS, Int.reduceToNat, cond_true, cond_false, ↓reduceIte, reduceCtorEq, Nat.reduceLT, Nat.reduceLeDiff, Nat.reduceMul, Nat.reduceEqDiff, exists_eq', implies_true, exists_true_left, tys0, tys1, tys2, tys3, tys4, und0, und1, und2, und3, md28, Tryz.ntmps28, Tryz.results28, crtA, cbB, inB, mpB, mcB, intB, List.length_map, List.getElem_map, rulA, ints_len, nI_len, ent_kill]
    · have h0 : tkS (List.range R.length) (rkR R) Y F O K = [] := by
        have := eq_of_beq g
        exact List.eq_nil_of_length_eq_zero (by omega)
      rw [h0, List.append_nil]
      have eq1 : (tkN (List.range R.length) (rkR R) Y F n).1.length = O.length := by rw [hO]
      refine PostR.tell [0, 1] (hp2 := [cbB (crtA R idx fs (p.map entA) q), inB (nI O)]) (by decide) (by decide) (by decide) ⟨⟨by simp [renB, cbB, ren, renM, renL, crtA], rfl⟩, ⟨by simp [renB, inB, ints_ren], intsB_below 2 (nI O)⟩, trivial⟩ (r2 := .sl 1 0 O.length) (by rfl) (by rfl) ⟨n, by rw [hO, hK]; exact h0, by rw [hO], by rw [hO]; rfl⟩
    have hne : tkS (List.range R.length) (rkR R) Y F O K ≠ [] := by
      intro h0
      rw [h0] at g
      simp at g
    have e1 : (tkN (List.range R.length) (rkR R) Y F (n + 1)).1 = O ++ tkS (List.range R.length) (rkR R) Y F O K := by
      show (tkN (List.range R.length) (rkR R) Y F n).1 ++ tkS _ _ _ _ (tkN (List.range R.length) (rkR R) Y F n).1 (tkN (List.range R.length) (rkR R) Y F n).2 = _
      rw [hO, hK]
    have e2 : (tkN (List.range R.length) (rkR R) Y F (n + 1)).2 = knU (rkR R) K (tkS (List.range R.length) (rkR R) Y F O K) := by
      show knU (rkR R) (tkN (List.range R.length) (rkR R) Y F n).2 (tkS _ _ _ _ (tkN (List.range R.length) (rkR R) Y F n).1 (tkN (List.range R.length) (rkR R) Y F n).2) = _
      rw [hO, hK]
    have hlen2 := tkN_len (ru := rkR R) (Y := Y) (F := F) nd (n + 1)
    rw [e1, List.length_append, List.length_range] at hlen2
    have hpos := List.length_pos_iff.2 hne
    generalize hN : tkS (List.range R.length) (rkR R) Y F O K = N at *
    refine go_round (md := md28) mixed (by kernel_rfl) (fun j : {j : Nat // j ≤ N.length} => ⟨[.any, .ptr 0 0 0, .any, .sl 1 0 (O ++ N).length, .ptr 3 0 0, .any, .any, .any, .any, .any, .any, .any, .any, .any, .any, .any, .any, .any, .any, .any, .any, .any, .any, .any, .any, .any, .any, .any, .any, .any, .any, .any, .any, .any, .any, .any, .any, .any, .any, .any, .any, .any, .any, .any, .any, .any, .any, .any, .any, .any, .any, .any, .any, .any, .any, .any, .any, .any, .any, .any, .any, .sl 4 0 N.length, .int .i64 N.length, .int .i64 j.1, .any, .any, .any, .any, .any, .any], [cbB (.rop [.ro (R.map rulA), .ro (ints idx), .ro (ints fs), .rom (p.map entA), .rom q]), inB (nI (O ++ N)), mpB ((hdsL R (N.take j.1)).foldl (fun ps h => updP h true ps) kn), mcB (.mp 2), intB (hdsL R N)]⟩) (fun j => N.length - j.1) ⟨0, Nat.zero_le _⟩ ?_ ?_
    · have e0 : (hdsL R (N.take 0)).foldl (fun ps h => updP h true ps) kn = kn := rfl
      dsimp only
      rw [e0]
      exact weak_drop (by simp) (by simp [DropHp, ints_below, flts_below, cbB, inB, mpB, mcB, intB, allBelow_cons, allBelow_nil, below, belowM, belowL, ent_below]) (by simp [DropTm, DropV, below, belowM, belowL, cbB, inB, mpB, mcB, intB, allBelow_cons, allBelow_nil, below, belowM, belowL, ent_below])
    rintro ⟨j, hj⟩
    dsimp only at hj ⊢
    simp only [q0, q1, q2, q3, q4, q5, q6, q7, q8, q9, zr0, zr1, zr2, zr3, zq0, zq1, zq2, zq3, zq4, Nat.reduceAdd, Nat.reduceSub, lenA, convA, indexA, indexS, Int.reduceToNat, cond_true, cond_false, ↓reduceIte, reduceCtorEq, Nat.reduceLT, Nat.reduceLeDiff, Nat.reduceMul, Nat.reduceEqDiff, exists_eq', implies_true, exists_true_left, tys0, tys1, tys2, tys3, tys4, und0, und1, und2, und3, md28, Tryz.ntmps28, Tryz.results28, crtA, cbB, inB, mpB, mcB, intB, List.length_map, List.getElem_map, rulA, ints_len, nI_len, ent_kill, hds_len, updE_ents]
    refine br_intro (fun h2 => ?_) (fun h2 => ?_) <;> simp only [q0, q1, q2, q3, q4, q5, q6, q7, q8, q9, zr0, zr1, zr2, zr3, zq0, zq1, zq2, zq3, zq4, Nat.reduceAdd, Nat.reduceSub, lenA, convA, indexA, indexS, Int.reduceToNat, cond_true, cond_false, ↓reduceIte, reduceCtorEq, Nat.reduceLT, Nat.reduceLeDiff, Nat.reduceMul, Nat.reduceEqDiff, exists_eq', implies_true, exists_true_left, tys0, tys1, tys2, tys3, tys4, und0, und1, und2, und3, md28, Tryz.ntmps28, Tryz.results28, crtA, cbB, inB, mpB, mcB, intB, List.length_map, List.getElem_map, rulA, ints_len, nI_len, ent_kill, hds_len, updE_ents]
    · have hj' : j < N.length := by have := of_decide_eq_true h2; omega
      have hj2 : j < (hdsL R N).length := by rw [hds_len]; exact hj'
      have ej : (hdsL R N)[j] = (rkR R N[j]).1 := by simp [hdsL]
      have eF : (hdsL R (N.take (j + 1))).foldl (fun ps h => updP h true ps) kn = updP (hdsL R N)[j] true ((hdsL R (N.take j)).foldl (fun ps h => updP h true ps) kn) := by
        rw [take_snoc _ _ hj', show hdsL R (N.take j ++ [N[j]]) = hdsL R (N.take j) ++ [(rkR R N[j]).1] by unfold hdsL; rw [List.map_append]; rfl, List.foldl_append, ej]; rfl
      refine ⟨by omega, hj', ⟨j + 1, by omega⟩, by show N.length - (j + 1) < _; omega, ?_⟩
      dsimp only
      rw [eF]
      exact weak_drop (by simp) (by simp [DropHp, ints_below, flts_below, w64_succ j (by omega), cbB, inB, mpB, mcB, intB, ent_below, allBelow_cons, allBelow_nil, below, belowM, belowL]) (by simp [DropTm, DropV, below, belowM, belowL, w64_succ j (by omega), cbB, inB, mpB, mcB, intB, ent_below, allBelow_cons, allBelow_nil, below, belowM, belowL])
    · have hj' : j = N.length := by have := of_decide_eq_false h2; omega
      subst hj'
      rw [List.take_length]
      refine ⟨⟨(n + 1, (hdsL R N).foldl (fun ps h => updP h true ps) kn), by
        dsimp only
        rw [e2, upd_any, hkn]; rfl⟩, by show R.length - (tkN (List.range R.length) (rkR R) Y F (n + 1)).1.length < R.length - O.length; rw [e1, List.length_append]; omega, ?_⟩
      dsimp only
      rw [e1]
      exact weak_drop (by simp) (by simp [DropHp, ints_below, flts_below, cbB, inB, mpB, mcB, intB, ent_below, allBelow_cons, allBelow_nil, below, belowM, belowL]) (by simp [DropTm, DropV, below, belowM, belowL, cbB, inB, mpB, mcB, intB, ent_below, allBelow_cons, allBelow_nil, below, belowM, belowL])
theorem taken_call (R : List Rul) (hR : Rls R) (idx fs : List Int) (hf : Fcs fs) (p : List (Int × Bool)) (q : List AV) {Y F : Int → Bool} (hY : yP (p.map entA) = Y) (hF : (fun w : Int => decide (w ∈ fs)) = F) :
    CallA Tryz.prog 28 [crtA R idx fs (p.map entA) q] [] (fun r hp => ∃ n, tkS (List.range R.length) (rkR R) Y F (tkN (List.range R.length) (rkR R) Y F n).1 (tkN (List.range R.length) (rkR R) Y F n).2 = [] ∧
      r = .ro (ints (nI (tkN (List.range R.length) (rkR R) Y F n).1)) ∧ hp = []) := by
  refine (CallA.freezeQ 2 (taken0_call R hR idx fs hf p q hY hF)).mono ?_
  rintro r hp ⟨r0, new, ⟨n, h0, rfl, rfl⟩, rfl, rfl⟩
  refine ⟨n, h0, ?_, rfl⟩
  rw [← nI_len, view_sl]
  simp [inB, ints_len, map_view_ints, take_ints]
end Go.Proofs.YthcfklkpabfkbaaGreat
