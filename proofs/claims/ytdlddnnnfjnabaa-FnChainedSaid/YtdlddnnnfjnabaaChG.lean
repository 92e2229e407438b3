/- Dues spread over lines: what the program computes. -/
import Derived.Test.YtdlddnnnfjnabaaChF
set_option maxRecDepth 10000
set_option maxHeartbeats 8000000
set_option linter.unusedSimpArgs false
set_option linter.unusedVariables false
namespace Go.Proofs.Ytdlddnnnfjnabaa
open Go Go.Abs

def flL (xs ks rs : List Int) : List Int := rngL (fun i => exF3 xs ks rs i / 10000) xs.length
theorem flL_len (xs ks rs : List Int) : (flL xs ks rs).length = xs.length := rngL_len _ _
theorem rndz (a : Int) (h : 0 ≤ a) : rnd a 10000 0 = a / 10000 := rnd0 a 10000
def lefL (xs ks rs : List Int) (w : Int) (i : Nat) : List Int := rngL (fun k => totF xs ks rs w k - sumK k (ks.take i) ((flL xs ks rs).take i)) 3
theorem lefL_len (xs ks rs : List Int) (w : Int) (i : Nat) : (lefL xs ks rs w i).length = 3 := rngL_len _ _
theorem lefL_get (xs ks rs : List Int) (w : Int) (i : Nat) (k : Nat) (h : k < 3) : (lefL xs ks rs w i).getD k 0 = totF xs ks rs w k - sumK k (ks.take i) ((flL xs ks rs).take i) := rngL_get _ 3 k h
theorem lefL_step {xs ks rs : List Int} {w : Int} (L : Lns xs ks rs w) {i : Nat} (h : i < xs.length) : (lefL xs ks rs w i).set (ks.getD i 0).toNat ((lefL xs ks rs w i).getD (ks.getD i 0).toNat 0 - exF3 xs ks rs i / 10000) = lefL xs ks rs w (i + 1) := by
  have h3 := L.kl
  have bk := L.k.at_ (show i < ks.length by omega)
  have fg : (flL xs ks rs).getD i 0 = exF3 xs ks rs i / 10000 := rngL_get _ _ _ h
  have fl := flL_len xs ks rs
  have e : ∀ k : Int, sumK k (ks.take (i + 1)) ((flL xs ks rs).take (i + 1)) = sumK k (ks.take i) ((flL xs ks rs).take i) + (if ks.getD i 0 = k then exF3 xs ks rs i / 10000 else 0) := fun k => by
    rw [gtake_snoc ks i (by omega), gtake_snoc (flL xs ks rs) i (by omega), sumK_snoc k _ _ _ _ (by simp; omega), ← getD_at ks 0 i (by omega), ← getD_at (flL xs ks rs) 0 i (by omega), fg]
  have c : ks.getD i 0 = 0 ∨ ks.getD i 0 = 1 ∨ ks.getD i 0 = 2 := by omega
  have l : ∀ j, lefL xs ks rs w j = [totF xs ks rs w 0 - sumK 0 (ks.take j) ((flL xs ks rs).take j), totF xs ks rs w 1 - sumK 1 (ks.take j) ((flL xs ks rs).take j), totF xs ks rs w 2 - sumK 2 (ks.take j) ((flL xs ks rs).take j)] := fun j => rfl
  rw [l i, l (i + 1), e 0, e 1, e 2]
  rcases c with c | c | c <;> rw [c] <;> simp <;> omega
theorem fl_bound {xs ks rs : List Int} {w : Int} (L : Lns xs ks rs w) : Sml 2001 (flL xs ks rs) := by
  intro x hx
  obtain ⟨i, hi, rfl⟩ := List.mem_map.1 hx
  have b := ex_bound L i (by simpa using hi)
  show 0 ≤ exF3 xs ks rs i / 10000 ∧ exF3 xs ks rs i / 10000 < 2001
  omega
theorem tot_bound {xs ks rs : List Int} {w : Int} (L : Lns xs ks rs w) (k : Nat) (hk : k < 3) : 0 ≤ totF xs ks rs w k ∧ totF xs ks rs w k ≤ 20001 := by
  have h4 := L.rl
  have br := L.r.at_ (show k < rs.length by omega)
  have s := sumK_nonneg (k : Int) ks xs fun x h => (L.x x h).1
  have t := L.x.sumT L.ten xs.length
  rw [List.take_length] at t
  have b := own_bound (w := w) br.1 (show rs.getD k 0 ≤ 10000 by omega) s.1
  unfold totF
  omega
theorem lef_bound {xs ks rs : List Int} {w : Int} (L : Lns xs ks rs w) (i : Nat) : ∀ x ∈ lefL xs ks rs w i, -100000 ≤ x ∧ x ≤ 100000 := by
  intro x hx
  obtain ⟨k, hk, rfl⟩ := List.mem_map.1 hx
  have hk3 : k < 3 := by simpa using hk
  have t := tot_bound L k hk3
  have F := (fl_bound L).take i
  have s := sumK_nonneg (k : Int) (ks.take i) ((flL xs ks rs).take i) fun x h => (F x h).1
  have s2 := F.sum
  have ten := L.ten
  have ln : ((flL xs ks rs).take i).length ≤ 10 := by simp [flL_len]; omega
  show -100000 ≤ totF xs ks rs w k - sumK k _ _ ∧ totF xs ks rs w k - sumK k _ _ ≤ 100000
  omega
def linC (xs : List Int) : Blk := cel 25 (.ro (ints xs))
theorem lt_eq (xs ks rs : List Int) (x y : Int) : ltC (cmpF xs ks rs) x y = decide (rstF xs ks rs y.toNat < rstF xs ks rs x.toNat) := by
  unfold ltC cmpF
  rw [Bool.eq_iff_iff]
  simp only [decide_eq_true_eq]
  omega
theorem ordF_sort (xs ks rs : List Int) : (ordF xs ks rs).Perm (rngL (fun i => (i : Int)) xs.length) ∧ (ordF xs ks rs).Pairwise (Ahead (ltC (cmpF xs ks rs))) := by
  have h := isG_sort (ltC (cmpF xs ks rs)) (fun x y h => by
    rw [lt_eq] at h ⊢
    simp only [decide_eq_true_eq, decide_eq_false_iff_not] at h ⊢
    omega) (fun x y z h1 h2 => by
    rw [lt_eq] at h1 h2 ⊢
    simp only [decide_eq_false_iff_not] at h1 h2 ⊢
    omega) (rngL (fun i => (i : Int)) xs.length) (by
    unfold rngL
    rw [List.pairwise_map]
    exact (List.pairwise_lt_range).imp fun h => by omega)
  rw [rngL_len] at h
  exact h
theorem ordF_len (xs ks rs : List Int) : (ordF xs ks rs).length = xs.length := by rw [(ordF_sort xs ks rs).1.length_eq, rngL_len]
theorem ordF_mem {xs ks rs : List Int} {x : Int} (h : x ∈ ordF xs ks rs) : 0 ≤ x ∧ x < xs.length := by
  have h := (ordF_sort xs ks rs).1.mem_iff.1 h
  obtain ⟨i, hi, rfl⟩ := List.mem_map.1 h
  have := List.mem_range.1 hi
  exact ⟨by omega, by show (i : Int) < _; omega⟩
def ordN (xs ks rs : List Int) : List Nat := (ordF xs ks rs).map Int.toNat
def stpG (ks : List Int) (i : Nat) (s : List Int × List Int) : List Int × List Int := if 0 < s.2.getD (ks.getD i 0).toNat 0 then (s.1.set i (s.1.getD i 0 + 1), s.2.set (ks.getD i 0).toNat (s.2.getD (ks.getD i 0).toNat 0 - 1)) else s
structure SpB (n j : Nat) (s : List Int × List Int) : Prop where
  l1 : s.1.length = n
  l2 : s.2.length = 3
  b1 : ∀ x ∈ s.1, 0 ≤ x ∧ x ≤ 3000 + j
  b2 : ∀ x ∈ s.2, -100000 ≤ x ∧ x ≤ 100000
theorem SpB.step {n j : Nat} {s : List Int × List Int} (B : SpB n j s) (ks : List Int) (i : Nat) (hi : i < n) (hk : (ks.getD i 0).toNat < 3) : SpB n (j + 1) (stpG ks i s) := by
  have l1 := B.l1
  have l2 := B.l2
  have x1 := B.b1 (s.1.getD i 0) (by rw [getD_at _ 0 i (by omega)]; exact List.getElem_mem _)
  have x2 := B.b2 (s.2.getD (ks.getD i 0).toNat 0) (by rw [getD_at _ 0 _ (by omega)]; exact List.getElem_mem _)
  unfold stpG
  split
  · rename_i h
    refine ⟨by simpa using l1, by simpa using l2, fun x hx => ?_, fun x hx => ?_⟩
    · rcases List.mem_or_eq_of_mem_set hx with hx | rfl
      · have := B.b1 x hx; omega
      · omega
    · rcases List.mem_or_eq_of_mem_set hx with hx | rfl
      · exact B.b2 x hx
      · omega
  · exact ⟨l1, l2, fun x hx => by have := B.b1 x hx; omega, B.b2⟩
def sprF (xs ks rs : List Int) (w : Int) : List Int × List Int := sprG ks (ordN xs ks rs) (flL xs ks rs, lefL xs ks rs w xs.length)
structure SpI (xs ks rs : List Int) (w : Int) (p : Nat × (List Int × List Int)) : Prop where
  j : p.1 ≤ xs.length
  b : SpB xs.length p.1 p.2
  fin : sprG ks ((ordN xs ks rs).drop p.1) p.2 = sprF xs ks rs w
theorem subG_subs {σ : List Nat} {hp l : List Blk} (hn : σ.Nodup) (S : SubG (fun i => σ.getD i 0) σ.length hp σ l) : Sub σ hp l where
  nodup := hn
  len := S.len
  blk := fun i r hr => by
    obtain ⟨h1, h2⟩ := S.get i r hr
    exact ⟨_, h1, rfl, fun hl => ⟨hl, rfl, rfl, by simpa [allBelow] using h2⟩⟩
theorem call_subG {P : Program} {f : FuncId} {args : List AV} {hp : List Blk} {Q : AV → List Blk → Prop} {t : Tok Q} (σ : List Nat) {args' : List AV} {hps hps' : List Blk} {r : AV} (h : CallA P f args' hps (Ret r hps')) (hn : σ.Nodup) (S : SubG (fun i => σ.getD i 0) σ.length hp σ hps) (ha : args = args'.map (ren fun i => σ.getD i 0)) (hb : args'.all (below σ.length) = true)
    {hp2 : List Blk} (he : subHp σ hp hps' = hp2) (hQ : Q (ren (upName σ hp.length) r) hp2) : CallP P f args hp Q t := by
  refine call_at (CallA.sub σ (subG_subs hn S) ha hb (h.mono ?_))
  rintro r' hp' ⟨rfl, rfl⟩
  rw [he]
  exact hQ
theorem spreadDues_call {xs ks rs : List Int} {w : Int} (L : Lns xs ks rs w) : CallA Try.prog 15 [.ro (ints xs), .ro (ints ks), .ro (ints rs), .int .i64 w] [] (Ret (.tup [.sl 0 0 xs.length, .bool true]) [intB (sprF xs ks rs w).1]) := by
  have h1 := L.one
  have h2 := L.ten
  have h3 := L.kl
  have h4 := L.rl
  refine CallP.out (t := .mk) (go_in (md := md15) mixed Try.func15 rfl go15 (by kernel_rfl) ?_)
  simp only [q0, q1, q2, q3, q4, q5, q6, q7, q8, q9, zq0, zq1, zq2, zq3, zq4, guardSlot, quietA, nilC, nilA, quietB, St.ev, St.put, St.after, Nat.reduceAdd, Nat.reduceSub, ofV, ofL, lenA, binA, intBin, fltBin, strBin, cpxBin, unA, convA, convB, convO, pickV, resL, oneA, indexA, indexS, isQuiet, loadA, loadC, storeA, fieldA, partA, sliceA, boundA, buildA, placeA, setAll, appendA, readSl, newEl, AV.cells, AV.solid, AV.one, kill, killM, killL, notInt, Int.reduceToNat, cond_true, cond_false, ↓reduceIte, reduceCtorEq, Nat.reduceLT, Nat.reduceLeDiff, Nat.reduceMul, Nat.reduceEqDiff, exists_eq', putF, implies_true, exists_true_left, tys0, tys1, tys2, tys3, tys4, und0, und1, und2, und3, md15, Try.ntmps15, Try.results15]
  refine call_ret (areLines_call L) rfl rfl ?_
  simp only [q0, q1, q2, q3, q4, q5, q6, q7, q8, q9, zq0, zq1, zq2, zq3, zq4, guardSlot, quietA, nilC, nilA, quietB, St.ev, St.put, St.after, Nat.reduceAdd, Nat.reduceSub, ofV, ofL, lenA, binA, intBin, fltBin, strBin, cpxBin, unA, convA, convB, convO, pickV, resL, oneA, indexA, indexS, isQuiet, loadA, loadC, storeA, fieldA, partA, sliceA, boundA, buildA, placeA, setAll, appendA, readSl, newEl, AV.cells, AV.solid, AV.one, kill, killM, killL, notInt, Int.reduceToNat, cond_true, cond_false, ↓reduceIte, reduceCtorEq, Nat.reduceLT, Nat.reduceLeDiff, Nat.reduceMul, Nat.reduceEqDiff, exists_eq', putF, implies_true, exists_true_left, tys0, tys1, tys2, tys3, tys4, und0, und1, und2, und3, md15, Try.ntmps15, Try.results15]
  refine call_new (rateDues0_call L) rfl (by intro q hq; simp at hq; subst hq; exact ints_below _ _) ?_
  simp only [q0, q1, q2, q3, q4, q5, q6, q7, q8, q9, zq0, zq1, zq2, zq3, zq4, guardSlot, quietA, nilC, nilA, quietB, St.ev, St.put, St.after, Nat.reduceAdd, Nat.reduceSub, ofV, ofL, lenA, binA, intBin, fltBin, strBin, cpxBin, unA, convA, convB, convO, pickV, resL, oneA, indexA, indexS, isQuiet, loadA, loadC, storeA, fieldA, partA, sliceA, boundA, buildA, placeA, setAll, appendA, readSl, newEl, AV.cells, AV.solid, AV.one, kill, killM, killL, notInt, Int.reduceToNat, cond_true, cond_false, ↓reduceIte, reduceCtorEq, Nat.reduceLT, Nat.reduceLeDiff, Nat.reduceMul, Nat.reduceEqDiff, exists_eq', putF, implies_true, exists_true_left, tys0, tys1, tys2, tys3, tys4, und0, und1, und2, und3, md15, Try.ntmps15, Try.results15, ren, renM, renL]
  refine go_round (md := md15) mixed (by kernel_rfl) (fun i : {i : Nat // i ≤ xs.length} => ⟨[.any, .any, .any, .any, .ptr 0 0 0, .ptr 1 0 0, .ptr 2 0 0, .any, .any, .any, .sl 3 0 i.1, .sl 4 0 3, .sl 5 0 i.1, .any, .any, .any, .any, .any, .any, .any, .any, .any, .any, .any, .any, .any, .any, .any, .any, .any, .any, .any, .ro (ints xs), .int .i64 xs.length, .int .i64 i.1, .any, .any, .any, .any, .any, .any, .any, .any, .any, .any, .any, .any, .any, .any, .any, .any, .any, .any, .any, .any, .any, .any, .any, .any, .any, .any, .any, .any, .any, .any, .any, .any, .any, .any, .any, .any, .any, .any, .any, .any, .any, .any, .any, .any, .any, .any, .any, .any, .any, .any, .any, .any, .any, .any, .any, .any, .any, .any, .any, .any, .any, .any, .any, .any, .any, .any, .any], [linC xs, linC ks, linC rs, intB ((flL xs ks rs).take i.1), intB (lefL xs ks rs w i.1), { ty := 3, w := 1, els := ints (rngL (fun i => (i : Int)) i.1) }]⟩) (fun i => xs.length - i.1) ⟨0, by simp⟩ ?_ ?_
  · have z : lefL xs ks rs w 0 = rngL (totF xs ks rs w) 3 := by
      unfold lefL rngL
      congr 1
      funext k
      simp [sumK]
    have z2 : rngL (fun i => (i : Int)) 0 = [] := rfl
    have z3 : ints [] = [] := rfl
    rw [z, z2, List.take_zero]
    exact weak_drop (by simp) (by simp [DropHp, ints_below, flts_below, intB, z3, linC, cel, allBelow_cons, allBelow_nil, below, belowM, belowL]) (by simp [DropTm, DropV, below, belowM, belowL, intB, z3, linC, cel, allBelow_cons, allBelow_nil, below, belowM, belowL])
  · intro ⟨i, hi⟩
    have fl := flL_len xs ks rs
    have tl : ((flL xs ks rs).take i).length = i := by simp; omega
    have ll := lefL_len xs ks rs w i
    have ol := rngL_len (fun i => (i : Int)) i
    simp only [q0, q1, q2, q3, q4, q5, q6, q7, q8, q9, zq0, zq1, zq2, zq3, zq4, guardSlot, quietA, nilC, nilA, quietB, St.ev, St.put, St.after, Nat.reduceAdd, Nat.reduceSub, ofV, ofL, lenA, binA, intBin, fltBin, strBin, cpxBin, unA, convA, convB, convO, pickV, resL, oneA, indexA, indexS, isQuiet, loadA, loadC, storeA, fieldA, partA, sliceA, boundA, buildA, placeA, setAll, appendA, readSl, newEl, AV.cells, AV.solid, AV.one, kill, killM, killL, notInt, Int.reduceToNat, cond_true, cond_false, ↓reduceIte, reduceCtorEq, Nat.reduceLT, Nat.reduceLeDiff, Nat.reduceMul, Nat.reduceEqDiff, exists_eq', putF, implies_true, exists_true_left, tys0, tys1, tys2, tys3, tys4, und0, und1, und2, und3, md15, Try.ntmps15, Try.results15, linC, cel, intB, ints_len, ll, tl, ol, c70, z70, u70]
    refine br_intro (fun h => ?_) (fun h => ?_) <;> simp only [q0, q1, q2, q3, q4, q5, q6, q7, q8, q9, zq0, zq1, zq2, zq3, zq4, guardSlot, quietA, nilC, nilA, quietB, St.ev, St.put, St.after, Nat.reduceAdd, Nat.reduceSub, ofV, ofL, lenA, binA, intBin, fltBin, strBin, cpxBin, unA, convA, convB, convO, pickV, resL, oneA, indexA, indexS, isQuiet, loadA, loadC, storeA, fieldA, partA, sliceA, boundA, buildA, placeA, setAll, appendA, readSl, newEl, AV.cells, AV.solid, AV.one, kill, killM, killL, notInt, Int.reduceToNat, cond_true, cond_false, ↓reduceIte, reduceCtorEq, Nat.reduceLT, Nat.reduceLeDiff, Nat.reduceMul, Nat.reduceEqDiff, exists_eq', putF, implies_true, exists_true_left, tys0, tys1, tys2, tys3, tys4, und0, und1, und2, und3, md15, Try.ntmps15, Try.results15, linC, cel, intB, ints_len, ll, tl, ol, c70, z70, u70]
    · have hi' : i < xs.length := by simpa using h
      have hk' : i < ks.length := by omega
      have bx := L.x _ (List.getElem_mem hi')
      have bk := L.k _ (List.getElem_mem hk')
      have hr' : ks[i].toNat < rs.length := by omega
      have br := L.r _ (List.getElem_mem hr')
      have b := ex_bound L i hi'
      have e0 : exF3 xs ks rs i = xs[i] * rs[ks[i].toNat] := by rw [exF3, getD_at xs 0 i hi', getD_at ks 0 i hk', getD_at rs 0 _ hr']
      have e1 : rnd (xs[i] * rs[ks[i].toNat]) 10000 0 = exF3 xs ks rs i / 10000 := by rw [← e0]; exact rndz _ b.1
      have due := dueBy_call xs[i] rs[ks[i].toNat] 0 bx.1 (by omega) br.1 (by omega) (by decide) (by decide)
      rw [e1] at due
      refine ⟨hi', hk', bk.1, hr', ?_⟩
      refine callr_ret due rfl rfl ?_
      have hl' : ks[i].toNat < (lefL xs ks rs w i).length := by omega
      have lb := lef_bound L i _ (List.getElem_mem hl')
      have e3 : IntKind.i64.wrap ((lefL xs ks rs w i)[ks[i].toNat] - exF3 xs ks rs i / 10000) = (lefL xs ks rs w i)[ks[i].toNat] - exF3 xs ks rs i / 10000 := w64 (by omega) (by omega)
      simp only [q0, q1, q2, q3, q4, q5, q6, q7, q8, q9, zq0, zq1, zq2, zq3, zq4, guardSlot, quietA, nilC, nilA, quietB, St.ev, St.put, St.after, Nat.reduceAdd, Nat.reduceSub, ofV, ofL, lenA, binA, intBin, fltBin, strBin, cpxBin, unA, convA, convB, convO, pickV, resL, oneA, indexA, indexS, isQuiet, loadA, loadC, storeA, fieldA, partA, sliceA, boundA, buildA, placeA, setAll, appendA, readSl, newEl, AV.cells, AV.solid, AV.one, kill, killM, killL, notInt, Int.reduceToNat, cond_true, cond_false, ↓reduceIte, reduceCtorEq, Nat.reduceLT, Nat.reduceLeDiff, Nat.reduceMul, Nat.reduceEqDiff, exists_eq', putF, implies_true, exists_true_left, tys0, tys1, tys2, tys3, tys4, und0, und1, und2, und3, md15, Try.ntmps15, Try.results15, linC, cel, intB, ints_len, ll, tl, ol, allW_int, fits, List.isEmpty_cons, brk_false, Nat.reduceMul]
      refine ⟨by omega, by omega, hk', bk.1, by omega, hl', bk.1, by omega, by omega, ⟨i + 1, by omega⟩, by show xs.length - (i + 1) < xs.length - i; omega, ?_⟩
      have stp := lefL_step L hi'
      rw [getD_at ks 0 i hk', getD_at (lefL xs ks rs w i) 0 _ hl'] at stp
      have fg : (flL xs ks rs).take i ++ [exF3 xs ks rs i / 10000] = (flL xs ks rs).take (i + 1) := by
        rw [gtake_snoc (flL xs ks rs) i (by omega), ← getD_at (flL xs ks rs) 0 i (by omega)]
        rw [show (flL xs ks rs).getD i 0 = exF3 xs ks rs i / 10000 from rngL_get _ _ _ hi']
      rw [e3, ints_set, stp, fg, rngL_succ (fun i => (i : Int))]
      exact weak_drop (by simp) (by simp [DropHp, ints_below, flts_below, w64_succ i (by omega), intB, linC, cel, allBelow_cons, allBelow_nil, below, belowM, belowL]) (by simp [DropTm, DropV, below, belowM, belowL, w64_succ i (by omega), intB, linC, cel, allBelow_cons, allBelow_nil, below, belowM, belowL])
    · have hi' : i = xs.length := by simp at h; omega
      subst hi'
      have tk : (flL xs ks rs).take xs.length = flL xs ks rs := List.take_of_length_le (by omega)
      rw [tk]
      have srt := stable_call (cmp_ok L 3) (rngL (fun i => (i : Int)) xs.length) (by omega) (by omega) (fun x hx => by
        obtain ⟨i, hi, rfl⟩ := List.mem_map.1 hx
        exact ⟨by omega, by have := List.mem_range.1 hi; show (i : Int) < _; omega⟩)
      rw [ol] at srt
      refine call_subG [5, 6, 0, 2, 1] srt (by decide) ⟨⟨by simp [renB, ints_ren], ints_below _ _⟩, ⟨rfl, rfl⟩, ⟨rfl, rfl⟩, ⟨rfl, rfl⟩, ⟨rfl, rfl⟩, trivial⟩ rfl rfl (hp2 := [linC xs, linC ks, linC rs, intB (flL xs ks rs), intB (lefL xs ks rs w xs.length), { ty := 3, w := 1, els := ints (ordF xs ks rs) }, { ty := 70, w := 1, els := [AV.fn 51 [AV.ptr 0 0 0, AV.ptr 2 0 0, AV.ptr 1 0 0]] }]) (by simp [subHp, putBack, renB, upName, sprC, cel, ren, renM, renL, ints_ren, ordF, linC, intB]) ?_
      simp only [q0, q1, q2, q3, q4, q5, q6, q7, q8, q9, zq0, zq1, zq2, zq3, zq4, guardSlot, quietA, nilC, nilA, quietB, St.ev, St.put, St.after, Nat.reduceAdd, Nat.reduceSub, ofV, ofL, lenA, binA, intBin, fltBin, strBin, cpxBin, unA, convA, convB, convO, pickV, resL, oneA, indexA, indexS, isQuiet, loadA, loadC, storeA, fieldA, partA, sliceA, boundA, buildA, placeA, setAll, appendA, readSl, newEl, AV.cells, AV.solid, AV.one, kill, killM, killL, notInt, Int.reduceToNat, cond_true, cond_false, ↓reduceIte, reduceCtorEq, Nat.reduceLT, Nat.reduceLeDiff, Nat.reduceMul, Nat.reduceEqDiff, exists_eq', putF, implies_true, exists_true_left, tys0, tys1, tys2, tys3, tys4, und0, und1, und2, und3, md15, Try.ntmps15, Try.results15, linC, cel, intB, ints_len, ll, tl, ol, c70, z70, u70, ren, renM, renL]
      have oL := ordF_len xs ks rs
      refine go_round (md := md15) mixed (by kernel_rfl) (fun p : {p : Nat × (List Int × List Int) // SpI xs ks rs w p} => ⟨[.any, .any, .any, .any, .any, .ptr 1 0 0, .any, .any, .any, .any, .sl 3 0 xs.length, .sl 4 0 3, .any, .any, .any, .any, .any, .any, .any, .any, .any, .any, .any, .any, .any, .any, .any, .any, .any, .any, .any, .any, .any, .any, .any, .any, .any, .any, .any, .any, .any, .any, .any, .any, .any, .any, .any, .any, .any, .any, .any, .any, .any, .any, .any, .any, .any, .any, .any, .any, .any, .any, .any, .any, .any, .any, .any, .any, .any, .any, .any, .sl 5 0 xs.length, .int .i64 xs.length, .int .i64 p.1.1, .any, .any, .any, .any, .any, .any, .any, .any, .any, .any, .any, .any, .any, .any, .any, .any, .any, .any, .any, .any, .any, .any, .any, .any, .any, .any, .any, .any], [linC xs, linC ks, linC rs, intB p.1.2.1, intB p.1.2.2, { ty := 3, w := 1, els := ints (ordF xs ks rs) }]⟩) (fun p => xs.length - p.1.1) ⟨(0, (flL xs ks rs, lefL xs ks rs w xs.length)), ⟨Nat.zero_le _, ⟨fl, ll, fun x hx => by have := fl_bound L x hx; exact ⟨by omega, by show x ≤ 3000 + ((0 : Nat) : Int); omega⟩, lef_bound L _⟩, rfl⟩⟩ ?_ ?_
      · exact weak_drop (by simp) (by simp [DropHp, ints_below, flts_below, intB, linC, cel, allBelow_cons, allBelow_nil, below, belowM, belowL]) (by simp [DropTm, DropV, below, belowM, belowL, intB, linC, cel, allBelow_cons, allBelow_nil, below, belowM, belowL])
      · rintro ⟨⟨j, s⟩, I⟩
        have i1 := I.j
        have B := I.b
        simp only [] at i1 B
        have B1 := B.l1
        have B2 := B.l2
        simp only [q0, q1, q2, q3, q4, q5, q6, q7, q8, q9, zq0, zq1, zq2, zq3, zq4, guardSlot, quietA, nilC, nilA, quietB, St.ev, St.put, St.after, Nat.reduceAdd, Nat.reduceSub, ofV, ofL, lenA, binA, intBin, fltBin, strBin, cpxBin, unA, convA, convB, convO, pickV, resL, oneA, indexA, indexS, isQuiet, loadA, loadC, storeA, fieldA, partA, sliceA, boundA, buildA, placeA, setAll, appendA, readSl, newEl, AV.cells, AV.solid, AV.one, kill, killM, killL, notInt, Int.reduceToNat, cond_true, cond_false, ↓reduceIte, reduceCtorEq, Nat.reduceLT, Nat.reduceLeDiff, Nat.reduceMul, Nat.reduceEqDiff, exists_eq', putF, implies_true, exists_true_left, tys0, tys1, tys2, tys3, tys4, und0, und1, und2, und3, md15, Try.ntmps15, Try.results15, linC, cel, intB, ints_len, oL, B1, B2]
        refine br_intro (fun g => ?_) (fun g => ?_) <;> simp only [q0, q1, q2, q3, q4, q5, q6, q7, q8, q9, zq0, zq1, zq2, zq3, zq4, guardSlot, quietA, nilC, nilA, quietB, St.ev, St.put, St.after, Nat.reduceAdd, Nat.reduceSub, ofV, ofL, lenA, binA, intBin, fltBin, strBin, cpxBin, unA, convA, convB, convO, pickV, resL, oneA, indexA, indexS, isQuiet, loadA, loadC, storeA, fieldA, partA, sliceA, boundA, buildA, placeA, setAll, appendA, readSl, newEl, AV.cells, AV.solid, AV.one, kill, killM, killL, notInt, Int.reduceToNat, cond_true, cond_false, ↓reduceIte, reduceCtorEq, Nat.reduceLT, Nat.reduceLeDiff, Nat.reduceMul, Nat.reduceEqDiff, exists_eq', putF, implies_true, exists_true_left, tys0, tys1, tys2, tys3, tys4, und0, und1, und2, und3, md15, Try.ntmps15, Try.results15, linC, cel, intB, ints_len, oL, B1, B2]
        · have hj : j < xs.length := by have := of_decide_eq_true g; omega
          have ho' : j < (ordF xs ks rs).length := by omega
          have om := ordF_mem (List.getElem_mem ho')
          have hx' : (ordF xs ks rs)[j].toNat < xs.length := by omega
          have hk' : (ordF xs ks rs)[j].toNat < ks.length := by omega
          have bk := L.k _ (List.getElem_mem hk')
          have hl' : ks[(ordF xs ks rs)[j].toNat].toNat < s.2.length := by omega
          have ho : (s.1 : List Int).length = xs.length := B1
          have hs' : (ordF xs ks rs)[j].toNat < s.1.length := by omega
          have ek := getD_at ks 0 _ hk'
          have el := getD_at s.2 0 _ hl'
          have eo := getD_at s.1 0 _ hs'
          have BN := B.step ks (ordF xs ks rs)[j].toNat hx' (by rw [ek]; omega)
          have hN : j < (ordN xs ks rs).length := by simp [ordN]; omega
          have gN : (ordN xs ks rs)[j] = (ordF xs ks rs)[j].toNat := by simp [ordN]
          have fin' : sprG ks ((ordN xs ks rs).drop (j + 1)) (stpG ks (ordF xs ks rs)[j].toNat s) = sprF xs ks rs w := by
            rw [← I.fin]
            show _ = sprG ks ((ordN xs ks rs).drop j) s
            rw [List.drop_eq_getElem_cons hN, gN]
            rfl
          have bx := B.b1 _ (List.getElem_mem hs')
          have bl := B.b2 _ (List.getElem_mem hl')
          have e1 : IntKind.i64.wrap (s.1[(ordF xs ks rs)[j].toNat] + 1) = s.1[(ordF xs ks rs)[j].toNat] + 1 := w64 (by omega) (by omega)
          have e2 : IntKind.i64.wrap (s.2[ks[(ordF xs ks rs)[j].toNat].toNat] - 1) = s.2[ks[(ordF xs ks rs)[j].toNat].toNat] - 1 := w64 (by omega) (by omega)
          refine ⟨by omega, hj, om.1, hk', bk.1, by omega, by omega, ?_⟩
          refine br_intro (fun u => ?_) (fun u => ?_) <;> simp only [q0, q1, q2, q3, q4, q5, q6, q7, q8, q9, zq0, zq1, zq2, zq3, zq4, guardSlot, quietA, nilC, nilA, quietB, St.ev, St.put, St.after, Nat.reduceAdd, Nat.reduceSub, ofV, ofL, lenA, binA, intBin, fltBin, strBin, cpxBin, unA, convA, convB, convO, pickV, resL, oneA, indexA, indexS, isQuiet, loadA, loadC, storeA, fieldA, partA, sliceA, boundA, buildA, placeA, setAll, appendA, readSl, newEl, AV.cells, AV.solid, AV.one, kill, killM, killL, notInt, Int.reduceToNat, cond_true, cond_false, ↓reduceIte, reduceCtorEq, Nat.reduceLT, Nat.reduceLeDiff, Nat.reduceMul, Nat.reduceEqDiff, exists_eq', putF, implies_true, exists_true_left, tys0, tys1, tys2, tys3, tys4, und0, und1, und2, und3, md15, Try.ntmps15, Try.results15, linC, cel, intB, ints_len, oL, B1, B2, List.length_set]
          · have es : stpG ks (ordF xs ks rs)[j].toNat s = (s.1.set (ordF xs ks rs)[j].toNat (s.1[(ordF xs ks rs)[j].toNat] + 1), s.2.set ks[(ordF xs ks rs)[j].toNat].toNat (s.2[ks[(ordF xs ks rs)[j].toNat].toNat] - 1)) := by
              unfold stpG
              rw [ek, el, eo, if_pos (of_decide_eq_true u)]
            rw [es] at fin' BN
            refine ⟨om.1, om.2, hx', om.1, om.2, hx', om.1, hk', bk.1, by omega, by omega, bk.1, by omega, by omega, ⟨(j + 1, (s.1.set (ordF xs ks rs)[j].toNat (s.1[(ordF xs ks rs)[j].toNat] + 1), s.2.set ks[(ordF xs ks rs)[j].toNat].toNat (s.2[ks[(ordF xs ks rs)[j].toNat].toNat] - 1))), ⟨hj, BN, fin'⟩⟩, by show xs.length - (j + 1) < xs.length - j; omega, ?_⟩
            rw [e1, e2, ints_set, ints_set]
            exact weak_drop (by simp) (by simp [DropHp, ints_below, flts_below, w64_succ j (by omega), intB, linC, cel, allBelow_cons, allBelow_nil, below, belowM, belowL]) (by simp [DropTm, DropV, below, belowM, belowL, w64_succ j (by omega), intB, linC, cel, allBelow_cons, allBelow_nil, below, belowM, belowL])
          · have es : stpG ks (ordF xs ks rs)[j].toNat s = s := by
              unfold stpG
              rw [ek, el, if_neg (of_decide_eq_false u)]
            rw [es] at fin' BN
            refine ⟨⟨(j + 1, s), ⟨hj, BN, fin'⟩⟩, by show xs.length - (j + 1) < xs.length - j; omega, ?_⟩
            exact weak_drop (by simp) (by simp [DropHp, ints_below, flts_below, w64_succ j (by omega), intB, linC, cel, allBelow_cons, allBelow_nil, below, belowM, belowL]) (by simp [DropTm, DropV, below, belowM, belowL, w64_succ j (by omega), intB, linC, cel, allBelow_cons, allBelow_nil, below, belowM, belowL])
        · have hj : j = xs.length := by have := of_decide_eq_false g; omega
          subst hj
          have fn : sprF xs ks rs w = s := by
            have := I.fin
            rw [List.drop_of_length_le (by simp [ordN]; omega)] at this
            exact this.symm
          rw [fn]
          refine PostR.tell [3] (hp2 := [intB s.1]) (by decide) (by decide) (by decide) ⟨⟨congrArg some (renB_flat (r := intB _) (ints_below _ _)).symm, ints_below _ _⟩, trivial⟩ rfl rfl ⟨rfl, rfl⟩
end Go.Proofs.Ytdlddnnnfjnabaa
