/- TzG8: texts joined. -/
import Derived.Test.YtodjjpmigcacoaaGreatDoorTzG1
import Derived.Test.YtodjjpmigcacoaaGreatDoorAbsM5
import Derived.Test.YtodjjpmigcacoaaGreatDoorTzS
set_option linter.unusedSimpArgs false
set_option linter.unusedVariables false
namespace Go.Proofs.YtodjjpmigcacoaaGreatDoor
theorem asc_head_lt : ∀ (l : List Int) (a : Int), Asc (a :: l) → ∀ x ∈ l, a < x
  | [], _, _, _, h => by cases h
  | b :: l, a, h, x, hx => by
    rcases List.mem_cons.1 hx with rfl | hx
    · exact h.1
    · exact Int.lt_trans h.1 (asc_head_lt l b h.2 x hx)
def cmpI : List Int → List Int
  | a :: b :: l => if a = b then cmpI (b :: l) else a :: cmpI (b :: l)
  | l => l
def trmB : Int → List Int → List Int → List Int
  | o, b :: bs, r :: rs => if r = o then trmB o bs rs else b :: trmB r bs rs
  | _, _, _ => []
def trmR : Int → List Int → List Int → List Int
  | o, _ :: bs, r :: rs => if r = o then trmR o bs rs else r :: trmR r bs rs
  | _, _, _ => []
theorem trm_len : ∀ (o : Int) (bs rs : List Int), (trmR o bs rs).length = (trmB o bs rs).length ∧ (trmB o bs rs).length ≤ bs.length
  | o, b :: bs, r :: rs => by
    have h1 := trm_len o bs rs
    have h2 := trm_len r bs rs
    unfold trmR trmB
    split <;> simp <;> omega
  | _, [], rs => by cases rs <;> simp [trmR, trmB]
  | _, _ :: _, [] => by simp [trmR, trmB]
theorem trm_mem : ∀ (o : Int) (bs rs : List Int), (∀ x ∈ trmB o bs rs, x ∈ bs) ∧ ∀ x ∈ trmR o bs rs, x ∈ rs
  | o, b :: bs, r :: rs => by
    have h1 := trm_mem o bs rs
    have h2 := trm_mem r bs rs
    unfold trmR trmB
    split
    · exact ⟨fun x hx => by simp [h1.1 x hx], fun x hx => by simp [h1.2 x hx]⟩
    · refine ⟨fun x hx => ?_, fun x hx => ?_⟩
      · rcases List.mem_cons.1 hx with rfl | hx
        · simp
        · simp [h2.1 x hx]
      · rcases List.mem_cons.1 hx with rfl | hx
        · simp
        · simp [h2.2 x hx]
  | _, [], rs => by cases rs <;> simp [trmR, trmB]
  | _, _ :: _, [] => by simp [trmR, trmB]
theorem asc_skip {a b : Int} {l : List Int} (h : Asc (a :: b :: l)) : Asc (a :: l) := by
  cases l with
  | nil => trivial
  | cons c l => exact ⟨Int.lt_trans h.1 h.2.1, h.2.2⟩
theorem trm_asc : ∀ (o : Int) (bs rs : List Int) (b : Int), Asc (b :: bs) → Asc (b :: trmB o bs rs)
  | o, b' :: bs, r :: rs, b, h => by
    unfold trmB
    split
    · exact trm_asc o bs rs b (asc_skip h)
    · exact ⟨h.1, trm_asc r bs rs b' h.2⟩
  | _, [], rs, b, _ => by cases rs <;> exact trivial
  | _, _ :: _, [], b, _ => trivial
theorem rt_above (x : Int) (o : Int) (rs : List Int) : ∀ (bs : List Int) (b : Int), (∀ z ∈ bs, x < z) → rtG (b :: bs) (o :: rs) x = o
  | [], _, _ => rfl
  | b' :: bs, b, h => by
    show (if b' ≤ x then rtG (b' :: bs) rs x else o) = o
    rw [if_neg (by have := h b' (by simp); omega)]
theorem trm_rt (x : Int) : ∀ (bs rs : List Int) (b o : Int), Asc (b :: bs) → rs.length = bs.length → rtG (b :: trmB o bs rs) (o :: trmR o bs rs) x = rtG (b :: bs) (o :: rs) x
  | [], [], b, o, _, _ => rfl
  | b' :: bs, r :: rs, b, o, h, hl => by
    have e : rtG (b :: b' :: bs) (o :: r :: rs) x = if b' ≤ x then rtG (b' :: bs) (r :: rs) x else o := rfl
    rw [e]
    unfold trmB trmR
    by_cases c : r = o
    · rw [if_pos c, if_pos c, trm_rt x bs rs b o (asc_skip h) (by simpa using hl)]
      subst c
      by_cases c2 : b' ≤ x
      · rw [if_pos c2]
        cases bs <;> rfl
      · rw [if_neg c2]
        exact rt_above x r rs bs b (fun z hz => by have := asc_head_lt bs b' h.2 z hz; omega)
    · rw [if_neg c, if_neg c]
      show (if b' ≤ x then rtG (b' :: trmB r bs rs) (r :: trmR r bs rs) x else o) = _
      rw [trm_rt x bs rs b' r h.2 (by simpa using hl)]
  | [], _ :: _, _, _, _, hl => by simp at hl
  | _ :: _, [], _, _, _, hl => by simp at hl
theorem trim_scl {b r : Int} {bs rs : List Int} (S : Scl (b :: bs) (r :: rs)) : Scl (b :: trmB r bs rs) (r :: trmR r bs rs) ∧ ∀ x, 0 ≤ x → rtG (b :: trmB r bs rs) (r :: trmR r bs rs) x = rtG (b :: bs) (r :: rs) x := by
  have hl := S.len
  have h8 := S.cap
  obtain ⟨l1, l2⟩ := trm_len r bs rs
  obtain ⟨m1, m2⟩ := trm_mem r bs rs
  refine ⟨⟨trm_asc r bs rs b S.asc, by simp [l1], S.zero, by simp at h8 ⊢; omega, fun x hx => S.top x ?_, fun x hx => S.rate x ?_⟩, fun x _ => trm_rt x bs rs b r S.asc (by simpa using hl)⟩
  · rcases List.mem_cons.1 hx with rfl | hx
    · simp
    · simp [m1 x hx]
  · rcases List.mem_cons.1 hx with rfl | hx
    · simp
    · simp [m2 x hx]
theorem ex_next : ∀ (i : Nat) (bs rs : List Int), Asc bs → rs.length = bs.length → i + 1 < bs.length → exF bs rs (bs.getD (i + 1) 0) = exF bs rs (bs.getD i 0) + (bs.getD (i + 1) 0 - bs.getD i 0) * rs.getD i 0
  | _, [], _, _, _, h => by simp at h
  | _, [_], _, _, _, h => by simp at h
  | _, b :: b' :: bs, [], _, hl, _ => by simp at hl
  | 0, b :: b' :: bs, r :: rs, ha, hl, _ => by
    show exF (b :: b' :: bs) (r :: rs) b' = exF (b :: b' :: bs) (r :: rs) b + (b' - b) * r
    have h1 := ha.1
    rw [ex_zero _ _ b b (Int.le_refl _)]
    have e : exF (b :: b' :: bs) (r :: rs) b' = if b' ≤ b then 0 else (nxt (b' :: bs) b' - b) * r + exF (b' :: bs) rs b' := rfl
    rw [e, if_neg (by omega), ex_zero bs rs b' b' (Int.le_refl _)]
    show ((if b' < b' then b' else b') - b) * r + 0 = _
    rw [if_neg (by omega)]
    omega
  | i + 1, b :: b' :: bs, r :: rs, ha, hl, hi => by
    have hi' : i + 1 < (b' :: bs).length := by simpa using hi
    have ih := ex_next i (b' :: bs) rs ha.2 (by simpa using hl) hi'
    have gt : ∀ j, j < (b' :: bs).length → b' ≤ (b' :: bs).getD j 0 := by
      intro j hj
      cases j with
      | zero => simp
      | succ j =>
        have hm : (b' :: bs).getD (j + 1) 0 ∈ bs := by
          have hj' : j < bs.length := by simpa using hj
          simp [List.getD_eq_getElem?_getD, hj']
        have := asc_head_lt bs b' ha.2 _ hm
        omega
    have e : ∀ c, b' ≤ c → exF (b :: b' :: bs) (r :: rs) c = (b' - b) * r + exF (b' :: bs) rs c := by
      intro c hc
      have h1 := ha.1
      have e : exF (b :: b' :: bs) (r :: rs) c = if c ≤ b then 0 else (nxt (b' :: bs) c - b) * r + exF (b' :: bs) rs c := rfl
      rw [e, if_neg (by omega)]
      have : nxt (b' :: bs) c = b' := by simp only [nxt]; split <;> omega
      rw [this]
    show exF (b :: b' :: bs) (r :: rs) ((b' :: bs).getD (i + 1) 0) = exF (b :: b' :: bs) (r :: rs) ((b' :: bs).getD i 0) + ((b' :: bs).getD (i + 1) 0 - (b' :: bs).getD i 0) * rs.getD i 0
    rw [e _ (gt (i + 1) hi'), e _ (gt i (by omega)), ih]
    omega
theorem again {bs rs : List Int} (S : Scl bs rs) (hb : ∀ b ∈ bs, b % 100 = 0) (hr : ∀ r ∈ rs, r % 100 = 0) {i : Nat} (hi : i + 1 < bs.length) :
    (exF bs rs (bs.getD (i + 1) 0) / 10000 - exF bs rs (bs.getD i 0) / 10000) * 10000 = (bs.getD (i + 1) 0 - bs.getD i 0) * rs.getD i 0 ∧ (bs.getD (i + 1) 0 - bs.getD i 0) * rs.getD i 0 % (bs.getD (i + 1) 0 - bs.getD i 0) = 0 ∧
      (bs.getD (i + 1) 0 - bs.getD i 0) * rs.getD i 0 / (bs.getD (i + 1) 0 - bs.getD i 0) = rs.getD i 0 := by
  have hl := S.len
  have mb : ∀ j, j < bs.length → bs.getD j 0 % 100 = 0 := fun j hj => hb _ (by simp [List.getD_eq_getElem?_getD, hj])
  have mr : ∀ j, j < bs.length → rs.getD j 0 % 100 = 0 := fun j hj => hr _ (by simp [List.getD_eq_getElem?_getD, show j < rs.length by omega])
  have step : ∀ j, j + 1 < bs.length → ((bs.getD (j + 1) 0 - bs.getD j 0) * rs.getD j 0) % 10000 = 0 := by
    intro j hj
    obtain ⟨u, hu⟩ := Int.dvd_of_emod_eq_zero (mb (j + 1) hj)
    obtain ⟨v, hv⟩ := Int.dvd_of_emod_eq_zero (mb j (by omega))
    obtain ⟨w, hw⟩ := Int.dvd_of_emod_eq_zero (mr j (by omega))
    rw [hu, hv, hw, ← Int.mul_sub, show 100 * (u - v) * (100 * w) = 10000 * ((u - v) * w) by rw [Int.mul_assoc, ← Int.mul_assoc (u - v) 100 w, Int.mul_comm (u - v) 100, Int.mul_assoc 100 (u - v) w, ← Int.mul_assoc]; rfl]
    exact Int.mul_emod_right _ _
  have all : ∀ j, j < bs.length → exF bs rs (bs.getD j 0) % 10000 = 0 := by
    intro j
    induction j with
    | zero =>
      intro _
      obtain ⟨tl, rfl, _⟩ := S.split
      show exF (0 :: tl) rs 0 % 10000 = 0
      rw [ex_zero tl rs 0 0 (Int.le_refl _)]; rfl
    | succ j ih =>
      intro hj
      rw [ex_next j bs rs S.asc S.len hj]
      have := ih (by omega)
      have := step j hj
      omega
  have h1 := ex_next i bs rs S.asc S.len hi
  have h2 := all i (by omega)
  have h3 := all (i + 1) hi
  have h4 : bs.getD (i + 1) 0 - bs.getD i 0 ≠ 0 := by
    have : ∀ (i : Nat) (l : List Int), Asc l → i + 1 < l.length → l.getD i 0 < l.getD (i + 1) 0 := by
      intro i
      induction i with
      | zero => intro l ha hi; match l, ha, hi with | a :: b :: l, ha, _ => exact ha.1
      | succ i ih => intro l ha hi; match l, ha, hi with | a :: b :: l, ha, hi => exact ih (b :: l) ha.2 (by simpa using hi)
    have := this i bs S.asc hi
    omega
  exact ⟨by omega, Int.mul_emod_right _ _, Int.mul_ediv_cancel_left _ h4⟩
end Go.Proofs.YtodjjpmigcacoaaGreatDoor
set_option maxRecDepth 10000
set_option maxHeartbeats 4000000
namespace Go.Proofs.YtodjjpmigcacoaaGreatDoor
open Go Go.Abs
open Nat renaming reduceAdd → Za, reduceSub → Zb, reduceMul → Zc, reduceLT → Zd, reduceLeDiff → Ze, reduceEqDiff → Zf
open Int renaming reduceToNat → Zn
open Go.Abs renaming lenA → Zg, convA → Zh, indexA → Zi, flatP → Zj, nilI → Zk, ifaA → Zl, indexS → Zm
def at8 (l : List Int) (k n : Int) : Int := if n ≤ 1 ∨ (l.length : Int) ≤ k then 0 else l.getD k.toNat 0 % n
theorem at8_low {l : List Int} {k n : Int} (hn : 1 ≤ n) : 0 ≤ at8 l k n ∧ at8 l k n < n := by
  unfold at8
  split
  · omega
  · have h1 := Int.emod_nonneg (l.getD k.toNat 0) (show n ≠ 0 by omega)
    have h2 := Int.emod_lt_of_pos (l.getD k.toNat 0) (show 0 < n by omega)
    omega
theorem r8At_call (l : List Int) (hc : byteL l) (hl : l.length ≤ 1048576) (k n : Int) (hk : 0 ≤ k) (hk2 : k ≤ 1000000000) : CallA Tryz.prog 18 [.ro (kint .u8 l), .int .i64 k, .int .i64 n] [] (Ret (.int .i64 (at8 l k n)) []) := by
  refine CallP.out (t := .mk) (go_in (md := md18) mixed Tryz.func18 rfl go18 (by kernel_rfl) ?_)
  simp only [Zu, Za, Zb, Zg, Zh, Zi, Zk, Zl, Zm, Zn, ↓reduceIte, reduceCtorEq, Zd, Ze, Zc, Zf, Z18, kint_len]
  refine br_intro (fun h => ?_) (fun h => ?_) <;> simp only [Zu, Za, Zb, Zg, Zh, Zi, Zk, Zl, Zm, Zn, ↓reduceIte, reduceCtorEq, Zd, Ze, Zc, Zf, Z18, kint_len]
  · exact PostR.pure ⟨by rw [at8, if_pos (.inl (of_decide_eq_true h))], rfl⟩ rfl
  · have h' := of_decide_eq_false h
    refine br_intro (fun g => ?_) (fun g => ?_) <;> simp only [Zu, Za, Zb, Zg, Zh, Zi, Zk, Zl, Zm, Zn, ↓reduceIte, reduceCtorEq, Zd, Ze, Zc, Zf, Z18, kint_len, kint_get]
    · exact PostR.pure ⟨by rw [at8, if_pos (.inr (of_decide_eq_true g))], rfl⟩ rfl
    · have g' := of_decide_eq_false g
      have hi : k.toNat < l.length := by omega
      have b0 := hc l[k.toNat] (List.getElem_mem hi)
      have e1 : (l[k.toNat]).tmod n = l[k.toNat] % n := Int.tmod_eq_emod_of_nonneg b0.1
      refine ⟨hk, hi, ?_⟩
      rw [u8i64 b0]
      refine ⟨by omega, ?_⟩
      rw [e1]
      exact PostR.pure ⟨by rw [at8, if_neg (by omega), getD_at l 0 _ hi], rfl⟩ rfl
theorem r8Long_call (l m : List Int) : CallA Tryz.prog 5 [.ro (kint .u8 l), .ro (kint .u8 m)] [] (Ret (.bool (decide (48 < (l.length : Int)) || decide (48 < (m.length : Int)))) []) := by
  refine CallP.out (t := .mk) (go_in (md := md5) mixed Tryz.func5 rfl go5 (by kernel_rfl) ?_)
  simp only [Zu, Za, Zb, Zg, Zh, Zi, Zk, Zl, Zm, Zn, ↓reduceIte, reduceCtorEq, Zd, Ze, Zc, Zf, Z5, kint_len]
  refine br_intro (fun h => ?_) (fun h => ?_) <;> simp only [Zu, Za, Zb, Zg, Zh, Zi, Zk, Zl, Zm, Zn, ↓reduceIte, reduceCtorEq, Zd, Ze, Zc, Zf, Z5, kint_len]
  · exact PostR.pure ⟨by rw [h]; rfl, rfl⟩ rfl
  · exact PostR.pure ⟨by rw [h]; rfl, rfl⟩ rfl
end Go.Proofs.YtodjjpmigcacoaaGreatDoor
namespace Go.Proofs.YtodjjpmigcacoaaGreatDoor
open Go Go.Abs
theorem slicesEqual_call (xs ys : List Int) (hm : xs.length ≤ 9223372036854775807) : CallA Tryz.prog 32 [.ro (ints xs), .ro (ints ys)] [] (Ret (.bool (xs == ys)) []) := by
  refine CallP.out (t := .mk) (go_in (md := md32) mixed Tryz.func32 rfl go32 (by kernel_rfl) ?_)
  simp only [q0, q1, q2, q3, q4, q5, q6, q7, q8, q9, zq0, zq1, zq2, zq3, zq4, guardSlot, quietA, nilC, nilA, quietB, St.ev, St.put, St.after, Nat.reduceAdd, Nat.reduceSub, ofV, ofL, lenA, binA, intBin, fltBin, strBin, cpxBin, unA, convA, convB, convO, pickV, resL, oneA, indexA, flatP, nilI, ifaA, indexS, isQuiet, loadA, loadC, storeA, fieldA, partA, sliceA, boundA, buildA, placeA, setAll, appendA, readSl, newEl, AV.cells, AV.solid, AV.one, kill, killM, killL, notInt, lookA, putA, entryA, entrySetA, mapTy, Int.reduceToNat, cond_true, cond_false, ↓reduceIte, reduceCtorEq, Nat.reduceLT, Nat.reduceLeDiff, Nat.reduceMul, Nat.reduceEqDiff, exists_eq', putF, implies_true, exists_true_left, tys0, tys1, tys2, tys3, und0, und1, und2, und3, md32, Tryz.ntmps32, Tryz.results32]
  refine br_intro (fun h => ?_) (fun h => ?_) <;> simp only [q0, q1, q2, q3, q4, q5, q6, q7, q8, q9, zq0, zq1, zq2, zq3, zq4, guardSlot, quietA, nilC, nilA, quietB, St.ev, St.put, St.after, Nat.reduceAdd, Nat.reduceSub, ofV, ofL, lenA, binA, intBin, fltBin, strBin, cpxBin, unA, convA, convB, convO, pickV, resL, oneA, indexA, flatP, nilI, ifaA, indexS, isQuiet, loadA, loadC, storeA, fieldA, partA, sliceA, boundA, buildA, placeA, setAll, appendA, readSl, newEl, AV.cells, AV.solid, AV.one, kill, killM, killL, notInt, lookA, putA, entryA, entrySetA, mapTy, Int.reduceToNat, cond_true, cond_false, ↓reduceIte, reduceCtorEq, Nat.reduceLT, Nat.reduceLeDiff, Nat.reduceMul, Nat.reduceEqDiff, exists_eq', putF, implies_true, exists_true_left, tys0, tys1, tys2, tys3, und0, und1, und2, und3, md32, Tryz.ntmps32, Tryz.results32]
  · have : (xs == ys) = false := by
      rw [beq_eq_false_iff_ne]; intro e; subst e; simp at h
    exact PostR.pure ⟨by rw [this], rfl⟩ rfl
  · have hl : xs.length = ys.length := by simp at h; omega
    refine go_round (md := md32) mixed (by kernel_rfl) (fun k : {k : Nat // k ≤ xs.length ∧ xs.take k = ys.take k} => ⟨[.ro (ints xs), .ro (ints ys), .any, .any, .any, .any, .any, .any, .any, .any, .any, .any, .int .i64 xs.length, .int .i64 k.1, .any, .any, .any, .any, .any, .any, .any, .any, .any, .any, .any, .any], []⟩) (fun k => xs.length - k.1) ⟨0, by simp⟩ ?_ ?_
    · exact weak_drop (by simp) (by simp [DropHp, ints_below, flts_below]) (by simp [DropTm, DropV, below, belowM, belowL])
    · intro ⟨k, hk, he⟩
      simp only [q0, q1, q2, q3, q4, q5, q6, q7, q8, q9, zq0, zq1, zq2, zq3, zq4, guardSlot, quietA, nilC, nilA, quietB, St.ev, St.put, St.after, Nat.reduceAdd, Nat.reduceSub, ofV, ofL, lenA, binA, intBin, fltBin, strBin, cpxBin, unA, convA, convB, convO, pickV, resL, oneA, indexA, flatP, nilI, ifaA, indexS, isQuiet, loadA, loadC, storeA, fieldA, partA, sliceA, boundA, buildA, placeA, setAll, appendA, readSl, newEl, AV.cells, AV.solid, AV.one, kill, killM, killL, notInt, lookA, putA, entryA, entrySetA, mapTy, Int.reduceToNat, cond_true, cond_false, ↓reduceIte, reduceCtorEq, Nat.reduceLT, Nat.reduceLeDiff, Nat.reduceMul, Nat.reduceEqDiff, exists_eq', putF, implies_true, exists_true_left, tys0, tys1, tys2, tys3, und0, und1, und2, und3, md32, Tryz.ntmps32, Tryz.results32]
      refine br_intro (fun h => ?_) (fun h => ?_) <;> simp only [q0, q1, q2, q3, q4, q5, q6, q7, q8, q9, zq0, zq1, zq2, zq3, zq4, guardSlot, quietA, nilC, nilA, quietB, St.ev, St.put, St.after, Nat.reduceAdd, Nat.reduceSub, ofV, ofL, lenA, binA, intBin, fltBin, strBin, cpxBin, unA, convA, convB, convO, pickV, resL, oneA, indexA, flatP, nilI, ifaA, indexS, isQuiet, loadA, loadC, storeA, fieldA, partA, sliceA, boundA, buildA, placeA, setAll, appendA, readSl, newEl, AV.cells, AV.solid, AV.one, kill, killM, killL, notInt, lookA, putA, entryA, entrySetA, mapTy, Int.reduceToNat, cond_true, cond_false, ↓reduceIte, reduceCtorEq, Nat.reduceLT, Nat.reduceLeDiff, Nat.reduceMul, Nat.reduceEqDiff, exists_eq', putF, implies_true, exists_true_left, tys0, tys1, tys2, tys3, und0, und1, und2, und3, md32, Tryz.ntmps32, Tryz.results32]
      · have hk' : k < xs.length := by simpa using h
        refine ⟨hk', by omega, ?_⟩
        refine br_intro (fun hne => ?_) (fun hne => ?_) <;> simp only [q0, q1, q2, q3, q4, q5, q6, q7, q8, q9, zq0, zq1, zq2, zq3, zq4, guardSlot, quietA, nilC, nilA, quietB, St.ev, St.put, St.after, Nat.reduceAdd, Nat.reduceSub, ofV, ofL, lenA, binA, intBin, fltBin, strBin, cpxBin, unA, convA, convB, convO, pickV, resL, oneA, indexA, flatP, nilI, ifaA, indexS, isQuiet, loadA, loadC, storeA, fieldA, partA, sliceA, boundA, buildA, placeA, setAll, appendA, readSl, newEl, AV.cells, AV.solid, AV.one, kill, killM, killL, notInt, lookA, putA, entryA, entrySetA, mapTy, Int.reduceToNat, cond_true, cond_false, ↓reduceIte, reduceCtorEq, Nat.reduceLT, Nat.reduceLeDiff, Nat.reduceMul, Nat.reduceEqDiff, exists_eq', putF, implies_true, exists_true_left, tys0, tys1, tys2, tys3, und0, und1, und2, und3, md32, Tryz.ntmps32, Tryz.results32]
        · have : (xs == ys) = false := by
            rw [beq_eq_false_iff_ne]; intro e; subst e; simp at hne
          exact PostR.pure ⟨by rw [this], rfl⟩ rfl
        · have heq' : xs[k] = ys[k] := by simpa using hne
          refine ⟨⟨k + 1, by omega, by rw [take_snoc _ _ hk', take_snoc _ _ (by omega), he, heq']⟩, by show xs.length - (k + 1) < xs.length - k; omega, ?_⟩
          exact weak_drop (by simp) (by simp [DropHp, ints_below, flts_below, w64_succ k (by omega)]) (by simp [DropTm, DropV, below, belowM, belowL, w64_succ k (by omega)])
      · have hk' : k = xs.length := by simp at h; omega
        have : (xs == ys) = true := by
          rw [beq_iff_eq]
          have h1 : xs.take xs.length = xs := List.take_length
          have h2 : ys.take xs.length = ys := by rw [hl]; exact List.take_length
          rw [hk'] at he; rw [← h1, ← h2, he]
        exact PostR.pure ⟨by rw [this], rfl⟩ rfl
theorem ew0 : IntKind.i64.wrap 1 = 1 := by decide
theorem iclone_call (xs : List Int) (h0 : 1 ≤ xs.length) (h : xs.length ≤ 1048576) : CallA Tryz.prog 70 [.ro (ints xs)] [] (Ret (.sl 0 0 xs.length) [intB xs]) := by
  cases xs with
  | nil => simp at h0
  | cons x xs =>
    refine CallP.out (t := .mk) (go_in (md := md70) mixed Tryz.func70 rfl go70 (by kernel_rfl) ?_)
    rw [show ints (x :: xs) = .int .i64 x :: ints xs from rfl]
    simp only [q0, q1, q2, q3, q4, q5, q6, q7, q8, q9, zq0, zq1, zq2, zq3, zq4, guardSlot, quietA, nilC, nilA, quietB, St.ev, St.put, St.after, Nat.reduceAdd, Nat.reduceSub, ofV, ofL, lenA, binA, intBin, fltBin, strBin, cpxBin, unA, convA, convB, convO, pickV, resL, oneA, indexA, flatP, nilI, ifaA, indexS, isQuiet, loadA, loadC, storeA, fieldA, partA, sliceA, boundA, buildA, placeA, setAll, appendA, readSl, newEl, AV.cells, AV.solid, AV.one, kill, killM, killL, notInt, lookA, putA, entryA, entrySetA, mapTy, Int.reduceToNat, cond_true, cond_false, ↓reduceIte, reduceCtorEq, Nat.reduceLT, Nat.reduceLeDiff, Nat.reduceMul, Nat.reduceEqDiff, exists_eq', putF, implies_true, exists_true_left, tys0, tys1, tys2, tys3, und0, und1, und2, und3, md70, Tryz.ntmps70, Tryz.results70]
    exact ⟨ints_allW (x :: xs), by unfold fits; simp at h; omega, PostR.ret⟩
end Go.Proofs.YtodjjpmigcacoaaGreatDoor
set_option maxHeartbeats 8000000
namespace Go.Proofs.YtodjjpmigcacoaaGreatDoor
open Go Go.Abs
open Nat renaming reduceAdd → Za, reduceSub → Zb, reduceMul → Zc, reduceLT → Zd, reduceLeDiff → Ze, reduceEqDiff → Zf
open Int renaming reduceToNat → Zn
open Go.Abs renaming lenA → Zg, convA → Zh, indexA → Zi, flatP → Zj, nilI → Zk, ifaA → Zl, indexS → Zm
theorem mapped_call (fid : FuncId) (caps : List AV) (q : Int → Int) (hc : caps.all (below 0) = true) (hc2 : caps.all (belowL 0) = true) (hcN : ∀ N, caps.all (belowL N) = true) (hck : ∀ b, caps.map (killL b) = caps) (xs : List Int) (hm : xs.length ≤ 1048576) (hq : ∀ x ∈ xs, CallA Tryz.prog fid (.int .i64 x :: caps) [] (Ret (.int .i64 (q x)) [])) :
    CallA Tryz.prog 132 [.ro (ints xs), .fn fid caps] [] (Ret (.sl 0 0 xs.length) [intB (xs.map q)]) := by
  have hb : ∀ N, below N (.fn fid caps) = true := hcN
  have hb2 : ∀ N l, below N (.ro l) = true := fun _ _ => rfl
  have hb3 : ∀ N k n, below N (.int k n) = true := fun _ _ _ => rfl
  have hb4 : ∀ N, below N .any = true := fun _ => rfl
  have hb5 : ∀ i n, below 1 (.sl 0 i n) = true := fun _ _ => rfl
  have hbn : ∀ N, allBelow N [] = true := fun _ => rfl
  have hk : ∀ b, kill b (.fn fid caps) = .fn fid caps := fun b => by show AV.fn fid (caps.map (killL b)) = _; rw [hck]
  refine CallP.out (t := .mk) (go_in (md := md132) mixed Tryz.func132 rfl go132 (by kernel_rfl) ?_)
  simp only [Zu, Za, Zb, Zg, Zh, Zi, Zk, Zl, Zm, Zn, ↓reduceIte, reduceCtorEq, Zd, Ze, Zc, Zf, Z132]
  refine go_round (md := md132) mixed (by kernel_rfl) (fun i : {i : Nat // i ≤ xs.length} => ⟨[.any, .fn fid caps, .any, .any, .any, .sl 0 0 i.1, .any, .any, .any, .ro (ints xs), .int .i64 xs.length, .int .i64 i.1, .any, .any, .any, .any, .any, .any, .any, .any, .any, .any, .any], [intB ((xs.map q).take i.1)]⟩) (fun i => xs.length - i.1) ⟨0, by simp⟩ ?_ ?_
  · exact weak_drop (by simp) (by simp [DropHp, intB, ints, hbn]) (by simp [DropTm, DropV, hb, hb2, hb3, hb4, hb5])
  · intro ⟨i, hi⟩
    simp only [Zu, Za, Zb, Zg, Zh, Zi, Zk, Zl, Zm, Zn, ↓reduceIte, reduceCtorEq, Zd, Ze, Zc, Zf, Z132]
    refine br_intro (fun h => ?_) (fun h => ?_) <;> simp only [Zu, Za, Zb, Zg, Zh, Zi, Zk, Zl, Zm, Zn, ↓reduceIte, reduceCtorEq, Zd, Ze, Zc, Zf, Z132]
    · have hi' : i < xs.length := by simpa using h
      refine ⟨hi', ?_⟩
      refine call_ret (hq _ (List.getElem_mem hi')) (by rw [List.all_cons, hc]; rfl) rfl ?_
      have hl : ((xs.map q).take i).length = i := by simp; omega
      simp only [Zu, Za, Zb, Zg, Zh, Zi, Zk, Zl, Zm, Zn, ↓reduceIte, reduceCtorEq, Zd, Ze, Zc, Zf, Z132, intB, allW_int, fits, List.isEmpty_cons, brk_false, Nat.reduceMul, hl, hk]
      refine ⟨by omega, ⟨i + 1, by omega⟩, by show xs.length - (i + 1) < xs.length - i; omega, ?_⟩
      have e : (xs.map q).take i ++ [q xs[i]] = (xs.map q).take (i + 1) := by
        rw [List.take_add_one, List.getElem?_map, List.getElem?_eq_getElem hi']; rfl
      rw [e]
      exact weak_drop (by simp) (by simp [DropHp, intB, ints_below]) (by simp [DropTm, DropV, hck, hk, hb, hb2, hb3, hb4, hb5, w64_succ i (show i < 9223372036854775807 by omega)])
    · have hi' : i = xs.length := by simp at h; omega
      subst hi'
      rw [show (xs.map q).take xs.length = xs.map q from List.take_of_length_le (by simp)]
      exact PostR.ret
theorem scale_ro {bs rs : List Int} (S : Scl bs rs) : CallA Tryz.prog 131 [.agg [.ro (ints bs), .ro (ints rs)]] [] (Ret (.tup [.agg [.ro (ints bs), .ro (ints rs)], .bool true]) []) := by
  have hl := S.len
  have hcap := S.cap
  refine CallP.out (t := .mk) (go_in (md := md131) mixed Tryz.func131 rfl go131 (by kernel_rfl) ?_)
  simp only [Zu, Za, Zb, Zg, Zh, Zi, Zk, Zl, Zm, Zn, ↓reduceIte, reduceCtorEq, Zd, Ze, Zc, Zf, Z131]
  refine call_ret (validScale_call bs rs (by omega) (by omega)) rfl rfl ?_
  rw [S.ok]
  simp only [Zu, Za, Zb, Zg, Zh, Zi, Zk, Zl, Zm, Zn, ↓reduceIte, reduceCtorEq, Zd, Ze, Zc, Zf, Z131]
  exact PostR.pure ⟨rfl, rfl⟩ rfl
def scl0 (x y : AV) : Blk := { ty := 26, w := 2, els := [.agg [x, y]] }
def trB (bs rs : List Int) : List Int := match bs, rs with
  | b :: bs, r :: rs => b :: trmB r bs rs
  | _, _ => []
def trR (bs rs : List Int) : List Int := match bs, rs with
  | _ :: bs, r :: rs => r :: trmR r bs rs
  | _, _ => []
theorem trim_of {bs rs : List Int} (S : Scl bs rs) : Scl (trB bs rs) (trR bs rs) ∧ (∀ x, 0 ≤ x → rtG (trB bs rs) (trR bs rs) x = rtG bs rs x) ∧ (trB bs rs).length ≤ bs.length := by
  obtain ⟨tl, rfl, hl⟩ := S.split
  cases rs with
  | nil => simp at hl
  | cons r rs =>
    obtain ⟨h1, h2⟩ := trim_scl S
    have := (trm_len r tl rs).2
    exact ⟨h1, h2, by simp [trB]; omega⟩
structure Trm (bs rs : List Int) (i : Nat) (ob orr : List Int) : Prop where
  i1 : 1 ≤ i
  i2 : i ≤ bs.length
  len : orr.length = ob.length
  small : ob.length ≤ i
  hb : ob ++ trmB (rs.getD (i - 1) 0) (bs.drop i) (rs.drop i) = trB bs rs
  hr : orr ++ trmR (rs.getD (i - 1) 0) (bs.drop i) (rs.drop i) = trR bs rs
theorem Trm.one {bs rs : List Int} (S : Scl bs rs) (h : 0 < bs.length) (h2 : 0 < rs.length) : Trm bs rs 1 [bs[0]] [rs[0]] := by
  obtain ⟨tl, rfl, hl⟩ := S.split
  cases rs with
  | nil => simp at hl
  | cons r rs => exact ⟨Nat.le_refl _, by simp, rfl, by simp, rfl, rfl⟩
theorem Trm.skip {bs rs : List Int} {i : Nat} {ob orr : List Int} (T : Trm bs rs i ob orr) (hl : rs.length = bs.length) (h : i < bs.length) (e : rs.getD i 0 = rs.getD (i - 1) 0) : Trm bs rs (i + 1) ob orr := by
  have hb := T.hb
  have hr := T.hr
  rw [drop_at bs i h, drop_at rs i (by omega)] at hb hr
  rw [getD_at rs 0 i (by omega)] at e
  refine ⟨by omega, h, T.len, by have := T.small; omega, ?_, ?_⟩
  · rw [Nat.add_sub_cancel, getD_at rs 0 i (by omega), e]
    unfold trmB at hb
    rw [if_pos e] at hb
    exact hb
  · rw [Nat.add_sub_cancel, getD_at rs 0 i (by omega), e]
    unfold trmR at hr
    rw [if_pos e] at hr
    exact hr
theorem Trm.put {bs rs : List Int} {i : Nat} {ob orr : List Int} (T : Trm bs rs i ob orr) (hl : rs.length = bs.length) (h : i < bs.length) (e : rs.getD i 0 ≠ rs.getD (i - 1) 0) : Trm bs rs (i + 1) (ob ++ [bs.getD i 0]) (orr ++ [rs.getD i 0]) := by
  have hb := T.hb
  have hr := T.hr
  rw [drop_at bs i h, drop_at rs i (by omega)] at hb hr
  rw [getD_at rs 0 i (by omega)] at e
  refine ⟨by omega, h, by simp [T.len], by have := T.small; simp; omega, ?_, ?_⟩
  · rw [Nat.add_sub_cancel, getD_at rs 0 i (by omega), getD_at bs 0 i h]
    unfold trmB at hb
    rw [if_neg e] at hb
    rw [List.append_assoc]
    exact hb
  · rw [Nat.add_sub_cancel, getD_at rs 0 i (by omega)]
    unfold trmR at hr
    rw [if_neg e] at hr
    rw [List.append_assoc]
    exact hr
theorem Trm.done {bs rs : List Int} {ob orr : List Int} (T : Trm bs rs bs.length ob orr) (hl : rs.length = bs.length) : ob = trB bs rs ∧ orr = trR bs rs := by
  have hb := T.hb
  have hr := T.hr
  rw [List.drop_length, show rs.drop bs.length = [] from List.drop_of_length_le (by omega)] at hb hr
  exact ⟨by simpa [trmB] using hb, by simpa [trmR] using hr⟩
def trimSt (bs rs ob orr : List Int) : Nat → St
  | 0 => ⟨[.any, .ptr 0 0 0, .ptr 1 0 0, .any, .ptr 2 0 0, .any, .any, .any, .any, .any, .any, .any, .any, .ro (ints bs), .int .i64 bs.length, .int .i64 0, .any, .any, .any, .any, .any, .any, .any, .any, .any, .any, .any, .any, .any, .any, .any, .any, .any, .any, .any, .any, .any, .any, .any, .any, .any, .any, .any, .any, .any, .any, .any, .any, .any, .any, .any, .any, .any, .any], [sclB bs rs, scl0 .nils .nils, scl0 .nils .nils]⟩
  | i + 1 => ⟨[.any, .ptr 0 0 0, .ptr 1 0 0, .any, .ptr 2 0 0, .any, .any, .any, .any, .any, .any, .any, .any, .ro (ints bs), .int .i64 bs.length, .int .i64 ((i + 1 : Nat) : Int), .any, .any, .any, .any, .any, .any, .any, .any, .any, .any, .any, .any, .any, .any, .any, .any, .any, .any, .any, .any, .any, .any, .any, .any, .any, .any, .any, .any, .any, .any, .any, .any, .any, .any, .any, .any, .any, .any], [sclB bs rs, scl0 .nils .nils, scl0 (.sl 3 0 ob.length) (.sl 4 0 ob.length), intB ob, intB orr]⟩
def TrS0 (bs rs : List Int) (hp : List Blk) : Prop := hp[0]? = some (sclB bs rs) ∧ hp[2]? = some (scl0 .nils .nils) ∧ ∀ q ∈ hp, allBelow hp.length q.els = true
def TrS (bs rs : List Int) (k : Nat) (hp : List Blk) : Prop := hp[0]? = some (sclB bs rs) ∧ (∃ w, (w = .sl 3 0 k ∨ w = .any) ∧ hp[2]? = some (scl0 w (.sl 4 0 k))) ∧ ∀ q ∈ hp, allBelow hp.length q.els = true
theorem trimScale_call {bs rs : List Int} (S : Scl bs rs) :
    CallA Tryz.prog 86 [.agg [.ro (ints bs), .ro (ints rs)]] [] (Ret (.tup [.agg [.sl 0 0 (trB bs rs).length, .sl 1 0 (trR bs rs).length], .bool true]) [intB (trB bs rs), intB (trR bs rs)]) := by
  have hl := S.len
  have hcap := S.cap
  have v := validScale_call bs rs (by omega) (by omega)
  rw [S.ok] at v
  have b1 : 1 ≤ bs.length := by obtain ⟨tl, rfl, _⟩ := S.split; simp
  refine CallP.out (t := .mk) (go_in (md := md86) mixed Tryz.func86 rfl go86 (by kernel_rfl) ?_)
  simp only [Zu, Za, Zb, Zg, Zh, Zi, Zk, Zl, Zm, Zn, ↓reduceIte, reduceCtorEq, Zd, Ze, Zc, Zf, Z86]
  refine call_ret v rfl rfl ?_
  simp only [Zu, Za, Zb, Zg, Zh, Zi, Zk, Zl, Zm, Zn, ↓reduceIte, reduceCtorEq, Zd, Ze, Zc, Zf, Z86]
  refine go_round (md := md86) mixed (by kernel_rfl) (fun p : {p : Nat × List Int × List Int // p.1 = 0 ∨ Trm bs rs p.1 p.2.1 p.2.2} => trimSt bs rs p.1.2.1 p.1.2.2 p.1.1) (fun p => bs.length - p.1.1) ⟨(0, [], []), .inl rfl⟩ ?_ ?_
  · show Weak 0 _ ⟨_, _⟩
    exact weak_drop (by simp) (by simp [DropHp, ints_below, flts_below, sclB, scl0, allBelow_cons, allBelow_nil, below, belowM, belowL]) (by simp [DropTm, DropV, below, belowM, belowL, sclB, scl0, allBelow_cons, allBelow_nil, below, belowM, belowL])
  · rintro ⟨⟨i, ob, orr⟩, hI⟩
    simp only [] at hI
    cases i with
    | zero =>
      show V _ _ _ _ _ _ ⟨_, _⟩
      simp only [Zu, Za, Zb, Zg, Zh, Zi, Zk, Zl, Zm, Zn, ↓reduceIte, reduceCtorEq, Zd, Ze, Zc, Zf, Z86, sclB, scl0]
      refine br_yes (by first | exact decide_eq_true (by omega) | (simp only [bne_iff_ne, beq_iff_eq, ne_eq]; omega)) ?_; simp only [Zu, Za, Zb, Zg, Zh, Zi, Zk, Zl, Zm, Zn, ↓reduceIte, reduceCtorEq, Zd, Ze, Zc, Zf, Z86, sclB, scl0, Int.reduceLT, Int.reduceLE, Int.reduceNeg, Int.reduceEq, Int.reduceGT, Int.reduceGE, decide_true, decide_false, beq_self_eq_true, bne_self_eq_false, Int.reduceBEq, Int.reduceBNe, Int.reduceAdd, Int.reduceSub]
      have hS : TrS0 bs rs [sclB bs rs, scl0 .nils .nils, scl0 .nils .nils] := ⟨rfl, rfl, by simp [allBelow, below, belowM, belowL, sclB, scl0]⟩
      refine ⟨b1, ?_⟩
      refine go_float mixed (TrS0 bs rs) [0, 1, 2, 3, 5, 6, 7, 8, 9, 10, 11, 12, 4, 14, 13, 15, 16, 17] [3, 3, 3, 3, 2, 0, 0, 0, 0, 0, 0, 0, 0, 4, 5, 1, 1, 1] [] [] (by kernel_rfl) ?_
      iterate 3 (refine om_calm (by rfl) (by rfl) (by rfl) (by rfl) ?_; try simp only []; simp only [Zu, Za, Zb, Zg, Zh, Zi, Zk, Zl, Zm, Zn, ↓reduceIte, reduceCtorEq, Zd, Ze, Zc, Zf, Z86, scl0])
      refine om_calmF (by rfl) (by rfl) (by rfl) (by rfl) { ty := 2, w := 1, els := [.int .i64 bs[0]] } 1 (.sl 0 0 1) rfl rfl hS.2.2 rfl (by simp only [Zu, Za, Zb, Zg, Zh, Zi, Zk, Zl, Zm, Zn, ↓reduceIte, reduceCtorEq, Zd, Ze, Zc, Zf, Z86]; rfl) ?_
      rw [show view 1 [({ ty := 2, w := 1, els := [.int .i64 bs[0]] } : Blk)] (.sl 0 0 1) = .ro [.int .i64 bs[0]] from by simp [view_sl, view_int]]
      simp only [Zu, Za, Zb, Zg, Zh, Zi, Zk, Zl, Zm, Zn, ↓reduceIte, reduceCtorEq, Zd, Ze, Zc, Zf, Z86]
      refine om_still (by rfl) (by rfl) (by rfl) (by rfl) hS (v := .ptr 2 0 1) (fun hp hH => by obtain ⟨h0, h2, hf⟩ := hH; simp only [Zu, Za, Zb, Zg, Zh, Zi, Zk, Zl, Zm, Zn, ↓reduceIte, reduceCtorEq, Zd, Ze, Zc, Zf, Z86, h0, h2, scl0]) ?_; try simp only []; simp only [Zu, Za, Zb, Zg, Zh, Zi, Zk, Zl, Zm, Zn, ↓reduceIte, reduceCtorEq, Zd, Ze, Zc, Zf, Z86]
      refine om_still (by rfl) (by rfl) (by rfl) (by rfl) hS (v := .nils) (fun hp hH => by obtain ⟨h0, h2, hf⟩ := hH; simp only [Zu, Za, Zb, Zg, Zh, Zi, Zk, Zl, Zm, Zn, ↓reduceIte, reduceCtorEq, Zd, Ze, Zc, Zf, Z86, h0, h2, scl0]) ?_; try simp only []; simp only [Zu, Za, Zb, Zg, Zh, Zi, Zk, Zl, Zm, Zn, ↓reduceIte, reduceCtorEq, Zd, Ze, Zc, Zf, Z86]
      refine om_still (by rfl) (by rfl) (by rfl) (by rfl) hS (v := .ptr 0 0 1) (fun hp hH => by obtain ⟨h0, h2, hf⟩ := hH; simp only [Zu, Za, Zb, Zg, Zh, Zi, Zk, Zl, Zm, Zn, ↓reduceIte, reduceCtorEq, Zd, Ze, Zc, Zf, Z86, h0, h2, scl0]) ?_; try simp only []; simp only [Zu, Za, Zb, Zg, Zh, Zi, Zk, Zl, Zm, Zn, ↓reduceIte, reduceCtorEq, Zd, Ze, Zc, Zf, Z86]
      refine om_still (by rfl) (by rfl) (by rfl) (by rfl) hS (v := .ro (ints rs)) (fun hp hH => by obtain ⟨h0, h2, hf⟩ := hH; simp only [Zu, Za, Zb, Zg, Zh, Zi, Zk, Zl, Zm, Zn, ↓reduceIte, reduceCtorEq, Zd, Ze, Zc, Zf, Z86, h0, h2, sclB]) ?_; try simp only []; simp only [Zu, Za, Zb, Zg, Zh, Zi, Zk, Zl, Zm, Zn, ↓reduceIte, reduceCtorEq, Zd, Ze, Zc, Zf, Z86]
      refine om_still (by rfl) (by rfl) (by rfl) (by rfl) hS (v := .int .i64 0) (fun hp hH => by obtain ⟨h0, h2, hf⟩ := hH; simp only [Zu, Za, Zb, Zg, Zh, Zi, Zk, Zl, Zm, Zn, ↓reduceIte, reduceCtorEq, Zd, Ze, Zc, Zf, Z86, h0, h2, sclB]) ?_; try simp only []; simp only [Zu, Za, Zb, Zg, Zh, Zi, Zk, Zl, Zm, Zn, ↓reduceIte, reduceCtorEq, Zd, Ze, Zc, Zf, Z86]
      have r1 : 0 < rs.length := by omega
      refine om_still (by rfl) (by rfl) (by rfl) (by rfl) hS (v := .rop [.int .i64 rs[0]]) (fun hp hH => by obtain ⟨h0, h2, hf⟩ := hH; simp only [Zu, Za, Zb, Zg, Zh, Zi, Zk, Zl, Zm, Zn, ↓reduceIte, reduceCtorEq, Zd, Ze, Zc, Zf, Z86, h0, h2, r1, Int.le_refl]) ?_; try simp only []; simp only [Zu, Za, Zb, Zg, Zh, Zi, Zk, Zl, Zm, Zn, ↓reduceIte, reduceCtorEq, Zd, Ze, Zc, Zf, Z86]
      refine om_still (by rfl) (by rfl) (by rfl) (by rfl) hS (v := .int .i64 rs[0]) (fun hp hH => by obtain ⟨h0, h2, hf⟩ := hH; simp only [Zu, Za, Zb, Zg, Zh, Zi, Zk, Zl, Zm, Zn, ↓reduceIte, reduceCtorEq, Zd, Ze, Zc, Zf, Z86, h0, h2]) ?_; try simp only []; simp only [Zu, Za, Zb, Zg, Zh, Zi, Zk, Zl, Zm, Zn, ↓reduceIte, reduceCtorEq, Zd, Ze, Zc, Zf, Z86]
      refine om_fresh (by rfl) (by rfl) (by rfl) hS { ty := 2, w := 1, els := [.int .i64 rs[0]] } 1 (.sl 0 0 1) rfl rfl rfl (fun hp hH => hH.2.2) (fun hp hH => by simp only [Zu, Za, Zb, Zg, Zh, Zi, Zk, Zl, Zm, Zn, ↓reduceIte, reduceCtorEq, Zd, Ze, Zc, Zf, Z86]; rfl) (by exact ⟨fun b hb => (by cases hb), fun x _ b hb => (by cases hb)⟩) ?_
      rw [show view 1 [({ ty := 2, w := 1, els := [.int .i64 rs[0]] } : Blk)] (.sl 0 0 1) = .ro [.int .i64 rs[0]] from by simp [view_sl, view_int]]
      simp only [Zu, Za, Zb, Zg, Zh, Zi, Zk, Zl, Zm, Zn, ↓reduceIte, reduceCtorEq, Zd, Ze, Zc, Zf, Z86]
      refine om_float (by rfl) (by rfl) (by rfl) ?_
      simp only [Zu, Za, Zb, Zg, Zh, Zi, Zk, Zl, Zm, Zn, ↓reduceIte, reduceCtorEq, Zd, Ze, Zc, Zf, Z86, allW_int, fits, List.isEmpty_cons, brk_false, Nat.reduceMul]
      refine ⟨.inl trivial, ⟨rfl, rfl, by simp [allBelow, below, belowM, belowL, sclB, scl0]⟩, ?_⟩
      refine om_blind (by rfl) (by rfl) (by rfl) (v := .ptr 2 0 0) (fun hp => by simp only [Zu, Za, Zb, Zg, Zh, Zi, Zk, Zl, Zm, Zn, ↓reduceIte, reduceCtorEq, Zd, Ze, Zc, Zf, Z86]) ⟨by simp [Fixed, kill, killM, killL], by intro x hx; simp [Op.operands] at hx; first | (subst hx; simp [Fixed, St.ev, ofV, ofL, kill, killM, killL]) | (rcases hx with rfl | rfl <;> simp [Fixed, St.ev, ofV, ofL, kill, killM, killL]) | (rcases hx with rfl | rfl | rfl <;> simp [Fixed, St.ev, ofV, ofL, kill, killM, killL])⟩ ?_; try simp only []; simp only [Zu, Za, Zb, Zg, Zh, Zi, Zk, Zl, Zm, Zn, ↓reduceIte, reduceCtorEq, Zd, Ze, Zc, Zf, Z86]
      refine om_free (by rfl) (by rfl) (by rfl) ?_
      simp only [Zu, Za, Zb, Zg, Zh, Zi, Zk, Zl, Zm, Zn, ↓reduceIte, reduceCtorEq, Zd, Ze, Zc, Zf, Z86, allW_int, fits, List.isEmpty_cons, brk_false, Nat.reduceMul]
      refine ⟨.inl trivial, ?_⟩
      refine om_one (by rfl) (by rfl) (by rfl) ?_; try simp only []; simp only [Zu, Za, Zb, Zg, Zh, Zi, Zk, Zl, Zm, Zn, ↓reduceIte, reduceCtorEq, Zd, Ze, Zc, Zf, Z86]
      refine om_one (by rfl) (by rfl) (by rfl) ?_; try simp only []; simp only [Zu, Za, Zb, Zg, Zh, Zi, Zk, Zl, Zm, Zn, ↓reduceIte, reduceCtorEq, Zd, Ze, Zc, Zf, Z86]
      refine om_one (by rfl) (by rfl) (by rfl) ?_; try simp only []; simp only [Zu, Za, Zb, Zg, Zh, Zi, Zk, Zl, Zm, Zn, ↓reduceIte, reduceCtorEq, Zd, Ze, Zc, Zf, Z86]
      refine om_nil ?_
      simp only [Zu, Za, Zb, Zg, Zh, Zi, Zk, Zl, Zm, Zn, ↓reduceIte, reduceCtorEq, Zd, Ze, Zc, Zf, Z86]
      refine ⟨⟨(1, [bs[0]], [rs[0]]), .inr (Trm.one S b1 r1)⟩, by show bs.length - 1 < bs.length - 0; omega, ?_⟩
      show Weak 0 _ ⟨_, _⟩
      exact weak_drop (by simp) (by simp [DropHp, ints_below, flts_below, sclB, scl0, intB, show ∀ x, ints [x] = [AV.int .i64 x] from fun _ => rfl, allBelow_cons, allBelow_nil, below, belowM, belowL, ew0]) (by simp [DropTm, DropV, below, belowM, belowL, sclB, scl0, intB, show ∀ x, ints [x] = [AV.int .i64 x] from fun _ => rfl, allBelow_cons, allBelow_nil, below, belowM, belowL, ew0])
    | succ i =>
      obtain hI | T := hI
      · cases hI
      have t1 := T.i2
      show V _ _ _ _ _ _ ⟨_, _⟩
      simp only [Zu, Za, Zb, Zg, Zh, Zi, Zk, Zl, Zm, Zn, ↓reduceIte, reduceCtorEq, Zd, Ze, Zc, Zf, Z86, sclB, scl0]
      have tl := T.len
      have ts := T.small
      have ei : IntKind.i64.wrap (((i + 1 : Nat) : Int) - 1) = (i : Int) := by rw [w64 (by omega) (by omega)]; omega
      have ew : IntKind.i64.wrap ((i : Int) + 1 + 1) = (i : Int) + 1 + 1 := w64 (by omega) (by omega)
      refine br_intro (fun h => ?_) (fun h => ?_) <;> simp only [Zu, Za, Zb, Zg, Zh, Zi, Zk, Zl, Zm, Zn, ↓reduceIte, reduceCtorEq, Zd, Ze, Zc, Zf, Z86, sclB, scl0, Int.reduceLT, Int.reduceLE, Int.reduceNeg, Int.reduceEq, Int.reduceGT, Int.reduceGE, decide_true, decide_false, beq_self_eq_true, bne_self_eq_false, Int.reduceBEq, Int.reduceBNe, Int.reduceAdd, Int.reduceSub]
      · have hi : i + 1 < bs.length := by have := of_decide_eq_true h; omega
        have hi2 : i + 1 < rs.length := by omega
        refine ⟨hi, ?_⟩
        refine br_no (by first | exact decide_eq_false (by omega) | exact beq_false_of_ne (by omega) | (simp only [bne_eq_false_iff_eq, beq_eq_false_iff_ne, ne_eq]; omega)) ?_; simp only [Zu, Za, Zb, Zg, Zh, Zi, Zk, Zl, Zm, Zn, ↓reduceIte, reduceCtorEq, Zd, Ze, Zc, Zf, Z86, sclB, scl0, ei]
        refine ⟨hi2, by omega, ?_⟩
        have g1 := getD_at rs 0 (i + 1) hi2
        have g0 := getD_at rs 0 i (by omega)
        have gb := getD_at bs 0 (i + 1) hi
        refine br_intro (fun c => ?_) (fun c => ?_) <;> simp only [Zu, Za, Zb, Zg, Zh, Zi, Zk, Zl, Zm, Zn, ↓reduceIte, reduceCtorEq, Zd, Ze, Zc, Zf, Z86, sclB, scl0, ei]
        · have hne : rs.getD (i + 1) 0 ≠ rs.getD (i + 1 - 1) 0 := by rw [Nat.add_sub_cancel, g1, g0]; simpa using c
          have hS : TrS bs rs ob.length [sclB bs rs, scl0 .nils .nils, scl0 (.sl 3 0 ob.length) (.sl 4 0 ob.length), intB ob, intB orr] := ⟨rfl, ⟨_, .inl rfl, rfl⟩, (by intro r hr; simp only [List.mem_cons, List.not_mem_nil, or_false] at hr; rcases hr with rfl | rfl | rfl | rfl | rfl | rfl <;> first | rfl | exact flts_below _ _ | exact ints_below _ _)⟩
          refine go_float mixed (TrS bs rs ob.length) [0, 1, 2, 3, 5, 6, 7, 8, 9, 10, 11, 12, 4, 14, 13, 15, 16, 17] [3, 3, 3, 3, 2, 0, 0, 0, 0, 0, 0, 0, 0, 4, 5, 1, 1, 1] [none, none, none, none, some 3, none, none, none, none, none, none, none, none, some 4] [[], [], [], [], [], [3], [3], [3], [3], [3], [3], [3], [3], [], [4]] (by kernel_rfl) ?_
          iterate 3 (refine om_calm (by rfl) (by rfl) (by rfl) (by rfl) ?_; try simp only []; simp only [Zu, Za, Zb, Zg, Zh, Zi, Zk, Zl, Zm, Zn, ↓reduceIte, reduceCtorEq, Zd, Ze, Zc, Zf, Z86, scl0, sclB, intB])
          refine om_calmF (by rfl) (by rfl) (by rfl) (by rfl) { ty := 2, w := 1, els := [.int .i64 bs[i + 1]] } 1 (.sl 0 0 1) rfl rfl hS.2.2 rfl (by simp only [Zu, Za, Zb, Zg, Zh, Zi, Zk, Zl, Zm, Zn, ↓reduceIte, reduceCtorEq, Zd, Ze, Zc, Zf, Z86]; rfl) ?_
          rw [show view 1 [({ ty := 2, w := 1, els := [.int .i64 bs[i + 1]] } : Blk)] (.sl 0 0 1) = .ro [.int .i64 bs[i + 1]] from by simp [view_sl, view_int]]
          simp only [Zu, Za, Zb, Zg, Zh, Zi, Zk, Zl, Zm, Zn, ↓reduceIte, reduceCtorEq, Zd, Ze, Zc, Zf, Z86]
          refine om_quiet (by rfl) (by rfl) (by rfl) hS (v := .ptr 2 0 1) (fun hp hH => by obtain ⟨h0, ⟨w, hw, h2⟩, hf⟩ := hH; simp only [Zu, Za, Zb, Zg, Zh, Zi, Zk, Zl, Zm, Zn, ↓reduceIte, reduceCtorEq, Zd, Ze, Zc, Zf, Z86, h0, h2, scl0]) ⟨by simp [Fixed, kill, killM, killL], by intro x hx; simp [Op.operands] at hx; first | (subst hx; simp [Fixed, St.ev, ofV, ofL, kill, killM, killL]) | (rcases hx with rfl | rfl <;> simp [Fixed, St.ev, ofV, ofL, kill, killM, killL]) | (rcases hx with rfl | rfl | rfl <;> simp [Fixed, St.ev, ofV, ofL, kill, killM, killL])⟩ ?_; try simp only []; simp only [Zu, Za, Zb, Zg, Zh, Zi, Zk, Zl, Zm, Zn, ↓reduceIte, reduceCtorEq, Zd, Ze, Zc, Zf, Z86]
          refine om_quiet (by rfl) (by rfl) (by rfl) hS (v := .sl 4 0 ob.length) (fun hp hH => by obtain ⟨h0, ⟨w, hw, h2⟩, hf⟩ := hH; simp only [Zu, Za, Zb, Zg, Zh, Zi, Zk, Zl, Zm, Zn, ↓reduceIte, reduceCtorEq, Zd, Ze, Zc, Zf, Z86, h0, h2, scl0]) ⟨by simp [Fixed, kill, killM, killL], by intro x hx; simp [Op.operands] at hx; first | (subst hx; simp [Fixed, St.ev, ofV, ofL, kill, killM, killL]) | (rcases hx with rfl | rfl <;> simp [Fixed, St.ev, ofV, ofL, kill, killM, killL]) | (rcases hx with rfl | rfl | rfl <;> simp [Fixed, St.ev, ofV, ofL, kill, killM, killL])⟩ ?_; try simp only []; simp only [Zu, Za, Zb, Zg, Zh, Zi, Zk, Zl, Zm, Zn, ↓reduceIte, reduceCtorEq, Zd, Ze, Zc, Zf, Z86]
          refine om_quiet (by rfl) (by rfl) (by rfl) hS (v := .ptr 0 0 1) (fun hp hH => by obtain ⟨h0, ⟨w, hw, h2⟩, hf⟩ := hH; simp only [Zu, Za, Zb, Zg, Zh, Zi, Zk, Zl, Zm, Zn, ↓reduceIte, reduceCtorEq, Zd, Ze, Zc, Zf, Z86, h0, h2, scl0]) ⟨by simp [Fixed, kill, killM, killL], by intro x hx; simp [Op.operands] at hx; first | (subst hx; simp [Fixed, St.ev, ofV, ofL, kill, killM, killL]) | (rcases hx with rfl | rfl <;> simp [Fixed, St.ev, ofV, ofL, kill, killM, killL]) | (rcases hx with rfl | rfl | rfl <;> simp [Fixed, St.ev, ofV, ofL, kill, killM, killL])⟩ ?_; try simp only []; simp only [Zu, Za, Zb, Zg, Zh, Zi, Zk, Zl, Zm, Zn, ↓reduceIte, reduceCtorEq, Zd, Ze, Zc, Zf, Z86]
          refine om_quiet (by rfl) (by rfl) (by rfl) hS (v := .ro (ints rs)) (fun hp hH => by obtain ⟨h0, ⟨w, hw, h2⟩, hf⟩ := hH; simp only [Zu, Za, Zb, Zg, Zh, Zi, Zk, Zl, Zm, Zn, ↓reduceIte, reduceCtorEq, Zd, Ze, Zc, Zf, Z86, h0, h2, sclB]) ⟨by simp [Fixed, kill, killM, killL], by intro x hx; simp [Op.operands] at hx; first | (subst hx; simp [Fixed, St.ev, ofV, ofL, kill, killM, killL]) | (rcases hx with rfl | rfl <;> simp [Fixed, St.ev, ofV, ofL, kill, killM, killL]) | (rcases hx with rfl | rfl | rfl <;> simp [Fixed, St.ev, ofV, ofL, kill, killM, killL])⟩ ?_; try simp only []; simp only [Zu, Za, Zb, Zg, Zh, Zi, Zk, Zl, Zm, Zn, ↓reduceIte, reduceCtorEq, Zd, Ze, Zc, Zf, Z86]
          refine om_quiet (by rfl) (by rfl) (by rfl) hS (v := .int .i64 ((i + 1 : Nat) : Int)) (fun hp hH => by obtain ⟨h0, ⟨w, hw, h2⟩, hf⟩ := hH; simp only [Zu, Za, Zb, Zg, Zh, Zi, Zk, Zl, Zm, Zn, ↓reduceIte, reduceCtorEq, Zd, Ze, Zc, Zf, Z86, h0, h2, sclB]) ⟨by simp [Fixed, kill, killM, killL], by intro x hx; simp [Op.operands] at hx; first | (subst hx; simp [Fixed, St.ev, ofV, ofL, kill, killM, killL]) | (rcases hx with rfl | rfl <;> simp [Fixed, St.ev, ofV, ofL, kill, killM, killL]) | (rcases hx with rfl | rfl | rfl <;> simp [Fixed, St.ev, ofV, ofL, kill, killM, killL])⟩ ?_; try simp only []; simp only [Zu, Za, Zb, Zg, Zh, Zi, Zk, Zl, Zm, Zn, ↓reduceIte, reduceCtorEq, Zd, Ze, Zc, Zf, Z86]
          refine om_quiet (by rfl) (by rfl) (by rfl) hS (v := .rop [.int .i64 rs[i + 1]]) (fun hp hH => by obtain ⟨h0, ⟨w, hw, h2⟩, hf⟩ := hH; simp only [Zu, Za, Zb, Zg, Zh, Zi, Zk, Zl, Zm, Zn, ↓reduceIte, reduceCtorEq, Zd, Ze, Zc, Zf, Z86, h0, h2, hi2]) ⟨by simp [Fixed, kill, killM, killL], by intro x hx; simp [Op.operands] at hx; first | (subst hx; simp [Fixed, St.ev, ofV, ofL, kill, killM, killL]) | (rcases hx with rfl | rfl <;> simp [Fixed, St.ev, ofV, ofL, kill, killM, killL]) | (rcases hx with rfl | rfl | rfl <;> simp [Fixed, St.ev, ofV, ofL, kill, killM, killL])⟩ ?_; try simp only []; simp only [Zu, Za, Zb, Zg, Zh, Zi, Zk, Zl, Zm, Zn, ↓reduceIte, reduceCtorEq, Zd, Ze, Zc, Zf, Z86]
          refine om_quiet (by rfl) (by rfl) (by rfl) hS (v := .int .i64 rs[i + 1]) (fun hp hH => by obtain ⟨h0, ⟨w, hw, h2⟩, hf⟩ := hH; simp only [Zu, Za, Zb, Zg, Zh, Zi, Zk, Zl, Zm, Zn, ↓reduceIte, reduceCtorEq, Zd, Ze, Zc, Zf, Z86, h0, h2]) ⟨by simp [Fixed, kill, killM, killL], by intro x hx; simp [Op.operands] at hx; first | (subst hx; simp [Fixed, St.ev, ofV, ofL, kill, killM, killL]) | (rcases hx with rfl | rfl <;> simp [Fixed, St.ev, ofV, ofL, kill, killM, killL]) | (rcases hx with rfl | rfl | rfl <;> simp [Fixed, St.ev, ofV, ofL, kill, killM, killL])⟩ ?_; try simp only []; simp only [Zu, Za, Zb, Zg, Zh, Zi, Zk, Zl, Zm, Zn, ↓reduceIte, reduceCtorEq, Zd, Ze, Zc, Zf, Z86]
          refine om_fresh (by rfl) (by rfl) (by rfl) hS { ty := 2, w := 1, els := [.int .i64 rs[i + 1]] } 1 (.sl 0 0 1) rfl rfl rfl (fun hp hH => hH.2.2) (fun hp hH => by simp only [Zu, Za, Zb, Zg, Zh, Zi, Zk, Zl, Zm, Zn, ↓reduceIte, reduceCtorEq, Zd, Ze, Zc, Zf, Z86]; rfl) (by refine ⟨by simp [view_sl, view_int, Fixed, kill, killM, killL], ?_⟩; intro x hx; simp [Op.operands] at hx; subst hx; simp [Fixed, St.ev, kill, killM, killL]) ?_
          rw [show view 1 [({ ty := 2, w := 1, els := [.int .i64 rs[i + 1]] } : Blk)] (.sl 0 0 1) = .ro [.int .i64 rs[i + 1]] from by simp [view_sl, view_int]]
          simp only [Zu, Za, Zb, Zg, Zh, Zi, Zk, Zl, Zm, Zn, ↓reduceIte, reduceCtorEq, Zd, Ze, Zc, Zf, Z86]
          refine om_float (by rfl) (by rfl) (by rfl) ?_
          simp only [Zu, Za, Zb, Zg, Zh, Zi, Zk, Zl, Zm, Zn, ↓reduceIte, reduceCtorEq, Zd, Ze, Zc, Zf, Z86, allW_int, fits, List.isEmpty_cons, brk_false, Nat.reduceMul, intB]
          refine ⟨by omega, .inr trivial, ⟨rfl, ⟨_, .inr rfl, rfl⟩, (by intro r hr; simp only [List.mem_cons, List.not_mem_nil, or_false] at hr; rcases hr with rfl | rfl | rfl | rfl | rfl | rfl <;> first | rfl | exact flts_below _ _ | exact ints_below _ _)⟩, ?_⟩
          refine om_blind (by rfl) (by rfl) (by rfl) (v := .ptr 2 0 0) (fun hp => by simp only [Zu, Za, Zb, Zg, Zh, Zi, Zk, Zl, Zm, Zn, ↓reduceIte, reduceCtorEq, Zd, Ze, Zc, Zf, Z86]) ⟨by simp [Fixed, kill, killM, killL], by intro x hx; simp [Op.operands] at hx; first | (subst hx; simp [Fixed, St.ev, ofV, ofL, kill, killM, killL]) | (rcases hx with rfl | rfl <;> simp [Fixed, St.ev, ofV, ofL, kill, killM, killL]) | (rcases hx with rfl | rfl | rfl <;> simp [Fixed, St.ev, ofV, ofL, kill, killM, killL])⟩ ?_; try simp only []; simp only [Zu, Za, Zb, Zg, Zh, Zi, Zk, Zl, Zm, Zn, ↓reduceIte, reduceCtorEq, Zd, Ze, Zc, Zf, Z86]
          refine om_free (by rfl) (by rfl) (by rfl) ?_
          simp only [Zu, Za, Zb, Zg, Zh, Zi, Zk, Zl, Zm, Zn, ↓reduceIte, reduceCtorEq, Zd, Ze, Zc, Zf, Z86, allW_int, fits, List.isEmpty_cons, brk_false, Nat.reduceMul, intB, tl]
          refine ⟨by omega, .inr trivial, ?_⟩
          refine om_one (by rfl) (by rfl) (by rfl) ?_; try simp only []; simp only [Zu, Za, Zb, Zg, Zh, Zi, Zk, Zl, Zm, Zn, ↓reduceIte, reduceCtorEq, Zd, Ze, Zc, Zf, Z86]
          refine om_one (by rfl) (by rfl) (by rfl) ?_; try simp only []; simp only [Zu, Za, Zb, Zg, Zh, Zi, Zk, Zl, Zm, Zn, ↓reduceIte, reduceCtorEq, Zd, Ze, Zc, Zf, Z86]
          refine om_one (by rfl) (by rfl) (by rfl) ?_; try simp only []; simp only [Zu, Za, Zb, Zg, Zh, Zi, Zk, Zl, Zm, Zn, ↓reduceIte, reduceCtorEq, Zd, Ze, Zc, Zf, Z86]
          refine om_nil ?_
          simp only [Zu, Za, Zb, Zg, Zh, Zi, Zk, Zl, Zm, Zn, ↓reduceIte, reduceCtorEq, Zd, Ze, Zc, Zf, Z86]
          have T2 := T.put hl hi hne
          rw [g1, gb] at T2
          refine ⟨⟨(i + 1 + 1, ob ++ [bs[i + 1]], orr ++ [rs[i + 1]]), .inr T2⟩, by show bs.length - (i + 1 + 1) < bs.length - (i + 1); omega, ?_⟩
          show Weak 0 _ ⟨_, _⟩
          exact weak_drop (by simp) (by simp [DropHp, ints_below, flts_below, sclB, scl0, intB, allBelow_cons, allBelow_nil, below, belowM, belowL, ew, List.length_append, tl]) (by simp [DropTm, DropV, below, belowM, belowL, sclB, scl0, intB, allBelow_cons, allBelow_nil, below, belowM, belowL, ew, List.length_append, tl])
        · have heq : rs.getD (i + 1) 0 = rs.getD (i + 1 - 1) 0 := by rw [Nat.add_sub_cancel, g1, g0]; simpa using c
          refine ⟨⟨(i + 1 + 1, ob, orr), .inr (T.skip hl hi heq)⟩, by show bs.length - (i + 1 + 1) < bs.length - (i + 1); omega, ?_⟩
          show Weak 0 _ ⟨_, _⟩
          exact weak_drop (by simp) (by simp [DropHp, ints_below, flts_below, sclB, scl0, intB, allBelow_cons, allBelow_nil, below, belowM, belowL, ew]) (by simp [DropTm, DropV, below, belowM, belowL, sclB, scl0, intB, allBelow_cons, allBelow_nil, below, belowM, belowL, ew])
      · have hi : i + 1 = bs.length := by have := of_decide_eq_false h; omega
        rw [hi] at T
        obtain ⟨rfl, rfl⟩ := T.done hl
        rw [tl]
        exact PostR.tell [3, 4] (hp2 := [intB (trB bs rs), intB (trR bs rs)]) (by decide) (by decide) (by decide) (by simp [SubG, renB, ints_ren, ints_below, intB]) rfl rfl ⟨rfl, rfl⟩
end Go.Proofs.YtodjjpmigcacoaaGreatDoor
