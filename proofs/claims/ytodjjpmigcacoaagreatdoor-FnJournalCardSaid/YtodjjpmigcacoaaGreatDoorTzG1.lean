/- TzG1: texts joined. -/
import Derived.Test.YtodjjpmigcacoaaGreatDoorAbsM5
import Derived.Test.YtodjjpmigcacoaaGreatDoorBase
import Derived.IntWalk
set_option linter.unusedSimpArgs false
set_option linter.unusedVariables false
namespace Go.Proofs.YtodjjpmigcacoaaGreatDoor
def nxt : List Int → Int → Int
  | [], c => c
  | b :: _, c => if b < c then b else c
def exF : List Int → List Int → Int → Int
  | b :: bs, r :: rs, c => if c ≤ b then 0 else (nxt bs c - b) * r + exF bs rs c
  | _, _, _ => 0
def Asc : List Int → Prop
  | a :: b :: l => a < b ∧ Asc (b :: l)
  | _ => True
def rtG : List Int → List Int → Int → Int
  | _ :: bs, r :: rs, c => match bs with
    | [] => r
    | b' :: _ => if b' ≤ c then rtG bs rs c else r
  | _, _, _ => 0
theorem mul_nn {a b : Int} (ha : 0 ≤ a) (hb : 0 ≤ b) : 0 ≤ a * b := Int.mul_nonneg ha hb
theorem mul_le {a b c : Int} (ha : 0 ≤ a) (hb : b ≤ c) : a * b ≤ a * c := Int.mul_le_mul_of_nonneg_left hb ha
theorem ex_bounds (R c : Int) : ∀ (bs rs : List Int) (b : Int), Asc (b :: bs) → rs.length = bs.length + 1 → (∀ r ∈ rs, 0 ≤ r ∧ r ≤ R) → b ≤ c → 0 ≤ exF (b :: bs) rs c ∧ exF (b :: bs) rs c ≤ (c - b) * R
  | [], [r], b, _, _, hr, hc => by
    have := hr r (by simp)
    have h1 := mul_nn (show 0 ≤ c - b by omega) this.1
    have h2 := mul_le (show 0 ≤ c - b by omega) this.2
    have h3 := mul_nn (show 0 ≤ c - b by omega) (show 0 ≤ R by omega)
    simp only [exF, nxt]
    split <;> omega
  | b' :: bs, r :: rs, b, ha, hl, hr, hc => by
    have hb := ha.1
    have h0 := hr r (by simp)
    have h3 := mul_nn (show 0 ≤ c - b by omega) (show 0 ≤ R by omega)
    have e : exF (b :: b' :: bs) (r :: rs) c = if c ≤ b then 0 else (nxt (b' :: bs) c - b) * r + exF (b' :: bs) rs c := rfl
    rw [e]
    split
    · omega
    · simp only [nxt]
      by_cases h : b' < c
      · rw [if_pos h]
        have ih := ex_bounds R c bs rs b' ha.2 (by simpa using hl) (fun x hx => hr x (by simp [hx])) (by omega)
        have h1 := mul_nn (show 0 ≤ b' - b by omega) h0.1
        have h2 := mul_le (show 0 ≤ b' - b by omega) h0.2
        have h4 : (c - b) * R = (c - b') * R + (b' - b) * R := by rw [← Int.add_mul]; congr 1; omega
        omega
      · rw [if_neg h]
        have e2 : exF (b' :: bs) rs c = 0 := by
          cases rs with
          | nil => rfl
          | cons r' rs => simp only [exF]; rw [if_pos (by omega)]
        have h1 := mul_nn (show 0 ≤ c - b by omega) h0.1
        have h2 := mul_le (show 0 ≤ c - b by omega) h0.2
        omega
  | [], [], _, _, hl, _, _ => by simp at hl
  | [], _ :: _ :: _, _, _, hl, _, _ => by simp at hl
  | _ :: _, [], _, _, hl, _, _ => by simp at hl
theorem ex_zero (bs rs : List Int) (b c : Int) (h : c ≤ b) : exF (b :: bs) rs c = 0 := by
  cases rs with
  | nil => rfl
  | cons r rs => simp only [exF]; rw [if_pos h]
theorem rt_bounds (R c : Int) (hR : 0 ≤ R) : ∀ (bs rs : List Int), (∀ r ∈ rs, 0 ≤ r ∧ r ≤ R) → 0 ≤ rtG bs rs c ∧ rtG bs rs c ≤ R
  | [], _, _ => by simp [rtG, hR]
  | _ :: _, [], _ => by simp [rtG, hR]
  | [_], r :: rs, h => h r (by simp)
  | _ :: b' :: bs, r :: rs, h => by
    show 0 ≤ (if b' ≤ c then rtG (b' :: bs) rs c else r) ∧ (if b' ≤ c then rtG (b' :: bs) rs c else r) ≤ R
    have ih := rt_bounds R c hR (b' :: bs) rs (fun x hx => h x (by simp [hx]))
    have := h r (by simp)
    split <;> omega
def upB (q r b w : Int) : Bool := (w == 1 && decide (r ≥ b - r)) || (w == 2 && (decide (r > b - r) || (decide (r = b - r) && decide (q % 2 = 1)))) || (w == 3 && decide (r > 0))
def rnd (a b w : Int) : Int := a / b + if upB (a / b) (a % b) b w then 1 else 0
theorem rnd0 (a b : Int) : rnd a b 0 = a / b := by simp [rnd, upB]
theorem rnd1 (a b : Int) : rnd a b 1 = a / b + if a % b ≥ b - a % b then 1 else 0 := by simp [rnd, upB]
theorem rnd2 (a b : Int) : rnd a b 2 = a / b + if a % b > b - a % b ∨ a % b = b - a % b ∧ a / b % 2 = 1 then 1 else 0 := by simp [rnd, upB]
theorem rnd3 (a b : Int) : rnd a b 3 = a / b + if a % b > 0 then 1 else 0 := by simp [rnd, upB]
theorem ways {w : Int} (h0 : 0 ≤ w) (h3 : w ≤ 3) : w = 0 ∨ w = 1 ∨ w = 2 ∨ w = 3 := by omega
theorem rnd_near (a b w : Int) (hb : 0 < b) (ha : 0 ≤ a) : a / b ≤ rnd a b w ∧ rnd a b w ≤ a / b + 1 ∧ (a % b = 0 → rnd a b w = a / b) := by
  have h1 := Int.emod_nonneg a (show b ≠ 0 by omega)
  have h2 := Int.emod_lt_of_pos a hb
  unfold rnd
  refine ⟨by split <;> omega, by split <;> omega, fun h => ?_⟩
  have : upB (a / b) (a % b) b w = false := by
    rw [h]
    simp only [upB, Bool.or_eq_false_iff, Bool.and_eq_false_iff, decide_eq_false_iff_not]
    exact ⟨⟨.inr (by omega), .inr ⟨by omega, .inl (by omega)⟩⟩, .inr (by omega)⟩
  rw [this]; simp
theorem rnd_mono {a a' w : Int} (h0 : 0 ≤ w) (h3 : w ≤ 3) (h : a ≤ a') : rnd a 10000 w ≤ rnd a' 10000 w := by
  rcases ways h0 h3 with rfl | rfl | rfl | rfl
  · rw [rnd0, rnd0]; omega
  · rw [rnd1, rnd1]; split <;> split <;> omega
  · rw [rnd2, rnd2]; split <;> split <;> omega
  · rw [rnd3, rnd3]; split <;> split <;> omega
theorem rnd_nn {a w : Int} (ha : 0 ≤ a) (b : Int) (hb : 0 < b) : 0 ≤ rnd a b w := by
  have := (rnd_near a b w hb ha).1
  have := Int.ediv_nonneg ha (show 0 ≤ b by omega)
  omega
theorem rnd_whole (c w : Int) (hc : 0 ≤ c) : rnd (c * 10000) 10000 w = c := by
  have h := (rnd_near (c * 10000) 10000 w (by omega) (by omega)).2.2 (by omega)
  omega
theorem rnd_le {a c w : Int} (h0 : 0 ≤ w) (h3 : w ≤ 3) (hc : 0 ≤ c) (h : a ≤ c * 10000) : rnd a 10000 w ≤ c := by
  have := rnd_mono h0 h3 h
  rwa [rnd_whole c w hc] at this
theorem mul_bounds {a b A B : Int} (a0 : 0 ≤ a) (a1 : a ≤ A) (b0 : 0 ≤ b) (b1 : b ≤ B) : 0 ≤ a * b ∧ a * b ≤ A * B :=
  ⟨Int.mul_nonneg a0 b0, Int.le_trans (Int.mul_le_mul_of_nonneg_right a1 b0) (Int.mul_le_mul_of_nonneg_left b1 (by omega))⟩
structure Scl (bs rs : List Int) : Prop where
  asc : Asc bs
  len : rs.length = bs.length
  zero : bs.head? = some 0
  cap : bs.length ≤ 8
  top : ∀ b ∈ bs, 0 ≤ b ∧ b ≤ 1000000000000
  rate : ∀ r ∈ rs, 0 ≤ r ∧ r ≤ 10000
theorem Scl.split {bs rs : List Int} (S : Scl bs rs) : ∃ tl, bs = 0 :: tl ∧ rs.length = tl.length + 1 := by
  have h := S.zero
  cases bs with
  | nil => simp at h
  | cons b tl => simp at h; exact ⟨tl, by rw [h], by rw [S.len]; rfl⟩
theorem Scl.ex {bs rs : List Int} (S : Scl bs rs) {c : Int} (hc : 0 ≤ c) : 0 ≤ exF bs rs c ∧ exF bs rs c ≤ c * 10000 := by
  obtain ⟨tl, rfl, hl⟩ := S.split
  have := ex_bounds 10000 c tl rs 0 S.asc hl S.rate hc
  simpa using this
def dueF (bs rs : List Int) (c w : Int) : Int := rnd (exF bs rs c) 10000 w
def netF (bs rs : List Int) (c w : Int) : Int := c - dueF bs rs c w
theorem Scl.due {bs rs : List Int} (S : Scl bs rs) {c w : Int} (hc : 0 ≤ c) (h0 : 0 ≤ w) (h3 : w ≤ 3) : 0 ≤ dueF bs rs c w ∧ dueF bs rs c w ≤ c :=
  ⟨rnd_nn (S.ex hc).1 _ (by omega), rnd_le h0 h3 hc (S.ex hc).2⟩
def lsF (q : Int → Bool) (lo hi : Int) : Int :=
  if lo < hi then (if q ((lo + hi) / 2) then lsF q lo ((lo + hi) / 2) else lsF q ((lo + hi) / 2 + 1) hi) else lo
termination_by (hi - lo).toNat
decreasing_by all_goals omega
end Go.Proofs.YtodjjpmigcacoaaGreatDoor
set_option maxRecDepth 10000
set_option maxHeartbeats 1000000
namespace Go.Proofs.YtodjjpmigcacoaaGreatDoor
open Go Go.Abs
open Nat renaming reduceAdd → Za, reduceSub → Zb, reduceMul → Zc, reduceLT → Zd, reduceLeDiff → Ze, reduceEqDiff → Zf
open Int renaming reduceToNat → Zn
open Go.Abs renaming lenA → Zg, convA → Zh, indexA → Zi, flatP → Zj, nilI → Zk, ifaA → Zl, indexS → Zm
theorem getD_at {α : Type} (xs : List α) (z : α) (i : Nat) (h : i < xs.length) : xs.getD i z = xs[i] := by
  simp [List.getD_eq_getElem?_getD, List.getElem?_eq_getElem h]
def pref (p : Nat → Bool) (n : Nat) : Bool := (List.range n).all p
theorem pref_zero (p : Nat → Bool) : pref p 0 = true := rfl
theorem pref_succ (p : Nat → Bool) (n : Nat) : pref p (n + 1) = (pref p n && p n) := by
  simp [pref, List.range_succ]
theorem pref_no {p : Nat → Bool} {n : Nat} (i : Nat) (hi : i < n) (h : p i = false) : pref p n = false := by
  rw [pref, List.all_eq_false]
  exact ⟨i, by simpa using hi, by simp [h]⟩
theorem pref_go {p : Nat → Bool} {n : Nat} (h1 : pref p n = true) (h2 : p n = true) : pref p (n + 1) = true := by rw [pref_succ, h1, h2]; rfl
theorem pref_and (p q : Nat → Bool) (n : Nat) : pref (fun j => p j && q j) n = (pref p n && pref q n) := by
  induction n with
  | zero => rfl
  | succ n ih => rw [pref_succ, pref_succ, pref_succ, ih]; cases pref p n <;> cases pref q n <;> cases p n <;> cases q n <;> rfl
theorem all_pref {α : Type} (p : α → Bool) (z : α) (xs : List α) : xs.all p = pref (fun j => p (xs.getD j z)) xs.length := by
  rw [Bool.eq_iff_iff, pref, List.all_eq_true, List.all_eq_true]
  constructor
  · intro h j hj
    have hj' : j < xs.length := by simpa using hj
    rw [getD_at xs z j hj']
    exact h _ (List.getElem_mem hj')
  · intro h x hx
    obtain ⟨j, hj, rfl⟩ := List.getElem_of_mem hx
    have := h j (by simpa using hj)
    rwa [getD_at xs z j hj] at this
def inR (lo hi n : Int) : Bool := decide (lo ≤ n) && decide (n ≤ hi)
def scaleB (bk rt : List Int) : Bool := decide (1 ≤ bk.length ∧ bk.length ≤ 8 ∧ rt.length = bk.length) && (bk.getD 0 0 == 0) && pref (fun j => (inR 0 1000000000000 (bk.getD j 0) && (j == 0 || decide (bk.getD (j - 1) 0 < bk.getD j 0))) && inR 0 10000 (rt.getD j 0)) bk.length
def ascB (xs : List Int) : Bool := pref (fun j => j == 0 || decide (xs.getD (j - 1) 0 < xs.getD j 0)) xs.length
def scaleQ (bk rt : List Int) : Bool := (decide (1 ≤ bk.length ∧ bk.length ≤ 8) && bk.all (inR 0 1000000000000)) && (bk.getD 0 0 == 0) && ascB bk && decide (rt.length = bk.length) && rt.all (inR 0 10000)
theorem scaleQ_eq (bk rt : List Int) : scaleQ bk rt = scaleB bk rt := by
  unfold scaleQ scaleB ascB
  rw [pref_and, pref_and, all_pref (inR 0 1000000000000) 0 bk]
  by_cases h : rt.length = bk.length
  · rw [all_pref (inR 0 10000) 0 rt, h]
    generalize pref _ bk.length = x
    generalize pref _ bk.length = y
    generalize pref _ bk.length = z
    generalize (bk.getD 0 0 == 0) = w
    by_cases h2 : 1 ≤ bk.length ∧ bk.length ≤ 8
    · cases x <;> cases y <;> cases z <;> cases w <;> simp [h2]
    · have h3 : ¬ (1 ≤ bk.length ∧ bk.length ≤ 8 ∧ True) := by simpa using h2
      simp only [h2, h3, decide_false, Bool.false_and]
  · simp [h]
def amountsB (xs : List Int) (most : Nat) : Bool := decide (1 ≤ xs.length ∧ xs.length ≤ most) && xs.all (inR 0 1000000000000)
theorem pref_mono {p : Nat → Bool} {n m : Nat} (h : n ≤ m) (hp : pref p m = true) : pref p n = true := by
  rw [pref, List.all_eq_true] at hp ⊢
  exact fun x hx => hp x (by simp at hx ⊢; omega)
def ascP (xs : List Int) (j : Nat) : Bool := j == 0 || decide (xs.getD (j - 1) 0 < xs.getD j 0)
theorem ascB_eq (xs : List Int) : ascB xs = pref (ascP xs) xs.length := rfl
theorem inR_yes {lo hi n : Int} (h1 : lo ≤ n) (h2 : n ≤ hi) : inR lo hi n = true := by simp [inR, h1, h2]
theorem inR_iff {lo hi n : Int} : inR lo hi n = true ↔ lo ≤ n ∧ n ≤ hi := by simp [inR]
theorem pref_iff {p : Nat → Bool} {n : Nat} : pref p n = true ↔ ∀ j, j < n → p j = true := by
  rw [pref, List.all_eq_true]
  exact ⟨fun h j hj => h j (by simpa using hj), fun h j hj => h j (by simpa using hj)⟩
theorem asc_get : ∀ (l : List Int), Asc l ↔ ∀ i, i + 1 < l.length → l.getD i 0 < l.getD (i + 1) 0
  | [] => by simp [Asc]
  | [_] => by simp [Asc]
  | a :: b :: l => by
    rw [show Asc (a :: b :: l) ↔ a < b ∧ Asc (b :: l) from Iff.rfl, asc_get (b :: l)]
    constructor
    · rintro ⟨h1, h2⟩ i hi
      cases i with
      | zero => simpa using h1
      | succ i => simpa using h2 i (by simpa using hi)
    · intro h
      exact ⟨by simpa using h 0 (by simp), fun i hi => by simpa using h (i + 1) (by simpa using hi)⟩
theorem ascB_iff (l : List Int) : ascB l = true ↔ Asc l := by
  rw [ascB_eq, pref_iff, asc_get]
  constructor
  · intro h i hi
    have := h (i + 1) hi
    simpa [ascP] using this
  · intro h j hj
    cases j with
    | zero => rfl
    | succ j => simpa [ascP] using h j hj
theorem Scl.ok {bs rs : List Int} (S : Scl bs rs) : scaleB bs rs = true := by
  rw [← scaleQ_eq]
  obtain ⟨tl, rfl, hl⟩ := S.split
  have h1 := (ascB_iff _).2 S.asc
  have h2 : ((0 :: tl).all (inR 0 1000000000000)) = true := List.all_eq_true.2 fun x hx => inR_yes (S.top x hx).1 (S.top x hx).2
  have h3 : rs.all (inR 0 10000) = true := List.all_eq_true.2 fun x hx => inR_yes (S.rate x hx).1 (S.rate x hx).2
  have h4 := S.cap
  have h5 := S.len
  have e1 : decide (1 ≤ (0 :: tl).length ∧ (0 :: tl).length ≤ 8) = true := decide_eq_true ⟨by simp, h4⟩
  unfold scaleQ
  rw [h1, h2, h3, e1, decide_eq_true h5]
  rfl
theorem Scl.of {bs rs : List Int} (h : scaleB bs rs = true) : Scl bs rs := by
  rw [← scaleQ_eq] at h
  unfold scaleQ at h
  simp only [Bool.and_eq_true, decide_eq_true_eq, List.all_eq_true, inR_iff, beq_iff_eq] at h
  obtain ⟨⟨⟨⟨⟨h1, h2⟩, h3⟩, h4⟩, h5⟩, h6⟩ := h
  refine ⟨(ascB_iff _).1 h4, h5, ?_, h1.2, h2, h6⟩
  cases bs with
  | nil => simp at h1
  | cons b bs => simpa using h3
theorem within_call (a b c : Int) : CallA Tryz.prog 82 [.int .i64 a, .int .i64 b, .int .i64 c] [] (Ret (.bool (inR b c a)) []) := by
  refine CallP.out (t := .mk) (go_in (md := md82) mixed Tryz.func82 rfl go82 (by kernel_rfl) ?_)
  simp only [Zu, Za, Zb, Zg, Zh, Zi, Zk, Zl, Zm, Zn, ↓reduceIte, reduceCtorEq, Zd, Ze, Zc, Zf, Z82]
  refine br_intro (fun h => ?_) (fun h => ?_) <;> simp only [Zu, Za, Zb, Zg, Zh, Zi, Zk, Zl, Zm, Zn, ↓reduceIte, reduceCtorEq, Zd, Ze, Zc, Zf, Z82]
  · exact PostR.pure ⟨by simp at h; simp [inR, h], rfl⟩ rfl
  · exact PostR.pure ⟨by simp at h; simp [inR]; omega, rfl⟩ rfl
theorem areWithin1_call (n lo hi : Int) : CallA Tryz.prog 111 [.int .i64 n, .rop [.int .i64 lo], .rop [.int .i64 hi]] [] (Ret (.bool (!inR lo hi n)) []) := by
  refine CallP.out (t := .mk) (go_in (md := md111) mixed Tryz.func111 rfl go111 (by kernel_rfl) ?_)
  simp only [Zu, Za, Zb, Zg, Zh, Zi, Zk, Zl, Zm, Zn, ↓reduceIte, reduceCtorEq, Zd, Ze, Zc, Zf, Z111]
  refine call_ret (within_call _ _ _) rfl rfl ?_
  simp only [Zu, Za, Zb, Zg, Zh, Zi, Zk, Zl, Zm, Zn, ↓reduceIte, reduceCtorEq, Zd, Ze, Zc, Zf, Z111]
  exact PostR.ret
theorem indexFuncI_call (fid : FuncId) (caps : List AV) (q : Int → Bool) (hc : caps.all (below 0) = true) (hc2 : caps.all (belowL 0) = true) (hq : ∀ x, CallA Tryz.prog fid (.int .i64 x :: caps) [] (Ret (.bool (q x)) [])) (xs : List Int) (hm : xs.length ≤ 9223372036854775807) :
    CallA Tryz.prog 153 [.ro (ints xs), .fn fid caps] [] (Ret (.int .i64 (findI q xs 0)) []) := by
  refine CallP.out (t := .mk) (go_in (md := md153) mixed Tryz.func153 rfl go153 (by kernel_rfl) ?_)
  simp only [Zu, Za, Zb, Zg, Zh, Zi, Zk, Zl, Zm, Zn, ↓reduceIte, reduceCtorEq, Zd, Ze, Zc, Zf, Z153]
  have hb : below 0 (.fn fid caps) = true := hc2
  have hb2 : ∀ l, below 0 (.ro l) = true := fun _ => rfl
  have hb3 : ∀ k n, below 0 (.int k n) = true := fun _ _ => rfl
  have hb4 : below 0 .any = true := rfl
  refine go_round (md := md153) mixed (by kernel_rfl) (fun i : {i : Nat // i ≤ xs.length ∧ findI q xs 0 = findI q (xs.drop i) i} => ⟨[.ro (ints xs), .fn fid caps, .any, .any, .any, .any, .any, .int .i64 xs.length, .int .i64 i.1, .any, .any, .any, .any, .any, .any, .any, .any, .any, .any], []⟩) (fun i => xs.length - i.1) ⟨0, by simp⟩ ?_ ?_
  · exact weak_drop (by simp) (by simp [DropHp]) (by simp [DropTm, DropV, hb, hb2, hb3, hb4])
  · intro ⟨i, hi, he⟩
    simp only [Zu, Za, Zb, Zg, Zh, Zi, Zk, Zl, Zm, Zn, ↓reduceIte, reduceCtorEq, Zd, Ze, Zc, Zf, Z153]
    refine br_intro (fun h => ?_) (fun h => ?_) <;> simp only [Zu, Za, Zb, Zg, Zh, Zi, Zk, Zl, Zm, Zn, ↓reduceIte, reduceCtorEq, Zd, Ze, Zc, Zf, Z153]
    · have hi' : i < xs.length := by simpa using h
      refine ⟨hi', call_ret (hq _) (by rw [List.all_cons, hc]; rfl) rfl ?_⟩
      simp only [Zu, Za, Zb, Zg, Zh, Zi, Zk, Zl, Zm, Zn, ↓reduceIte, reduceCtorEq, Zd, Ze, Zc, Zf, Z153]
      rw [findI_step q xs i hi'] at he
      refine br_intro (fun h2 => ?_) (fun h2 => ?_) <;> simp only [Zu, Za, Zb, Zg, Zh, Zi, Zk, Zl, Zm, Zn, ↓reduceIte, reduceCtorEq, Zd, Ze, Zc, Zf, Z153]
      · rw [h2] at he
        exact PostR.pure ⟨by rw [he]; rfl, rfl⟩ rfl
      · rw [h2] at he
        refine ⟨⟨i + 1, by omega, he⟩, by show xs.length - (i + 1) < _; omega, ?_⟩
        exact weak_drop (by simp) (by simp [DropHp]) (by simp [DropTm, DropV, hb, hb2, hb3, hb4, w64_succ i (by omega)])
    · have hi' : i = xs.length := by simp at h; omega
      subst hi'
      rw [List.drop_length] at he
      exact PostR.pure ⟨by rw [he]; rfl, rfl⟩ rfl
theorem containsFuncI_call (fid : FuncId) (caps : List AV) (q : Int → Bool) (hc : caps.all (below 0) = true) (hc2 : caps.all (belowL 0) = true) (hq : ∀ x, CallA Tryz.prog fid (.int .i64 x :: caps) [] (Ret (.bool (q x)) [])) (xs : List Int) (hm : xs.length ≤ 9223372036854775807) :
    CallA Tryz.prog 110 [.ro (ints xs), .fn fid caps] [] (Ret (.bool (xs.any q)) []) := by
  refine CallP.out (t := .mk) (go_in (md := md110) mixed Tryz.func110 rfl go110 (by kernel_rfl) ?_)
  simp only [Zu, Za, Zb, Zg, Zh, Zi, Zk, Zl, Zm, Zn, ↓reduceIte, reduceCtorEq, Zd, Ze, Zc, Zf, Z110]
  refine call_ret (indexFuncI_call fid caps q hc hc2 hq xs hm) (by simpa [below, belowM, belowL] using hc2) rfl ?_
  simp only [Zu, Za, Zb, Zg, Zh, Zi, Zk, Zl, Zm, Zn, ↓reduceIte, reduceCtorEq, Zd, Ze, Zc, Zf, Z110]
  exact PostR.pure ⟨by rw [← findI_any q xs 0], rfl⟩ rfl
theorem areWithin_call (xs : List Int) (lo hi : Int) (hm : xs.length ≤ 1048576) : CallA Tryz.prog 67 [.ro (ints xs), .int .i64 lo, .int .i64 hi] [] (Ret (.bool (xs.all (inR lo hi))) []) := by
  refine CallP.out (t := .mk) (go_in (md := md67) mixed Tryz.func67 rfl go67 (by kernel_rfl) ?_)
  simp only [Zu, Za, Zb, Zg, Zh, Zi, Zk, Zl, Zm, Zn, ↓reduceIte, reduceCtorEq, Zd, Ze, Zc, Zf, Z67]
  refine call_lent 2 (by rfl) (containsFuncI_call _ [.rop [.int .i64 lo], .rop [.int .i64 hi]] (fun n => !inR lo hi n) rfl rfl (fun x => areWithin1_call x lo hi) xs (by omega)) rfl rfl ?_
  simp only [Zu, Za, Zb, Zg, Zh, Zi, Zk, Zl, Zm, Zn, ↓reduceIte, reduceCtorEq, Zd, Ze, Zc, Zf, Z67]
  exact PostR.pure ⟨by rw [any_not], rfl⟩ rfl
def hasC (xs : List Int) (least most lo hi : Int) : Bool := decide (least ≤ (xs.length : Int)) && (decide ((xs.length : Int) ≤ most) && xs.all (inR lo hi))
theorem hasCount_call (xs : List Int) (least most lo hi : Int) (hm : xs.length ≤ 1048576) : CallA Tryz.prog 65 [.ro (ints xs), .int .i64 least, .int .i64 most, .int .i64 lo, .int .i64 hi] [] (Ret (.bool (hasC xs least most lo hi)) []) := by
  refine CallP.out (t := .mk) (go_in (md := md65) mixed Tryz.func65 rfl go65 (by kernel_rfl) ?_)
  simp only [Zu, Za, Zb, Zg, Zh, Zi, Zk, Zl, Zm, Zn, ↓reduceIte, reduceCtorEq, Zd, Ze, Zc, Zf, Z65]
  refine br_intro (fun h1 => ?_) (fun h1 => ?_) <;> simp only [Zu, Za, Zb, Zg, Zh, Zi, Zk, Zl, Zm, Zn, ↓reduceIte, reduceCtorEq, Zd, Ze, Zc, Zf, Z65]
  · refine br_intro (fun h2 => ?_) (fun h2 => ?_) <;> simp only [Zu, Za, Zb, Zg, Zh, Zi, Zk, Zl, Zm, Zn, ↓reduceIte, reduceCtorEq, Zd, Ze, Zc, Zf, Z65]
    · refine call_ret (areWithin_call xs lo hi hm) rfl rfl ?_
      simp only [Zu, Za, Zb, Zg, Zh, Zi, Zk, Zl, Zm, Zn, ↓reduceIte, reduceCtorEq, Zd, Ze, Zc, Zf, Z65]
      exact PostR.pure ⟨by simp only [hasC, h1, h2, Bool.true_and], rfl⟩ rfl
    · exact PostR.pure ⟨by simp only [hasC, h2, Bool.false_and, Bool.and_false], rfl⟩ rfl
  · exact PostR.pure ⟨by simp only [hasC, h1, Bool.false_and], rfl⟩ rfl
theorem hasC_eq (xs : List Int) (most : Nat) (lo hi : Int) : hasC xs 1 most lo hi = (decide (1 ≤ xs.length ∧ xs.length ≤ most) && xs.all (inR lo hi)) := by
  unfold hasC
  rw [← Bool.and_assoc]
  congr 1
  rw [Bool.eq_iff_iff]
  simp only [Bool.and_eq_true, decide_eq_true_eq]
  omega
theorem areAscending_call (xs : List Int) (hm : xs.length ≤ 1048576) : CallA Tryz.prog 66 [.ro (ints xs)] [] (Ret (.bool (ascB xs)) []) := by
  have no : ∀ {b : Bool}, ascB xs = b → Ret (.bool (ascB xs)) [] (.bool b) [] := fun h => ⟨by rw [h], rfl⟩
  refine CallP.out (t := .mk) (go_in (md := md66) mixed Tryz.func66 rfl go66 (by kernel_rfl) ?_)
  simp only [Zu, Za, Zb, Zg, Zh, Zi, Zk, Zl, Zm, Zn, ↓reduceIte, reduceCtorEq, Zd, Ze, Zc, Zf, Z66]
  refine go_round (md := md66) mixed (by kernel_rfl) (fun i : {i : Nat // i ≤ xs.length ∧ pref (ascP xs) (i + 1) = true} => ⟨[.ro (ints xs), .any, .any, .int .i64 ((i.1 + 1 : Nat) : Int), .any, .any, .any, .any, .any, .any, .any, .any, .any, .any, .any, .any, .any, .any, .any, .any], []⟩) (fun i => xs.length - i.1) ⟨0, by simp [pref, ascP]⟩ ?_ ?_
  · exact weak_drop (by simp) (by simp [DropHp, ints_below, flts_below]) (by simp [DropTm, DropV, below, belowM, belowL])
  · intro ⟨i, hi, ha⟩
    have ek : IntKind.i64.wrap (((i + 1 : Nat) : Int) - 1) = (i : Int) := by rw [w64 (by omega) (by omega)]; omega
    simp only [Zu, Za, Zb, Zg, Zh, Zi, Zk, Zl, Zm, Zn, ↓reduceIte, reduceCtorEq, Zd, Ze, Zc, Zf, Z66, ek]
    refine br_intro (fun h => ?_) (fun h => ?_) <;> simp only [Zu, Za, Zb, Zg, Zh, Zi, Zk, Zl, Zm, Zn, ↓reduceIte, reduceCtorEq, Zd, Ze, Zc, Zf, Z66, ek, Int.toNat_natCast]
    · have hi' : i + 1 < xs.length := by have := of_decide_eq_true h; omega
      refine ⟨by omega, by omega, ?_⟩
      refine br_intro (fun d => ?_) (fun d => ?_) <;> simp only [Zu, Za, Zb, Zg, Zh, Zi, Zk, Zl, Zm, Zn, ↓reduceIte, reduceCtorEq, Zd, Ze, Zc, Zf, Z66]
      · exact PostR.pure (no (by
          have d0 := of_decide_eq_true d
          rw [ascB_eq]
          refine pref_no (i + 1) hi' ?_
          have d' : decide (xs.getD (i + 1 - 1) 0 < xs.getD (i + 1) 0) = false := by
            rw [Nat.add_sub_cancel, getD_at xs 0 i (by omega), getD_at xs 0 (i + 1) hi']
            exact decide_eq_false (by omega)
          rw [ascP, d']; simp)) rfl
      · refine ⟨⟨i + 1, by omega, pref_go ha (by
          have d0 := of_decide_eq_false d
          have d' : decide (xs.getD (i + 1 - 1) 0 < xs.getD (i + 1) 0) = true := by
            rw [Nat.add_sub_cancel, getD_at xs 0 i (by omega), getD_at xs 0 (i + 1) hi']
            exact decide_eq_true (by omega)
          rw [ascP, d', Bool.or_true])⟩, by show xs.length - (i + 1) < xs.length - i; omega, ?_⟩
        have e2 : IntKind.i64.wrap ((i : Int) + 1 + 1) = (i : Int) + 1 + 1 := w64 (by omega) (by omega)
        exact weak_drop (by simp) (by simp [DropHp, ints_below, flts_below, e2]) (by simp [DropTm, DropV, below, belowM, belowL, e2])
    · have h' := of_decide_eq_false h
      exact PostR.pure (no (by rw [ascB_eq]; exact pref_mono (by omega) ha)) rfl
theorem validScale_call (bk rt : List Int) (h1 : bk.length ≤ 1048576) (h2 : rt.length ≤ 1048576) : CallA Tryz.prog 27 [.agg [.ro (ints bk), .ro (ints rt)]] [] (Ret (.bool (scaleB bk rt)) []) := by
  have no : ∀ {b : Bool}, scaleQ bk rt = b → Ret (.bool (scaleB bk rt)) [] (.bool b) [] := fun h => ⟨by rw [← scaleQ_eq, h], rfl⟩
  have hq : hasC bk 1 8 0 1000000000000 = (decide (1 ≤ bk.length ∧ bk.length ≤ 8) && bk.all (inR 0 1000000000000)) := hasC_eq bk 8 0 1000000000000
  refine CallP.out (t := .mk) (go_in (md := md27) mixed Tryz.func27 rfl go27 (by kernel_rfl) ?_)
  simp only [Zu, Za, Zb, Zg, Zh, Zi, Zk, Zl, Zm, Zn, ↓reduceIte, reduceCtorEq, Zd, Ze, Zc, Zf, Z27]
  refine call_ret (hasCount_call bk 1 8 0 1000000000000 h1) rfl rfl ?_
  rw [hq]
  simp only [Zu, Za, Zb, Zg, Zh, Zi, Zk, Zl, Zm, Zn, ↓reduceIte, reduceCtorEq, Zd, Ze, Zc, Zf, Z27]
  refine br_intro (fun c1 => ?_) (fun c1 => ?_) <;> simp only [Zu, Za, Zb, Zg, Zh, Zi, Zk, Zl, Zm, Zn, ↓reduceIte, reduceCtorEq, Zd, Ze, Zc, Zf, Z27]
  rotate_left
  · exact PostR.pure (no (by simp only [scaleQ, c1, Bool.false_and])) rfl
  have hl : 1 ≤ bk.length ∧ bk.length ≤ 8 := by
    simp only [Bool.and_eq_true, decide_eq_true_eq] at c1
    exact c1.1
  refine ⟨Int.le_refl _, by omega, ?_⟩
  have g0 : bk.getD 0 0 = bk[0]'(by omega) := getD_at bk 0 0 (by omega)
  refine br_intro (fun c2 => ?_) (fun c2 => ?_) <;> simp only [Zu, Za, Zb, Zg, Zh, Zi, Zk, Zl, Zm, Zn, ↓reduceIte, reduceCtorEq, Zd, Ze, Zc, Zf, Z27]
  rotate_left
  · exact PostR.pure (no (by simp only [scaleQ, g0, c2, Bool.and_false, Bool.false_and])) rfl
  refine call_ret (areAscending_call bk h1) rfl rfl ?_
  simp only [Zu, Za, Zb, Zg, Zh, Zi, Zk, Zl, Zm, Zn, ↓reduceIte, reduceCtorEq, Zd, Ze, Zc, Zf, Z27]
  refine br_intro (fun c3 => ?_) (fun c3 => ?_) <;> simp only [Zu, Za, Zb, Zg, Zh, Zi, Zk, Zl, Zm, Zn, ↓reduceIte, reduceCtorEq, Zd, Ze, Zc, Zf, Z27]
  rotate_left
  · exact PostR.pure (no (by simp only [scaleQ, c3, Bool.and_false, Bool.false_and])) rfl
  refine br_intro (fun c4 => ?_) (fun c4 => ?_) <;> simp only [Zu, Za, Zb, Zg, Zh, Zi, Zk, Zl, Zm, Zn, ↓reduceIte, reduceCtorEq, Zd, Ze, Zc, Zf, Z27]
  rotate_left
  · exact PostR.pure (no (by
      have : decide (rt.length = bk.length) = false := by simp at c4; exact decide_eq_false (by omega)
      simp only [scaleQ, this, Bool.and_false, Bool.false_and])) rfl
  refine call_ret (areWithin_call rt 0 10000 h2) rfl rfl ?_
  simp only [Zu, Za, Zb, Zg, Zh, Zi, Zk, Zl, Zm, Zn, ↓reduceIte, reduceCtorEq, Zd, Ze, Zc, Zf, Z27]
  exact PostR.pure (no (by
    have : decide (rt.length = bk.length) = true := by simp at c4; exact decide_eq_true (by omega)
    simp only [scaleQ, c1, g0, c2, c3, this, Bool.true_and])) rfl
theorem isAmount_call (n : Int) : CallA Tryz.prog 141 [.int .i64 n] [] (Ret (.bool (inR 0 1000000000000 n)) []) := by
  refine CallP.out (t := .mk) (go_in (md := md141) mixed Tryz.func141 rfl go141 (by kernel_rfl) ?_)
  simp only [Zu, Za, Zb, Zg, Zh, Zi, Zk, Zl, Zm, Zn, ↓reduceIte, reduceCtorEq, Zd, Ze, Zc, Zf, Z141]
  refine call_ret (within_call _ _ _) rfl rfl ?_
  simp only [Zu, Za, Zb, Zg, Zh, Zi, Zk, Zl, Zm, Zn, ↓reduceIte, reduceCtorEq, Zd, Ze, Zc, Zf, Z141]
  exact PostR.ret
theorem isRate_call (n : Int) : CallA Tryz.prog 142 [.int .i64 n] [] (Ret (.bool (inR 0 10000 n)) []) := by
  refine CallP.out (t := .mk) (go_in (md := md142) mixed Tryz.func142 rfl go142 (by kernel_rfl) ?_)
  simp only [Zu, Za, Zb, Zg, Zh, Zi, Zk, Zl, Zm, Zn, ↓reduceIte, reduceCtorEq, Zd, Ze, Zc, Zf, Z142]
  refine call_ret (within_call _ _ _) rfl rfl ?_
  simp only [Zu, Za, Zb, Zg, Zh, Zi, Zk, Zl, Zm, Zn, ↓reduceIte, reduceCtorEq, Zd, Ze, Zc, Zf, Z142]
  exact PostR.ret
theorem isRound_call (n : Int) : CallA Tryz.prog 177 [.int .i64 n] [] (Ret (.bool (inR 0 3 n)) []) := by
  refine CallP.out (t := .mk) (go_in (md := md177) mixed Tryz.func177 rfl go177 (by kernel_rfl) ?_)
  simp only [Zu, Za, Zb, Zg, Zh, Zi, Zk, Zl, Zm, Zn, ↓reduceIte, reduceCtorEq, Zd, Ze, Zc, Zf, Z177]
  refine call_ret (within_call _ _ _) rfl rfl ?_
  simp only [Zu, Za, Zb, Zg, Zh, Zi, Zk, Zl, Zm, Zn, ↓reduceIte, reduceCtorEq, Zd, Ze, Zc, Zf, Z177]
  exact PostR.ret
theorem tdiv_nn {a b : Int} (ha : 0 ≤ a) : a.tdiv b = a / b := Int.tdiv_eq_ediv_of_nonneg ha
theorem tmod_nn {a b : Int} (ha : 0 ≤ a) : a.tmod b = a % b := Int.tmod_eq_emod_of_nonneg ha
theorem rounded_call (a b w : Int) (ha : 0 ≤ a) (ha2 : a ≤ 4000000000000000000) (hb : 0 < b) (hb2 : b ≤ 4000000000000000000) (h0 : 0 ≤ w) (h3 : w ≤ 3) : CallA Tryz.prog 143 [.int .i64 a, .int .i64 b, .int .i64 w] [] (Ret (.int .i64 (rnd a b w)) []) := by
  have m1 := Int.emod_nonneg a (show b ≠ 0 by omega)
  have m2 := Int.emod_lt_of_pos a hb
  have d1 : 0 ≤ a / b := Int.ediv_nonneg ha (by omega)
  have d2 : a / b ≤ a := Int.ediv_le_self b ha
  have e1 : IntKind.i64.wrap (a.tdiv b) = a / b := by rw [tdiv_nn ha, w64 (by omega) (by omega)]
  have e2 : a.tmod b = a % b := tmod_nn ha
  have e3 : IntKind.i64.wrap (b - a % b) = b - a % b := w64 (by omega) (by omega)
  have e4 : (a / b).tmod 2 = a / b % 2 := tmod_nn d1
  have e5 : IntKind.i64.wrap (a / b + 1) = a / b + 1 := w64 (by omega) (by omega)
  have hb' : b ≠ 0 := by omega
  rcases ways h0 h3 with rfl | rfl | rfl | rfl
  all_goals
    refine CallP.out (t := .mk) (go_in (md := md143) mixed Tryz.func143 rfl go143 (by kernel_rfl) ?_)
    simp only [Zu, Za, Zb, Zg, Zh, Zi, Zk, Zl, Zm, Zn, ↓reduceIte, reduceCtorEq, Zd, Ze, Zc, Zf, Z143, e1, e2, e3, e4, e5, Int.reduceLT, Int.reduceLE, Int.reduceNeg, Int.reduceEq, Int.reduceGT, Int.reduceGE, decide_true, decide_false, beq_self_eq_true, bne_self_eq_false, Int.reduceBEq, Int.reduceBNe, Int.reduceAdd, Int.reduceSub]
    refine ⟨hb', hb', ?_⟩
  · exact PostR.pure ⟨by rw [rnd0], rfl⟩ rfl
  · refine br_intro (fun h => ?_) (fun h => ?_) <;> simp only [Zu, Za, Zb, Zg, Zh, Zi, Zk, Zl, Zm, Zn, ↓reduceIte, reduceCtorEq, Zd, Ze, Zc, Zf, Z143, e5]
    · have h' := of_decide_eq_true h
      exact PostR.pure ⟨by rw [rnd1, if_pos h'], rfl⟩ rfl
    · have h' := of_decide_eq_false h
      exact PostR.pure ⟨by rw [rnd1, if_neg h']; simp, rfl⟩ rfl
  · refine br_intro (fun h => ?_) (fun h => ?_) <;> simp only [Zu, Za, Zb, Zg, Zh, Zi, Zk, Zl, Zm, Zn, ↓reduceIte, reduceCtorEq, Zd, Ze, Zc, Zf, Z143, e3, e4, e5, Int.reduceLT, Int.reduceLE, Int.reduceNeg, Int.reduceEq, Int.reduceGT, Int.reduceGE, decide_true, decide_false, beq_self_eq_true, bne_self_eq_false, Int.reduceBEq, Int.reduceBNe, Int.reduceAdd, Int.reduceSub]
    · have h' := of_decide_eq_true h
      exact PostR.pure ⟨by rw [rnd2, if_pos (Or.inl h')], rfl⟩ rfl
    · have h' := of_decide_eq_false h
      refine br_intro (fun g => ?_) (fun g => ?_) <;> simp only [Zu, Za, Zb, Zg, Zh, Zi, Zk, Zl, Zm, Zn, ↓reduceIte, reduceCtorEq, Zd, Ze, Zc, Zf, Z143, e3, e4, e5, Int.reduceLT, Int.reduceLE, Int.reduceNeg, Int.reduceEq, Int.reduceGT, Int.reduceGE, decide_true, decide_false, beq_self_eq_true, bne_self_eq_false, Int.reduceBEq, Int.reduceBNe, Int.reduceAdd, Int.reduceSub]
      · have g' := eq_of_beq g
        refine ⟨by decide, ?_⟩
        refine br_intro (fun i => ?_) (fun i => ?_) <;> simp only [Zu, Za, Zb, Zg, Zh, Zi, Zk, Zl, Zm, Zn, ↓reduceIte, reduceCtorEq, Zd, Ze, Zc, Zf, Z143, e3, e4, e5, Int.reduceLT, Int.reduceLE, Int.reduceNeg, Int.reduceEq, Int.reduceGT, Int.reduceGE, decide_true, decide_false, beq_self_eq_true, bne_self_eq_false, Int.reduceBEq, Int.reduceBNe, Int.reduceAdd, Int.reduceSub]
        · have i' := eq_of_beq i
          exact PostR.pure ⟨by rw [rnd2, if_pos (Or.inr ⟨g', i'⟩)], rfl⟩ rfl
        · have i' := ne_of_beq_false i
          exact PostR.pure ⟨by rw [rnd2, if_neg (by rintro (x | ⟨_, x⟩); exact h' x; exact i' x)]; simp, rfl⟩ rfl
      · have g' := ne_of_beq_false g
        exact PostR.pure ⟨by rw [rnd2, if_neg (by rintro (x | ⟨x, _⟩); exact h' x; exact g' x)]; simp, rfl⟩ rfl
  · refine br_intro (fun h => ?_) (fun h => ?_) <;> simp only [Zu, Za, Zb, Zg, Zh, Zi, Zk, Zl, Zm, Zn, ↓reduceIte, reduceCtorEq, Zd, Ze, Zc, Zf, Z143, e5]
    · have h' := of_decide_eq_true h
      exact PostR.pure ⟨by rw [rnd3, if_pos h'], rfl⟩ rfl
    · have h' := of_decide_eq_false h
      exact PostR.pure ⟨by rw [rnd3, if_neg h']; simp, rfl⟩ rfl
theorem ex_tail (R c : Int) (hR : 0 ≤ R) (hc : 0 ≤ c) : ∀ (bs rs : List Int), Asc bs → rs.length = bs.length → (∀ r ∈ rs, 0 ≤ r ∧ r ≤ R) → (∀ b ∈ bs, 0 ≤ b) → 0 ≤ exF bs rs c ∧ exF bs rs c ≤ c * R
  | [], _, _, _, _, _ => by
    have := mul_nn hc hR
    simp only [exF]; omega
  | b :: bs, rs, ha, hl, hr, hb => by
    have hm := mul_nn hc hR
    have hb0 := hb b (by simp)
    by_cases h : c ≤ b
    · rw [ex_zero bs rs b c h]; omega
    · have := ex_bounds R c bs rs b ha (by simpa using hl) hr (by omega)
      have h2 : (c - b) * R ≤ c * R := Int.mul_le_mul_of_nonneg_right (by omega) hR
      omega
theorem Asc.tail {l : List Int} (h : Asc l) : Asc l.tail := by
  match l, h with
  | [], _ => trivial
  | [_], _ => trivial
  | _ :: _ :: _, h => exact h.2
theorem Asc.drop : ∀ (i : Nat) {l : List Int}, Asc l → Asc (l.drop i)
  | 0, l, h => by simpa using h
  | i + 1, [], h => by simp [Asc]
  | i + 1, a :: l, h => by rw [List.drop_succ_cons]; exact Asc.drop i (by simpa using h.tail)
theorem Scl.tails {bs rs : List Int} (S : Scl bs rs) {c : Int} (hc : 0 ≤ c) (i : Nat) : 0 ≤ exF (bs.drop i) (rs.drop i) c :=
  (ex_tail 10000 c (by omega) hc _ _ (S.asc.drop i) (by simp [S.len]) (fun r hr => S.rate r (List.mem_of_mem_drop hr)) (fun b hb => (S.top b (List.mem_of_mem_drop hb)).1)).1
theorem ex_at {bs rs : List Int} (c : Int) (i : Nat) (h1 : i < bs.length) (h2 : i < rs.length) : exF (bs.drop i) (rs.drop i) c = if c ≤ bs[i] then 0 else (nxt (bs.drop (i + 1)) c - bs[i]) * rs[i] + exF (bs.drop (i + 1)) (rs.drop (i + 1)) c := by
  rw [drop_at bs i h1, drop_at rs i h2]; rfl
def sclB (bs rs : List Int) : Blk := { ty := 26, w := 2, els := [.agg [.ro (ints bs), .ro (ints rs)]] }
set_option maxHeartbeats 4000000 in
theorem exact_call {bs rs : List Int} (S : Scl bs rs) (c : Int) (h0 : 0 ≤ c) (h1 : c ≤ 1000000000000) : CallA Tryz.prog 128 [.agg [.ro (ints bs), .ro (ints rs)], .int .i64 c] [] (Ret (.int .i64 (exF bs rs c)) []) := by
  have hl := S.len
  have hcap := S.cap
  have hE := S.ex h0
  have hE2 : c * 10000 ≤ 10000000000000000 := by omega
  refine CallP.out (t := .mk) (go_in (md := md128) mixed Tryz.func128 rfl go128 (by kernel_rfl) ?_)
  simp only [Zu, Za, Zb, Zg, Zh, Zi, Zk, Zl, Zm, Zn, ↓reduceIte, reduceCtorEq, Zd, Ze, Zc, Zf, Z128]
  refine go_round (md := md128) mixed (by kernel_rfl) (fun i : {i : Nat // i ≤ bs.length ∧ exF (bs.drop i) (rs.drop i) c ≤ exF bs rs c} => ⟨[.any, .int .i64 c, .ptr 0 0 0, .any, .any, .int .i64 (exF bs rs c - exF (bs.drop i.1) (rs.drop i.1) c), .any, .any, .any, .any, .ro (ints bs), .int .i64 bs.length, .int .i64 i.1, .any, .any, .any, .any, .any, .any, .any, .any, .any, .any, .any, .any, .any, .any, .any, .any, .any, .any, .any, .any, .any, .any, .any, .any, .any, .any, .any, .any, .any, .any, .any, .any, .any, .any, .any], [sclB bs rs]⟩) (fun i => bs.length - i.1) ⟨0, by simp⟩ ?_ ?_
  · exact weak_drop (by simp) (by simp [DropHp, ints_below, flts_below, sclB, allBelow_cons, allBelow_nil, below, belowM, belowL]) (by simp [DropTm, DropV, below, belowM, belowL, sclB, allBelow_cons, allBelow_nil, below, belowM, belowL])
  · intro ⟨i, hi, ht⟩
    have tl0 := S.tails h0 i
    simp only [Zu, Za, Zb, Zg, Zh, Zi, Zk, Zl, Zm, Zn, ↓reduceIte, reduceCtorEq, Zd, Ze, Zc, Zf, Z128, sclB]
    refine br_intro (fun h => ?_) (fun h => ?_) <;> simp only [Zu, Za, Zb, Zg, Zh, Zi, Zk, Zl, Zm, Zn, ↓reduceIte, reduceCtorEq, Zd, Ze, Zc, Zf, Z128, sclB]
    · have hi' : i < bs.length := by simpa using h
      have hi2 : i < rs.length := by omega
      have eat := ex_at c i hi' hi2
      have tl1 := S.tails h0 (i + 1)
      have b0 := S.top bs[i] (List.getElem_mem hi')
      refine ⟨hi', ?_⟩
      refine br_intro (fun hb => ?_) (fun hb => ?_) <;> simp only [Zu, Za, Zb, Zg, Zh, Zi, Zk, Zl, Zm, Zn, ↓reduceIte, reduceCtorEq, Zd, Ze, Zc, Zf, Z128, sclB, w64_succ i (show i < 9223372036854775807 by omega)]
      · have hb' := of_decide_eq_true hb
        rw [if_pos hb'] at eat
        exact PostR.pure ⟨by rw [eat]; simp, rfl⟩ rfl
      · have hb' := of_decide_eq_false hb
        rw [if_neg hb'] at eat
        have r0 := S.rate rs[i] (List.getElem_mem hi2)
        have ei : IntKind.i64.wrap ((i : Int) + 1) = ((i + 1 : Nat) : Int) := w64_succ i (by omega)
        have fin : ∀ to : Int, to = nxt (bs.drop (i + 1)) c → bs[i] ≤ to → to ≤ c → IntKind.i64.wrap (to - bs[i]) = to - bs[i] ∧ IntKind.i64.wrap ((to - bs[i]) * rs[i]) = (to - bs[i]) * rs[i] ∧
            IntKind.i64.wrap (exF bs rs c - exF (bs.drop i) (rs.drop i) c + (to - bs[i]) * rs[i]) = exF bs rs c - exF (bs.drop (i + 1)) (rs.drop (i + 1)) c ∧ exF (bs.drop (i + 1)) (rs.drop (i + 1)) c ≤ exF bs rs c := by
          intro to e1 g1 g2
          rw [← e1] at eat
          have p0 := mul_nn (show 0 ≤ to - bs[i] by omega) r0.1
          exact ⟨w64 (by omega) (by omega), w64 (by omega) (by omega), by rw [w64 (by omega) (by omega)]; omega, by omega⟩
        refine br_intro (fun hn => ?_) (fun hn => ?_) <;> simp only [Zu, Za, Zb, Zg, Zh, Zi, Zk, Zl, Zm, Zn, ↓reduceIte, reduceCtorEq, Zd, Ze, Zc, Zf, Z128, sclB, ei]
        · have hn' : i + 1 < bs.length := by have := of_decide_eq_true hn; omega
          have en : bs.drop (i + 1) = bs[i + 1] :: bs.drop (i + 2) := drop_at bs (i + 1) hn'
          have hs := (asc_get bs).1 S.asc i hn'
          rw [getD_at bs 0 i (by omega), getD_at bs 0 (i + 1) hn'] at hs
          refine ⟨hn', rfl, ?_⟩
          simp only [Zu, Za, Zb, Zg, Zh, Zi, Zk, Zl, Zm, Zn, ↓reduceIte, reduceCtorEq, Zd, Ze, Zc, Zf, Z128, sclB, minA]
          obtain ⟨f1, f2, f3, f4⟩ := fin (if bs[i + 1] < c then bs[i + 1] else c) (by rw [en]; rfl) (by split <;> omega) (by split <;> omega)
          generalize (if bs[i + 1] < c then bs[i + 1] else c) = to at f1 f2 f3 ⊢
          refine ⟨hi2, ⟨i + 1, by omega, f4⟩, by show bs.length - (i + 1) < _; omega, ?_⟩
          exact weak_drop (by simp) (by simp [DropHp, ints_below, flts_below, f1, f2, f3, ei, sclB, allBelow_cons, allBelow_nil, below, belowM, belowL]) (by simp [DropTm, DropV, below, belowM, belowL, f1, f2, f3, ei, sclB, allBelow_cons, allBelow_nil, below, belowM, belowL])
        · have hn' : i + 1 = bs.length := by have := of_decide_eq_false hn; omega
          have en : bs.drop (i + 1) = [] := List.drop_of_length_le (by omega)
          obtain ⟨f1, f2, f3, f4⟩ := fin c (by rw [en]; rfl) (by omega) (by omega)
          refine ⟨by omega, ⟨i + 1, by omega, f4⟩, by show bs.length - (i + 1) < _; omega, ?_⟩
          exact weak_drop (by simp) (by simp [DropHp, ints_below, flts_below, f1, f2, f3, ei, sclB, allBelow_cons, allBelow_nil, below, belowM, belowL]) (by simp [DropTm, DropV, below, belowM, belowL, f1, f2, f3, ei, sclB, allBelow_cons, allBelow_nil, below, belowM, belowL])
    · have hi' : i = bs.length := by simp at h; omega
      subst hi'
      exact PostR.pure ⟨by rw [List.drop_length]; simp [exF], rfl⟩ rfl
theorem due_call {bs rs : List Int} (S : Scl bs rs) (c w : Int) (h0 : 0 ≤ c) (h1 : c ≤ 1000000000000) (w0 : 0 ≤ w) (w3 : w ≤ 3) : CallA Tryz.prog 135 [.agg [.ro (ints bs), .ro (ints rs)], .int .i64 c, .int .i64 w] [] (Ret (.int .i64 (dueF bs rs c w)) []) := by
  have hE := S.ex h0
  refine CallP.out (t := .mk) (go_in (md := md135) mixed Tryz.func135 rfl go135 (by kernel_rfl) ?_)
  simp only [Zu, Za, Zb, Zg, Zh, Zi, Zk, Zl, Zm, Zn, ↓reduceIte, reduceCtorEq, Zd, Ze, Zc, Zf, Z135]
  refine call_ret (exact_call S c h0 h1) rfl rfl ?_
  simp only [Zu, Za, Zb, Zg, Zh, Zi, Zk, Zl, Zm, Zn, ↓reduceIte, reduceCtorEq, Zd, Ze, Zc, Zf, Z135]
  refine call_ret (rounded_call (exF bs rs c) 10000 w hE.1 (by omega) (by omega) (by omega) w0 w3) rfl rfl ?_
  simp only [Zu, Za, Zb, Zg, Zh, Zi, Zk, Zl, Zm, Zn, ↓reduceIte, reduceCtorEq, Zd, Ze, Zc, Zf, Z135]
  exact PostR.pure ⟨rfl, rfl⟩ rfl
theorem net_call {bs rs : List Int} (S : Scl bs rs) (c w : Int) (h0 : 0 ≤ c) (h1 : c ≤ 1000000000000) (w0 : 0 ≤ w) (w3 : w ≤ 3) : CallA Tryz.prog 147 [.agg [.ro (ints bs), .ro (ints rs)], .int .i64 c, .int .i64 w] [] (Ret (.int .i64 (netF bs rs c w)) []) := by
  have hE := S.due h0 w0 w3
  have e : IntKind.i64.wrap (c - dueF bs rs c w) = netF bs rs c w := w64 (by omega) (by omega)
  refine CallP.out (t := .mk) (go_in (md := md147) mixed Tryz.func147 rfl go147 (by kernel_rfl) ?_)
  simp only [Zu, Za, Zb, Zg, Zh, Zi, Zk, Zl, Zm, Zn, ↓reduceIte, reduceCtorEq, Zd, Ze, Zc, Zf, Z147]
  refine call_ret (due_call S c w h0 h1 w0 w3) rfl rfl ?_
  simp only [Zu, Za, Zb, Zg, Zh, Zi, Zk, Zl, Zm, Zn, ↓reduceIte, reduceCtorEq, Zd, Ze, Zc, Zf, Z147, e]
  exact PostR.pure ⟨rfl, rfl⟩ rfl
theorem isAsked_call {bs rs : List Int} (S : Scl bs rs) (c w : Int) : CallA Tryz.prog 127 [.agg [.ro (ints bs), .ro (ints rs)], .int .i64 c, .int .i64 w] [] (Ret (.bool (inR 0 1000000000000 c && inR 0 3 w)) []) := by
  have hl := S.len
  have hcap := S.cap
  refine CallP.out (t := .mk) (go_in (md := md127) mixed Tryz.func127 rfl go127 (by kernel_rfl) ?_)
  simp only [Zu, Za, Zb, Zg, Zh, Zi, Zk, Zl, Zm, Zn, ↓reduceIte, reduceCtorEq, Zd, Ze, Zc, Zf, Z127]
  refine call_ret (validScale_call bs rs (by omega) (by omega)) rfl rfl ?_
  rw [S.ok]
  simp only [Zu, Za, Zb, Zg, Zh, Zi, Zk, Zl, Zm, Zn, ↓reduceIte, reduceCtorEq, Zd, Ze, Zc, Zf, Z127]
  refine call_ret (isAmount_call c) rfl rfl ?_
  simp only [Zu, Za, Zb, Zg, Zh, Zi, Zk, Zl, Zm, Zn, ↓reduceIte, reduceCtorEq, Zd, Ze, Zc, Zf, Z127]
  refine br_intro (fun h => ?_) (fun h => ?_) <;> simp only [Zu, Za, Zb, Zg, Zh, Zi, Zk, Zl, Zm, Zn, ↓reduceIte, reduceCtorEq, Zd, Ze, Zc, Zf, Z127]
  · refine call_ret (isRound_call w) rfl rfl ?_
    simp only [Zu, Za, Zb, Zg, Zh, Zi, Zk, Zl, Zm, Zn, ↓reduceIte, reduceCtorEq, Zd, Ze, Zc, Zf, Z127]
    exact PostR.pure ⟨by rw [h]; rfl, rfl⟩ rfl
  · exact PostR.pure ⟨by rw [h]; rfl, rfl⟩ rfl
theorem asked {c w : Int} (h0 : 0 ≤ c) (h1 : c ≤ 1000000000000) (w0 : 0 ≤ w) (w3 : w ≤ 3) : (inR 0 1000000000000 c && inR 0 3 w) = true := by rw [inR_yes h0 h1, inR_yes w0 w3]; rfl
theorem isAsked_yes {bs rs : List Int} (S : Scl bs rs) {c w : Int} (h0 : 0 ≤ c) (h1 : c ≤ 1000000000000) (w0 : 0 ≤ w) (w3 : w ≤ 3) : CallA Tryz.prog 127 [.agg [.ro (ints bs), .ro (ints rs)], .int .i64 c, .int .i64 w] [] (Ret (.bool true) []) := by
  have := isAsked_call S c w
  rwa [asked h0 h1 w0 w3] at this
theorem dueOf_call {bs rs : List Int} (S : Scl bs rs) (c w : Int) (h0 : 0 ≤ c) (h1 : c ≤ 1000000000000) (w0 : 0 ≤ w) (w3 : w ≤ 3) : CallA Tryz.prog 105 [.agg [.ro (ints bs), .ro (ints rs)], .int .i64 c, .int .i64 w] [] (Ret (.tup [.int .i64 (dueF bs rs c w), .bool true]) []) := by
  refine CallP.out (t := .mk) (go_in (md := md105) mixed Tryz.func105 rfl go105 (by kernel_rfl) ?_)
  simp only [Zu, Za, Zb, Zg, Zh, Zi, Zk, Zl, Zm, Zn, ↓reduceIte, reduceCtorEq, Zd, Ze, Zc, Zf, Z105]
  refine call_ret (isAsked_yes S h0 h1 w0 w3) rfl rfl ?_
  simp only [Zu, Za, Zb, Zg, Zh, Zi, Zk, Zl, Zm, Zn, ↓reduceIte, reduceCtorEq, Zd, Ze, Zc, Zf, Z105]
  refine call_ret (due_call S c w h0 h1 w0 w3) rfl rfl ?_
  simp only [Zu, Za, Zb, Zg, Zh, Zi, Zk, Zl, Zm, Zn, ↓reduceIte, reduceCtorEq, Zd, Ze, Zc, Zf, Z105]
  exact PostR.pure ⟨rfl, rfl⟩ rfl
theorem netOf_call {bs rs : List Int} (S : Scl bs rs) (c w : Int) (h0 : 0 ≤ c) (h1 : c ≤ 1000000000000) (w0 : 0 ≤ w) (w3 : w ≤ 3) : CallA Tryz.prog 106 [.agg [.ro (ints bs), .ro (ints rs)], .int .i64 c, .int .i64 w] [] (Ret (.tup [.int .i64 (netF bs rs c w), .bool true]) []) := by
  refine CallP.out (t := .mk) (go_in (md := md106) mixed Tryz.func106 rfl go106 (by kernel_rfl) ?_)
  simp only [Zu, Za, Zb, Zg, Zh, Zi, Zk, Zl, Zm, Zn, ↓reduceIte, reduceCtorEq, Zd, Ze, Zc, Zf, Z106]
  refine call_ret (isAsked_yes S h0 h1 w0 w3) rfl rfl ?_
  simp only [Zu, Za, Zb, Zg, Zh, Zi, Zk, Zl, Zm, Zn, ↓reduceIte, reduceCtorEq, Zd, Ze, Zc, Zf, Z106]
  refine call_ret (net_call S c w h0 h1 w0 w3) rfl rfl ?_
  simp only [Zu, Za, Zb, Zg, Zh, Zi, Zk, Zl, Zm, Zn, ↓reduceIte, reduceCtorEq, Zd, Ze, Zc, Zf, Z106]
  exact PostR.pure ⟨rfl, rfl⟩ rfl
def rtF : List Int → List Int → Int → Int → Int
  | b :: bs, r :: rs, c, o => rtF bs rs c (if b ≤ c then r else o)
  | _, _, _, o => o
theorem rtF_at {bs rs : List Int} (c o : Int) (i : Nat) (h1 : i < bs.length) (h2 : i < rs.length) : rtF (bs.drop i) (rs.drop i) c o = rtF (bs.drop (i + 1)) (rs.drop (i + 1)) c (if bs[i] ≤ c then rs[i] else o) := by
  rw [drop_at bs i h1, drop_at rs i h2]; rfl
theorem rtF_above (c : Int) : ∀ (bs rs : List Int) (o : Int), Asc bs → (∀ b ∈ bs.head?, c < b) → rtF bs rs c o = o
  | [], _, _, _, _ => by simp [rtF]
  | _ :: _, [], _, _, _ => by simp [rtF]
  | b :: bs, r :: rs, o, ha, h => by
    have hb : c < b := h b rfl
    simp only [rtF]
    rw [if_neg (by omega)]
    refine rtF_above c bs rs o ha.tail ?_
    intro b' hb'
    cases bs with
    | nil => simp at hb'
    | cons b2 bs =>
      simp at hb'
      subst hb'
      have := ha.1
      omega
theorem rtF_rtG (c : Int) : ∀ (bs rs : List Int) (b o : Int), Asc (b :: bs) → b ≤ c → rs.length = bs.length + 1 → rtF (b :: bs) rs c o = rtG (b :: bs) rs c
  | [], [r], b, o, _, hb, _ => by simp [rtF, rtG, hb]
  | b' :: bs, r :: rs, b, o, ha, hb, hl => by
    show rtF (b' :: bs) rs c (if b ≤ c then r else o) = (if b' ≤ c then rtG (b' :: bs) rs c else r)
    rw [if_pos hb]
    by_cases h : b' ≤ c
    · rw [if_pos h]; exact rtF_rtG c bs rs b' r ha.2 h (by simpa using hl)
    · rw [if_neg h]; exact rtF_above c _ _ _ ha.2 (by simp; omega)
  | [], [], _, _, _, _, hl => by simp at hl
  | [], _ :: _ :: _, _, _, _, _, hl => by simp at hl
  | _ :: _, [], _, _, _, _, hl => by simp at hl
theorem Scl.rtF {bs rs : List Int} (S : Scl bs rs) {c : Int} (hc : 0 ≤ c) : rtF bs rs c 0 = rtG bs rs c := by
  obtain ⟨tl, rfl, hl⟩ := S.split
  exact rtF_rtG c tl rs 0 0 S.asc hc hl
theorem Scl.rt {bs rs : List Int} (S : Scl bs rs) (c : Int) : 0 ≤ rtG bs rs c ∧ rtG bs rs c ≤ 10000 := rt_bounds 10000 c (by omega) bs rs S.rate
theorem rate_call {bs rs : List Int} (S : Scl bs rs) (c : Int) (h0 : 0 ≤ c) : CallA Tryz.prog 130 [.agg [.ro (ints bs), .ro (ints rs)], .int .i64 c] [] (Ret (.int .i64 (rtG bs rs c)) []) := by
  have hl := S.len
  have hcap := S.cap
  refine CallP.out (t := .mk) (go_in (md := md130) mixed Tryz.func130 rfl go130 (by kernel_rfl) ?_)
  simp only [Zu, Za, Zb, Zg, Zh, Zi, Zk, Zl, Zm, Zn, ↓reduceIte, reduceCtorEq, Zd, Ze, Zc, Zf, Z130]
  refine go_round (md := md130) mixed (by kernel_rfl) (fun i : {i : Nat × Int // i.1 ≤ bs.length ∧ rtF (bs.drop i.1) (rs.drop i.1) c i.2 = rtG bs rs c} => ⟨[.any, .int .i64 c, .ptr 0 0 0, .any, .any, .int .i64 i.1.2, .any, .any, .any, .ro (ints bs), .int .i64 bs.length, .int .i64 i.1.1, .any, .any, .any, .any, .any, .any, .any, .any, .any, .any, .any, .any, .any, .any], [sclB bs rs]⟩) (fun i => bs.length - i.1.1) ⟨(0, 0), by simp, by simpa using S.rtF h0⟩ ?_ ?_
  · exact weak_drop (by simp) (by simp [DropHp, ints_below, flts_below, sclB, allBelow_cons, allBelow_nil, below, belowM, belowL]) (by simp [DropTm, DropV, below, belowM, belowL, sclB, allBelow_cons, allBelow_nil, below, belowM, belowL])
  · intro ⟨⟨i, o⟩, hi, ht⟩
    simp only [Zu, Za, Zb, Zg, Zh, Zi, Zk, Zl, Zm, Zn, ↓reduceIte, reduceCtorEq, Zd, Ze, Zc, Zf, Z130, sclB]
    refine br_intro (fun h => ?_) (fun h => ?_) <;> simp only [Zu, Za, Zb, Zg, Zh, Zi, Zk, Zl, Zm, Zn, ↓reduceIte, reduceCtorEq, Zd, Ze, Zc, Zf, Z130, sclB]
    · have hi' : i < bs.length := by simpa using h
      have hi2 : i < rs.length := by omega
      rw [rtF_at c o i hi' hi2] at ht
      refine ⟨hi', ?_⟩
      refine br_intro (fun hb => ?_) (fun hb => ?_) <;> simp only [Zu, Za, Zb, Zg, Zh, Zi, Zk, Zl, Zm, Zn, ↓reduceIte, reduceCtorEq, Zd, Ze, Zc, Zf, Z130, sclB]
      · have hb' := of_decide_eq_true hb
        rw [if_pos hb'] at ht
        refine ⟨hi2, ⟨(i + 1, rs[i]), by show i + 1 ≤ _; omega, ht⟩, by show bs.length - (i + 1) < bs.length - i; omega, ?_⟩
        exact weak_drop (by simp) (by simp [DropHp, ints_below, flts_below, w64_succ i (by omega), sclB, allBelow_cons, allBelow_nil, below, belowM, belowL]) (by simp [DropTm, DropV, below, belowM, belowL, w64_succ i (by omega), sclB, allBelow_cons, allBelow_nil, below, belowM, belowL])
      · have hb' := of_decide_eq_false hb
        rw [if_neg hb'] at ht
        refine ⟨⟨(i + 1, o), by show i + 1 ≤ _; omega, ht⟩, by show bs.length - (i + 1) < bs.length - i; omega, ?_⟩
        exact weak_drop (by simp) (by simp [DropHp, ints_below, flts_below, w64_succ i (by omega), sclB, allBelow_cons, allBelow_nil, below, belowM, belowL]) (by simp [DropTm, DropV, below, belowM, belowL, w64_succ i (by omega), sclB, allBelow_cons, allBelow_nil, below, belowM, belowL])
    · have hi' : i = bs.length := by simp at h; omega
      subst hi'
      rw [List.drop_length] at ht
      exact PostR.pure ⟨by rw [← ht]; simp [rtF], rfl⟩ rfl
theorem rateAt_call {bs rs : List Int} (S : Scl bs rs) (c : Int) (h0 : 0 ≤ c) (h1 : c ≤ 1000000000000) : CallA Tryz.prog 95 [.agg [.ro (ints bs), .ro (ints rs)], .int .i64 c] [] (Ret (.tup [.int .i64 (rtG bs rs c), .bool true]) []) := by
  refine CallP.out (t := .mk) (go_in (md := md95) mixed Tryz.func95 rfl go95 (by kernel_rfl) ?_)
  simp only [Zu, Za, Zb, Zg, Zh, Zi, Zk, Zl, Zm, Zn, ↓reduceIte, reduceCtorEq, Zd, Ze, Zc, Zf, Z95]
  refine call_ret (isAsked_yes S h0 h1 (Int.le_refl 0) (by omega)) rfl rfl ?_
  simp only [Zu, Za, Zb, Zg, Zh, Zi, Zk, Zl, Zm, Zn, ↓reduceIte, reduceCtorEq, Zd, Ze, Zc, Zf, Z95]
  refine call_ret (rate_call S c h0) rfl rfl ?_
  simp only [Zu, Za, Zb, Zg, Zh, Zi, Zk, Zl, Zm, Zn, ↓reduceIte, reduceCtorEq, Zd, Ze, Zc, Zf, Z95]
  exact PostR.pure ⟨rfl, rfl⟩ rfl
def byteL (l : List Int) : Prop := ∀ x ∈ l, 0 ≤ x ∧ x ≤ 255
def srcB (code : List Int) (a : Nat) (sd : Int) : Blk := { ty := 97, w := 3, els := [.agg [.ro (kint .u8 code), .int .i64 a, .int .u64 sd]] }
theorem and255 (x : Int) : 0 ≤ IntKind.i64.wrap (IntKind.u64.wrap (((BitVec.ofInt IntKind.u64.bits x &&& BitVec.ofInt IntKind.u64.bits 255).toNat : Nat) : Int)) ∧ IntKind.i64.wrap (IntKind.u64.wrap (((BitVec.ofInt IntKind.u64.bits x &&& BitVec.ofInt IntKind.u64.bits 255).toNat : Nat) : Int)) ≤ 255 := by
  have h : (BitVec.ofInt IntKind.u64.bits x &&& BitVec.ofInt IntKind.u64.bits 255).toNat ≤ 255 := by
    rw [BitVec.toNat_and]
    exact Nat.and_le_right
  generalize (BitVec.ofInt IntKind.u64.bits x &&& BitVec.ofInt IntKind.u64.bits 255).toNat = n at h ⊢
  rw [IntWalk.u64_in _ (by omega), w64 (by omega) (by omega)]
  omega
theorem u8i64 {x : Int} (h : 0 ≤ x ∧ x ≤ 255) : IntKind.i64.wrap x = x := w64 (by omega) (by omega)
theorem next_call (code : List Int) (hc : byteL code) (hl : code.length ≤ 1048576) (a : Nat) (ha : a ≤ 1000000000000) (sd : Int) :
    CallA Tryz.prog 54 [.ptr 0 0 0] [srcB code a sd] (fun r hp => ∃ n sd' : Int, (0 ≤ n ∧ n ≤ 255) ∧ r = .int .i64 n ∧ hp = [srcB code (a + 1) sd']) := by
  have e1 : IntKind.i64.wrap ((a : Int) + 1) = ((a + 1 : Nat) : Int) := w64_succ a (by omega)
  refine CallP.out (t := .mk) (go_in (md := md54) mixed Tryz.func54 rfl go54 (by kernel_rfl) ?_)
  simp only [Zu, Za, Zb, Zg, Zh, Zi, Zk, Zl, Zm, Zn, ↓reduceIte, reduceCtorEq, Zd, Ze, Zc, Zf, Z54, srcB, kint_len]
  refine br_intro (fun h => ?_) (fun h => ?_) <;> simp only [Zu, Za, Zb, Zg, Zh, Zi, Zk, Zl, Zm, Zn, ↓reduceIte, reduceCtorEq, Zd, Ze, Zc, Zf, Z54, srcB, kint_len, kint_get, e1]
  · have h' := of_decide_eq_true h
    have hi : a < code.length := by omega
    have b0 := hc code[a] (List.getElem_mem hi)
    refine ⟨hi, ?_⟩
    rw [u8i64 b0]
    refine br_yes (decide_eq_true (by omega)) ?_
    simp only [Zu, Za, Zb, Zg, Zh, Zi, Zk, Zl, Zm, Zn, ↓reduceIte, reduceCtorEq, Zd, Ze, Zc, Zf, Z54, srcB]
    exact PostR.tell [0] (hp2 := [srcB code (a + 1) _]) (by decide) (by decide) (by decide) ⟨⟨rfl, rfl⟩, trivial⟩ rfl rfl ⟨code[a], _, b0, rfl, rfl⟩
  · have h' := of_decide_eq_false h
    refine br_no (decide_eq_false (by omega)) ?_
    simp only [Zu, Za, Zb, Zg, Zh, Zi, Zk, Zl, Zm, Zn, ↓reduceIte, reduceCtorEq, Zd, Ze, Zc, Zf, Z54, srcB, Int.reduceLT, Int.reduceLE, Int.reduceNeg, Int.reduceEq, Int.reduceGT, Int.reduceGE, decide_true, decide_false, beq_self_eq_true, bne_self_eq_false, Int.reduceBEq, Int.reduceBNe, Int.reduceAdd, Int.reduceSub]
    exact PostR.tell [0] (hp2 := [srcB code (a + 1) _]) (by decide) (by decide) (by decide) ⟨⟨rfl, rfl⟩, trivial⟩ rfl rfl ⟨_, _, and255 _, rfl, rfl⟩
theorem pick_call (code : List Int) (hc : byteL code) (hl : code.length ≤ 1048576) (a : Nat) (ha : a ≤ 1000000000) (sd : Int) (m : Int) (h1 : 1 ≤ m) (h2 : m ≤ 1000000) :
    CallA Tryz.prog 24 [.ptr 0 0 0, .int .i64 m] [srcB code a sd] (fun r hp => ∃ (x : Int) (a' : Nat) (sd' : Int), (0 ≤ x ∧ x < m) ∧ a' ≤ a + 2 ∧ r = .int .i64 x ∧ hp = [srcB code a' sd']) := by
  refine CallP.out (t := .mk) (go_in (md := md24) mixed Tryz.func24 rfl go24 (by kernel_rfl) ?_)
  simp only [Zu, Za, Zb, Zg, Zh, Zi, Zk, Zl, Zm, Zn, ↓reduceIte, reduceCtorEq, Zd, Ze, Zc, Zf, Z24]
  refine br_intro (fun h => ?_) (fun h => ?_) <;> simp only [Zu, Za, Zb, Zg, Zh, Zi, Zk, Zl, Zm, Zn, ↓reduceIte, reduceCtorEq, Zd, Ze, Zc, Zf, Z24]
  · have h' := of_decide_eq_true h
    exact PostR.tell [0] (hp2 := [srcB code a sd]) (by decide) (by decide) (by decide) ⟨⟨rfl, rfl⟩, trivial⟩ rfl rfl ⟨0, a, sd, by omega, by omega, rfl, rfl⟩
  · have h' := of_decide_eq_false h
    refine call_by (next_call code hc hl a (by omega) sd) ?_
    rintro r hp' ⟨n, sd', hn, rfl, rfl⟩
    simp only [Zu, Za, Zb, Zg, Zh, Zi, Zk, Zl, Zm, Zn, ↓reduceIte, reduceCtorEq, Zd, Ze, Zc, Zf, Z24]
    refine br_intro (fun g => ?_) (fun g => ?_) <;> simp only [Zu, Za, Zb, Zg, Zh, Zi, Zk, Zl, Zm, Zn, ↓reduceIte, reduceCtorEq, Zd, Ze, Zc, Zf, Z24]
    · refine call_by (next_call code hc hl (a + 1) (by omega) sd') ?_
      rintro r hp' ⟨k, sd2, hk, rfl, rfl⟩
      have e1 : IntKind.i64.wrap (n * 256) = n * 256 := w64 (by omega) (by omega)
      have e2 : IntKind.i64.wrap (n * 256 + k) = n * 256 + k := w64 (by omega) (by omega)
      have e3 : (n * 256 + k).tmod m = (n * 256 + k) % m := Int.tmod_eq_emod_of_nonneg (by omega)
      have b1 := Int.emod_nonneg (n * 256 + k) (show m ≠ 0 by omega)
      have b2 := Int.emod_lt_of_pos (n * 256 + k) (show 0 < m by omega)
      simp only [Zu, Za, Zb, Zg, Zh, Zi, Zk, Zl, Zm, Zn, ↓reduceIte, reduceCtorEq, Zd, Ze, Zc, Zf, Z24, e1, e2, e3]
      exact ⟨by omega, PostR.tell [0] (hp2 := [srcB code (a + 1 + 1) sd2]) (by decide) (by decide) (by decide) ⟨⟨rfl, rfl⟩, trivial⟩ rfl rfl ⟨_, a + 1 + 1, sd2, ⟨b1, b2⟩, by omega, rfl, rfl⟩⟩
    · have e3 : n.tmod m = n % m := Int.tmod_eq_emod_of_nonneg (by omega)
      have b1 := Int.emod_nonneg n (show m ≠ 0 by omega)
      have b2 := Int.emod_lt_of_pos n (show 0 < m by omega)
      refine ⟨by omega, ?_⟩
      rw [e3]
      exact PostR.tell [0] (hp2 := [srcB code (a + 1) sd']) (by decide) (by decide) (by decide) ⟨⟨rfl, rfl⟩, trivial⟩ rfl rfl ⟨_, a + 1, sd', ⟨b1, b2⟩, by omega, rfl, rfl⟩
theorem one_call (code : List Int) (hc : byteL code) (hl : code.length ≤ 1048576) (a : Nat) (ha : a ≤ 1000000000) (sd : Int) (m : Int) (h1 : 1 ≤ m) (h2 : m ≤ 1000000) :
    CallA Tryz.prog 60 [.ptr 0 0 0, .int .i64 m] [srcB code a sd] (fun r hp => ∃ (x : Bool) (a' : Nat) (sd' : Int), a' ≤ a + 2 ∧ r = .bool x ∧ hp = [srcB code a' sd']) := by
  refine CallP.out (t := .mk) (go_in (md := md60) mixed Tryz.func60 rfl go60 (by kernel_rfl) ?_)
  simp only [Zu, Za, Zb, Zg, Zh, Zi, Zk, Zl, Zm, Zn, ↓reduceIte, reduceCtorEq, Zd, Ze, Zc, Zf, Z60]
  refine call_by (pick_call code hc hl a ha sd m h1 h2) ?_
  rintro r hp' ⟨x, a', sd', hx, ha', rfl, rfl⟩
  simp only [Zu, Za, Zb, Zg, Zh, Zi, Zk, Zl, Zm, Zn, ↓reduceIte, reduceCtorEq, Zd, Ze, Zc, Zf, Z60]
  exact PostR.tell [0] (hp2 := [srcB code a' sd']) (by decide) (by decide) (by decide) ⟨⟨rfl, rfl⟩, trivial⟩ rfl rfl ⟨_, a', sd', ha', rfl, rfl⟩
theorem l00From_call (code : List Int) : CallA Tryz.prog 22 [.ro (kint .u8 code)] [] (Ret (.ptr 0 0 0) [srcB code 0 0]) := by
  refine CallP.out (t := .mk) (go_in (md := md22) mixed Tryz.func22 rfl go22 (by kernel_rfl) ?_)
  simp only [Zu, Za, Zb, Zg, Zh, Zi, Zk, Zl, Zm, Zn, ↓reduceIte, reduceCtorEq, Zd, Ze, Zc, Zf, Z22]
  exact PostR.tell [0] (hp2 := [srcB code 0 0]) (by decide) (by decide) (by decide) ⟨⟨rfl, rfl⟩, trivial⟩ rfl rfl ⟨rfl, rfl⟩
set_option maxHeartbeats 4000000
theorem srcB_below (N : Nat) (code : List Int) (a : Nat) (sd : Int) : allBelow N (srcB code a sd).els = true := rfl
theorem srcB_kill (code : List Int) (a : Nat) (sd : Int) (b : Nat) : ({ ty := (srcB code a sd).ty, w := (srcB code a sd).w, els := List.map (kill b) (srcB code a sd).els, live := (srcB code a sd).live } : Blk) = srcB code a sd := rfl
theorem pick_at {code : List Int} (hc : byteL code) (hl : code.length ≤ 1048576) {a : Nat} (ha : a ≤ 1000000000) {sd : Int} {m : Int} (h1 : 1 ≤ m) (h2 : m ≤ 1000000) {rest : List Blk} {Q : AV → List Blk → Prop} {t : Tok Q}
    (hQ : ∀ (x : Int) (a' : Nat) (sd' : Int), (0 ≤ x ∧ x < m) → a' ≤ a + 2 → Q (.int .i64 x) (srcB code a' sd' :: rest)) : CallP Tryz.prog 24 [.ptr 0 0 0, .int .i64 m] (srcB code a sd :: rest) Q t := by
  refine call_handedQ [0] (pick_call code hc hl a ha sd m h1 h2) (by decide) ⟨⟨rfl, rfl⟩, trivial⟩ rfl rfl ?_
  rintro r hps' ⟨x, a', sd', hx, ha', rfl, rfl⟩
  refine ⟨by intro q hq; simp at hq; subst hq; rfl, ?_⟩
  have := hQ x a' sd' hx ha'
  simpa [putF, ren, renM, renL] using this
theorem one_at {code : List Int} (hc : byteL code) (hl : code.length ≤ 1048576) {a : Nat} (ha : a ≤ 1000000000) {sd : Int} {m : Int} (h1 : 1 ≤ m) (h2 : m ≤ 1000000) {rest : List Blk} {Q : AV → List Blk → Prop} {t : Tok Q}
    (hQ : ∀ (x : Bool) (a' : Nat) (sd' : Int), a' ≤ a + 2 → Q (.bool x) (srcB code a' sd' :: rest)) : CallP Tryz.prog 60 [.ptr 0 0 0, .int .i64 m] (srcB code a sd :: rest) Q t := by
  refine call_handedQ [0] (one_call code hc hl a ha sd m h1 h2) (by decide) ⟨⟨rfl, rfl⟩, trivial⟩ rfl rfl ?_
  rintro r hps' ⟨x, a', sd', ha', rfl, rfl⟩
  refine ⟨by intro q hq; simp at hq; subst hq; rfl, ?_⟩
  have := hQ x a' sd' ha'
  simpa [putF, ren, renM, renL] using this
theorem asc_snoc : ∀ (bs : List Int) (t : Int), Asc bs → (∀ b ∈ bs, b < t) → Asc (bs ++ [t])
  | [], t, _, _ => trivial
  | [a], t, _, h => ⟨h a (by simp), trivial⟩
  | a :: b :: l, t, ha, h => ⟨ha.1, asc_snoc (b :: l) t ha.2 fun x hx => h x (by simp [hx])⟩
structure Dr where
  bs : List Int
  rs : List Int
  a : Nat
  sd : Int
  top : Int
  n : Int
structure Dr.Ok (a0 : Nat) (d : Dr) : Prop where
  asc : Asc d.bs
  len : d.rs.length = d.bs.length
  low : ∀ b ∈ d.bs, 0 ≤ b ∧ b < d.top
  rate : ∀ r ∈ d.rs, 0 ≤ r ∧ r ≤ 10000
  head : d.bs.head? = some 0 ∨ (d.bs = [] ∧ d.top = 0)
  n0 : 0 ≤ d.n
  all : (d.bs.length : Int) + d.n ≤ 4
  some : 1 ≤ (d.bs.length : Int) + d.n
  at_ : (d.a : Int) ≤ a0 + 2 + 8 * d.bs.length
  cap : d.top ≤ 4000 * d.bs.length
theorem Dr.Ok.top0 {a0 : Nat} {d : Dr} (D : d.Ok a0) : 0 ≤ d.top := by
  have h2 := D.low
  rcases D.head with h | ⟨_, h⟩
  · obtain ⟨bs, rs, a, sd, top, n⟩ := d
    simp only [] at h h2 ⊢
    cases bs with
    | nil => simp at h
    | cons b bs => have := h2 b (by simp); omega
  · omega
theorem Dr.Ok.next {a0 : Nat} {bs rs : List Int} {a : Nat} {sd top n : Int} (D : Dr.Ok a0 ⟨bs, rs, a, sd, top, n⟩) (hn : 0 < n) {r x : Int} (hr : 0 ≤ r ∧ r ≤ 10000) (hx : 0 ≤ x ∧ x < 40) {a' : Nat} (ha : a' ≤ a + 8) (sd' : Int) : Dr.Ok a0 ⟨bs ++ [top], rs ++ [r], a', sd', top + (1 + 100 * x), n - 1⟩ := by
  have h1 := D.head
  have h2 := D.low
  have h3 := D.len
  have h4 := D.all
  have h5 := D.at_
  have h6 := D.cap
  have h7 := D.rate
  simp only [] at h1 h2 h3 h4 h5 h6 h7
  have top0 : 0 ≤ top := by
    rcases h1 with h | ⟨_, h⟩
    · cases bs with
      | nil => simp at h
      | cons b bs => have := h2 b (by simp); omega
    · omega
  refine ⟨asc_snoc bs top D.asc fun b hb => (h2 b hb).2, by simp [h3], ?_, ?_, ?_, by show 0 ≤ n - 1; omega, by simp; omega, by simp; omega, by simp; omega, by simp; omega⟩
  · intro b hb
    show 0 ≤ b ∧ b < top + (1 + 100 * x)
    rcases List.mem_append.1 hb with hb | hb
    · have := h2 b hb; omega
    · simp at hb; omega
  · intro r' hr'
    rcases List.mem_append.1 hr' with hb | hb
    · exact h7 r' hb
    · simp at hb; subst hb; exact hr
  · left
    rcases h1 with h | ⟨h, h'⟩
    · cases bs with
      | nil => simp at h
      | cons b bs => simpa using h
    · subst h; subst h'; rfl
theorem Dr.Ok.done {a0 : Nat} {bs rs : List Int} {a : Nat} {sd top n : Int} (D : Dr.Ok a0 ⟨bs, rs, a, sd, top, n⟩) (hn : n = 0) : Scl bs rs ∧ bs.length ≤ 4 ∧ (∀ b ∈ bs, b ≤ 16000) ∧ a ≤ a0 + 40 := by
  have h1 := D.head
  have h2 := D.low
  have h3 := D.len
  have h4 := D.all
  have h5 := D.at_
  have h6 := D.cap
  have h7 := D.some
  simp only [] at h1 h2 h3 h4 h5 h6 h7
  refine ⟨⟨D.asc, h3, ?_, by omega, fun b hb => by have := h2 b hb; omega, D.rate⟩, by omega, fun b hb => by have := h2 b hb; omega, by omega⟩
  rcases h1 with h | ⟨h, h'⟩
  · exact h
  · subst h; simp at h7; omega
def resB : Blk := { ty := 26, w := 2, els := [.agg [.nils, .nils]] }
def intB (xs : List Int) : Blk := { ty := 2, w := 1, els := ints xs }
def drSt (code : List Int) (d : Dr) : St := match d.bs with
  | [] => ⟨[.ptr 0 0 0, .any, .ptr 1 0 0, .ptr 2 0 0, .int .i64 d.top, .int .i64 d.n, .any, .any, .any, .any, .any, .any, .any, .any, .any, .any, .any, .any, .any, .any, .any, .any, .any, .any, .any, .any, .any, .any, .any, .any, .any, .any, .any, .any, .any, .any, .any, .any, .any, .any, .any], [srcB code d.a d.sd, resB, resB]⟩
  | _ :: _ => ⟨[.ptr 0 0 0, .any, .ptr 1 0 0, .ptr 2 0 0, .int .i64 d.top, .int .i64 d.n, .any, .any, .any, .any, .any, .any, .any, .any, .any, .any, .any, .any, .any, .any, .any, .any, .any, .any, .any, .any, .any, .any, .any, .any, .any, .any, .any, .any, .any, .any, .any, .any, .any, .any, .any], [srcB code d.a d.sd, resB, { ty := 26, w := 2, els := [.agg [.sl 3 0 d.bs.length, .sl 4 0 d.bs.length]] }, intB d.bs, intB d.rs]⟩
theorem drSt_cons (code : List Int) (d : Dr) (h : d.bs ≠ []) : drSt code d = ⟨[.ptr 0 0 0, .any, .ptr 1 0 0, .ptr 2 0 0, .int .i64 d.top, .int .i64 d.n, .any, .any, .any, .any, .any, .any, .any, .any, .any, .any, .any, .any, .any, .any, .any, .any, .any, .any, .any, .any, .any, .any, .any, .any, .any, .any, .any, .any, .any, .any, .any, .any, .any, .any, .any], [srcB code d.a d.sd, resB, { ty := 26, w := 2, els := [.agg [.sl 3 0 d.bs.length, .sl 4 0 d.bs.length]] }, intB d.bs, intB d.rs]⟩ := by
  obtain ⟨bs, rs, a, sd, top, n⟩ := d
  cases bs with
  | nil => exact absurd rfl h
  | cons b bs => rfl
theorem l02DrawOk_call (code : List Int) (hc : byteL code) (hl : code.length ≤ 1048576) (a0 : Nat) (ha : a0 ≤ 100000) (sd : Int) :
    CallA Tryz.prog 50 [.ptr 0 0 0] [srcB code a0 sd] (fun r hp => ∃ (bs rs : List Int) (a' : Nat) (sd' : Int), (Scl bs rs ∧ bs.length ≤ 4 ∧ ∀ b ∈ bs, b ≤ 16000) ∧ a' ≤ a0 + 40 ∧ r = .agg [.sl 1 0 bs.length, .sl 2 0 bs.length] ∧ hp = [srcB code a' sd', intB bs, intB rs]) := by
  refine CallP.out (t := .mk) (go_in (md := md50) mixed Tryz.func50 rfl go50 (by kernel_rfl) ?_)
  simp only [Zu, Za, Zb, Zg, Zh, Zi, Zk, Zl, Zm, Zn, ↓reduceIte, reduceCtorEq, Zd, Ze, Zc, Zf, Z50]
  refine pick_at hc hl (by omega) (by omega) (by omega) (fun x a1 sd1 hx ha1 => ?_)
  have e1 : IntKind.i64.wrap (1 + x) = 1 + x := w64 (by omega) (by omega)
  simp only [Zu, Za, Zb, Zg, Zh, Zi, Zk, Zl, Zm, Zn, ↓reduceIte, reduceCtorEq, Zd, Ze, Zc, Zf, Z50, e1]
  refine go_round (md := md50) mixed (by kernel_rfl) (fun d : {d : Dr // d.Ok a0} => drSt code d.1) (fun d => d.1.n.toNat) ⟨⟨[], [], a1, sd1, 0, 1 + x⟩, ⟨trivial, rfl, by simp, by simp, .inr ⟨rfl, rfl⟩, by show 0 ≤ 1 + x; omega, by show ((0 : Nat) : Int) + (1 + x) ≤ 4; omega, by show 1 ≤ ((0 : Nat) : Int) + (1 + x); omega, by show (a1 : Int) ≤ a0 + 2 + 8 * ((0 : Nat) : Int); omega, by show (0 : Int) ≤ 4000 * ((0 : Nat) : Int); omega⟩⟩ ?_ ?_
  · show Weak _ _ ⟨_, _⟩
    exact weak_drop (by simp) (by simp [DropHp, ints_below, flts_below, srcB_below, resB, allBelow_cons, allBelow_nil, below, belowM, belowL]) (by simp [DropTm, DropV, below, belowM, belowL, srcB_below, resB, allBelow_cons, allBelow_nil, below, belowM, belowL])
  · rintro ⟨⟨bs, rs, a, sd, top, n⟩, D⟩
    have D2 := D.all
    have D3 := D.at_
    have D4 := D.cap
    have D5 := D.n0
    simp only [] at D2 D3 D4 D5
    cases bs with
    | nil =>
      simp only [Zu, Za, Zb, Zg, Zh, Zi, Zk, Zl, Zm, Zn, ↓reduceIte, reduceCtorEq, Zd, Ze, Zc, Zf, Z50, drSt, resB]
      refine br_intro (fun g => ?_) (fun g => ?_) <;> simp only [Zu, Za, Zb, Zg, Zh, Zi, Zk, Zl, Zm, Zn, ↓reduceIte, reduceCtorEq, Zd, Ze, Zc, Zf, Z50, drSt, resB, allW_int, fits, List.isEmpty_cons, brk_false, Nat.reduceMul]
      · have g' := of_decide_eq_true g
        refine pick_at hc hl (by simp at D3; omega) (by omega) (by omega) (fun x1 a1 sd1 hx1 ha1 => ?_)
        have e1 : IntKind.i64.wrap (100 * x1) = 100 * x1 := w64 (by omega) (by omega)
        simp only [Zu, Za, Zb, Zg, Zh, Zi, Zk, Zl, Zm, Zn, ↓reduceIte, reduceCtorEq, Zd, Ze, Zc, Zf, Z50, resB, allW_int, fits, List.isEmpty_cons, brk_false, Nat.reduceMul, e1]
        refine one_at hc hl (by simp at D3; omega) (by omega) (by omega) (fun x2 a2 sd2 ha2 => ?_)
        have fin : ∀ (rate : Int) (a3 : Nat) (sd3 : Int), 0 ≤ rate → rate ≤ 10000 → a3 ≤ a2 + 2 → True := by intros; trivial
        simp only [Zu, Za, Zb, Zg, Zh, Zi, Zk, Zl, Zm, Zn, ↓reduceIte, reduceCtorEq, Zd, Ze, Zc, Zf, Z50, resB, allW_int, fits, List.isEmpty_cons, brk_false, Nat.reduceMul, e1]
        refine br_intro (fun u => ?_) (fun u => ?_) <;> simp only [Zu, Za, Zb, Zg, Zh, Zi, Zk, Zl, Zm, Zn, ↓reduceIte, reduceCtorEq, Zd, Ze, Zc, Zf, Z50, resB, allW_int, fits, List.isEmpty_cons, brk_false, Nat.reduceMul, e1]
        · refine pick_at hc hl (by simp at D3; omega) (by omega) (by omega) (fun x3 a3 sd3 hx3 ha3 => ?_)
          simp only [Zu, Za, Zb, Zg, Zh, Zi, Zk, Zl, Zm, Zn, ↓reduceIte, reduceCtorEq, Zd, Ze, Zc, Zf, Z50, resB, allW_int, fits, List.isEmpty_cons, brk_false, Nat.reduceMul, e1]
          refine pick_at hc hl (by simp at D3; omega) (by omega) (by omega) (fun x4 a4 sd4 hx4 ha4 => ?_)
          have w1 : IntKind.i64.wrap (100 * x4) = 100 * x4 := w64 (by omega) (by omega)
          have w2 : IntKind.i64.wrap (1 + 100 * x4) = 1 + 100 * x4 := w64 (by omega) (by omega)
          have w3 : IntKind.i64.wrap (top + (1 + 100 * x4)) = top + (1 + 100 * x4) := w64 (by have := D.top0; simp only [] at this; omega) (by simp at D4; omega)
          have w4 : IntKind.i64.wrap (n - 1) = n - 1 := w64 (by omega) (by omega)
          simp only [Zu, Za, Zb, Zg, Zh, Zi, Zk, Zl, Zm, Zn, ↓reduceIte, reduceCtorEq, Zd, Ze, Zc, Zf, Z50, w1, w2, w3, w4]
          refine ⟨⟨⟨[] ++ [top], rs ++ [x3], a4, sd4, _, n - 1⟩, D.next (r := x3) (x := x4) (a' := a4) g' (by omega) hx4 (by omega) sd4⟩, by show (n - 1).toNat < n.toNat; omega, ?_⟩
          have rs0 : rs = [] := by have := D.len; simpa using this
          subst rs0
          show Weak 1 _ ⟨_, _⟩
          exact weak_names [0, 1, 2, 4, 6] (by decide) (by decide) (by decide) (by simp [SubG, renB, ints_ren, ints_below, kint_ren, kint_below, ren, renM, renL, srcB, intB, resB, ints, allBelow_cons, allBelow_nil, below, belowM, belowL]) (by simp [LeTm, LeV, ren, renM, renL, below, belowM, belowL, srcB, intB, resB, ints, allBelow_cons, allBelow_nil, below, belowM, belowL])
        · refine pick_at hc hl (by simp at D3; omega) (by omega) (by omega) (fun x4 a4 sd4 hx4 ha4 => ?_)
          have w1 : IntKind.i64.wrap (100 * x4) = 100 * x4 := w64 (by omega) (by omega)
          have w2 : IntKind.i64.wrap (1 + 100 * x4) = 1 + 100 * x4 := w64 (by omega) (by omega)
          have w3 : IntKind.i64.wrap (top + (1 + 100 * x4)) = top + (1 + 100 * x4) := w64 (by have := D.top0; simp only [] at this; omega) (by simp at D4; omega)
          have w4 : IntKind.i64.wrap (n - 1) = n - 1 := w64 (by omega) (by omega)
          simp only [Zu, Za, Zb, Zg, Zh, Zi, Zk, Zl, Zm, Zn, ↓reduceIte, reduceCtorEq, Zd, Ze, Zc, Zf, Z50, w1, w2, w3, w4]
          refine ⟨⟨⟨[] ++ [top], rs ++ [(100 * x1)], a4, sd4, _, n - 1⟩, D.next (r := (100 * x1)) (x := x4) (a' := a4) g' (by omega) hx4 (by omega) sd4⟩, by show (n - 1).toNat < n.toNat; omega, ?_⟩
          have rs0 : rs = [] := by have := D.len; simpa using this
          subst rs0
          show Weak 1 _ ⟨_, _⟩
          exact weak_names [0, 1, 2, 4, 6] (by decide) (by decide) (by decide) (by simp [SubG, renB, ints_ren, ints_below, kint_ren, kint_below, ren, renM, renL, srcB, intB, resB, ints, allBelow_cons, allBelow_nil, below, belowM, belowL]) (by simp [LeTm, LeV, ren, renM, renL, below, belowM, belowL, srcB, intB, resB, ints, allBelow_cons, allBelow_nil, below, belowM, belowL])
      · exfalso
        have := D.some
        simp at this
        have := of_decide_eq_false g
        omega
    | cons b0 bs =>
      have hl2 : rs.length = (b0 :: bs).length := D.len
      have hcap : (b0 :: bs).length ≤ 4 := by omega
      have hne : (b0 :: bs) ≠ [] := by simp
      generalize b0 :: bs = cs at hne hl2 hcap D D2 D3 D4
      rw [drSt_cons code _ hne]
      simp only [Zu, Za, Zb, Zg, Zh, Zi, Zk, Zl, Zm, Zn, ↓reduceIte, reduceCtorEq, Zd, Ze, Zc, Zf, Z50, intB]
      refine br_intro (fun g => ?_) (fun g => ?_) <;> simp only [Zu, Za, Zb, Zg, Zh, Zi, Zk, Zl, Zm, Zn, ↓reduceIte, reduceCtorEq, Zd, Ze, Zc, Zf, Z50, resB, allW_int, fits, List.isEmpty_cons, brk_false, Nat.reduceMul, hl2, srcB_kill]
      · have g' := of_decide_eq_true g
        refine ⟨by omega, pick_at hc hl (by omega) (by omega) (by omega) (fun x1 a1 sd1 hx1 ha1 => ?_)⟩
        have e1 : IntKind.i64.wrap (100 * x1) = 100 * x1 := w64 (by omega) (by omega)
        simp only [Zu, Za, Zb, Zg, Zh, Zi, Zk, Zl, Zm, Zn, ↓reduceIte, reduceCtorEq, Zd, Ze, Zc, Zf, Z50, resB, allW_int, fits, List.isEmpty_cons, brk_false, Nat.reduceMul, e1, srcB_kill]
        refine one_at hc hl (by omega) (by omega) (by omega) (fun x2 a2 sd2 ha2 => ?_)
        simp only [Zu, Za, Zb, Zg, Zh, Zi, Zk, Zl, Zm, Zn, ↓reduceIte, reduceCtorEq, Zd, Ze, Zc, Zf, Z50, resB, allW_int, fits, List.isEmpty_cons, brk_false, Nat.reduceMul, e1, srcB_kill]
        refine br_intro (fun u => ?_) (fun u => ?_) <;> simp only [Zu, Za, Zb, Zg, Zh, Zi, Zk, Zl, Zm, Zn, ↓reduceIte, reduceCtorEq, Zd, Ze, Zc, Zf, Z50, resB, allW_int, fits, List.isEmpty_cons, brk_false, Nat.reduceMul, e1, srcB_kill]
        · refine pick_at hc hl (by omega) (by omega) (by omega) (fun x3 a3 sd3 hx3 ha3 => ?_)
          simp only [Zu, Za, Zb, Zg, Zh, Zi, Zk, Zl, Zm, Zn, ↓reduceIte, reduceCtorEq, Zd, Ze, Zc, Zf, Z50, resB, allW_int, fits, List.isEmpty_cons, brk_false, Nat.reduceMul, e1, hl2, srcB_kill]
          refine ⟨by omega, pick_at hc hl (by omega) (by omega) (by omega) (fun x4 a4 sd4 hx4 ha4 => ?_)⟩
          have w1 : IntKind.i64.wrap (100 * x4) = 100 * x4 := w64 (by omega) (by omega)
          have w2 : IntKind.i64.wrap (1 + 100 * x4) = 1 + 100 * x4 := w64 (by omega) (by omega)
          have w3 : IntKind.i64.wrap (top + (1 + 100 * x4)) = top + (1 + 100 * x4) := w64 (by have := D.top0; simp only [] at this; omega) (by omega)
          have w4 : IntKind.i64.wrap (n - 1) = n - 1 := w64 (by omega) (by omega)
          simp only [Zu, Za, Zb, Zg, Zh, Zi, Zk, Zl, Zm, Zn, ↓reduceIte, reduceCtorEq, Zd, Ze, Zc, Zf, Z50, w1, w2, w3, w4, srcB_kill]
          refine ⟨⟨⟨cs ++ [top], rs ++ [x3], a4, sd4, _, n - 1⟩, D.next (r := x3) (x := x4) (a' := a4) g' (by omega) hx4 (by omega) sd4⟩, by show (n - 1).toNat < n.toNat; omega, ?_⟩
          rw [drSt_cons code _ (by simp)]
          exact weak_names [0, 1, 2, 3, 4] (by decide) (by decide) (by decide) (by simp [SubG, renB, ints_ren, ints_below, kint_ren, kint_below, ren, renM, renL, srcB, intB, resB, allBelow_cons, allBelow_nil, below, belowM, belowL, hl2]) (by simp [LeTm, LeV, ren, renM, renL, below, belowM, belowL, srcB, intB, resB, allBelow_cons, allBelow_nil, below, belowM, belowL, hl2])
        · refine ⟨by omega, by omega, pick_at hc hl (by omega) (by omega) (by omega) (fun x4 a4 sd4 hx4 ha4 => ?_)⟩
          have w1 : IntKind.i64.wrap (100 * x4) = 100 * x4 := w64 (by omega) (by omega)
          have w2 : IntKind.i64.wrap (1 + 100 * x4) = 1 + 100 * x4 := w64 (by omega) (by omega)
          have w3 : IntKind.i64.wrap (top + (1 + 100 * x4)) = top + (1 + 100 * x4) := w64 (by have := D.top0; simp only [] at this; omega) (by omega)
          have w4 : IntKind.i64.wrap (n - 1) = n - 1 := w64 (by omega) (by omega)
          simp only [Zu, Za, Zb, Zg, Zh, Zi, Zk, Zl, Zm, Zn, ↓reduceIte, reduceCtorEq, Zd, Ze, Zc, Zf, Z50, w1, w2, w3, w4, srcB_kill]
          refine ⟨⟨⟨cs ++ [top], rs ++ [(100 * x1)], a4, sd4, _, n - 1⟩, D.next (r := (100 * x1)) (x := x4) (a' := a4) g' (by omega) hx4 (by omega) sd4⟩, by show (n - 1).toNat < n.toNat; omega, ?_⟩
          rw [drSt_cons code _ (by simp)]
          exact weak_names [0, 1, 2, 3, 4] (by decide) (by decide) (by decide) (by simp [SubG, renB, ints_ren, ints_below, kint_ren, kint_below, ren, renM, renL, srcB, intB, resB, allBelow_cons, allBelow_nil, below, belowM, belowL, hl2]) (by simp [LeTm, LeV, ren, renM, renL, below, belowM, belowL, srcB, intB, resB, allBelow_cons, allBelow_nil, below, belowM, belowL, hl2])
      · have g' := of_decide_eq_false g
        obtain ⟨f1, f2, f3, f4⟩ := D.done (by omega)
        exact PostR.tell [0, 3, 4] (hp2 := [srcB code a sd, intB cs, intB rs]) (by decide) (by decide) (by decide) (by simp [SubG, renB, ints_ren, ints_below, srcB, intB, allBelow_cons, allBelow_nil, below, belowM, belowL, ren, renM, renL]) rfl rfl ⟨cs, rs, a, sd, ⟨f1, f2, f3⟩, f4, rfl, rfl⟩
def fltB (xs : List Nat) : Blk := { ty := 82, w := 1, els := flts xs }
end Go.Proofs.YtodjjpmigcacoaaGreatDoor
