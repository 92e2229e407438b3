/- Scales in plain numbers: dues, nets, rates, the least amount. -/
import Derived.Test.YtmngfcklmikbfaaAbsZ
set_option linter.unusedSimpArgs false
set_option linter.unusedVariables false
namespace Go.Proofs.Ytmngfcklmikbfaa

def nxt : List Int → Int → Int
  | [], c => c
  | b :: _, c => if b < c then b else c
def exF : List Int → List Int → Int → Int
  | b :: bs, r :: rs, c => if c ≤ b then 0 else (nxt bs c - b) * r + exF bs rs c
  | _, _, _ => 0
def Asc : List Int → Prop
  | a :: b :: l => a < b ∧ Asc (b :: l)
  | _ => True
def rtG : List Int → List Int → Int → Int
  | _ :: bs, r :: rs, c => match bs with
    | [] => r
    | b' :: _ => if b' ≤ c then rtG bs rs c else r
  | _, _, _ => 0

theorem mul_nn {a b : Int} (ha : 0 ≤ a) (hb : 0 ≤ b) : 0 ≤ a * b := Int.mul_nonneg ha hb
theorem mul_le {a b c : Int} (ha : 0 ≤ a) (hb : b ≤ c) : a * b ≤ a * c := Int.mul_le_mul_of_nonneg_left hb ha

theorem ex_bounds (R c : Int) : ∀ (bs rs : List Int) (b : Int), Asc (b :: bs) → rs.length = bs.length + 1 → (∀ r ∈ rs, 0 ≤ r ∧ r ≤ R) → b ≤ c → 0 ≤ exF (b :: bs) rs c ∧ exF (b :: bs) rs c ≤ (c - b) * R
  | [], [r], b, _, _, hr, hc => by
    have := hr r (by simp)
    have h1 := mul_nn (show 0 ≤ c - b by omega) this.1
    have h2 := mul_le (show 0 ≤ c - b by omega) this.2
    have h3 := mul_nn (show 0 ≤ c - b by omega) (show 0 ≤ R by omega)
    simp only [exF, nxt]
    split <;> omega
  | b' :: bs, r :: rs, b, ha, hl, hr, hc => by
    have hb := ha.1
    have h0 := hr r (by simp)
    have h3 := mul_nn (show 0 ≤ c - b by omega) (show 0 ≤ R by omega)
    have e : exF (b :: b' :: bs) (r :: rs) c = if c ≤ b then 0 else (nxt (b' :: bs) c - b) * r + exF (b' :: bs) rs c := rfl
    rw [e]
    split
    · omega
    · simp only [nxt]
      by_cases h : b' < c
      · rw [if_pos h]
        have ih := ex_bounds R c bs rs b' ha.2 (by simpa using hl) (fun x hx => hr x (by simp [hx])) (by omega)
        have h1 := mul_nn (show 0 ≤ b' - b by omega) h0.1
        have h2 := mul_le (show 0 ≤ b' - b by omega) h0.2
        have h4 : (c - b) * R = (c - b') * R + (b' - b) * R := by rw [← Int.add_mul]; congr 1; omega
        omega
      · rw [if_neg h]
        have e2 : exF (b' :: bs) rs c = 0 := by
          cases rs with
          | nil => rfl
          | cons r' rs => simp only [exF]; rw [if_pos (by omega)]
        have h1 := mul_nn (show 0 ≤ c - b by omega) h0.1
        have h2 := mul_le (show 0 ≤ c - b by omega) h0.2
        omega
  | [], [], _, _, hl, _, _ => by simp at hl
  | [], _ :: _ :: _, _, _, hl, _, _ => by simp at hl
  | _ :: _, [], _, _, hl, _, _ => by simp at hl

theorem ex_zero (bs rs : List Int) (b c : Int) (h : c ≤ b) : exF (b :: bs) rs c = 0 := by
  cases rs with
  | nil => rfl
  | cons r rs => simp only [exF]; rw [if_pos h]

theorem ex_step (c : Int) : ∀ (bs rs : List Int) (b : Int), Asc (b :: bs) → rs.length = bs.length + 1 → b ≤ c → exF (b :: bs) rs (c + 1) = exF (b :: bs) rs c + rtG (b :: bs) rs c
  | [], [r], b, _, _, hc => by
    simp only [exF, nxt, rtG]
    rw [if_neg (by omega)]
    have h4 : (c + 1 - b) * r = (c - b) * r + r := by rw [show c + 1 - b = (c - b) + 1 from by omega, Int.add_mul, Int.one_mul]
    split
    · have : c - b = 0 := by omega
      rw [this] at h4
      omega
    · omega
  | b' :: bs, r :: rs, b, ha, hl, hc => by
    have hb := ha.1
    have e : ∀ c, exF (b :: b' :: bs) (r :: rs) c = if c ≤ b then 0 else (nxt (b' :: bs) c - b) * r + exF (b' :: bs) rs c := fun _ => rfl
    rw [e, e, if_neg (by omega)]
    show _ = _ + (if b' ≤ c then rtG (b' :: bs) rs c else r)
    by_cases h : b' ≤ c
    · have ih := ex_step c bs rs b' ha.2 (by simpa using hl) h
      simp only [nxt]
      rw [if_pos h, if_pos (show b' < c + 1 by omega), if_neg (show ¬ c ≤ b by omega), ih]
      by_cases h2 : b' < c
      · rw [if_pos h2]; omega
      · have : c = b' := by omega
        rw [if_neg h2, this]; omega
    · simp only [nxt]
      rw [if_neg h, if_neg (show ¬ b' < c + 1 by omega), if_neg (show ¬ b' < c by omega), ex_zero bs rs b' (c + 1) (by omega), ex_zero bs rs b' c (by omega)]
      have h4 : (c + 1 - b) * r = (c - b) * r + r := by rw [show c + 1 - b = (c - b) + 1 from by omega, Int.add_mul, Int.one_mul]
      split
      · have : c - b = 0 := by omega
        rw [this] at h4
        omega
      · omega
  | [], [], _, _, hl, _ => by simp at hl
  | [], _ :: _ :: _, _, _, hl, _ => by simp at hl
  | _ :: _, [], _, _, hl, _ => by simp at hl

theorem rt_bounds (R c : Int) (hR : 0 ≤ R) : ∀ (bs rs : List Int), (∀ r ∈ rs, 0 ≤ r ∧ r ≤ R) → 0 ≤ rtG bs rs c ∧ rtG bs rs c ≤ R
  | [], _, _ => by simp [rtG, hR]
  | _ :: _, [], _ => by simp [rtG, hR]
  | [_], r :: rs, h => h r (by simp)
  | _ :: b' :: bs, r :: rs, h => by
    show 0 ≤ (if b' ≤ c then rtG (b' :: bs) rs c else r) ∧ (if b' ≤ c then rtG (b' :: bs) rs c else r) ≤ R
    have ih := rt_bounds R c hR (b' :: bs) rs (fun x hx => h x (by simp [hx]))
    have := h r (by simp)
    split <;> omega

/-! Rounding. -/
def upB (q r b w : Int) : Bool := (w == 1 && decide (r ≥ b - r)) || (w == 2 && (decide (r > b - r) || (decide (r = b - r) && decide (q % 2 = 1)))) || (w == 3 && decide (r > 0))
def rnd (a b w : Int) : Int := a / b + if upB (a / b) (a % b) b w then 1 else 0

theorem rnd0 (a b : Int) : rnd a b 0 = a / b := by simp [rnd, upB]
theorem rnd1 (a b : Int) : rnd a b 1 = a / b + if a % b ≥ b - a % b then 1 else 0 := by simp [rnd, upB]
theorem rnd2 (a b : Int) : rnd a b 2 = a / b + if a % b > b - a % b ∨ a % b = b - a % b ∧ a / b % 2 = 1 then 1 else 0 := by simp [rnd, upB]
theorem rnd3 (a b : Int) : rnd a b 3 = a / b + if a % b > 0 then 1 else 0 := by simp [rnd, upB]

theorem ways {w : Int} (h0 : 0 ≤ w) (h3 : w ≤ 3) : w = 0 ∨ w = 1 ∨ w = 2 ∨ w = 3 := by omega
theorem rnd_near (a b w : Int) (hb : 0 < b) (ha : 0 ≤ a) : a / b ≤ rnd a b w ∧ rnd a b w ≤ a / b + 1 ∧ (a % b = 0 → rnd a b w = a / b) := by
  have h1 := Int.emod_nonneg a (show b ≠ 0 by omega)
  have h2 := Int.emod_lt_of_pos a hb
  unfold rnd
  refine ⟨by split <;> omega, by split <;> omega, fun h => ?_⟩
  have : upB (a / b) (a % b) b w = false := by
    rw [h]
    simp only [upB, Bool.or_eq_false_iff, Bool.and_eq_false_iff, decide_eq_false_iff_not]
    exact ⟨⟨.inr (by omega), .inr ⟨by omega, .inl (by omega)⟩⟩, .inr (by omega)⟩
  rw [this]; simp
theorem rnd_mono {a a' w : Int} (h0 : 0 ≤ w) (h3 : w ≤ 3) (h : a ≤ a') : rnd a 10000 w ≤ rnd a' 10000 w := by
  rcases ways h0 h3 with rfl | rfl | rfl | rfl
  · rw [rnd0, rnd0]; omega
  · rw [rnd1, rnd1]; split <;> split <;> omega
  · rw [rnd2, rnd2]; split <;> split <;> omega
  · rw [rnd3, rnd3]; split <;> split <;> omega
theorem rnd_step {a a' w : Int} (h0 : 0 ≤ w) (h3 : w ≤ 3) (h : a' ≤ a + 9999) : rnd a' 10000 w ≤ rnd a 10000 w + 1 := by
  rcases ways h0 h3 with rfl | rfl | rfl | rfl
  · rw [rnd0, rnd0]; omega
  · rw [rnd1, rnd1]; split <;> split <;> omega
  · rw [rnd2, rnd2]; split <;> split <;> omega
  · rw [rnd3, rnd3]; split <;> split <;> omega
theorem rnd_nn {a w : Int} (ha : 0 ≤ a) (b : Int) (hb : 0 < b) : 0 ≤ rnd a b w := by
  have := (rnd_near a b w hb ha).1
  have := Int.ediv_nonneg ha (show 0 ≤ b by omega)
  omega
theorem rnd_whole (c w : Int) (hc : 0 ≤ c) : rnd (c * 10000) 10000 w = c := by
  have h := (rnd_near (c * 10000) 10000 w (by omega) (by omega)).2.2 (by omega)
  omega
theorem rnd_le {a c w : Int} (h0 : 0 ≤ w) (h3 : w ≤ 3) (hc : 0 ≤ c) (h : a ≤ c * 10000) : rnd a 10000 w ≤ c := by
  have := rnd_mono h0 h3 h
  rwa [rnd_whole c w hc] at this

theorem ways_order {a : Int} (ha : 0 ≤ a) : rnd a 10000 0 ≤ rnd a 10000 2 ∧ rnd a 10000 2 ≤ rnd a 10000 1 ∧ rnd a 10000 1 ≤ rnd a 10000 3 ∧ rnd a 10000 3 ≤ rnd a 10000 0 + 1 := by
  rw [rnd0, rnd1, rnd2, rnd3]
  refine ⟨?_, ?_, ?_, ?_⟩ <;> split <;> (try split) <;> omega
theorem mean_quot {p q g e k : Int} (h1 : p * g = e) (h2 : q * g = 10000 * k) (hg : 0 < g) (hk : 0 < k) : p * k / q = e / 10000 := by
  have e1 : p * k * g = e * k := by rw [← h1, Int.mul_assoc, Int.mul_comm k g, ← Int.mul_assoc]
  rw [← Int.mul_ediv_mul_of_pos_left (p * k) q hg, e1, h2, Int.mul_ediv_mul_of_pos_left e 10000 hk]
theorem le_mul_pos {p g : Int} (hp : 0 ≤ p) (hg : 0 < g) : p ≤ p * g := by
  have := Int.mul_le_mul_of_nonneg_left (show (1 : Int) ≤ g by omega) hp
  omega
theorem mul_bounds {a b A B : Int} (a0 : 0 ≤ a) (a1 : a ≤ A) (b0 : 0 ≤ b) (b1 : b ≤ B) : 0 ≤ a * b ∧ a * b ≤ A * B :=
  ⟨Int.mul_nonneg a0 b0, Int.le_trans (Int.mul_le_mul_of_nonneg_right a1 b0) (Int.mul_le_mul_of_nonneg_left b1 (by omega))⟩

theorem round_law {a b : Int} (ha : 0 ≤ a) (hb : 0 < b) :
    rnd a b 0 * b ≤ a ∧ a < (rnd a b 0 + 1) * b ∧ a ≤ rnd a b 3 * b ∧ (rnd a b 3 - 1) * b < a ∧ 2 * a - b < 2 * rnd a b 1 * b ∧ 2 * rnd a b 1 * b ≤ 2 * a + b ∧
      (rnd a b 1 = rnd a b 2 ∨ (2 * rnd a b 1 * b = 2 * a + b ∧ rnd a b 2 = rnd a b 1 - 1 ∧ rnd a b 2 % 2 = 0)) := by
  have h1 := Int.emod_nonneg a (show b ≠ 0 by omega)
  have h2 := Int.emod_lt_of_pos a hb
  have h3 := Int.emod_add_mul_ediv a b
  have h4 := Int.ediv_nonneg ha (show 0 ≤ b by omega)
  rw [rnd0, rnd1, rnd2, rnd3]
  generalize a / b = q at *
  generalize a % b = r at *
  have e0 : q * b = b * q := Int.mul_comm q b
  have e1 : (q + 1) * b = b * q + b := by rw [Int.add_mul, Int.one_mul, e0]
  have e2 : (q + 1 - 1) * b = b * q := by rw [Int.add_sub_cancel, e0]
  have e3 : (q - 1) * b = b * q - b := by rw [Int.sub_mul, Int.one_mul, e0]
  have e4 : 2 * q * b = 2 * (b * q) := by rw [Int.mul_assoc, e0]
  have e5 : 2 * (q + 1) * b = 2 * (b * q) + 2 * b := by rw [Int.mul_assoc, e1]; omega
  by_cases c1 : r > 0 <;> by_cases c2 : r ≥ b - r <;> by_cases c3 : (r > b - r ∨ r = b - r ∧ q % 2 = 1) <;>
    simp only [c1, c2, c3, if_true, if_false, Int.add_zero, e0, e1, e2, e3, e4, e5] <;> refine ⟨by omega, by omega, by omega, by omega, by omega, by omega, by first | exact .inl trivial | exact .inl rfl | omega⟩

/-! Scales that are valid. -/
structure Scl (bs rs : List Int) : Prop where
  asc : Asc bs
  len : rs.length = bs.length
  zero : bs.head? = some 0
  cap : bs.length ≤ 8
  top : ∀ b ∈ bs, 0 ≤ b ∧ b ≤ 1000000000000
  rate : ∀ r ∈ rs, 0 ≤ r ∧ r ≤ 10000
theorem Scl.split {bs rs : List Int} (S : Scl bs rs) : ∃ tl, bs = 0 :: tl ∧ rs.length = tl.length + 1 := by
  have h := S.zero
  cases bs with
  | nil => simp at h
  | cons b tl => simp at h; exact ⟨tl, by rw [h], by rw [S.len]; rfl⟩
theorem Scl.ex {bs rs : List Int} (S : Scl bs rs) {c : Int} (hc : 0 ≤ c) : 0 ≤ exF bs rs c ∧ exF bs rs c ≤ c * 10000 := by
  obtain ⟨tl, rfl, hl⟩ := S.split
  have := ex_bounds 10000 c tl rs 0 S.asc hl S.rate hc
  simpa using this
theorem Scl.step {bs rs : List Int} (S : Scl bs rs) {c : Int} (hc : 0 ≤ c) : exF bs rs (c + 1) = exF bs rs c + rtG bs rs c := by
  obtain ⟨tl, rfl, hl⟩ := S.split
  exact ex_step c tl rs 0 S.asc hl hc
def dueF (bs rs : List Int) (c w : Int) : Int := rnd (exF bs rs c) 10000 w
def netF (bs rs : List Int) (c w : Int) : Int := c - dueF bs rs c w
theorem Scl.due {bs rs : List Int} (S : Scl bs rs) {c w : Int} (hc : 0 ≤ c) (h0 : 0 ≤ w) (h3 : w ≤ 3) : 0 ≤ dueF bs rs c w ∧ dueF bs rs c w ≤ c :=
  ⟨rnd_nn (S.ex hc).1 _ (by omega), rnd_le h0 h3 hc (S.ex hc).2⟩
theorem Scl.due_step {bs rs : List Int} (S : Scl bs rs) {c w : Int} (hc : 0 ≤ c) (h0 : 0 ≤ w) (h3 : w ≤ 3) : dueF bs rs c w ≤ dueF bs rs (c + 1) w := by
  have h := (rt_bounds 10000 c (by omega) bs rs S.rate).1
  refine rnd_mono h0 h3 ?_
  rw [S.step hc]; omega
theorem Scl.net_step {bs rs : List Int} (S : Scl bs rs) (hr : ∀ r ∈ rs, r ≤ 9999) {c w : Int} (hc : 0 ≤ c) (h0 : 0 ≤ w) (h3 : w ≤ 3) : netF bs rs c w ≤ netF bs rs (c + 1) w ∧ netF bs rs (c + 1) w ≤ netF bs rs c w + 1 := by
  have h := (rt_bounds 9999 c (by omega) bs rs (fun r hx => ⟨(S.rate r hx).1, hr r hx⟩)).2
  have h1 := S.due_step hc h0 h3
  have h2 : dueF bs rs (c + 1) w ≤ dueF bs rs c w + 1 := by
    refine rnd_step h0 h3 ?_
    rw [S.step hc]; omega
  unfold netF
  omega
theorem mono_of {f : Int → Int} {a : Int} (h : ∀ c, a ≤ c → f c ≤ f (c + 1)) : ∀ (n : Nat) (c : Int), a ≤ c → f c ≤ f (c + n)
  | 0, c, _ => by simp
  | n + 1, c, hc => by
    have h1 := mono_of h n c hc
    have h2 := h (c + n) (by omega)
    rw [show c + ((n + 1 : Nat) : Int) = c + n + 1 from by omega]
    omega
theorem mono_le {f : Int → Int} {a : Int} (h : ∀ c, a ≤ c → f c ≤ f (c + 1)) {c d : Int} (hc : a ≤ c) (hd : c ≤ d) : f c ≤ f d := by
  have := mono_of h (d - c).toNat c hc
  rwa [show c + ((d - c).toNat : Int) = d from by omega] at this
theorem Scl.net_mono {bs rs : List Int} (S : Scl bs rs) (hr : ∀ r ∈ rs, r ≤ 9999) {w : Int} (h0 : 0 ≤ w) (h3 : w ≤ 3) {c d : Int} (hc : 0 ≤ c) (hd : c ≤ d) : netF bs rs c w ≤ netF bs rs d w :=
  mono_le (f := fun c => netF bs rs c w) (a := 0) (fun c hc => (S.net_step hr hc h0 h3).1) hc hd
theorem Scl.due_mono {bs rs : List Int} (S : Scl bs rs) {w : Int} (h0 : 0 ≤ w) (h3 : w ≤ 3) {c d : Int} (hc : 0 ≤ c) (hd : c ≤ d) : dueF bs rs c w ≤ dueF bs rs d w :=
  mono_le (f := fun c => dueF bs rs c w) (a := 0) (fun c hc => S.due_step hc h0 h3) hc hd

/-! The least amount. -/
def lsF (q : Int → Bool) (lo hi : Int) : Int :=
  if lo < hi then (if q ((lo + hi) / 2) then lsF q lo ((lo + hi) / 2) else lsF q ((lo + hi) / 2 + 1) hi) else lo
termination_by (hi - lo).toNat
decreasing_by all_goals omega
theorem lsF_spec (q : Int → Bool) (lo hi : Int) (h : lo ≤ hi) (hq : q hi = true) (hm : ∀ x y, lo ≤ x → x ≤ y → y ≤ hi → q x = true → q y = true) :
    lo ≤ lsF q lo hi ∧ lsF q lo hi ≤ hi ∧ q (lsF q lo hi) = true ∧ ∀ x, lo ≤ x → x < lsF q lo hi → q x = false := by
  fun_induction lsF q lo hi with
  | case1 lo hi h1 h2 ih =>
    obtain ⟨a, b, c, d⟩ := ih (by omega) h2 (fun x y hx hy hz => hm x y hx hy (by omega))
    exact ⟨a, by omega, c, d⟩
  | case2 lo hi h1 h2 ih =>
    obtain ⟨a, b, c, d⟩ := ih (by omega) hq (fun x y hx hy hz => hm x y (by omega) hy hz)
    refine ⟨by omega, b, c, fun x hx hl => ?_⟩
    by_cases hx' : x ≤ (lo + hi) / 2
    · cases hqx : q x with
      | false => rfl
      | true => exact absurd (hm x _ hx hx' (by omega) hqx) h2
    · exact d x (by omega) hl
  | case3 lo hi h1 =>
    have : lo = hi := by omega
    subst this
    exact ⟨by omega, by omega, hq, fun x h1 h2 => by omega⟩
end Go.Proofs.Ytmngfcklmikbfaa
