/- Scales in plain numbers: dues, nets, rates, the least amount. -/
import Derived.Test.YtimnfechlomkpaaAbsM4
set_option linter.unusedSimpArgs false
set_option linter.unusedVariables false
namespace Go.Proofs.Ytimnfechlomkpaa

def nxt : List Int → Int → Int
  | [], c => c
  | b :: _, c => if b < c then b else c
def exF : List Int → List Int → Int → Int
  | b :: bs, r :: rs, c => if c ≤ b then 0 else (nxt bs c - b) * r + exF bs rs c
  | _, _, _ => 0
def Asc : List Int → Prop
  | a :: b :: l => a < b ∧ Asc (b :: l)
  | _ => True
def rtG : List Int → List Int → Int → Int
  | _ :: bs, r :: rs, c => match bs with
    | [] => r
    | b' :: _ => if b' ≤ c then rtG bs rs c else r
  | _, _, _ => 0

theorem mul_nn {a b : Int} (ha : 0 ≤ a) (hb : 0 ≤ b) : 0 ≤ a * b := Int.mul_nonneg ha hb
theorem mul_le {a b c : Int} (ha : 0 ≤ a) (hb : b ≤ c) : a * b ≤ a * c := Int.mul_le_mul_of_nonneg_left hb ha

theorem ex_bounds (R c : Int) : ∀ (bs rs : List Int) (b : Int), Asc (b :: bs) → rs.length = bs.length + 1 → (∀ r ∈ rs, 0 ≤ r ∧ r ≤ R) → b ≤ c → 0 ≤ exF (b :: bs) rs c ∧ exF (b :: bs) rs c ≤ (c - b) * R
  | [], [r], b, _, _, hr, hc => by
    have := hr r (by simp)
    have h1 := mul_nn (show 0 ≤ c - b by omega) this.1
    have h2 := mul_le (show 0 ≤ c - b by omega) this.2
    have h3 := mul_nn (show 0 ≤ c - b by omega) (show 0 ≤ R by omega)
    simp only [exF, nxt]
    split <;> omega
  | b' :: bs, r :: rs, b, ha, hl, hr, hc => by
    have hb := ha.1
    have h0 := hr r (by simp)
    have h3 := mul_nn (show 0 ≤ c - b by omega) (show 0 ≤ R by omega)
    have e : exF (b :: b' :: bs) (r :: rs) c = if c ≤ b then 0 else (nxt (b' :: bs) c - b) * r + exF (b' :: bs) rs c := rfl
    rw [e]
    split
    · omega
    · simp only [nxt]
      by_cases h : b' < c
      · rw [if_pos h]
        have ih := ex_bounds R c bs rs b' ha.2 (by simpa using hl) (fun x hx => hr x (by simp [hx])) (by omega)
        have h1 := mul_nn (show 0 ≤ b' - b by omega) h0.1
        have h2 := mul_le (show 0 ≤ b' - b by omega) h0.2
        have h4 : (c - b) * R = (c - b') * R + (b' - b) * R := by rw [← Int.add_mul]; congr 1; omega
        omega
      · rw [if_neg h]
        have e2 : exF (b' :: bs) rs c = 0 := by
          cases rs with
          | nil => rfl
          | cons r' rs => simp only [exF]; rw [if_pos (by omega)]
        have h1 := mul_nn (show 0 ≤ c - b by omega) h0.1
        have h2 := mul_le (show 0 ≤ c - b by omega) h0.2
        omega
  | [], [], _, _, hl, _, _ => by simp at hl
  | [], _ :: _ :: _, _, _, hl, _, _ => by simp at hl
  | _ :: _, [], _, _, hl, _, _ => by simp at hl

theorem ex_zero (bs rs : List Int) (b c : Int) (h : c ≤ b) : exF (b :: bs) rs c = 0 := by
  cases rs with
  | nil => rfl
  | cons r rs => simp only [exF]; rw [if_pos h]

theorem ex_step (c : Int) : ∀ (bs rs : List Int) (b : Int), Asc (b :: bs) → rs.length = bs.length + 1 → b ≤ c → exF (b :: bs) rs (c + 1) = exF (b :: bs) rs c + rtG (b :: bs) rs c
  | [], [r], b, _, _, hc => by
    simp only [exF, nxt, rtG]
    rw [if_neg (by omega)]
    have h4 : (c + 1 - b) * r = (c - b) * r + r := by rw [show c + 1 - b = (c - b) + 1 from by omega, Int.add_mul, Int.one_mul]
    split
    · have : c - b = 0 := by omega
      rw [this] at h4
      omega
    · omega
  | b' :: bs, r :: rs, b, ha, hl, hc => by
    have hb := ha.1
    have e : ∀ c, exF (b :: b' :: bs) (r :: rs) c = if c ≤ b then 0 else (nxt (b' :: bs) c - b) * r + exF (b' :: bs) rs c := fun _ => rfl
    rw [e, e, if_neg (by omega)]
    show _ = _ + (if b' ≤ c then rtG (b' :: bs) rs c else r)
    by_cases h : b' ≤ c
    · have ih := ex_step c bs rs b' ha.2 (by simpa using hl) h
      simp only [nxt]
      rw [if_pos h, if_pos (show b' < c + 1 by omega), if_neg (show ¬ c ≤ b by omega), ih]
      by_cases h2 : b' < c
      · rw [if_pos h2]; omega
      · have : c = b' := by omega
        rw [if_neg h2, this]; omega
    · simp only [nxt]
      rw [if_neg h, if_neg (show ¬ b' < c + 1 by omega), if_neg (show ¬ b' < c by omega), ex_zero bs rs b' (c + 1) (by omega), ex_zero bs rs b' c (by omega)]
      have h4 : (c + 1 - b) * r = (c - b) * r + r := by rw [show c + 1 - b = (c - b) + 1 from by omega, Int.add_mul, Int.one_mul]
      split
      · have : c - b = 0 := by omega
        rw [this] at h4
        omega
      · omega
  | [], [], _, _, hl, _ => by simp at hl
  | [], _ :: _ :: _, _, _, hl, _ => by simp at hl
  | _ :: _, [], _, _, hl, _ => by simp at hl

theorem ways {w : Int} (h0 : 0 ≤ w) (h3 : w ≤ 3) : w = 0 ∨ w = 1 ∨ w = 2 ∨ w = 3 := by omega
structure Scl (bs rs : List Int) : Prop where
  asc : Asc bs
  len : rs.length = bs.length
  zero : bs.head? = some 0
  cap : bs.length ≤ 8
  top : ∀ b ∈ bs, 0 ≤ b ∧ b ≤ 1000000000000
  rate : ∀ r ∈ rs, 0 ≤ r ∧ r ≤ 10000
theorem Scl.split {bs rs : List Int} (S : Scl bs rs) : ∃ tl, bs = 0 :: tl ∧ rs.length = tl.length + 1 := by
  have h := S.zero
  cases bs with
  | nil => simp at h
  | cons b tl => simp at h; exact ⟨tl, by rw [h], by rw [S.len]; rfl⟩
theorem Scl.ex {bs rs : List Int} (S : Scl bs rs) {c : Int} (hc : 0 ≤ c) : 0 ≤ exF bs rs c ∧ exF bs rs c ≤ c * 10000 := by
  obtain ⟨tl, rfl, hl⟩ := S.split
  have := ex_bounds 10000 c tl rs 0 S.asc hl S.rate hc
  simpa using this
theorem Scl.step {bs rs : List Int} (S : Scl bs rs) {c : Int} (hc : 0 ≤ c) : exF bs rs (c + 1) = exF bs rs c + rtG bs rs c := by
  obtain ⟨tl, rfl, hl⟩ := S.split
  exact ex_step c tl rs 0 S.asc hl hc
end Go.Proofs.Ytimnfechlomkpaa
