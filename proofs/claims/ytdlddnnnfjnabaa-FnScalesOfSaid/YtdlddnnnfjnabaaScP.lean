/- Scales joined, trimmed and made again, in plain numbers. -/
import Derived.Test.YtdlddnnnfjnabaaMathS
set_option linter.unusedSimpArgs false
set_option linter.unusedVariables false
namespace Go.Proofs.Ytdlddnnnfjnabaa

theorem Scl.ex0 {bs rs : List Int} (S : Scl bs rs) : exF bs rs 0 = 0 := by
  obtain ⟨tl, rfl, hl⟩ := S.split
  exact ex_zero tl rs 0 0 (Int.le_refl _)
theorem ex_sum {b1 r1 b2 r2 b3 r3 : List Int} (S1 : Scl b1 r1) (S2 : Scl b2 r2) (S3 : Scl b3 r3) (h : ∀ x, 0 ≤ x → rtG b3 r3 x = rtG b1 r1 x + rtG b2 r2 x) : ∀ n : Nat, exF b3 r3 n = exF b1 r1 n + exF b2 r2 n
  | 0 => by
    show exF b3 r3 0 = exF b1 r1 0 + exF b2 r2 0
    rw [S1.ex0, S2.ex0, S3.ex0]; rfl
  | n + 1 => by
    have ih := ex_sum S1 S2 S3 h n
    have e := h n (by omega)
    have h1 := S1.step (c := n) (by omega)
    have h2 := S2.step (c := n) (by omega)
    have h3 := S3.step (c := n) (by omega)
    have e1 : ((n + 1 : Nat) : Int) = (n : Int) + 1 := by omega
    rw [e1]
    omega
theorem ex_same {b1 r1 b3 r3 : List Int} (S1 : Scl b1 r1) (S3 : Scl b3 r3) (h : ∀ x, 0 ≤ x → rtG b3 r3 x = rtG b1 r1 x) : ∀ n : Nat, exF b3 r3 n = exF b1 r1 n
  | 0 => by
    show exF b3 r3 0 = exF b1 r1 0
    rw [S1.ex0, S3.ex0]
  | n + 1 => by
    have ih := ex_same S1 S3 h n
    have e := h n (by omega)
    have h1 := S1.step (c := n) (by omega)
    have h3 := S3.step (c := n) (by omega)
    have e1 : ((n + 1 : Nat) : Int) = (n : Int) + 1 := by omega
    rw [e1]
    omega
theorem ex_sumI {b1 r1 b2 r2 b3 r3 : List Int} (S1 : Scl b1 r1) (S2 : Scl b2 r2) (S3 : Scl b3 r3) (h : ∀ x, 0 ≤ x → rtG b3 r3 x = rtG b1 r1 x + rtG b2 r2 x) {c : Int} (hc : 0 ≤ c) : exF b3 r3 c = exF b1 r1 c + exF b2 r2 c := by
  obtain ⟨n, rfl⟩ := Int.eq_ofNat_of_zero_le hc
  exact ex_sum S1 S2 S3 h n
theorem ex_sameI {b1 r1 b3 r3 : List Int} (S1 : Scl b1 r1) (S3 : Scl b3 r3) (h : ∀ x, 0 ≤ x → rtG b3 r3 x = rtG b1 r1 x) {c : Int} (hc : 0 ≤ c) : exF b3 r3 c = exF b1 r1 c := by
  obtain ⟨n, rfl⟩ := Int.eq_ofNat_of_zero_le hc
  exact ex_same S1 S3 h n

theorem rt_same {x y : Int} : ∀ (bs rs : List Int), (∀ z ∈ bs, z ≤ x ↔ z ≤ y) → rtG bs rs x = rtG bs rs y
  | [], _, _ => rfl
  | _ :: _, [], _ => rfl
  | [_], r :: rs, _ => rfl
  | _ :: b' :: bs, r :: rs, h => by
    show (if b' ≤ x then rtG (b' :: bs) rs x else r) = (if b' ≤ y then rtG (b' :: bs) rs y else r)
    have hb := h b' (by simp)
    rw [rt_same (b' :: bs) rs (fun z hz => h z (by simp [hz]))]
    by_cases c : b' ≤ x
    · rw [if_pos c, if_pos (hb.1 c)]
    · rw [if_neg c, if_neg (fun c' => c (hb.2 c'))]
theorem asc_head_lt : ∀ (l : List Int) (a : Int), Asc (a :: l) → ∀ x ∈ l, a < x
  | [], _, _, _, h => by cases h
  | b :: l, a, h, x, hx => by
    rcases List.mem_cons.1 hx with rfl | hx
    · exact h.1
    · exact Int.lt_trans h.1 (asc_head_lt l b h.2 x hx)
theorem rt_map (f : Int → Int) (x : Int) : ∀ (bs : List Int) (b : Int), Asc (b :: bs) → b ≤ x → ∃ y ∈ b :: bs, y ≤ x ∧ (∀ z ∈ b :: bs, z ≤ x → z ≤ y) ∧ rtG (b :: bs) ((b :: bs).map f) x = f y
  | [], b, _, hb => ⟨b, by simp, hb, by simp, rfl⟩
  | b' :: bs, b, ha, hb => by
    have e : rtG (b :: b' :: bs) ((b :: b' :: bs).map f) x = if b' ≤ x then rtG (b' :: bs) ((b' :: bs).map f) x else f b := rfl
    by_cases c : b' ≤ x
    · obtain ⟨y, h1, h2, h3, h4⟩ := rt_map f x bs b' ha.2 c
      refine ⟨y, by simp [List.mem_cons.1 h1], h2, fun z hz hzx => ?_, by rw [e, if_pos c, h4]⟩
      rcases List.mem_cons.1 hz with rfl | hz
      · have := h3 b' (by simp) c
        have := ha.1
        omega
      · exact h3 z hz hzx
    · refine ⟨b, by simp, hb, fun z hz hzx => ?_, by rw [e, if_neg c]⟩
      rcases List.mem_cons.1 hz with rfl | hz
      · exact Int.le_refl _
      · rcases List.mem_cons.1 hz with rfl | hz
        · exact absurd hzx c
        · have := asc_head_lt bs b' ha.2 z hz
          omega

def cmpI : List Int → List Int
  | a :: b :: l => if a = b then cmpI (b :: l) else a :: cmpI (b :: l)
  | l => l
theorem cmpI_mem : ∀ (l : List Int) (x : Int), x ∈ cmpI l ↔ x ∈ l
  | [], x => by simp [cmpI]
  | [a], x => by simp [cmpI]
  | a :: b :: l, x => by
    unfold cmpI
    split
    · rename_i h
      subst h
      rw [cmpI_mem (a :: l) x]
      simp
    · rw [List.mem_cons, cmpI_mem (b :: l) x, List.mem_cons (a := x) (b := a)]
theorem cmpI_len : ∀ (l : List Int), (cmpI l).length ≤ l.length
  | [] => by simp [cmpI]
  | [a] => by simp [cmpI]
  | a :: b :: l => by
    have ih := cmpI_len (b :: l)
    unfold cmpI
    split <;> simp at ih ⊢ <;> omega
theorem cmpI_head : ∀ (l : List Int), (cmpI l).head? = l.head?
  | [] => rfl
  | [a] => rfl
  | a :: b :: l => by
    unfold cmpI
    split
    · rename_i h
      rw [cmpI_head (b :: l), h]; rfl
    · rfl
theorem cmpI_asc : ∀ (l : List Int), l.Pairwise (· ≤ ·) → Asc (cmpI l)
  | [], _ => trivial
  | [a], _ => trivial
  | a :: b :: l, h => by
    have ih := cmpI_asc (b :: l) (List.pairwise_cons.1 h).2
    have hab := (List.pairwise_cons.1 h).1 b (by simp)
    unfold cmpI
    split
    · exact ih
    · rename_i hne
      have hh := cmpI_head (b :: l)
      cases hc : cmpI (b :: l) with
      | nil => trivial
      | cons c t =>
        rw [hc] at hh ih
        have : c = b := by simpa using hh
        subst this
        exact ⟨by omega, ih⟩

theorem join_scl {a ra b rb j : List Int} (A : Scl a ra) (B : Scl b rb) (ha : ∀ r ∈ ra, r ≤ 5000) (hb : ∀ r ∈ rb, r ≤ 5000) (hj : Asc j) (hl : j.length ≤ 8) (hm : ∀ x, x ∈ j ↔ x ∈ a ∨ x ∈ b) :
    Scl j (j.map fun c => rtG a ra c + rtG b rb c) ∧ ∀ x, 0 ≤ x → rtG j (j.map fun c => rtG a ra c + rtG b rb c) x = rtG a ra x + rtG b rb x := by
  have a0 : (0 : Int) ∈ a := by obtain ⟨tl, rfl, _⟩ := A.split; simp
  have top : ∀ x ∈ j, 0 ≤ x ∧ x ≤ 1000000000000 := fun x hx => by
    rcases (hm x).1 hx with h | h
    · exact A.top x h
    · exact B.top x h
  have head : j.head? = some 0 := by
    have h0 := (hm 0).2 (.inl a0)
    cases j with
    | nil => cases h0
    | cons y tl =>
      rcases List.mem_cons.1 h0 with h | h
      · rw [← h]; rfl
      · have := asc_head_lt tl y hj 0 h
        have := (top y (by simp)).1
        omega
  refine ⟨⟨hj, by simp, head, hl, top, fun r hr => ?_⟩, fun x hx => ?_⟩
  · obtain ⟨c, _, rfl⟩ := List.mem_map.1 hr
    have h1 := rt_bounds 5000 c (by omega) a ra (fun r hr => ⟨(A.rate r hr).1, ha r hr⟩)
    have h2 := rt_bounds 5000 c (by omega) b rb (fun r hr => ⟨(B.rate r hr).1, hb r hr⟩)
    omega
  · obtain ⟨tl, e⟩ : ∃ tl, j = 0 :: tl := by
      cases j with
      | nil => simp at head
      | cons y tl => exact ⟨tl, by simp at head; rw [head]⟩
    subst e
    obtain ⟨y, h1, h2, h3, h4⟩ := rt_map (fun c => rtG a ra c + rtG b rb c) x tl 0 hj hx
    rw [h4, rt_same a ra (y := x), rt_same b rb (y := x)]
    · exact fun z hz => ⟨fun h => by omega, fun h => h3 z ((hm z).2 (.inr hz)) h⟩
    · exact fun z hz => ⟨fun h => by omega, fun h => h3 z ((hm z).2 (.inl hz)) h⟩

def trmB : Int → List Int → List Int → List Int
  | o, b :: bs, r :: rs => if r = o then trmB o bs rs else b :: trmB r bs rs
  | _, _, _ => []
def trmR : Int → List Int → List Int → List Int
  | o, _ :: bs, r :: rs => if r = o then trmR o bs rs else r :: trmR r bs rs
  | _, _, _ => []
theorem trm_len : ∀ (o : Int) (bs rs : List Int), (trmR o bs rs).length = (trmB o bs rs).length ∧ (trmB o bs rs).length ≤ bs.length
  | o, b :: bs, r :: rs => by
    have h1 := trm_len o bs rs
    have h2 := trm_len r bs rs
    unfold trmR trmB
    split <;> simp <;> omega
  | _, [], rs => by cases rs <;> simp [trmR, trmB]
  | _, _ :: _, [] => by simp [trmR, trmB]
theorem trm_mem : ∀ (o : Int) (bs rs : List Int), (∀ x ∈ trmB o bs rs, x ∈ bs) ∧ ∀ x ∈ trmR o bs rs, x ∈ rs
  | o, b :: bs, r :: rs => by
    have h1 := trm_mem o bs rs
    have h2 := trm_mem r bs rs
    unfold trmR trmB
    split
    · exact ⟨fun x hx => by simp [h1.1 x hx], fun x hx => by simp [h1.2 x hx]⟩
    · refine ⟨fun x hx => ?_, fun x hx => ?_⟩
      · rcases List.mem_cons.1 hx with rfl | hx
        · simp
        · simp [h2.1 x hx]
      · rcases List.mem_cons.1 hx with rfl | hx
        · simp
        · simp [h2.2 x hx]
  | _, [], rs => by cases rs <;> simp [trmR, trmB]
  | _, _ :: _, [] => by simp [trmR, trmB]
theorem asc_skip {a b : Int} {l : List Int} (h : Asc (a :: b :: l)) : Asc (a :: l) := by
  cases l with
  | nil => trivial
  | cons c l => exact ⟨Int.lt_trans h.1 h.2.1, h.2.2⟩
theorem trm_asc : ∀ (o : Int) (bs rs : List Int) (b : Int), Asc (b :: bs) → Asc (b :: trmB o bs rs)
  | o, b' :: bs, r :: rs, b, h => by
    unfold trmB
    split
    · exact trm_asc o bs rs b (asc_skip h)
    · exact ⟨h.1, trm_asc r bs rs b' h.2⟩
  | _, [], rs, b, _ => by cases rs <;> exact trivial
  | _, _ :: _, [], b, _ => trivial
theorem rt_above (x : Int) (o : Int) (rs : List Int) : ∀ (bs : List Int) (b : Int), (∀ z ∈ bs, x < z) → rtG (b :: bs) (o :: rs) x = o
  | [], _, _ => rfl
  | b' :: bs, b, h => by
    show (if b' ≤ x then rtG (b' :: bs) rs x else o) = o
    rw [if_neg (by have := h b' (by simp); omega)]
theorem trm_rt (x : Int) : ∀ (bs rs : List Int) (b o : Int), Asc (b :: bs) → rs.length = bs.length → rtG (b :: trmB o bs rs) (o :: trmR o bs rs) x = rtG (b :: bs) (o :: rs) x
  | [], [], b, o, _, _ => rfl
  | b' :: bs, r :: rs, b, o, h, hl => by
    have e : rtG (b :: b' :: bs) (o :: r :: rs) x = if b' ≤ x then rtG (b' :: bs) (r :: rs) x else o := rfl
    rw [e]
    unfold trmB trmR
    by_cases c : r = o
    · rw [if_pos c, if_pos c, trm_rt x bs rs b o (asc_skip h) (by simpa using hl)]
      subst c
      by_cases c2 : b' ≤ x
      · rw [if_pos c2]
        cases bs <;> rfl
      · rw [if_neg c2]
        exact rt_above x r rs bs b (fun z hz => by have := asc_head_lt bs b' h.2 z hz; omega)
    · rw [if_neg c, if_neg c]
      show (if b' ≤ x then rtG (b' :: trmB r bs rs) (r :: trmR r bs rs) x else o) = _
      rw [trm_rt x bs rs b' r h.2 (by simpa using hl)]
  | [], _ :: _, _, _, _, hl => by simp at hl
  | _ :: _, [], _, _, _, hl => by simp at hl
theorem trim_scl {b r : Int} {bs rs : List Int} (S : Scl (b :: bs) (r :: rs)) : Scl (b :: trmB r bs rs) (r :: trmR r bs rs) ∧ ∀ x, 0 ≤ x → rtG (b :: trmB r bs rs) (r :: trmR r bs rs) x = rtG (b :: bs) (r :: rs) x := by
  have hl := S.len
  have h8 := S.cap
  obtain ⟨l1, l2⟩ := trm_len r bs rs
  obtain ⟨m1, m2⟩ := trm_mem r bs rs
  refine ⟨⟨trm_asc r bs rs b S.asc, by simp [l1], S.zero, by simp at h8 ⊢; omega, fun x hx => S.top x ?_, fun x hx => S.rate x ?_⟩, fun x _ => trm_rt x bs rs b r S.asc (by simpa using hl)⟩
  · rcases List.mem_cons.1 hx with rfl | hx
    · simp
    · simp [m1 x hx]
  · rcases List.mem_cons.1 hx with rfl | hx
    · simp
    · simp [m2 x hx]

theorem ex_none (c : Int) : ∀ (bs rs : List Int), (∀ r ∈ rs, r = 0) → exF bs rs c = 0
  | [], _, _ => by simp [exF]
  | _ :: _, [], _ => by simp [exF]
  | b :: bs, r :: rs, h => by
    have h1 := ex_none c bs rs (fun x hx => h x (by simp [hx]))
    have h2 := h r (by simp)
    simp only [exF]
    rw [h1, h2]
    split <;> simp

theorem ex_next : ∀ (i : Nat) (bs rs : List Int), Asc bs → rs.length = bs.length → i + 1 < bs.length → exF bs rs (bs.getD (i + 1) 0) = exF bs rs (bs.getD i 0) + (bs.getD (i + 1) 0 - bs.getD i 0) * rs.getD i 0
  | _, [], _, _, _, h => by simp at h
  | _, [_], _, _, _, h => by simp at h
  | _, b :: b' :: bs, [], _, hl, _ => by simp at hl
  | 0, b :: b' :: bs, r :: rs, ha, hl, _ => by
    show exF (b :: b' :: bs) (r :: rs) b' = exF (b :: b' :: bs) (r :: rs) b + (b' - b) * r
    have h1 := ha.1
    rw [ex_zero _ _ b b (Int.le_refl _)]
    have e : exF (b :: b' :: bs) (r :: rs) b' = if b' ≤ b then 0 else (nxt (b' :: bs) b' - b) * r + exF (b' :: bs) rs b' := rfl
    rw [e, if_neg (by omega), ex_zero bs rs b' b' (Int.le_refl _)]
    show ((if b' < b' then b' else b') - b) * r + 0 = _
    rw [if_neg (by omega)]
    omega
  | i + 1, b :: b' :: bs, r :: rs, ha, hl, hi => by
    have hi' : i + 1 < (b' :: bs).length := by simpa using hi
    have ih := ex_next i (b' :: bs) rs ha.2 (by simpa using hl) hi'
    have gt : ∀ j, j < (b' :: bs).length → b' ≤ (b' :: bs).getD j 0 := by
      intro j hj
      cases j with
      | zero => simp
      | succ j =>
        have hm : (b' :: bs).getD (j + 1) 0 ∈ bs := by
          have hj' : j < bs.length := by simpa using hj
          simp [List.getD_eq_getElem?_getD, hj']
        have := asc_head_lt bs b' ha.2 _ hm
        omega
    have e : ∀ c, b' ≤ c → exF (b :: b' :: bs) (r :: rs) c = (b' - b) * r + exF (b' :: bs) rs c := by
      intro c hc
      have h1 := ha.1
      have e : exF (b :: b' :: bs) (r :: rs) c = if c ≤ b then 0 else (nxt (b' :: bs) c - b) * r + exF (b' :: bs) rs c := rfl
      rw [e, if_neg (by omega)]
      have : nxt (b' :: bs) c = b' := by simp only [nxt]; split <;> omega
      rw [this]
    show exF (b :: b' :: bs) (r :: rs) ((b' :: bs).getD (i + 1) 0) = exF (b :: b' :: bs) (r :: rs) ((b' :: bs).getD i 0) + ((b' :: bs).getD (i + 1) 0 - (b' :: bs).getD i 0) * rs.getD i 0
    rw [e _ (gt (i + 1) hi'), e _ (gt i (by omega)), ih]
    omega
theorem again {bs rs : List Int} (S : Scl bs rs) (hb : ∀ b ∈ bs, b % 100 = 0) (hr : ∀ r ∈ rs, r % 100 = 0) {i : Nat} (hi : i + 1 < bs.length) :
    (exF bs rs (bs.getD (i + 1) 0) / 10000 - exF bs rs (bs.getD i 0) / 10000) * 10000 = (bs.getD (i + 1) 0 - bs.getD i 0) * rs.getD i 0 ∧ (bs.getD (i + 1) 0 - bs.getD i 0) * rs.getD i 0 % (bs.getD (i + 1) 0 - bs.getD i 0) = 0 ∧
      (bs.getD (i + 1) 0 - bs.getD i 0) * rs.getD i 0 / (bs.getD (i + 1) 0 - bs.getD i 0) = rs.getD i 0 := by
  have hl := S.len
  have mb : ∀ j, j < bs.length → bs.getD j 0 % 100 = 0 := fun j hj => hb _ (by simp [List.getD_eq_getElem?_getD, hj])
  have mr : ∀ j, j < bs.length → rs.getD j 0 % 100 = 0 := fun j hj => hr _ (by simp [List.getD_eq_getElem?_getD, show j < rs.length by omega])
  have step : ∀ j, j + 1 < bs.length → ((bs.getD (j + 1) 0 - bs.getD j 0) * rs.getD j 0) % 10000 = 0 := by
    intro j hj
    obtain ⟨u, hu⟩ := Int.dvd_of_emod_eq_zero (mb (j + 1) hj)
    obtain ⟨v, hv⟩ := Int.dvd_of_emod_eq_zero (mb j (by omega))
    obtain ⟨w, hw⟩ := Int.dvd_of_emod_eq_zero (mr j (by omega))
    rw [hu, hv, hw, ← Int.mul_sub, show 100 * (u - v) * (100 * w) = 10000 * ((u - v) * w) by rw [Int.mul_assoc, ← Int.mul_assoc (u - v) 100 w, Int.mul_comm (u - v) 100, Int.mul_assoc 100 (u - v) w, ← Int.mul_assoc]; rfl]
    exact Int.mul_emod_right _ _
  have all : ∀ j, j < bs.length → exF bs rs (bs.getD j 0) % 10000 = 0 := by
    intro j
    induction j with
    | zero =>
      intro _
      obtain ⟨tl, rfl, _⟩ := S.split
      show exF (0 :: tl) rs 0 % 10000 = 0
      rw [ex_zero tl rs 0 0 (Int.le_refl _)]; rfl
    | succ j ih =>
      intro hj
      rw [ex_next j bs rs S.asc S.len hj]
      have := ih (by omega)
      have := step j hj
      omega
  have h1 := ex_next i bs rs S.asc S.len hi
  have h2 := all i (by omega)
  have h3 := all (i + 1) hi
  have h4 : bs.getD (i + 1) 0 - bs.getD i 0 ≠ 0 := by
    have : ∀ (i : Nat) (l : List Int), Asc l → i + 1 < l.length → l.getD i 0 < l.getD (i + 1) 0 := by
      intro i
      induction i with
      | zero => intro l ha hi; match l, ha, hi with | a :: b :: l, ha, _ => exact ha.1
      | succ i ih => intro l ha hi; match l, ha, hi with | a :: b :: l, ha, hi => exact ih (b :: l) ha.2 (by simpa using hi)
    have := this i bs S.asc hi
    omega
  exact ⟨by omega, Int.mul_emod_right _ _, Int.mul_ediv_cancel_left _ h4⟩
end Go.Proofs.Ytdlddnnnfjnabaa
