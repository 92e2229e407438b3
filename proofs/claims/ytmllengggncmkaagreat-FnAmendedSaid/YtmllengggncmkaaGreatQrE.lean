/- What rules prove: the least state that is closed; plain. -/
import Derived.Test.YtmllengggncmkaaGreatQrD
set_option maxRecDepth 10000
set_option maxHeartbeats 4000000
set_option linter.unusedSimpArgs false
set_option linter.unusedVariables false
namespace Go.Proofs.YtmllengggncmkaaGreat
open Go Go.Abs

def allG (Y : Int → Bool) (r : Rul) : Bool := r.2.1.all Y
def somG (N : Int → Bool) (r : Rul) : Bool := r.2.1.any N
def prG (Y N : Int → Bool) (R : List Rul) (x : Int) : Bool :=
  R.any (fun r => r.1 == x && allG Y r) && R.all fun s => (s.1 != -x || somG N s) || R.any fun t => (t.1 == x && allG Y t) && decide (t.2.2.2.2 > s.2.2.2.2)
def unbG (N : Int → Bool) (R : List Rul) (x : Int) (r : Rul) : Bool := R.all fun t => !((t.1 == x && !somG N t) && decide (t.2.2.2.2 > r.2.2.2.2))
def beatsG (Y N : Int → Bool) (R : List Rul) (x : Int) : Bool := R.any fun r => (r.1 == -x && allG Y r) && unbG N R x r
def dsG (Y N : Int → Bool) (R : List Rul) (x : Int) : Bool := R.all fun t => !((t.1 == x && !somG N t) && !beatsG Y N R x)
def yW (W : Nat → Bool) (w : Int) : Bool := W (plN w)
def nW (W : Nat → Bool) (w : Int) : Bool := W (32 + plN w)
theorem prW_eq (W : Nat → Bool) (R : List Rul) (x : Int) : prW W R x = prG (yW W) (nW W) R x := rfl
theorem dsW_eq (W : Nat → Bool) (R : List Rul) (x : Int) : dsW W R x = dsG (yW W) (nW W) R x := rfl

def LeS (Y N Y' N' : Int → Bool) : Prop := ∀ w, wordB w = true → (Y w = true → Y' w = true) ∧ (N w = true → N' w = true)
theorem LeS.refl (Y N : Int → Bool) : LeS Y N Y N := fun _ _ => ⟨id, id⟩
theorem LeS.allG {Y N Y' N' : Int → Bool} (h : LeS Y N Y' N') {r : Rul} (hr : Wds r.2.1) (ha : allG Y r = true) : allG Y' r = true := by
  unfold Go.Proofs.YtmllengggncmkaaGreat.allG at ha ⊢
  rw [List.all_eq_true] at ha ⊢
  exact fun w hw => (h w (hr.2 w hw)).1 (ha w hw)
theorem LeS.somG {Y N Y' N' : Int → Bool} (h : LeS Y N Y' N') {r : Rul} (hr : Wds r.2.1) (ha : somG N r = true) : somG N' r = true := by
  unfold Go.Proofs.YtmllengggncmkaaGreat.somG at ha ⊢
  rw [List.any_eq_true] at ha ⊢
  obtain ⟨w, hw, hn⟩ := ha
  exact ⟨w, hw, (h w (hr.2 w hw)).2 hn⟩
theorem LeS.prG {Y N Y' N' : Int → Bool} (h : LeS Y N Y' N') {R : List Rul} (hR : Rls R) {x : Int} (hp : prG Y N R x = true) : prG Y' N' R x = true := by
  unfold Go.Proofs.YtmllengggncmkaaGreat.prG at hp ⊢
  simp only [Bool.and_eq_true, List.any_eq_true, List.all_eq_true, Bool.or_eq_true, decide_eq_true_eq] at hp ⊢
  obtain ⟨⟨r, hr, h1, h2⟩, h3⟩ := hp
  refine ⟨⟨r, hr, h1, h.allG (hR.ok r hr).2.1 h2⟩, fun s hs => ?_⟩
  rcases h3 s hs with (h4 | h4) | ⟨t, ht, h5, h6⟩
  · exact .inl (.inl h4)
  · exact .inl (.inr (h.somG (hR.ok s hs).2.1 h4))
  · exact .inr ⟨t, ht, ⟨h5.1, h.allG (hR.ok t ht).2.1 h5.2⟩, h6⟩
theorem LeS.unbG {Y N Y' N' : Int → Bool} (h : LeS Y N Y' N') {R : List Rul} (hR : Rls R) {x : Int} {r : Rul} (hp : unbG N R x r = true) : unbG N' R x r = true := by
  unfold Go.Proofs.YtmllengggncmkaaGreat.unbG at hp ⊢
  rw [List.all_eq_true] at hp ⊢
  intro t ht
  have h1 := hp t ht
  rw [Bool.not_eq_true'] at h1 ⊢
  cases h2 : (t.1 == x) with
  | false => rfl
  | true =>
    rw [h2] at h1
    cases h3 : Go.Proofs.YtmllengggncmkaaGreat.somG N t with
    | true => rw [h.somG (hR.ok t ht).2.1 h3]; rfl
    | false =>
      rw [h3] at h1
      have : decide (t.2.2.2.2 > r.2.2.2.2) = false := by simpa using h1
      rw [this, Bool.and_false]
theorem LeS.dsG {Y N Y' N' : Int → Bool} (h : LeS Y N Y' N') {R : List Rul} (hR : Rls R) {x : Int} (hp : dsG Y N R x = true) : dsG Y' N' R x = true := by
  have hb : beatsG Y N R x = true → beatsG Y' N' R x = true := by
    unfold beatsG
    simp only [List.any_eq_true, Bool.and_eq_true]
    rintro ⟨r, hr, ⟨h1, h2⟩, h3⟩
    exact ⟨r, hr, ⟨h1, h.allG (hR.ok r hr).2.1 h2⟩, h.unbG hR h3⟩
  unfold Go.Proofs.YtmllengggncmkaaGreat.dsG at hp ⊢
  rw [List.all_eq_true] at hp ⊢
  intro t ht
  have h1 := hp t ht
  rw [Bool.not_eq_true'] at h1 ⊢
  cases h2 : (t.1 == x) with
  | false => rfl
  | true =>
    rw [h2] at h1
    cases h3 : Go.Proofs.YtmllengggncmkaaGreat.somG N t with
    | true => rw [h.somG (hR.ok t ht).2.1 h3]; rfl
    | false =>
      rw [h3] at h1
      have : beatsG Y N R x = true := by simpa using h1
      rw [hb this]; simp

structure Clo (R : List Rul) (fs : List Int) (Y N : Int → Bool) : Prop where
  fy : ∀ w ∈ fs, Y w = true
  fn : ∀ w ∈ fs, N (-w) = true
  py : ∀ w, wordB w = true → w ∉ fs → -w ∉ fs → prG Y N R w = true → Y w = true
  pn : ∀ w, wordB w = true → w ∉ fs → -w ∉ fs → dsG Y N R w = true → N w = true
structure Least (R : List Rul) (fs : List Int) (Y N : Int → Bool) : Prop where
  clo : Clo R fs Y N
  low : ∀ Y' N', Clo R fs Y' N' → LeS Y N Y' N'
theorem Least.same {R : List Rul} {fs : List Int} {Y N Y' N' : Int → Bool} (h : Least R fs Y N) (h' : Least R fs Y' N') (w : Int) (hw : wordB w = true) : Y w = Y' w ∧ N w = N' w := by
  have h1 := h.low _ _ h'.clo w hw
  have h2 := h'.low _ _ h.clo w hw
  refine ⟨?_, ?_⟩
  · cases ha : Y w <;> cases hb : Y' w <;> simp_all
  · cases ha : N w <;> cases hb : N' w <;> simp_all

def fW (fs : List Int) : Nat → Bool := fun j => fs.any fun f => j == plN f || j == 64 + plN f || j == 32 + plN (-f)
theorem fW_nil : fW [] = fun _ => false := rfl
theorem fW_snoc (fs : List Int) (f : Int) : fW (fs ++ [f]) = updW (updW (updW (fW fs) (plN f) true) (64 + plN f) true) (32 + plN (-f)) true := by
  funext j
  unfold fW updW
  rw [List.any_append]
  simp only [List.any_cons, List.any_nil, Bool.or_false]
  by_cases h1 : j = 32 + plN (-f)
  · simp [h1]
  · by_cases h2 : j = 64 + plN f
    · simp [h1, h2]
    · by_cases h3 : j = plN f
      · simp [h1, h2, h3]
      · simp [h1, h2, h3]
structure Fcs (fs : List Int) : Prop where
  len : fs.length ≤ 16
  ok : ∀ w ∈ fs, wordB w = true
  one : ∀ w ∈ fs, -w ∉ fs
structure Inv (R : List Rul) (fs : List Int) (W : Nat → Bool) : Prop where
  fact : ∀ w, wordB w = true → W (64 + plN w) = decide (w ∈ fs)
  fy : ∀ w ∈ fs, W (plN w) = true
  fn : ∀ w ∈ fs, W (32 + plN (-w)) = true
  low : ∀ Y' N', Clo R fs Y' N' → LeS (yW W) (nW W) Y' N'
theorem inv_start {R : List Rul} {fs : List Int} (hf : Fcs fs) : Inv R fs (fW fs) := by
  have neg : ∀ w ∈ fs, plN (-w) < 32 := fun w hw => plN_lt (word_neg (hf.ok w hw))
  refine ⟨fun w hw => ?_, fun w hw => ?_, fun w hw => ?_, fun Y N C w hw => ⟨fun h => ?_, fun h => ?_⟩⟩
  · have hl := plN_lt hw
    rw [Bool.eq_iff_iff, decide_eq_true_eq]
    unfold fW
    rw [List.any_eq_true]
    constructor
    · rintro ⟨f, hf1, h⟩
      have l1 := plN_lt (hf.ok f hf1)
      have l2 := neg f hf1
      simp only [Bool.or_eq_true, beq_iff_eq] at h
      have : plN w = plN f := by omega
      exact (plN_inj hw (hf.ok f hf1) this) ▸ hf1
    · intro h
      exact ⟨w, h, by simp⟩
  · unfold fW; rw [List.any_eq_true]; exact ⟨w, hw, by simp⟩
  · unfold fW; rw [List.any_eq_true]; exact ⟨w, hw, by simp⟩
  · unfold yW fW at h
    rw [List.any_eq_true] at h
    obtain ⟨f, hf1, h⟩ := h
    have hl := plN_lt hw
    have l1 := plN_lt (hf.ok f hf1)
    simp only [Bool.or_eq_true, beq_iff_eq] at h
    have : plN w = plN f := by omega
    rw [plN_inj hw (hf.ok f hf1) this]
    exact C.fy f hf1
  · unfold nW fW at h
    rw [List.any_eq_true] at h
    obtain ⟨f, hf1, h⟩ := h
    have hl := plN_lt hw
    have l1 := plN_lt (hf.ok f hf1)
    have l2 := neg f hf1
    simp only [Bool.or_eq_true, beq_iff_eq] at h
    have : plN w = plN (-f) := by omega
    rw [plN_inj hw (word_neg (hf.ok f hf1)) this]
    exact C.fn f hf1
theorem yW_upd {W : Nat → Bool} {x w : Int} (hx : wordB x = true) (hw : wordB w = true) : yW (updW W (plN x) true) w = (yW W w || decide (w = x)) := by
  unfold yW updW
  by_cases h : plN w = plN x
  · rw [if_pos h, plN_inj hw hx h]; simp
  · rw [if_neg h]
    have : ¬ w = x := fun e => h (by rw [e])
    simp [this]
theorem nW_upd {W : Nat → Bool} {x w : Int} (hx : wordB x = true) (hw : wordB w = true) : nW (updW W (plN x) true) w = nW W w := by
  unfold nW updW
  have := plN_lt hx
  rw [if_neg (by omega)]
theorem Inv.setY {R : List Rul} {fs : List Int} {W : Nat → Bool} (I : Inv R fs W) (hR : Rls R) {x : Int} (hx : wordB x = true) (h1 : x ∉ fs) (h2 : -x ∉ fs) (hp : prW W R x = true) : Inv R fs (updW W (plN x) true) := by
  have hl := plN_lt hx
  refine ⟨fun w hw => ?_, fun w hw => ?_, fun w hw => ?_, fun Y N C w hw => ⟨fun h => ?_, fun h => ?_⟩⟩
  · rw [show updW W (plN x) true (64 + plN w) = W (64 + plN w) by unfold updW; rw [if_neg (by omega)]]; exact I.fact w hw
  · unfold updW; split
    · rfl
    · exact I.fy w hw
  · rw [show updW W (plN x) true (32 + plN (-w)) = W (32 + plN (-w)) by unfold updW; rw [if_neg (by omega)]]; exact I.fn w hw
  · rw [yW_upd hx hw, Bool.or_eq_true, decide_eq_true_eq] at h
    rcases h with h | rfl
    · exact (I.low Y N C w hw).1 h
    · rw [prW_eq] at hp
      exact C.py w hw h1 h2 ((I.low Y N C).prG hR hp)
  · rw [nW_upd hx hw] at h
    exact (I.low Y N C w hw).2 h
theorem Inv.setN {R : List Rul} {fs : List Int} {W : Nat → Bool} (I : Inv R fs W) (hR : Rls R) {x : Int} (hx : wordB x = true) (h1 : x ∉ fs) (h2 : -x ∉ fs) (hp : dsW W R x = true) : Inv R fs (updW W (32 + plN x) true) := by
  have hl := plN_lt hx
  refine ⟨fun w hw => ?_, fun w hw => ?_, fun w hw => ?_, fun Y N C w hw => ⟨fun h => ?_, fun h => ?_⟩⟩
  · rw [show updW W (32 + plN x) true (64 + plN w) = W (64 + plN w) by unfold updW; rw [if_neg (by omega)]]; exact I.fact w hw
  · unfold updW; split
    · rfl
    · exact I.fy w hw
  · unfold updW; split
    · rfl
    · exact I.fn w hw
  · have := plN_lt hw
    rw [show yW (updW W (32 + plN x) true) w = yW W w by unfold yW updW; rw [if_neg (by omega)]] at h
    exact (I.low Y N C w hw).1 h
  · by_cases e : plN w = plN x
    · have := plN_inj hw hx e
      subst this
      rw [dsW_eq] at hp
      exact C.pn w hw h1 h2 ((I.low Y N C).dsG hR hp)
    · rw [show nW (updW W (32 + plN x) true) w = nW W w by unfold nW updW; rw [if_neg (by omega)]] at h
      exact (I.low Y N C w hw).2 h
def cntW (W : Nat → Bool) : Nat := (List.range 64).countP fun i => !W i
theorem cnt_upd {W : Nat → Bool} {j : Nat} (hj : j < 64) (h : W j = false) : cntW (updW W j true) < cntW W := by
  unfold cntW
  have key : ∀ n, j < n → (List.range n).countP (fun i => !updW W j true i) + 1 = (List.range n).countP (fun i => !W i) := by
    intro n
    induction n with
    | zero => intro h; omega
    | succ n ih =>
      intro hn
      rw [List.range_succ, List.countP_append, List.countP_append]
      by_cases e : j = n
      · subst e
        have e1 : (List.range j).countP (fun i => !updW W j true i) = (List.range j).countP (fun i => !W i) := by
          apply List.countP_congr
          intro i hi
          have : i ≠ j := by have := List.mem_range.1 hi; omega
          simp [updW, this]
        rw [e1]
        simp [updW, h]
      · have := ih (by omega)
        have e2 : updW W j true n = W n := by unfold updW; rw [if_neg (fun x => e x.symm)]
        simp only [List.countP_cons, List.countP_nil, e2]
        omega
  have := key 64 hj
  omega
def Stab (R : List Rul) (fs : List Int) (W : Nat → Bool) (w : Int) : Prop := w ∈ fs ∨ -w ∈ fs ∨ ((prW W R w = true → W (plN w) = true) ∧ (dsW W R w = true → W (32 + plN w) = true))
structure Pass (R : List Rul) (fs : List Int) (W0 W : Nat → Bool) (more : Bool) (vis : Int → Prop) : Prop where
  inv : Inv R fs W
  le : cntW W ≤ cntW W0
  lt : more = true → cntW W < cntW W0
  st : more = false → ∀ w, wordB w = true → vis w → Stab R fs W w
theorem Inv.least {R : List Rul} {fs : List Int} {W : Nat → Bool} (I : Inv R fs W) (h : ∀ w, wordB w = true → Stab R fs W w) : Least R fs (yW W) (nW W) := by
  refine ⟨⟨I.fy, fun w hw => I.fn w hw, fun w hw h1 h2 hp => ?_, fun w hw h1 h2 hp => ?_⟩, I.low⟩
  · rcases h w hw with h3 | h3 | h3
    · exact absurd h3 h1
    · exact absurd h3 h2
    · exact h3.1 hp
  · rcases h w hw with h3 | h3 | h3
    · exact absurd h3 h1
    · exact absurd h3 h2
    · exact h3.2 hp
theorem Pass.mono {R : List Rul} {fs : List Int} {W0 W : Nat → Bool} {m : Bool} {v v' : Int → Prop} (h : Pass R fs W0 W m v) (hv : ∀ w, wordB w = true → v' w → v w) : Pass R fs W0 W m v' :=
  ⟨h.inv, h.le, h.lt, fun hm w hw hx => h.st hm w hw (hv w hw hx)⟩
structure PassY (R : List Rul) (fs : List Int) (W0 W : Nat → Bool) (m : Bool) (vis : Int → Prop) (x : Int) : Prop where
  ps : Pass R fs W0 W m vis
  sy : m = false → prW W R x = true → W (plN x) = true
theorem pass_fact {R : List Rul} {fs : List Int} {W0 W : Nat → Bool} {m : Bool} {v v' : Int → Prop} {x : Int} (P : Pass R fs W0 W m v) (hx : x ∈ fs ∨ -x ∈ fs) (hv : ∀ w, wordB w = true → v' w → v w ∨ w = x) : Pass R fs W0 W m v' :=
  ⟨P.inv, P.le, P.lt, fun hm w hw h => by
    rcases hv w hw h with h | rfl
    · exact P.st hm w hw h
    · rcases hx with h | h
      · exact .inl h
      · exact .inr (.inl h)⟩
theorem pass_y0 {R : List Rul} {fs : List Int} {W0 W : Nat → Bool} {m : Bool} {v : Int → Prop} {x : Int} (P : Pass R fs W0 W m v) (h : W (plN x) = true) : PassY R fs W0 W m v x := ⟨P, fun _ _ => h⟩
theorem pass_y2 {R : List Rul} {fs : List Int} {W0 W : Nat → Bool} {m : Bool} {v : Int → Prop} {x : Int} (P : Pass R fs W0 W m v) (h : prW W R x = false) : PassY R fs W0 W m v x := ⟨P, fun _ hp => by rw [h] at hp; cases hp⟩
theorem pass_y1 {R : List Rul} (hR : Rls R) {fs : List Int} {W0 W : Nat → Bool} {m : Bool} {v : Int → Prop} {x : Int} (P : Pass R fs W0 W m v) (hx : wordB x = true) (h1 : x ∉ fs) (h2 : -x ∉ fs) (h : W (plN x) = false) (hp : prW W R x = true) : PassY R fs W0 (updW W (plN x) true) true v x := by
  have := cnt_upd (show plN x < 64 by have := plN_lt hx; omega) h
  have hle := P.le
  exact ⟨⟨P.inv.setY hR hx h1 h2 hp, by omega, fun _ => by omega, fun hm => by cases hm⟩, fun hm => by cases hm⟩
theorem pass_n0 {R : List Rul} {fs : List Int} {W0 W : Nat → Bool} {m : Bool} {v v' : Int → Prop} {x : Int} (P : PassY R fs W0 W m v x) (h : W (32 + plN x) = true) (hv : ∀ w, wordB w = true → v' w → v w ∨ w = x) : Pass R fs W0 W m v' :=
  ⟨P.ps.inv, P.ps.le, P.ps.lt, fun hm w hw hh => by
    rcases hv w hw hh with h1 | rfl
    · exact P.ps.st hm w hw h1
    · exact .inr (.inr ⟨P.sy hm, fun _ => h⟩)⟩
theorem pass_n2 {R : List Rul} {fs : List Int} {W0 W : Nat → Bool} {m : Bool} {v v' : Int → Prop} {x : Int} (P : PassY R fs W0 W m v x) (h : dsW W R x = false) (hv : ∀ w, wordB w = true → v' w → v w ∨ w = x) : Pass R fs W0 W m v' :=
  ⟨P.ps.inv, P.ps.le, P.ps.lt, fun hm w hw hh => by
    rcases hv w hw hh with h1 | rfl
    · exact P.ps.st hm w hw h1
    · exact .inr (.inr ⟨P.sy hm, fun hp => by rw [h] at hp; cases hp⟩)⟩
theorem pass_n1 {R : List Rul} (hR : Rls R) {fs : List Int} {W0 W : Nat → Bool} {m : Bool} {v v' : Int → Prop} {x : Int} (P : PassY R fs W0 W m v x) (hx : wordB x = true) (h1 : x ∉ fs) (h2 : -x ∉ fs) (h : W (32 + plN x) = false) (hp : dsW W R x = true) : Pass R fs W0 (updW W (32 + plN x) true) true v' := by
  have := cnt_upd (show 32 + plN x < 64 by have := plN_lt hx; omega) h
  have hle := P.ps.le
  exact ⟨P.ps.inv.setN hR hx h1 h2 hp, by omega, fun _ => by omega, fun hm => by cases hm⟩
def vis (a : Int) (s : Int) (w : Int) : Prop := atomF w < a ∨ (atomF w = a ∧ s < (if w < 0 then -1 else 1))
theorem vis_next {a s : Int} (hs : s = 1 ∨ s = -1) (w : Int) (hw : wordB w = true) (h : vis a (s - 2) w) : vis a s w ∨ w = s * a := by
  unfold vis atomF at *
  rcases hs with rfl | rfl
  · rcases h with h | ⟨h1, h2⟩
    · exact .inl (.inl h)
    · split at h1 <;> split at h2 <;> first | (right; omega) | omega
  · rcases h with h | ⟨h1, h2⟩
    · exact .inl (.inl h)
    · split at h1
      · right; omega
      · left; right
        refine ⟨by split <;> omega, by split <;> omega⟩
end Go.Proofs.YtmllengggncmkaaGreat
