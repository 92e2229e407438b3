/- What is paid, in plain numbers: what the law asks. -/
import Derived.Test.YtimnfechlomkpaaPdI
set_option maxRecDepth 10000
set_option maxHeartbeats 2000000
set_option linter.unusedSimpArgs false
set_option linter.unusedVariables false
namespace Go.Proofs.Ytimnfechlomkpaa
open Go Go.Abs

theorem sumI_set : ∀ (l : List Int) (i : Nat) (v : Int), i < l.length → sumI (l.set i v) = sumI l - l.getD i 0 + v
  | x :: xs, 0, v, _ => by simp [sumI]; omega
  | x :: xs, i + 1, v, h => by
    have ih := sumI_set xs i v (by simpa using h)
    simp only [List.set_cons_succ, List.getD_cons_succ]
    show x + sumI (xs.set i v) = x + sumI xs - _ + v
    rw [ih]; omega
  | [], _, _, h => by simp at h
theorem sumI_rep (n : Nat) : sumI (List.replicate n 0) = 0 := by
  induction n with
  | zero => rfl
  | succ n ih => rw [List.replicate_succ]; show 0 + sumI _ = 0; rw [ih]; rfl
structure PayI (D : List Dbt) (c : Int) (l : List Nat) (s : Int × List Int) : Prop where
  len : s.2.length = D.length
  sum : sumI s.2 + s.1 = c
  left : s.1 = max 0 (c - sumF (cen D) l)
  none : ∀ i, i ∉ l → s.2.getD i 0 = 0
  low : ∀ i, 0 ≤ s.2.getD i 0 ∧ s.2.getD i 0 ≤ cen D i
theorem cen_low {D : List Dbt} (h : ∀ q ∈ D, dbtOk q) (i : Nat) : 0 ≤ cen D i ∧ cen D i < 300 := (dbt_bounds h i).2.2
theorem sumF_snoc (f : Nat → Int) (l : List Nat) (i : Nat) : sumF f (l ++ [i]) = sumF f l + f i := by
  unfold sumF
  rw [List.map_append]
  exact sumI_snoc _ _
theorem PayI.step {D : List Dbt} (h : ∀ q ∈ D, dbtOk q) {c : Int} {l : List Nat} {s : Int × List Int} (I : PayI D c l s) (i : Nat) (hi : i < D.length) (hl : i ∉ l) : PayI D c (l ++ [i]) (payStep D s i) := by
  have cl := cen_low h i
  have hlen := I.len
  have hz := I.none i hl
  have hs := I.sum
  have hf := I.left
  have s0 : 0 ≤ s.1 := by rw [hf]; omega
  have g : ∀ a, (s.2.set i (min s.1 (cen D i))).getD a 0 = if a = i then min s.1 (cen D i) else s.2.getD a 0 := fun a => by
    rw [List.getD_eq_getElem?_getD, List.getElem?_set]
    by_cases e : i = a
    · subst e; rw [if_pos rfl, if_pos (by omega), if_pos rfl]; rfl
    · rw [if_neg e, if_neg (fun x => e x.symm), List.getD_eq_getElem?_getD]
  refine ⟨by show (s.2.set _ _).length = _; simp [hlen], ?_, ?_, ?_, ?_⟩
  · show sumI (s.2.set i (min s.1 (cen D i))) + (s.1 - min s.1 (cen D i)) = c
    rw [sumI_set _ _ _ (by omega), hz]
    omega
  · show s.1 - min s.1 (cen D i) = _
    rw [sumF_snoc]
    omega
  · intro a ha
    show (s.2.set i (min s.1 (cen D i))).getD a 0 = 0
    have hne : a ≠ i := fun e => ha (by simp [e])
    rw [g, if_neg hne]
    exact I.none a fun x => ha (List.mem_append_left _ x)
  · intro a
    show 0 ≤ (s.2.set i (min s.1 (cen D i))).getD a 0 ∧ (s.2.set i (min s.1 (cen D i))).getD a 0 ≤ cen D a
    rw [g]
    by_cases e : a = i
    · rw [if_pos e, e]; omega
    · rw [if_neg e]; exact I.low a
theorem payT_inv {D : List Dbt} (h : Dts D) {c : Int} (c0 : 0 ≤ c) (k : Int) (j : Nat) (hj : j ≤ D.length) : PayI D c ((ordN (keyP D k) D.length).take j) (payT D c k j) := by
  induction j with
  | zero =>
    rw [payT_zero, List.take_zero]
    refine ⟨by simp, ?_, ?_, fun i _ => ?_, fun i => ?_⟩
    · show sumI (List.replicate D.length 0) + c = c
      rw [sumI_rep]; omega
    · show c = max 0 (c - 0); omega
    · simp [List.getD_eq_getElem?_getD, List.getElem?_replicate]; split <;> rfl
    · have : (List.replicate D.length (0 : Int)).getD i 0 = 0 := by simp [List.getD_eq_getElem?_getD, List.getElem?_replicate]; split <;> rfl
      show 0 ≤ (List.replicate D.length (0 : Int)).getD i 0 ∧ (List.replicate D.length (0 : Int)).getD i 0 ≤ _
      rw [this]
      exact ⟨Int.le_refl _, (cen_low h.ok i).1⟩
  | succ j ih =>
    have hl := ordN_len (keyP D k) D.length
    have ht : (ordN (keyP D k) D.length).take (j + 1) = (ordN (keyP D k) D.length).take j ++ [(ordN (keyP D k) D.length)[j]'(by omega)] := by
      rw [List.take_add_one, List.getElem?_eq_getElem (by omega)]; rfl
    rw [payT_succ D c k j (by omega), ht]
    exact (ih (by omega)).step h.ok _ (ordN_mem.1 (List.getElem_mem _)) (ordN_fresh (keyP D k) D.length j (by omega))
theorem wts_of {D : List Dbt} (h : Dts D) {c : Int} (c0 : 0 ≤ c) (c1 : c ≤ 2000) (hl : c < sumI (wtL D D.length)) : Wts (wtL D D.length) c := by
  have wl : (wtL D D.length).length = D.length := rngL_len _ _
  have h1 := h.one
  have h7 := h.seven
  refine ⟨by omega, by omega, ?_, c0, c1, hl⟩
  intro x hx
  obtain ⟨j, hj, rfl⟩ := List.mem_map.1 hx
  exact cen_low h.ok j
theorem wt_get (D : List Dbt) (i : Nat) (hi : i < D.length) : (wtL D D.length).getD i 0 = cen D i := rngL_get _ _ _ hi
theorem prt_sum {W : List Int} {c : Int} (H : Wts W c) (j : Nat) (hj : j ≤ W.length) : sumI (prtL W c j) = sumI (rngL (quF W c) W.length) + j := by
  induction j with
  | zero => rw [prt_zero]; simp
  | succ j ih =>
    have om : (ordN (keyR W c) W.length)[j]'(by rw [ordN_len]; omega) < W.length := ordN_mem.1 (List.getElem_mem _)
    rw [← prt_succ W c j (by omega), sumI_set _ _ _ (by simpa [prtL, rngL_len] using om), ih (by omega)]
    omega
theorem rest_pos {W : List Int} {c : Int} (H : Wts W c) (i : Nat) (hi : i ∈ (ordN (keyR W c) W.length).take (lefF W c W.length).toNat) : 0 < reF W c i := by
  have hl := ordN_len (keyR W c) W.length
  obtain ⟨L0, L1⟩ := lef_bounds H
  have e := left_rests H
  have s := H.all
  apply Classical.byContradiction
  intro hn
  have r0 : reF W c i = 0 := by have := (H.re i).1; omega
  obtain ⟨m, hm⟩ := Int.eq_ofNat_of_zero_le L0
  rw [hm, Int.toNat_natCast] at hi
  rw [hm] at e L0 L1
  -- all behind it have no rest
  have hp := ordN_pair (keyR W c) W.length
  have hsum : sumF (reF W c) (ordN (keyR W c) W.length) = sumI (rngL (reF W c) W.length) := sumF_ord _ _ _
  rw [← List.take_append_drop m (ordN (keyR W c) W.length)] at hp hsum
  rw [List.pairwise_append] at hp
  have split_sum : ∀ a b : List Nat, sumF (reF W c) (a ++ b) = sumF (reF W c) a + sumF (reF W c) b := fun a b => by
    induction a with
    | nil => show _ = 0 + _; rw [Int.zero_add]; rfl
    | cons x a ih =>
      show reF W c x + sumF (reF W c) (a ++ b) = reF W c x + sumF (reF W c) a + _
      rw [ih]; omega
  rw [split_sum] at hsum
  have drop0 : ∀ l : List Nat, (∀ b ∈ l, reF W c b = 0) → sumF (reF W c) l = 0 := fun l hl => by
    induction l with
    | nil => rfl
    | cons x l ih =>
      show reF W c x + sumF (reF W c) l = 0
      rw [hl x (by simp), ih fun b hb => hl b (by simp [hb])]; rfl
  have z := drop0 ((ordN (keyR W c) W.length).drop m) fun b hb => by
    have := hp.2.2 i hi b hb
    have q := (H.re b).1
    unfold Bef keyR at this
    omega
  have up : ∀ l : List Nat, sumF (reF W c) l ≤ (sumI W - 1) * (l.length : Int) := fun l => by
    induction l with
    | nil => show (0 : Int) ≤ _ * 0; omega
    | cons x l ih =>
      have q := (H.re x).2
      show reF W c x + sumF (reF W c) l ≤ _
      have : (sumI W - 1) * ((x :: l).length : Int) = (sumI W - 1) * (l.length : Int) + (sumI W - 1) := by
        rw [List.length_cons, Int.natCast_add, Int.mul_add]; show _ + _ * 1 = _; omega
      omega
  have u := up ((ordN (keyR W c) W.length).take m)
  have tl : ((ordN (keyR W c) W.length).take m).length = m := by rw [List.length_take]; omega
  rw [tl] at u
  rw [z, ← e] at hsum
  have e2 : (sumI W - 1) * (m : Int) = sumI W * (m : Int) - m := by rw [Int.sub_mul]; omega
  have m0 : m = 0 := by omega
  subst m0
  simp at hi
structure PayOk (D : List Dbt) (c : Int) (r : Int × List Int) : Prop where
  len : r.2.length = D.length
  sum : sumI r.2 + r.1 = c
  left : r.1 = max 0 (c - sumI (wtL D D.length))
  low : ∀ i, i < D.length → 0 ≤ r.2.getD i 0 ∧ r.2.getD i 0 ≤ cen D i
def parL (D : List Dbt) (c : Int) : List Int := prtL (wtL D D.length) c (lefF (wtL D D.length) c D.length).toNat
theorem payR_ok {D : List Dbt} (h : Dts D) {c : Int} (c0 : 0 ≤ c) (c1 : c ≤ 2000) (k : Int) : PayOk D c (payR D c k (parL D c)) := by
  have wl : (wtL D D.length).length = D.length := rngL_len _ _
  unfold payR
  split
  · split
    · rename_i hk hs
      refine ⟨wl, by show sumI (wtL D D.length) + (c - sumI (wtL D D.length)) = c; omega, by show c - sumI (wtL D D.length) = _; omega, fun i hi => ?_⟩
      show 0 ≤ (wtL D D.length).getD i 0 ∧ (wtL D D.length).getD i 0 ≤ cen D i
      rw [wt_get D i hi]
      exact ⟨(cen_low h.ok i).1, Int.le_refl _⟩
    · rename_i hk hs
      have H := wts_of h c0 c1 (by omega)
      obtain ⟨L0, L1⟩ := lef_bounds H
      have rp := rest_pos H
      have ps := prt_sum H (lefF (wtL D D.length) c (wtL D D.length).length).toNat (by omega)
      rw [wl] at rp ps L0 L1
      refine ⟨by show (prtL _ _ _).length = _; simp [prtL, rngL_len, wl], ?_, by show (0 : Int) = _; omega, fun i hi => ?_⟩
      · show sumI (parL D c) + 0 = c
        unfold parL
        rw [ps]
        have : lefF (wtL D D.length) c D.length = c - sumI (rngL (quF (wtL D D.length) c) D.length) := rfl
        omega
      · have g : (parL D c).getD i 0 = prtF (wtL D D.length) c (lefF (wtL D D.length) c D.length).toNat i := rngL_get _ _ _ (by omega)
        show 0 ≤ (parL D c).getD i 0 ∧ (parL D c).getD i 0 ≤ cen D i
        rw [g]
        have q := H.qu i
        rw [wt_get D i hi] at q
        unfold prtF
        rw [wl]
        split
        · rename_i hm
          have := q.2.2 (rp i hm)
          omega
        · omega
  · have I := payT_inv h c0 k D.length (Nat.le_refl _)
    have hl := ordN_len (keyP D k) D.length
    have ht : (ordN (keyP D k) D.length).take D.length = ordN (keyP D k) D.length := List.take_of_length_le (by omega)
    rw [ht] at I
    refine ⟨I.len, I.sum, ?_, fun i _ => I.low i⟩
    rw [I.left, sumF_ord]
    rfl
theorem pay_part {D : List Dbt} (h : Dts D) {c : Int} (c0 : 0 ≤ c) (c1 : c ≤ 2000) (hl : c < sumI (wtL D D.length)) : CallA Try.prog 20 [.int .i64 c, .ro (ints (wtL D D.length))] [] (Ret (.sl 0 0 D.length) [intB (parL D c)]) := by
  have wl : (wtL D D.length).length = D.length := rngL_len _ _
  have := parted_call (wts_of h c0 c1 hl)
  rw [wl] at this
  exact this
theorem pay_split {D : List Dbt} (h : Dts D) {c : Int} (c0 : 0 ≤ c) (c1 : c ≤ 2000) (hl : c < sumI (wtL D D.length)) : CallA Try.prog 26 [.int .i64 c, .ro (ints (wtL D D.length)), .int .i64 (sumI (wtL D D.length))] [] (Ret (.sl 0 0 D.length) [intB (parL D c)]) := by
  have wl : (wtL D D.length).length = D.length := rngL_len _ _
  have := split_call (wts_of h c0 c1 hl)
  rw [wl] at this
  exact this
theorem frz_pay (W : List Int) (x : Int) {n : Nat} (h : W.length = n) : view 3 [intB W] (.tup [.sl 0 0 n, .int .i64 x, .bool true]) = .tup [.ro (ints W), .int .i64 x, .bool true] := by
  have h1 : view 2 [intB W] (.sl 0 0 n) = .ro (ints W) := view_in rfl h
  have h2 : view 2 [intB W] (.int .i64 x) = .int .i64 x := view_int _ _ _ _
  have h3 : view 2 [intB W] (.bool true) = .bool true := view_bool _ _ _
  show AV.tup [view 2 [intB W] (.sl 0 0 n), view 2 [intB W] (.int .i64 x), view 2 [intB W] (.bool true)] = _
  rw [h1, h2, h3]
def payO (D : List Dbt) (c k : Int) : Int × List Int := payR D c k (parL D c)
theorem implPay_ro {D : List Dbt} (h : Dts D) (c k : Int) (c0 : 0 ≤ c) (c1 : c ≤ 2000) (k0 : 0 ≤ k) (k2 : k ≤ 2) :
    CallA Try.prog 7 [.ro (D.map dbtA), .int .i64 c, .int .i64 k] [] (Ret (.tup [.ro (ints (payO D c k).2), .int .i64 (payO D c k).1, .bool true]) []) :=
  (implPay_call h c k c0 (by omega) k0 k2 (parL D c) (fun _ hl => pay_part h c0 c1 hl)).frozen 3 (frz_pay _ _ (payR_ok h c0 c1 k).len)
theorem specPay_ro {D : List Dbt} (h : Dts D) (c k : Int) (c0 : 0 ≤ c) (c1 : c ≤ 2000) (k0 : 0 ≤ k) (k2 : k ≤ 2) :
    CallA Try.prog 8 [.ro (D.map dbtA), .int .i64 c, .int .i64 k] [] (Ret (.tup [.ro (ints (payO D c k).2), .int .i64 (payO D c k).1, .bool true]) []) :=
  (specPay_call h c k c0 (by omega) k0 k2 (parL D c) (fun _ hl => pay_split h c0 c1 hl)).frozen 3 (frz_pay _ _ (payR_ok h c0 c1 k).len)
end Go.Proofs.Ytimnfechlomkpaa
