/- The proof that is told is one, and there is none to give for facts alone. -/
import Derived.Test.YthcfklkpabfkbaaGreatQrZd
set_option maxRecDepth 10000
set_option linter.unusedSimpArgs false
set_option linter.unusedVariables false
namespace Go.Proofs.YthcfklkpabfkbaaGreat
open Go Go.Abs

theorem tkN_yes {L : List Nat} {ru : Nat → Rul} {Y F : Int → Bool} : ∀ n, ∀ i ∈ (tkN L ru Y F n).1, Y (ru i).1 = true ∧ F (ru i).1 = false
  | 0, i, h => by cases h
  | n + 1, i, h => by
    rcases List.mem_append.1 h with h | h
    · exact tkN_yes n i h
    · have hp := (List.mem_filter.1 h).2
      unfold tkP at hp
      simp only [Bool.and_eq_true, Bool.not_eq_true'] at hp
      exact ⟨hp.2.1, hp.2.2.1⟩
theorem taken_allL {R : List Rul} (hR : Rls R) {day : Int} {fs : List Int} {Y N : Int → Bool} (hRA : Rls (R.filter (onB day))) (L2 : Least (R.filter (onB day)) fs Y N) {m : Nat}
    (h0 : tkS (actL R day) (rkR R) Y (fB fs) (tkN (actL R day) (rkR R) Y (fB fs) m).1 (tkN (actL R day) (rkR R) Y (fB fs) m).2 = []) {w : Int} (hw : wordB w = true) (hy : Y w = true) : w ∈ fs ∨ ∃ k ∈ (tkN (actL R day) (rkR R) Y (fB fs) m).1, (rkR R k).1 = w := by
  have hF := filter_actL R day
  have hlen : (R.filter (onB day)).length = (actL R day).length := by rw [hF, List.length_map]
  have hnd := actL_nodup R day
  have hlt : ∀ i ∈ actL R day, i < R.length := fun i hi => List.mem_range.1 (List.mem_filter.1 hi).1
  generalize hLd : actL R day = L at *
  generalize R.filter (onB day) = RA at *
  have hd : ∀ i, (h : i < L.length) → dL L i = L[i] := fun i h => by simp [dL, List.getD_eq_getElem?_getD, h]
  have hru : ∀ i ∈ List.range RA.length, rkR R (dL L i) = rkR RA i := fun i hi => by
    have hi' : i < RA.length := List.mem_range.1 hi
    rw [rkR_at RA i hi', hd i (by omega)]
    simp [hF]
  have hinj : ∀ i ∈ List.range RA.length, ∀ j ∈ List.range RA.length, dL L i = dL L j → i = j := fun i hi j hj e => by
    have hi' := List.mem_range.1 hi
    have hj' := List.mem_range.1 hj
    rw [hd i (by omega), hd j (by omega)] at e
    exact (List.getElem_inj hnd).1 e
  have hmapL : (List.range RA.length).map (dL L) = L := by rw [hlen]; exact map_dL L
  have hm := fun k => tkN_map (L := List.range RA.length) (ru := rkR RA) (ru' := rkR R) (Y := Y) (F := fB fs) (dL L) hinj hru k
  rw [hmapL] at hm
  have h1 : (tkN L (rkR R) Y (fB fs) (m + 1)).1 = (tkN L (rkR R) Y (fB fs) m).1 := by rw [tkN_stop h0]
  rw [(hm (m + 1)).1, (hm m).1] at h1
  have h2 := congrArg List.length h1
  rw [List.length_map, List.length_map] at h2
  have h3 : ((tkN (List.range RA.length) (rkR RA) Y (fB fs) m).1 ++ tkS (List.range RA.length) (rkR RA) Y (fB fs) (tkN (List.range RA.length) (rkR RA) Y (fB fs) m).1 (tkN (List.range RA.length) (rkR RA) Y (fB fs) m).2).length = (tkN (List.range RA.length) (rkR RA) Y (fB fs) m).1.length := h2
  rw [List.length_append] at h3
  rcases taken_all hRA L2 (n := m) (List.eq_nil_of_length_eq_zero (by omega)) hw hy with h | ⟨k, hk, e⟩
  · exact .inl h
  · refine .inr ⟨dL L k, ?_, ?_⟩
    · rw [(hm m).1]; exact List.mem_map.2 ⟨k, hk, rfl⟩
    · rw [hru k ((hm m).2.2 k hk), e]

theorem proof_good {R : List Rul} (hR : Rls R) {day : Int} {fs : List Int} (hRA : Rls (R.filter (onB day))) {Y' N' Y N : Int → Bool} (L2 : Least (R.filter (onB day)) fs Y N) (L1 : Least (R.filter (onB day)) fs Y' N') {x : Int} (hx : wordB x = true) (hy : Y x = true) {m : Nat}
    (h0 : tkS (actL R day) (rkR R) Y (fB fs) (tkN (actL R day) (rkR R) Y (fB fs) m).1 (tkN (actL R day) (rkR R) Y (fB fs) m).2 = []) :
    isPrf R day Y' (fB fs) (nI (bk (rkR R) (fB fs) (tkN (actL R day) (rkR R) Y (fB fs) m).1.reverse (wan0 (fB fs) x) [])) x = true ∧ ((bk (rkR R) (fB fs) (tkN (actL R day) (rkR R) Y (fB fs) m).1.reverse (wan0 (fB fs) x) [] = []) ↔ x ∈ fs) := by
  have ta := taken_allL hR hRA L2 h0 hx hy
  have ty := tkN_yes (L := actL R day) (ru := rkR R) (Y := Y) (F := fB fs) m
  have tn := tkN_nodup (ru := rkR R) (Y := Y) (F := fB fs) (actL_nodup R day) m
  have tk := (tkN_kn (L := actL R day) (ru := rkR R) (F := fB fs) (Y := Y) m).2
  generalize (tkN (actL R day) (rkR R) Y (fB fs) m).1 = T at *
  have hlast := bk_last (ru := rkR R) (F := fB fs) (x := x) T.reverse
  obtain ⟨sub, s1, s2⟩ := bk_sub (ru := rkR R) (F := fB fs) T.reverse (wan0 (fB fs) x) []
  rw [List.append_nil] at s1
  rw [List.reverse_reverse] at s2
  have c1 := bk_c1 (ru := rkR R) (F := fB fs) tn.1 T.reverse [] (wan0 (fB fs) x) [] (by simp)
  have c2 := bk_c2 (ru := rkR R) (F := fB fs) tn.1 tk T.reverse [] (wan0 (fB fs) x) [] (by simp)
  generalize bk (rkR R) (fB fs) T.reverse (wan0 (fB fs) x) [] = P at *
  subst s1
  have hPT : ∀ i ∈ P, i ∈ T := fun i hi => s2.subset hi
  have hfil : T.filter (fun i => decide (i ∈ P)) = P := sub_filter s2 tn.1 _ fun i hi => by simp
  have hempty : P = [] ↔ x ∈ fs := by
    constructor
    · intro hP
      rcases ta with h | ⟨k, hk, e⟩
      · exact h
      · by_cases hxf : x ∈ fs
        · exact hxf
        · exfalso
          cases hf : fst1 (rkR R) T x with
          | none =>
            unfold fst1 at hf
            have := List.find?_eq_none.1 hf k hk
            simp [e] at this
          | some e1 =>
            have hm1 : e1 ∈ T := by unfold fst1 at hf; exact List.mem_of_find?_eq_some hf
            have := c1 x e1 (by unfold wan0 fB; simp [hxf]) hf (List.mem_reverse.2 hm1)
            rw [hP] at this
            cases this
    · intro hxf
      rcases hlast with h | ⟨s, i, h, e⟩
      · exact h
      · exfalso
        have hi := hPT i (by rw [h]; simp)
        have := (ty i hi).2
        rw [e] at this
        unfold fB at this
        simp [hxf] at this
  refine ⟨?_, hempty⟩
  unfold isPrf
  rw [nI_len]
  by_cases hP : P.length = 0
  · rw [if_pos hP]
    have := hempty.1 (List.eq_nil_of_length_eq_zero hP)
    unfold fB
    simp [this]
  · rw [if_neg hP, Bool.and_eq_true]
    constructor
    · refine okL_all P _ fun a e b hab => ?_
      have heP : e ∈ P := by rw [hab]; simp
      have heT := hPT e heP
      have hact := tn.2 e heT
      have honn : onB day (rkR R e) = true := (List.mem_filter.1 hact).2
      have hlt : e < R.length := List.mem_range.1 (List.mem_filter.1 hact).1
      have hok := hR.ok _ (List.getElem_mem hlt)
      refine ⟨honn, ?_, fun v hv => ?_⟩
      · rw [rkR_at R e hlt, ← (L2.same L1 _ hok.1).1, ← rkR_at R e hlt]
        exact (ty e heT).1
      · cases hF : fB fs v with
        | true => exact .inl rfl
        | false =>
          refine .inr (.inr ?_)
          rw [hab] at hfil
          obtain ⟨l1, l2, hl, f1, f2⟩ := List.filter_eq_append_iff.1 hfil
          obtain ⟨m1, m2, hl2, g1, g2, g3⟩ := List.filter_eq_cons_iff.1 f2
          have hT : T = (l1 ++ m1) ++ e :: m2 := by rw [hl, hl2, List.append_assoc]
          obtain ⟨k, hk, hkv⟩ := tk _ _ _ hT v hv hF
          cases hf : fst1 (rkR R) T v with
          | none =>
            unfold fst1 at hf
            have := List.find?_eq_none.1 hf k (by rw [hT]; exact List.mem_append_left _ hk)
            simp [hkv] at this
          | some e1 =>
            have hin := fst1_in (ru := rkR R) hk hkv (by rw [← hT]; exact hf)
            have hP1 : e1 ∈ P := by
              rcases c2 e heP with h | h
              · cases h
              · exact h v hv hF e1 hf
            refine ⟨e1, ?_, fst1_head hf⟩
            rw [← f1]
            rcases List.mem_append.1 hin with h | h
            · exact List.mem_filter.2 ⟨h, by rw [← hab]; exact decide_eq_true hP1⟩
            · exact absurd (by rw [← hab]; exact decide_eq_true hP1) (g1 e1 h)
    · rcases hlast with h | ⟨s, i, h, e⟩
      · exact absurd (by rw [h]; rfl) hP
      · rw [h, nI_append]
        simp [nI, List.getD_eq_getElem?_getD, e]
end Go.Proofs.YthcfklkpabfkbaaGreat
