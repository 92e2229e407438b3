/- The two proofs are one: plain. -/
import Derived.Test.YthcfklkpabfkbaaGreatQrX
set_option maxRecDepth 10000
set_option linter.unusedSimpArgs false
set_option linter.unusedVariables false
namespace Go.Proofs.YthcfklkpabfkbaaGreat
open Go Go.Abs

def bk (ru : Nat → Rul) (F : Int → Bool) : List Nat → (Int → Bool) → List Nat → List Nat
  | [], _, out => out
  | i :: pre, want, out => if (want (ru i).1 && !pre.any fun k => (ru k).1 == (ru i).1) = true then bk ru F pre (fun w => want w || ((ru i).2.1.any (fun v => v == w) && !F w)) (i :: out) else bk ru F pre want out
def wan0 (F : Int → Bool) (x : Int) : Int → Bool := fun w => w == x && !F w
def dL (L : List Nat) (i : Nat) : Nat := L.getD i 0
theorem map_dL (L : List Nat) : (List.range L.length).map (dL L) = L := by
  apply List.ext_getElem
  · simp
  · intro i h1 h2
    simp [dL, List.getD_eq_getElem?_getD, h2]
theorem filter_actL (R : List Rul) (day : Int) : R.filter (onB day) = (actL R day).map (rkR R) := by
  have h : R = (List.range R.length).map (rkR R) := by
    apply List.ext_getElem
    · simp
    · intro i h1 h2
      simp [rkR_at R i h1]
  have h2 : ((List.range R.length).map (rkR R)).filter (onB day) = (actL R day).map (rkR R) := by
    rw [List.filter_map]; rfl
  rw [← h] at h2
  exact h2
theorem bk_map {ru ru' : Nat → Rul} {F : Int → Bool} (d : Nat → Nat) : ∀ (l : List Nat) (want : Int → Bool) (out : List Nat), (∀ i ∈ l, ru' (d i) = ru i) → bk ru' F (l.map d) want (out.map d) = (bk ru F l want out).map d
  | [], want, out, _ => rfl
  | i :: l, want, out, h => by
    have hi := h i (by simp)
    have hl : ∀ k ∈ l, ru' (d k) = ru k := fun k hk => h k (List.mem_cons_of_mem _ hk)
    have ea : ((l.map d).any fun k => (ru' k).1 == (ru i).1) = l.any fun k => (ru k).1 == (ru i).1 := by
      rw [List.any_map]
      exact any_congrM l fun k hk => by simp [hl k hk]
    show bk ru' F (d i :: l.map d) want (out.map d) = _
    unfold bk
    rw [hi, ea]
    split
    · exact bk_map d l _ (i :: out) hl
    · exact bk_map d l want out hl
section
variable {ru : Nat → Rul} {F : Int → Bool}
theorem bk_sub : ∀ (pre : List Nat) (want : Int → Bool) (out : List Nat), ∃ sub, bk ru F pre want out = sub ++ out ∧ sub.Sublist pre.reverse
  | [], want, out => ⟨[], rfl, List.Sublist.refl _⟩
  | i :: pre, want, out => by
    unfold bk
    rw [List.reverse_cons]
    split
    · obtain ⟨sub, h1, h2⟩ := bk_sub pre _ (i :: out)
      exact ⟨sub ++ [i], by rw [h1]; simp, h2.append (List.Sublist.refl _)⟩
    · obtain ⟨sub, h1, h2⟩ := bk_sub pre want out
      exact ⟨sub, h1, h2.trans (List.sublist_append_left _ _)⟩
theorem sub_filter {sub l : List Nat} (h : sub.Sublist l) : l.Nodup → ∀ g : Nat → Bool, (∀ i ∈ l, g i = true ↔ i ∈ sub) → l.filter g = sub := by
  induction h with
  | slnil => intro _ _ _; rfl
  | @cons s l a hs ih =>
    intro hn g hg
    have hna := (List.nodup_cons.1 hn).1
    have : g a = false := by
      cases e : g a with
      | false => rfl
      | true => exact absurd (hs.subset ((hg a (by simp)).1 e)) hna
    rw [List.filter_cons_of_neg (by simp [this])]
    exact ih (List.nodup_cons.1 hn).2 g fun i hi => hg i (by simp [hi])
  | @cons_cons s l a hs ih =>
    intro hn g hg
    have hna := (List.nodup_cons.1 hn).1
    rw [List.filter_cons_of_pos ((hg a (by simp)).2 (by simp)), ih (List.nodup_cons.1 hn).2 g fun i hi => ?_]
    have hne : i ≠ a := fun e => hna (e ▸ hi)
    rw [hg i (by simp [hi])]
    simp [hne]
theorem fst1_of {a b : List Nat} {e : Nat} (h : (a.any fun k => (ru k).1 == (ru e).1) = false) : fst1 ru (a ++ e :: b) (ru e).1 = some e := by
  unfold fst1
  rw [List.find?_append]
  have : a.find? (fun i => (ru i).1 == (ru e).1) = none := by
    rw [List.find?_eq_none]
    intro k hk
    have := List.any_eq_false.1 h k hk
    simpa using this
  rw [this]
  simp
theorem fst1_in {a b : List Nat} {k : Nat} {v : Int} (hk : k ∈ a) (hv : (ru k).1 = v) {e : Nat} (h : fst1 ru (a ++ b) v = some e) : e ∈ a := by
  unfold fst1 at h
  rw [List.find?_append] at h
  cases hf : a.find? (fun i => (ru i).1 == v) with
  | none =>
    have := List.find?_eq_none.1 hf k hk
    simp [hv] at this
  | some j =>
    rw [hf] at h
    simp only [Option.some_or, Option.some.injEq] at h
    exact h ▸ List.mem_of_find?_eq_some hf
theorem fst1_head {order : List Nat} {v : Int} {e : Nat} (h : fst1 ru order v = some e) : (ru e).1 = v := by
  have := List.find?_some h
  simpa using this
theorem any_rev (l : List Nat) (p : Nat → Bool) : l.reverse.any p = l.any p := by rw [List.any_reverse]
theorem bk_sound {order : List Nat} {g : Int → Bool} {x : Int} (N : NdL ru order F (fun _ => false) [x] g) : ∀ (pre rest : List Nat) (want : Int → Bool) (out : List Nat), order = pre.reverse ++ rest → (∀ w, want w = true → F w = false ∧ (w = x ∨ ∃ j : Nat, g j = true ∧ w ∈ (ru j).2.1)) → ∀ i ∈ bk ru F pre want out, i ∈ out ∨ g (i : Nat) = true
  | [], _, _, _, _, _, i, hi => .inl hi
  | k :: pre, rest, want, out, ho, hw, i, hi => by
    rw [List.reverse_cons, List.append_assoc] at ho
    unfold bk at hi
    split at hi
    · rename_i hg
      rw [Bool.and_eq_true, Bool.not_eq_true'] at hg
      obtain ⟨h1, h2⟩ := hw _ hg.1
      have hf : fst1 ru order (ru k).1 = some k := by rw [ho]; exact fst1_of (by rw [any_rev]; exact hg.2)
      have hk : g (k : Nat) = true := by
        rcases h2 with h2 | ⟨j, hj, hv⟩
        · rw [h2] at h1 hf; exact N.has x (by simp) h1 k hf
        · exact N.new j hj rfl _ hv h1 k hf
      rcases bk_sound N pre (k :: rest) _ (k :: out) (by rw [ho]; rfl) (fun w hw2 => by
        rcases Bool.or_eq_true_iff.1 hw2 with h3 | h3
        · exact hw w h3
        · rw [Bool.and_eq_true, List.any_eq_true] at h3
          obtain ⟨⟨v, hv, e⟩, h4⟩ := h3
          have e := eq_of_beq e
          subst e
          exact ⟨by simpa using h4, .inr ⟨k, hk, hv⟩⟩) i hi with h5 | h5
      · rcases List.mem_cons.1 h5 with rfl | h5
        · exact .inr hk
        · exact .inl h5
      · exact .inr h5
    · exact bk_sound N pre (k :: rest) want out (by rw [ho]; rfl) hw i hi
theorem bk_c1 {order : List Nat} (hn : order.Nodup) : ∀ (pre rest : List Nat) (want : Int → Bool) (out : List Nat), order = pre.reverse ++ rest → ∀ w e, want w = true → fst1 ru order w = some e → e ∈ pre → e ∈ bk ru F pre want out
  | [], _, _, _, _, w, e, _, _, he => by cases he
  | k :: pre, rest, want, out, ho, w, e, hw, hf, he => by
    rw [List.reverse_cons, List.append_assoc] at ho
    have ho2 : order = pre.reverse ++ (k :: rest) := by rw [ho]; rfl
    unfold bk
    split
    · rename_i hg
      by_cases h : e = k
      · subst h
        obtain ⟨sub, h1, _⟩ := bk_sub (ru := ru) (F := F) pre (fun w => want w || ((ru e).2.1.any (fun v => v == w) && !F w)) (e :: out)
        rw [h1]
        simp
      · exact bk_c1 hn pre (k :: rest) _ _ ho2 w e (by rw [hw]; rfl) hf ((List.mem_cons.1 he).resolve_left h)
    · rename_i hg
      by_cases h : e = k
      · subst h
        exfalso
        apply hg
        rw [Bool.and_eq_true, Bool.not_eq_true']
        refine ⟨by rw [fst1_head hf]; exact hw, ?_⟩
        rw [List.any_eq_false]
        intro q hq hq2
        have := fst1_in (ru := ru) (a := pre.reverse) (b := e :: rest) (v := w) (k := q) (List.mem_reverse.2 hq) (by rw [← fst1_head hf]; simpa using hq2) (by rw [← ho2]; exact hf)
        rw [ho2, List.nodup_append] at hn
        exact hn.2.2 e this e (by simp) rfl
      · exact bk_c1 hn pre (k :: rest) _ _ ho2 w e hw hf ((List.mem_cons.1 he).resolve_left h)
theorem bk_c2 {order : List Nat} (hn : order.Nodup) (KN : ∀ a e b, order = a ++ e :: b → ∀ v ∈ (ru e).2.1, F v = false → ∃ k ∈ a, (ru k).1 = v) : ∀ (pre rest : List Nat) (want : Int → Bool) (out : List Nat), order = pre.reverse ++ rest → ∀ j ∈ bk ru F pre want out, j ∈ out ∨ ∀ v ∈ (ru j).2.1, F v = false → ∀ e, fst1 ru order v = some e → e ∈ bk ru F pre want out
  | [], _, _, _, _, j, hj => .inl hj
  | k :: pre, rest, want, out, ho, j, hj => by
    rw [List.reverse_cons, List.append_assoc] at ho
    have ho2 : order = pre.reverse ++ (k :: rest) := by rw [ho]; rfl
    unfold bk at hj ⊢
    split at hj
    · rename_i hg
      rw [if_pos hg]
      rcases bk_c2 hn KN pre (k :: rest) _ _ ho2 j hj with h | h
      · rcases List.mem_cons.1 h with rfl | h
        · refine .inr fun v hv hF e he => ?_
          obtain ⟨q, hq, hqv⟩ := KN _ _ _ ho2 v hv hF
          have hin := fst1_in (ru := ru) hq hqv (by rw [← ho2]; exact he)
          refine bk_c1 hn pre (j :: rest) _ _ ho2 v e ?_ he (List.mem_reverse.1 hin)
          rw [Bool.or_eq_true]
          refine .inr ?_
          rw [Bool.and_eq_true, List.any_eq_true]
          exact ⟨⟨v, hv, by simp⟩, by rw [hF]; rfl⟩
        · exact .inl h
      · exact .inr h
    · rename_i hg
      rw [if_neg hg]
      exact bk_c2 hn KN pre (k :: rest) want out ho2 j hj
theorem bk_is {order : List Nat} (hn : order.Nodup) (KN : ∀ a e b, order = a ++ e :: b → ∀ v ∈ (ru e).2.1, F v = false → ∃ k ∈ a, (ru k).1 = v) {g : Int → Bool} {x : Int} (N : NdL ru order F (fun _ => false) [x] g) : order.filter (fun i : Nat => g i) = bk ru F order.reverse (wan0 F x) [] := by
  obtain ⟨sub, h1, h2⟩ := bk_sub (ru := ru) (F := F) order.reverse (wan0 F x) []
  rw [List.append_nil] at h1
  rw [List.reverse_reverse] at h2
  have hs : ∀ i, i ∈ sub ↔ i ∈ bk ru F order.reverse (wan0 F x) [] := fun i => by rw [h1]
  rw [h1]
  refine sub_filter h2 hn _ fun i hi => ⟨fun hg => ?_, fun hs2 => ?_⟩
  · rcases N.low (fun i => i ∈ sub) (fun j hj v hv hF e he => by
      rcases bk_c2 hn KN order.reverse [] (wan0 F x) [] (by simp) j ((hs j).1 hj) with h | h
      · cases h
      · exact (hs e).2 (h v hv hF e he)) (fun w hw hF e he => by
      rw [List.mem_singleton.1 hw] at hF he
      exact (hs e).2 (bk_c1 hn order.reverse [] (wan0 F x) [] (by simp) x e (by unfold wan0; rw [hF]; simp) he (List.mem_reverse.2 (List.mem_of_find?_eq_some he)))) (i : Int) hg with h | ⟨j, hj, h⟩
    · cases h
    · have : i = j := by omega
      exact this ▸ h
  · rcases bk_sound N order.reverse [] (wan0 F x) [] (by simp) (fun w hw => by
      unfold wan0 at hw
      rw [Bool.and_eq_true] at hw
      exact ⟨by simpa using hw.2, .inl (eq_of_beq hw.1)⟩) i ((hs i).1 hs2) with h | h
    · cases h
    · exact h
end
end Go.Proofs.YthcfklkpabfkbaaGreat
