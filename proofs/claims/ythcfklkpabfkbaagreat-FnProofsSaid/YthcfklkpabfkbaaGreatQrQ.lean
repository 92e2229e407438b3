/- A drawn region in which two operations that change memory may come in either order. -/
import Derived.Test.YthcfklkpabfkbaaGreatQrP
set_option maxRecDepth 10000
set_option linter.unusedSimpArgs false
set_option linter.unusedVariables false
namespace Go.Proofs.YthcfklkpabfkbaaGreat
open Go Go.Abs

def ordOkP (ops : Array Oper) (ms : List Nat) (bks : List (Option Nat)) (fx : List (List Nat)) : List Nat → Array Bool → Bool
  | [], _ => true
  | k :: r, listed => (ms.getD k 1 == 5 && ((Region.ready .any ops listed).contains k && freeMB ops ms bks (fx.getD k []) listed k)) && ordOkP ops ms bks fx r (listed.setIfInBounds k true)
def aftP (pre : List Nat) (listed : Array Bool) : Array Bool := pre.foldl (fun l k => l.setIfInBounds k true) listed
section
variable {P : Program} {n0 : Nat} {ops : List Oper} {ms : List Nat} {bks : List (Option Nat)} {fx : List (List Nat)} {Hs Hw : List Blk → Prop} {K K1 : St → Prop}
theorem anyM_ordP (hsw : ∀ hp, Hs hp → Hw hp) (f : Nat) : ∀ (pre : List Nat) (listed : Array Bool) (st : St), ordOkP ops.toArray ms bks fx pre listed = true → ordM P n0 ops ms bks fx Hs Hw K1 pre st → (∀ st', K1 st' → anyM P n0 ops ms bks Hs Hw K f (aftP pre listed) st') → anyM P n0 ops ms bks Hs Hw K (pre.length + f) listed st
  | [], listed, st, _, h, hK => by rw [List.length_nil, Nat.zero_add]; exact hK st h
  | k :: r, listed, st, hB, h, hK => by
    obtain ⟨o, ho, hg, h⟩ := h
    simp only [ordOkP, Bool.and_eq_true, beq_iff_eq] at hB
    obtain ⟨⟨hm, hB1⟩, hB2⟩ := hB
    rw [hm] at h
    obtain ⟨v, hw, hy, ⟨hv, hx⟩, hK2⟩ := h
    rw [show (k :: r).length + f = (r.length + f) + 1 from by simp; omega]
    exact anyM_first ho (.inr (.inr hm)) hg hv (r.length + f) listed st (freeMB_spec ho hB1.2) (by simpa using hB1.1) (fun hp h => hy hp (by rcases h with h | h | h; exact h ▸ hw; exact hsw _ h.2; exact h.2)) hx (anyM_ordP hsw f r _ _ hB2 hK2 hK)
theorem anyM_pick (hsw : ∀ hp, Hs hp → Hw hp) {a b : Nat} {r : List Nat} {listed : Array Bool} {st : St} (hm : ms.getD a 1 = 4) (hok : ordOkM ops.toArray ms bks fx (b :: r) (listed.setIfInBounds a true) = true) (h : ordM P n0 ops ms bks fx Hs Hw K (a :: b :: r) st) :
    stepM P n0 ops ms bks Hs Hw a (anyM P n0 ops ms bks Hs Hw K (r.length + 1) (listed.setIfInBounds a true)) st := by
  obtain ⟨o, ho, hg, h⟩ := h
  rw [hm] at h
  obtain ⟨g, hop, hK⟩ := h
  unfold stepM
  simp only [ho, hm]
  exact ⟨hg, g, hop, fun v hp' kb hq => ⟨(hK v hp' kb hq).1, (hK v hp' kb hq).2.1, anyM_ord hsw (b :: r) _ _ hok (hK v hp' kb hq).2.2⟩⟩
end
def twoOk (ops : Array Oper) (pre : List Nat) (a b : Nat) (r ms : List Nat) (bks : List (Option Nat)) (fx : List (List Nat)) : Bool :=
  pre.length + (r.length + 2) == ops.size && (ordOkP ops ms bks fx pre (Array.replicate ops.size false) && (Region.ready .any ops (aftP pre (Array.replicate ops.size false)) == [a, b] && (ms.getD a 1 == 4 && (ms.getD b 1 == 4 &&
    (ordOkM ops ms bks fx (b :: r) ((aftP pre (Array.replicate ops.size false)).setIfInBounds a true) && ordOkM ops ms bks fx (a :: r) ((aftP pre (Array.replicate ops.size false)).setIfInBounds b true))))))
theorem go_two {P : Program} (hm : P.follows .mixedOrders = true) {n0 : Nat} {id : Nat} {ops : Array Oper} {Q : Ex → St → Prop} {st : St} {t} (pre : List Nat) (a b : Nat) (r ms : List Nat) (bks : List (Option Nat)) (fx : List (List Nat))
    (hok : twoOk ops pre a b r ms bks fx = true)
    (h : Om P n0 ops.toList ms bks fx (fun _ => True) (fun _ => True) (fun st => Om P n0 ops.toList ms bks fx (fun _ => True) (fun _ => True) (Q .normal) (a :: b :: r) .mk st ∧ Om P n0 ops.toList ms bks fx (fun _ => True) (fun _ => True) (Q .normal) (b :: a :: r) .mk st) pre .mk st) : Lp P n0 (.region id ops true) Q t st := by
  unfold twoOk at hok
  simp only [Bool.and_eq_true, beq_iff_eq] at hok
  obtain ⟨hlen, hpre, hrd, hma, hmb, oa, ob⟩ := hok
  delta Lp
  intro E0 hp0 E a' hn hs
  subst hn
  delta Om at h
  have h1 := anyM_anyA _ _ _ (anyM_ordP (P := P) (n0 := hp0.length) (ops := ops.toList) (ms := ms) (bks := bks) (fx := fx) (Hs := fun _ => True) (Hw := fun _ => True) (K := Q .normal) (K1 := fun st => ordM P hp0.length ops.toList ms bks fx (fun _ => True) (fun _ => True) (Q .normal) (a :: b :: r) st ∧ ordM P hp0.length ops.toList ms bks fx (fun _ => True) (fun _ => True) (Q .normal) (b :: a :: r) st) (fun _ _ => trivial) (r.length + 2) pre (Array.replicate ops.size false) st (by simpa using hpre) h (by
    rintro st' ⟨h2, h3⟩
    refine ⟨fun h => ?_, fun i hi => ?_⟩
    · rw [show ops.toList.toArray = ops from by simp, hrd] at h; cases h
    · rw [show ops.toList.toArray = ops from by simp, hrd] at hi
      simp only [List.mem_cons, List.not_mem_nil, or_false] at hi
      rcases hi with rfl | rfl
      · exact anyM_pick (fun _ _ => trivial) hma (fx := fx) (by simpa using oa) h2
      · exact anyM_pick (fun _ _ => trivial) hmb (fx := fx) (by simpa using ob) h3))
  rw [hlen] at h1
  refine wp_region_any hm ?_
  have hs' : SR E0 hp0 (E.with { E.w with drawn := E.w.drawn + 1 }) st a' := ⟨hs.hr.with (Same.drew _ _), hs.fr.with (Same.drew _ _), hs.len, fun i v u a1 a2 => (hs.tm i v u a1 a2).mono (Env.le_with (Same.drew _ _)), hs.df⟩
  have h2 := anyA_sound (P := P) (Q := liftQ E0 hp0 Q) (fun E st a hs hk => ⟨.normal, st, E, rfl, rfl, hs, hk⟩) _ _ _ st a' hs' h1
  rw [show ops.toList.toArray = ops from by simp] at h2
  exact h2
end Go.Proofs.YthcfklkpabfkbaaGreat
