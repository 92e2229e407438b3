/- The two proofs are one. -/
import Derived.Test.YthcfklkpabfkbaaGreatQrY
import Derived.Test.YthcfklkpabfkbaaGreatQrZa
set_option maxRecDepth 10000
set_option linter.unusedSimpArgs false
set_option linter.unusedVariables false
namespace Go.Proofs.YthcfklkpabfkbaaGreat
open Go Go.Abs

theorem proofs_same {R : List Rul} (hR : Rls R) {day : Int} {fs : List Int} {Y N : Int → Bool} {W : Nat → Bool} (L1 : Least (R.filter (onB day)) fs Y N) (L2 : Least (R.filter (onB day)) fs (yW W) (nW W)) {x : Int} {out : List Int} (P : PrfP (R.filter (onB day)) (idxD R day R.length) fs Y x out) {m : Nat}
    (h0 : tkS (actL R day) (rkR R) (yW W) (fB fs) (tkN (actL R day) (rkR R) (yW W) (fB fs) m).1 (tkN (actL R day) (rkR R) (yW W) (fB fs) m).2 = []) : out = nI (bk (rkR R) (fB fs) (tkN (actL R day) (rkR R) (yW W) (fB fs) m).1.reverse (wan0 (fB fs) x) []) := by
  obtain ⟨n, g, hs, Ng, ho⟩ := P.ex
  have hRA := filter_actL R day
  have hI : idxD R day R.length = (actL R day).map fun i : Nat => (i : Int) := rfl
  have hlen : (R.filter (onB day)).length = (actL R day).length := by rw [hRA, List.length_map]
  have hnd := actL_nodup R day
  have hlt : ∀ i ∈ actL R day, i < R.length := fun i hi => List.mem_range.1 (List.mem_filter.1 hi).1
  generalize hLd : actL R day = L at *
  generalize R.filter (onB day) = RA at *
  have hd : ∀ i, (h : i < L.length) → dL L i = L[i] := fun i h => by simp [dL, List.getD_eq_getElem?_getD, h]
  have hru : ∀ i ∈ List.range RA.length, rkR R (dL L i) = rkR RA i := fun i hi => by
    have hi' : i < RA.length := List.mem_range.1 hi
    rw [rkR_at RA i hi', hd i (by omega)]
    simp [hRA]
  have hinj : ∀ i ∈ List.range RA.length, ∀ j ∈ List.range RA.length, dL L i = dL L j → i = j := fun i hi j hj e => by
    have hi' := List.mem_range.1 hi
    have hj' := List.mem_range.1 hj
    rw [hd i (by omega), hd j (by omega)] at e
    exact (List.getElem_inj hnd).1 e
  have hmapL : (List.range RA.length).map (dL L) = L := by rw [hlen]; exact map_dL L
  have hcong : ∀ k, tkN L (rkR R) Y (fB fs) k = tkN L (rkR R) (yW W) (fB fs) k := fun k => tkN_congr (fun i hi => by
    have := hlt i hi
    rw [rkR_at R i this]
    exact (L1.same L2 _ (hR.ok _ (List.getElem_mem this)).1).1) k
  have hm := fun k => tkN_map (L := List.range RA.length) (ru := rkR RA) (ru' := rkR R) (Y := Y) (F := fB fs) (dL L) hinj hru k
  rw [hmapL] at hm
  have hn1 : (tkN L (rkR R) Y (fB fs) (n + 1)).1 = (tkN L (rkR R) Y (fB fs) n).1 := by
    rw [(hm (n + 1)).1, (hm n).1, tkN_stop hs]
  have hst : tkS L (rkR R) (yW W) (fB fs) (tkN L (rkR R) (yW W) (fB fs) n).1 (tkN L (rkR R) (yW W) (fB fs) n).2 = [] := by
    rw [hcong, hcong] at hn1
    have hn2 : (tkN L (rkR R) (yW W) (fB fs) n).1 ++ tkS L (rkR R) (yW W) (fB fs) (tkN L (rkR R) (yW W) (fB fs) n).1 (tkN L (rkR R) (yW W) (fB fs) n).2 = (tkN L (rkR R) (yW W) (fB fs) n).1 := hn1
    have := congrArg List.length hn2
    rw [List.length_append] at this
    exact List.eq_nil_of_length_eq_zero (by omega)
  rw [← tkN_same hst h0, ← hcong n, (hm n).1, ← List.map_reverse]
  have hb := bk_map (ru := rkR RA) (ru' := rkR R) (F := fB fs) (dL L) (tkN (List.range RA.length) (rkR RA) Y (fB fs) n).1.reverse (wan0 (fB fs) x) [] (fun i hi => hru i ((hm n).2.2 i (List.mem_reverse.1 hi)))
  rw [List.map_nil] at hb
  rw [hb, ← bk_is (tkN_nodup List.nodup_range n).1 (tkN_kn n).2 Ng, ho]
  unfold prfL nI
  rw [List.map_map]
  apply List.map_congr_left
  intro i hi
  have hi2 := (hm n).2.2 i (List.mem_filter.1 hi).1
  have hi3 : i < L.length := by have := List.mem_range.1 hi2; omega
  show (idxD R day R.length).getD i 0 = ((dL L i : Nat) : Int)
  rw [hI, hd i hi3]
  simp [List.getD_eq_getElem?_getD, hi3]
end Go.Proofs.YthcfklkpabfkbaaGreat
