/- A strings.Builder as known blocks. -/
import Derived.Test.YtdhomifcjakbgaaDoorJoA
import Derived.Test.YtdhomifcjakbgaaDoorJnB
set_option linter.unusedVariables false
set_option linter.unusedSimpArgs false
set_option maxHeartbeats 2000000
set_option maxRecDepth 10000
namespace Go.Proofs.YtdhomifcjakbgaaDoor
open Go Go.Abs

def bldB (p s : AV) : Blk := { ty := 53, w := 2, els := [.agg [p, s]] }
theorem setCell_row {w : World} {b : Nat} {cs : Array Value} {T : TypeId} {fr : Nat × Nat} (v : Value) (h : w.heap[b]? = some (.cells cs T fr)) : w.setCell ⟨b, 0, none⟩ v = w.setRow b (cs.setIfInBounds 0 v) := by
  unfold World.setCell World.setRow
  congr 1
  apply Array.ext_getElem?
  intro i
  simp only [Array.getElem?_modify]
  by_cases hi : b = i
  · subst hi
    rw [if_pos rfl, if_pos rfl, h]
    rfl
  · rw [if_neg hi, if_neg hi]
theorem copyCheck_freshA (s : AV) (rest : List Blk) : CallA Tryd.prog 48 [.ptr 0 0 0] (bldB .nilp s :: rest) (Ret (.tup []) (bldB (.ptr 0 0 0) s :: rest)) := by
  intro E vs H hl hrv
  obtain ⟨v, rfl, hv⟩ := RV.one hl hrv
  cases hv with
  | ptr _ _ _ hb =>
    obtain ⟨cs, hc1, hc2⟩ := (H.holds 0 _ rfl rfl).cells
    obtain ⟨e1, e2⟩ := hc2 0 (.agg [.nilp, s]) rfl
    obtain ⟨v0, h0, r0⟩ := e2 0 .nilp rfl
    obtain ⟨v1, h1, r1⟩ := e2 1 s rfl
    cases r0
    have h0 : cs[0]? = some (.pointer none) := h0
    have h1 : cs[1]? = some v1 := h1
    have hsz : 2 ≤ cs.size := by have := (Array.getElem?_eq_some_iff.1 h1).1; omega
    have hoff : 0 * E.wd 0 + 0 = 0 := by omega
    have hel : EA E 2 [.agg [.ptr 0 0 0, s]] (cs.setIfInBounds 0 (.pointer (some ⟨E.ρ 0, 0, none⟩))) := by
      intro i a ha
      have hi : i = 0 := by have := (List.getElem?_eq_some_iff.1 ha).1; simp at this; exact this
      subst hi
      have ea : a = .agg [.ptr 0 0 0, s] := by simpa using ha.symm
      subst ea
      refine ⟨rfl, fun j x hx => ?_⟩
      match j with
      | 0 =>
        have : x = .ptr 0 0 0 := by simpa [AV.cells] using hx.symm
        subst this
        refine ⟨.pointer (some ⟨E.ρ 0, 0, none⟩), Array.getElem?_setIfInBounds_self_of_lt (show 0 < cs.size by omega), ?_⟩
        have := RV.ptr (E := E) 0 0 0 hb
        rw [hoff] at this
        exact this
      | 1 =>
        have : x = s := by simpa [AV.cells] using hx.symm
        subst this
        exact ⟨v1, by simpa using h1, r1⟩
      | j + 2 => simp [AV.cells] at hx
    obtain ⟨H1, F1, _⟩ := write_block (b := 0) H (Fr.refl E _) rfl rfl [.agg [.ptr 0 0 0, s]] cs _ hc1 (by simp) hel
    rw [hoff]
    refine .inl ⟨go48, (copyCheck_fresh (E.ρ 0) cs.size hsz E.w (by simp [World.cell?, hc1, h0]) (by simp [World.shape?, hc1]; rfl) (Lib.frozen_of_heap hc1 0)).mono ?_⟩
    rintro ex w' ⟨rfl, rfl⟩
    rw [setCell_row _ hc1]
    exact ⟨_, rfl, .tup [], _, E.with _, rfl, ⟨rfl, rfl⟩, .tup [] #[] rfl (fun i a v h => by simp at h), H1, F1⟩
theorem copyCheck_usedA (s : AV) (rest : List Blk) : CallA Tryd.prog 48 [.ptr 0 0 0] (bldB (.ptr 0 0 0) s :: rest) (Ret (.tup []) (bldB (.ptr 0 0 0) s :: rest)) := by
  intro E vs H hl hrv
  obtain ⟨v, rfl, hv⟩ := RV.one hl hrv
  cases hv with
  | ptr _ _ _ hb =>
    obtain ⟨cs, hc1, hc2⟩ := (H.holds 0 _ rfl rfl).cells
    obtain ⟨e1, e2⟩ := hc2 0 (.agg [.ptr 0 0 0, s]) rfl
    obtain ⟨v0, h0, r0⟩ := e2 0 (.ptr 0 0 0) rfl
    have hoff : 0 * E.wd 0 + 0 = 0 := by omega
    cases r0
    rw [hoff] at h0
    have h0 : cs[0]? = some (.pointer (some ⟨E.ρ 0, 0, none⟩)) := h0
    rw [hoff]
    refine .inl ⟨go48, (copyCheck_used (E.ρ 0) E.w (by simp [World.cell?, hc1, h0])).mono ?_⟩
    rintro ex w' ⟨rfl, rfl⟩
    exact ⟨_, rfl, .tup [], _, E, rfl, ⟨rfl, rfl⟩, .tup [] #[] rfl (fun i a v h => by simp at h), H, Fr.refl E _⟩
end Go.Proofs.YtdhomifcjakbgaaDoor
