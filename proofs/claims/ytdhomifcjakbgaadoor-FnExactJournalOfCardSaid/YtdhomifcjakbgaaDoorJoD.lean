/- A strings.Builder's text. -/
import Derived.Test.YtdhomifcjakbgaaDoorJoC
import Derived.Shelf.Strings.Builder1
set_option linter.unusedVariables false
set_option maxHeartbeats 2000000
set_option maxRecDepth 100000
namespace Go.Proofs.YtdhomifcjakbgaaDoor
open Go Go.RowKit

theorem builderString (b g cells cap : Nat) (l : List UInt8) (w : World) (h0 : l ≠ []) (h1 : w.cell? ⟨b, 1, none⟩ = some (.slice (some ⟨g, 0, none⟩) l.length cap)) (hcap : cap ≠ 0) (h63 : l.length ≤ 1048576)
    (hsh : w.shape? g = some (5, cells)) (hn : l.length ≤ cells) (hc : ∀ (j : Nat) x, l[j]? = some x → w.cell? ⟨g, j, none⟩ = some (.int .u8 (x.toNat : Int))) :
    Calls Tryd.prog 33 #[.pointer (some ⟨b, 0, none⟩)] w fun e w' => e = .returned (.string ⟨l.toArray⟩) ∧ w' = w.drew.freeze ⟨g, 0, none⟩ l.length := by
  have c1 : w.drew.cell? ⟨b, 1, none⟩ = some (.slice (some ⟨g, 0, none⟩) l.length cap) := h1
  have hSD : (Builtin.unsafeSliceData_ #[51] 77 #[.slice (some ⟨g, 0, none⟩) l.length cap]).run Tryd.prog w.drew = .ok (.pointer (some ⟨g, 0, none⟩)) w.drew :=
    Lib.run_unsafeSliceData_row _ _ _ _ _ _ hcap
  have hUS : (Builtin.unsafeString_ #[77, 3] 9 #[.pointer (some ⟨g, 0, none⟩), .int .i64 l.length]).run Tryd.prog w.drew = .ok (.string ⟨l.toArray⟩) (w.drew.freeze ⟨g, 0, none⟩ l.length) := by
    refine Lib.run_unsafeString_row w.drew 77 3 9 5 Tryd.underlying77 (by kernel_rfl) g cells hsh l h0 hn (by omega) ?_
    intro j x hx
    have := hc j x hx
    rw [Go.Abs.add_none, Nat.zero_add]
    exact this
  have mixed : Tryd.prog.follows .mixedOrders = true := by kernel_rfl
  have u50 := run_underlying Tryd.underlying50
  have u53 := run_underlying Tryd.underlying53
  have u51 := run_underlying Tryd.underlying51
  have u77 := run_underlying Tryd.underlying77
  have u3 := run_underlying Tryd.underlying3
  have u9 := run_underlying Tryd.underlying9
  have u5 := run_underlying Tryd.underlying5
  go_enter Tryd.func33, Tryd.ntmps33
  go_wp2
  go_region_o
  all_goals (go_wp2; go_ret; exact ⟨rfl, rfl⟩)
open Go.Abs
theorem freeze_other (w : World) (g n c : Nat) (h : g ≠ c) : (w.freeze ⟨g, 0, none⟩ n).heap[c]? = w.heap[c]? := by
  unfold World.freeze
  split
  · rfl
  · simp only [Array.getElem?_modify]
    rw [if_neg h]
theorem freeze_size (w : World) (g n : Nat) : (w.freeze ⟨g, 0, none⟩ n).heap.size = w.heap.size := by
  unfold World.freeze
  split
  · rfl
  · simp
theorem freeze_csz (w : World) (g n c : Nat) : csz w c ≤ csz (w.freeze ⟨g, 0, none⟩ n) c := by
  unfold World.freeze
  split
  · exact Nat.le_refl _
  · unfold csz
    simp only [Array.getElem?_modify]
    by_cases e : g = c
    · subst e
      rw [if_pos rfl]
      cases h : w.heap[g]? with
      | none => exact Nat.le_refl _
      | some o => cases o <;> exact Nat.le_refl _
    · rw [if_neg e]
      exact Nat.le_refl _
theorem freeze_os (w : World) (g n : Nat) : (w.freeze ⟨g, 0, none⟩ n).os = w.os ∧ (w.freeze ⟨g, 0, none⟩ n).tape = w.tape ∧ (w.freeze ⟨g, 0, none⟩ n).output = w.output := by
  unfold World.freeze
  split
  · exact ⟨rfl, rfl, rfl⟩
  · exact ⟨rfl, rfl, rfl⟩
theorem builderStringA (p : AV) (l : List UInt8) (h0 : l ≠ []) (h63 : l.length ≤ 1048576) : CallA Tryd.prog 33 [.ptr 0 0 0] [bldB p (.sl 1 0 l.length), bytB l]
    (Ret (.str l) [{ bldB p (.sl 1 0 l.length) with live := false }, { bytB l with live := false }]) := by
  intro E vs H hl hrv
  obtain ⟨v, rfl, hv⟩ := RV.one hl hrv
  cases hv with
  | ptr _ _ _ hb =>
    obtain ⟨cs, hc1, hc2⟩ := (H.holds 0 _ rfl rfl).cells
    obtain ⟨cs1, hd1, hd2⟩ := (H.holds 1 _ rfl rfl).cells
    obtain ⟨v1, k1, r1⟩ := (hc2 0 (.agg [p, .sl 1 0 l.length]) rfl).2 1 _ rfl
    have hpos : 0 < l.length := List.length_pos_iff.2 h0
    have hoff : 0 * E.wd 0 + 0 = 0 := by omega
    have hwd : E.wd 1 = 1 := H.wd 1 _ rfl
    rw [hoff]
    cases r1 with
    | sl _ _ _ off cap hbN ho hcap hmax hroom =>
      have ho0 : off = 0 := by have := ho (by omega); omega
      subst ho0
      have k1 : cs[1]? = some (.slice (some ⟨E.ρ 1, 0, none⟩) l.length cap) := k1
      have bytes : ∀ (j : Nat) x, l[j]? = some x → cs1[j]? = some (.int .u8 (x.toNat : Int)) := fun j x hx => by
        have hj := (List.getElem?_eq_some_iff.1 hx).1
        obtain ⟨u, h3, h4⟩ := (hd2 j (.int .u8 (x.toNat : Int)) (by show (byts l)[j]? = _; simp [byts, hx])).2 0 _ rfl
        cases h4
        simpa [bytB] using h3
      have hsz : l.length ≤ cs1.size := by
        have h3 := bytes (l.length - 1) l[l.length - 1] (by simp)
        have := (Array.getElem?_eq_some_iff.1 h3).1
        omega
      refine .inl ⟨go33, (builderString (E.ρ 0) (E.ρ 1) cs1.size cap l E.w h0 (by simp [World.cell?, hc1, k1]) (by omega) h63 (by simp [World.shape?, hd1]; rfl) hsz (fun j x hx => by simp [World.cell?, hd1, bytes j x hx])).mono ?_⟩
      rintro ex w' ⟨rfl, rfl⟩
      have ap : ∀ c, E.F c → E.ρ 1 ≠ c := fun c hc e => H.apart 1 _ rfl rfl (e ▸ hc)
      have oth : ∀ c, E.ρ 1 ≠ c → ((E.w.drew.freeze ⟨E.ρ 1, 0, none⟩ l.length).heap)[c]? = E.w.heap[c]? := fun c hc => freeze_other E.w.drew _ _ _ hc
      refine ⟨_, rfl, .str l, _, E.with (E.w.drew.freeze ⟨E.ρ 1, 0, none⟩ l.length), rfl, ⟨rfl, rfl⟩, .str l, ?_, ?_⟩
      · refine ⟨H.N, fun b blk hb => ?_, fun b blk hb hl => ?_, fun b b' blk blk' hb hl => ?_, fun b blk hb hl => ?_, fun c hc => ?_, H.laid.keep (fun _ h => h) (fun c hc => oth c (ap c hc))⟩
        · match b, hb with
          | 0, hb => cases hb; exact H.wd 0 (bldB p (.sl 1 0 l.length)) rfl
          | 1, hb => cases hb; exact H.wd 1 (bytB l) rfl
        · match b, hb with
          | 0, hb => cases hb; cases hl
          | 1, hb => cases hb; cases hl
        · match b, hb with
          | 0, hb => cases hb; cases hl
          | 1, hb => cases hb; cases hl
        · match b, hb with
          | 0, hb => cases hb; cases hl
          | 1, hb => cases hb; cases hl
        · show c < (E.w.drew.freeze ⟨E.ρ 1, 0, none⟩ l.length).heap.size
          rw [freeze_size]; exact H.old c hc
      · exact { size := by show _ ≤ (E.w.drew.freeze ⟨E.ρ 1, 0, none⟩ l.length).heap.size; rw [freeze_size]; exact Nat.le_refl _
                os := (freeze_os E.w.drew _ _).1, tape := (freeze_os E.w.drew _ _).2.1, output := (freeze_os E.w.drew _ _).2.2
                block := fun c hc hn => oth c (hn 1 ⟨_, rfl, rfl⟩)
                len := Nat.le_refl _, ρ := fun _ _ => rfl, wd := fun _ _ => rfl, F := fun _ h => h, F' := fun c h => .inl h
                live := fun b ⟨blk, hb, hl⟩ => by
                  match b, hb with
                  | 0, hb => cases hb; cases hl
                  | 1, hb => cases hb; cases hl
                csz := fun c => freeze_csz E.w.drew _ _ c }
end Go.Proofs.YtdhomifcjakbgaaDoor
