/- TzH1: texts joined. -/
import Derived.Lib.Builder
import Derived.Laws.Externs
import Derived.WalkKit
import Derived.Test.YtodjjpmigcacoaaGreatDoorTzS
import Derived.Test.YtodjjpmigcacoaaGreatDoorTzG3
import Derived.Test.YtodjjpmigcacoaaGreatDoorAbsM5
import Derived.Shelf.Strings.Builder1
set_option linter.unusedVariables false
set_option maxHeartbeats 1000000
set_option maxRecDepth 100000
namespace Go.Proofs.YtodjjpmigcacoaaGreatDoor
open Go Go.RowKit
theorem sizeB : ∃ j, Tryz.prog.info? 71 = some j ∧ j.size = 2 := by
  obtain ⟨j, hj, h⟩ := Option.map_eq_some_iff.1 (show (Tryz.prog.info? 71).map (·.size) = some 2 by kernel_rfl)
  exact ⟨j, hj, h⟩
theorem copyCheck_used (b : Nat) (w : World) (h0 : w.cell? ⟨b, 0, none⟩ = some (.pointer (some ⟨b, 0, none⟩))) :
    Calls Tryz.prog 72 #[.pointer (some ⟨b, 0, none⟩)] w fun e w' => e = .returned (.tuple #[]) ∧ w' = w := by
  obtain ⟨j, hj, _⟩ := sizeB
  have mixed : Tryz.prog.follows .mixedOrders = true := by kernel_rfl
  have u50 := run_underlying Tryz.underlying69
  have u53 := run_underlying Tryz.underlying71
  have u4 := run_underlying Tryz.underlying4
  go_enter Tryz.func72, Tryz.ntmps72
  go_wp2
  rw [Lib.run_neq_ptr_same w _ Tryz.underlying69 hj]
  go_wp2
  go_end0
  exact ⟨rfl, rfl⟩
theorem lies (count : Nat) (h : 1 ≤ count) : liesAt Tryz.prog Tryz.prog.depth 71 count 0 71 1 = true := by
  have hs : sameLayout Tryz.prog Tryz.prog.depth 71 71 = true := by kernel_rfl
  have hc : Tryz.prog.cellsOf 71 = 2 := by kernel_rfl
  have gen : ∀ (fits : TypeId → Bool) (d : Nat), fits 71 = true → rowAt Tryz.prog fits (d + 1) 71 count 0 1 = true := by
    intro fits d hf
    simp only [rowAt, hc]
    have : decide (0 / 2 + 1 ≤ count) = true := by simpa using h
    simp [hf]
    left
    omega
  obtain ⟨d, hd⟩ : ∃ d, Tryz.prog.depth = d + 1 := ⟨Tryz.prog.depth - 1, by kernel_rfl⟩
  have h1 := gen (sameLayout Tryz.prog Tryz.prog.depth · 71) d hs
  rw [← hd] at h1
  have h2 : ∀ d, liesAt Tryz.prog (d + 1) 71 count 0 71 1 = true := fun d => by
    unfold liesAt
    rw [h1]
    rfl
  rw [hd]
  exact h2 d
theorem copyCheck_fresh (b cells : Nat) (hcells : 2 ≤ cells) (w : World) (h0 : w.cell? ⟨b, 0, none⟩ = some (.pointer none)) (hsh : w.shape? b = some (71, cells)) (hfz : w.frozen? ⟨b, 0, none⟩ = false) :
    Calls Tryz.prog 72 #[.pointer (some ⟨b, 0, none⟩)] w fun e w' => e = .returned (.tuple #[]) ∧ w' = w.setCell ⟨b, 0, none⟩ (.pointer (some ⟨b, 0, none⟩)) := by
  obtain ⟨j, hj, hjs⟩ := sizeB
  have mixed : Tryz.prog.follows .mixedOrders = true := by kernel_rfl
  have u50 := run_underlying Tryz.underlying69
  have u53 := run_underlying Tryz.underlying71
  have u4 := run_underlying Tryz.underlying4
  go_enter Tryz.func72, Tryz.ntmps72
  go_wp2
  rw [Lib.run_to_unsafe w ⟨b, 0, none⟩ Tryz.underlying69 Tryz.underlying159 hj (by rw [hjs]; decide) hsh (show 0 < cells by omega)]
  simp only [Result.andThen]
  rw [Oper.upon_value]
  go_wp2
  rw [run_callFunc_extern Tryz.func112 (by kernel_rfl) (by kernel_rfl) (by kernel_rfl) (e := Extern.AbiNoEscape.same) (by kernel_rfl)]
  rw [Lib.run_noEscape]
  simp only [Result.andThen]
  rw [Oper.upon_value]
  go_wp2
  rw [Lib.run_from_unsafe w ⟨b, 0, none⟩ Tryz.underlying159 Tryz.underlying69 hj hsh (by rw [show Tryz.prog.cellsOf 71 = 2 from by kernel_rfl]; exact lies _ (by omega))]
  simp only [Result.andThen]
  rw [Oper.upon_value]
  go_wp2
  go_end0
  exact ⟨rfl, rfl⟩
end Go.Proofs.YtodjjpmigcacoaaGreatDoor
set_option linter.unusedSimpArgs false
set_option maxHeartbeats 2000000
set_option maxRecDepth 10000
namespace Go.Proofs.YtodjjpmigcacoaaGreatDoor
open Go Go.Abs
open Nat renaming reduceAdd → Za, reduceSub → Zb, reduceMul → Zc, reduceLT → Zd, reduceLeDiff → Ze, reduceEqDiff → Zf
open Int renaming reduceToNat → Zn
open Go.Abs renaming lenA → Zg, convA → Zh, indexA → Zi, flatP → Zj, nilI → Zk, ifaA → Zl, indexS → Zm
def bldB (p s : AV) : Blk := { ty := 71, w := 2, els := [.agg [p, s]] }
theorem setCell_row {w : World} {b : Nat} {cs : Array Value} {T : TypeId} {fr : Nat × Nat} (v : Value) (h : w.heap[b]? = some (.cells cs T fr)) : w.setCell ⟨b, 0, none⟩ v = w.setRow b (cs.setIfInBounds 0 v) := by
  unfold World.setCell World.setRow
  congr 1
  apply Array.ext_getElem?
  intro i
  simp only [Array.getElem?_modify]
  by_cases hi : b = i
  · subst hi
    rw [if_pos rfl, if_pos rfl, h]
    rfl
  · rw [if_neg hi, if_neg hi]
theorem copyCheck_freshA (s : AV) (rest : List Blk) : CallA Tryz.prog 72 [.ptr 0 0 0] (bldB .nilp s :: rest) (Ret (.tup []) (bldB (.ptr 0 0 0) s :: rest)) := by
  intro E vs H hl hrv
  obtain ⟨v, rfl, hv⟩ := RV.one hl hrv
  cases hv with
  | ptr _ _ _ hb hwd =>
    obtain ⟨cs, hc1, hc2⟩ := (H.holds 0 _ rfl rfl).cells (by show 0 < 2; decide)
    obtain ⟨e1, e2⟩ := hc2 0 (.agg [.nilp, s]) rfl
    obtain ⟨v0, h0, r0⟩ := e2 0 .nilp rfl
    obtain ⟨v1, h1, r1⟩ := e2 1 s rfl
    cases r0
    have h0 : cs[0]? = some (.pointer none) := h0
    have h1 : cs[1]? = some v1 := h1
    have hsz : 2 ≤ cs.size := by have := (Array.getElem?_eq_some_iff.1 h1).1; omega
    have hoff : 0 * E.wd 0 + 0 = 0 := by omega
    have hel : EA E 2 [.agg [.ptr 0 0 0, s]] (cs.setIfInBounds 0 (.pointer (some ⟨E.ρ 0, 0, none⟩))) := by
      intro i a ha
      have hi : i = 0 := by have := (List.getElem?_eq_some_iff.1 ha).1; simp at this; exact this
      subst hi
      have ea : a = .agg [.ptr 0 0 0, s] := by simpa using ha.symm
      subst ea
      refine ⟨rfl, fun j x hx => ?_⟩
      match j with
      | 0 =>
        have : x = .ptr 0 0 0 := by simpa [AV.cells] using hx.symm
        subst this
        refine ⟨.pointer (some ⟨E.ρ 0, 0, none⟩), Array.getElem?_setIfInBounds_self_of_lt (show 0 < cs.size by omega), ?_⟩
        have := RV.ptr (E := E) 0 0 0 hb hwd
        rw [hoff] at this
        exact this
      | 1 =>
        have : x = s := by simpa [AV.cells] using hx.symm
        subst this
        exact ⟨v1, by simpa using h1, r1⟩
      | j + 2 => simp [AV.cells] at hx
    obtain ⟨H1, F1, _⟩ := write_block (b := 0) H (Fr.refl E _) rfl rfl [.agg [.ptr 0 0 0, s]] cs _ hc1 (by simp) (by show 0 < 2; decide) hel
    obtain ⟨frx, hcx, _⟩ := id hc1
    rw [hoff]
    refine .inl ⟨go72, (copyCheck_fresh (E.ρ 0) cs.size hsz E.w (by simp [World.cell?, hcx, h0]) (by simp [World.shape?, hcx]; rfl) (hc1.frozen 0 (by omega))).mono ?_⟩
    rintro ex w' ⟨rfl, rfl⟩
    rw [setCell_row _ hcx]
    exact ⟨_, rfl, .tup [], _, E.with _, rfl, ⟨rfl, rfl⟩, .tup [] #[] rfl (fun i a v h => by simp at h), H1, F1⟩
theorem copyCheck_usedA (s : AV) (rest : List Blk) : CallA Tryz.prog 72 [.ptr 0 0 0] (bldB (.ptr 0 0 0) s :: rest) (Ret (.tup []) (bldB (.ptr 0 0 0) s :: rest)) := by
  intro E vs H hl hrv
  obtain ⟨v, rfl, hv⟩ := RV.one hl hrv
  cases hv with
  | ptr _ _ _ hb hwd =>
    obtain ⟨cs, hc1, hc2⟩ := (H.holds 0 _ rfl rfl).cells (by show 0 < 2; decide)
    obtain ⟨e1, e2⟩ := hc2 0 (.agg [.ptr 0 0 0, s]) rfl
    obtain ⟨v0, h0, r0⟩ := e2 0 (.ptr 0 0 0) rfl
    have hoff : 0 * E.wd 0 + 0 = 0 := by omega
    cases r0
    rw [hoff] at h0
    have h0 : cs[0]? = some (.pointer (some ⟨E.ρ 0, 0, none⟩)) := h0
    obtain ⟨frx, hcx, _⟩ := id hc1
    rw [hoff]
    refine .inl ⟨go72, (copyCheck_used (E.ρ 0) E.w (by simp [World.cell?, hcx, h0])).mono ?_⟩
    rintro ex w' ⟨rfl, rfl⟩
    exact ⟨_, rfl, .tup [], _, E, rfl, ⟨rfl, rfl⟩, .tup [] #[] rfl (fun i a v h => by simp at h), H, Fr.refl E _⟩
theorem builderLen_nil : CallA Tryz.prog 46 [.ptr 0 0 0] [bldB .nilp .nils] (Ret (.int .i64 0) [bldB .nilp .nils]) := by
  refine CallP.out (t := .mk) (go_in (md := md46) mixed Tryz.func46 rfl go46 (by kernel_rfl) ?_)
  simp only [Zu, Za, Zb, Zg, Zh, Zi, Zk, Zl, Zm, Zn, ↓reduceIte, reduceCtorEq, Zd, Ze, Zc, Zf, Z46, bldB, Int.reduceLT, Int.reduceLE, Int.reduceNeg, Int.reduceEq, Int.reduceGT, Int.reduceGE, decide_true, decide_false, beq_self_eq_true, bne_self_eq_false, Int.reduceBEq, Int.reduceBNe, Int.reduceAdd, Int.reduceSub]
  exact PostR.ret
theorem builderLen (p : AV) (n : Nat) (rest : List Blk) : CallA Tryz.prog 46 [.ptr 0 0 0] (bldB p (.sl 1 0 n) :: rest) (Ret (.int .i64 n) (bldB p (.sl 1 0 n) :: rest)) := by
  refine CallP.out (t := .mk) (go_in (md := md46) mixed Tryz.func46 rfl go46 (by kernel_rfl) ?_)
  simp only [Zu, Za, Zb, Zg, Zh, Zi, Zk, Zl, Zm, Zn, ↓reduceIte, reduceCtorEq, Zd, Ze, Zc, Zf, Z46, bldB, Int.reduceLT, Int.reduceLE, Int.reduceNeg, Int.reduceEq, Int.reduceGT, Int.reduceGE, decide_true, decide_false, beq_self_eq_true, bne_self_eq_false, Int.reduceBEq, Int.reduceBNe, Int.reduceAdd, Int.reduceSub]
  exact PostR.ret
theorem write_fresh (s : List UInt8) (h0 : s ≠ []) (hs : s.length ≤ 1048576) : CallA Tryz.prog 36 [.ptr 0 0 0, .str s] [bldB .nilp .nils] (Ret (.tup [.int .i64 s.length, .nili]) [bldB (.ptr 0 0 0) (.sl 1 0 s.length), bytB s]) := by
  have be : (byts s).isEmpty = false := by cases s with | nil => exact absurd rfl h0 | cons _ _ => rfl
  have bl := byts_len s
  refine CallP.out (t := .mk) (go_in (md := md36) mixed Tryz.func36 rfl go36 (by kernel_rfl) ?_)
  simp only [Zu, Za, Zb, Zg, Zh, Zi, Zk, Zl, Zm, Zn, ↓reduceIte, reduceCtorEq, Zd, Ze, Zc, Zf, Z36]
  refine call_by (copyCheck_freshA .nils []) ?_
  rintro r hp' ⟨rfl, rfl⟩
  simp only [Zu, Za, Zb, Zg, Zh, Zi, Zk, Zl, Zm, Zn, ↓reduceIte, reduceCtorEq, Zd, Ze, Zc, Zf, Z36, bldB, be, bl, allW_int, fits, List.isEmpty_cons, brk_false, Nat.reduceMul]
  exact ⟨allW_byts _, by omega, PostR.same ⟨rfl, rfl⟩⟩
theorem write_used (l s : List UInt8) (hs : l.length + s.length ≤ 1048576) : CallA Tryz.prog 36 [.ptr 0 0 0, .str s] [bldB (.ptr 0 0 0) (.sl 1 0 l.length), bytB l]
    (Ret (.tup [.int .i64 s.length, .nili]) [bldB (.ptr 0 0 0) (.sl 2 0 (l.length + s.length)), { bytB l with live := false }, bytB (l ++ s)]) := by
  have bl := byts_len s
  have bl2 := byts_len l
  refine call_taken (md := md36) mixed Tryz.func36 rfl go36 (by kernel_rfl) ⟨[.ptr 0 0 0, .str s] ++ List.replicate (Tryz.f36.ntmps - 2) .any, [bldB (.ptr 0 0 0) (.sl 2 0 l.length), { bytB l with live := false }, bytB l]⟩ ?_ ?_
  · refine weak_renW 3 (fun i => [0, 1, 1].getD i 0) ?_ ⟨rfl, show 2 ≤ 3 by omega, ?_, ?_, ?_⟩
    · simp [LeTm, LeV, ren, renM, renL, below, belowM, belowL, List.replicate_succ]
    · intro b hb
      match b, hb with
      | 0, _ => rfl
      | 1, _ => rfl
    · intro b b' r r' h1 h2 h3 h4 h5
      match b, b' with
      | 0, 0 => rfl
      | 0, 2 => simp at h5
      | 2, 0 => simp at h5
      | 2, 2 => rfl
      | 1, _ => simp at h1; subst h1; cases h2
      | _, 1 => simp at h3; subst h3; cases h4
      | b + 3, _ => simp at h1
      | _, b + 3 => simp at h3
    · intro b r h
      match b with
      | 0 =>
        have : r = bldB (.ptr 0 0 0) (.sl 2 0 l.length) := by simpa using h.symm
        subst this
        exact ⟨_, rfl, rfl, fun _ => ⟨rfl, rfl, rfl, by simp [bldB, below, belowM, belowL]⟩⟩
      | 1 =>
        have : r = { bytB l with live := false } := by simpa using h.symm
        subst this
        exact ⟨_, rfl, rfl, fun h => by cases h⟩
      | 2 =>
        have : r = bytB l := by simpa using h.symm
        subst this
        refine ⟨_, rfl, rfl, fun _ => ⟨rfl, rfl, (byts_ren _ l).symm, fun e he => ?_⟩⟩
        have := byts_below 3 l
        simp only [allBelow, List.all_eq_true] at this
        exact this e he
      | b + 3 => simp at h
  · simp only [Zu, Za, Zb, Zg, Zh, Zi, Zk, Zl, Zm, Zn, ↓reduceIte, reduceCtorEq, Zd, Ze, Zc, Zf, Z36]
    refine call_by (copyCheck_usedA _ _) ?_
    rintro r hp' ⟨rfl, rfl⟩
    simp only [Zu, Za, Zb, Zg, Zh, Zi, Zk, Zl, Zm, Zn, ↓reduceIte, reduceCtorEq, Zd, Ze, Zc, Zf, Z36, bldB, bytB, bl, bl2, allW_int, fits, List.isEmpty_cons, brk_false, Nat.reduceMul]
    refine ⟨allW_byts _, by omega, ?_⟩
    rw [← byts_app, byts_kill, byts_kill]
    exact PostR.same ⟨rfl, rfl⟩
end Go.Proofs.YtodjjpmigcacoaaGreatDoor
set_option maxRecDepth 100000
namespace Go.Proofs.YtodjjpmigcacoaaGreatDoor
open Go Go.RowKit
theorem builderString (b g cells cap : Nat) (l : List UInt8) (w : World) (h0 : l ≠ []) (h1 : w.cell? ⟨b, 1, none⟩ = some (.slice (some ⟨g, 0, none⟩) l.length cap)) (hcap : cap ≠ 0) (h63 : l.length ≤ 1048576)
    (hsh : w.shape? g = some (5, cells)) (hn : l.length ≤ cells) (hc : ∀ (j : Nat) x, l[j]? = some x → w.cell? ⟨g, j, none⟩ = some (.int .u8 (x.toNat : Int))) :
    Calls Tryz.prog 37 #[.pointer (some ⟨b, 0, none⟩)] w fun e w' => e = .returned (.string ⟨l.toArray⟩) ∧ w' = w.drew.freeze ⟨g, 0, none⟩ l.length := by
  have c1 : w.drew.cell? ⟨b, 1, none⟩ = some (.slice (some ⟨g, 0, none⟩) l.length cap) := h1
  have hSD : (Builtin.unsafeSliceData_ #[22] 119 #[.slice (some ⟨g, 0, none⟩) l.length cap]).run Tryz.prog w.drew = .ok (.pointer (some ⟨g, 0, none⟩)) w.drew :=
    Lib.run_unsafeSliceData_row _ _ _ _ _ _ hcap
  have hUS : (Builtin.unsafeString_ #[119, 3] 9 #[.pointer (some ⟨g, 0, none⟩), .int .i64 l.length]).run Tryz.prog w.drew = .ok (.string ⟨l.toArray⟩) (w.drew.freeze ⟨g, 0, none⟩ l.length) := by
    refine Lib.run_unsafeString_row w.drew 119 3 9 5 Tryz.underlying119 (by kernel_rfl) g cells hsh l h0 hn (by omega) ?_
    intro j x hx
    have := hc j x hx
    rw [Go.Abs.add_none, Nat.zero_add]
    exact this
  have mixed : Tryz.prog.follows .mixedOrders = true := by kernel_rfl
  have u50 := run_underlying Tryz.underlying69
  have u53 := run_underlying Tryz.underlying71
  have u51 := run_underlying Tryz.underlying22
  have u77 := run_underlying Tryz.underlying119
  have u3 := run_underlying Tryz.underlying3
  have u9 := run_underlying Tryz.underlying9
  have u5 := run_underlying Tryz.underlying5
  go_enter Tryz.func37, Tryz.ntmps37
  go_wp2
  go_region_o
  all_goals (go_wp2; go_ret; exact ⟨rfl, rfl⟩)
open Go.Abs
theorem freeze_other (w : World) (g n c : Nat) (h : g ≠ c) : (w.freeze ⟨g, 0, none⟩ n).heap[c]? = w.heap[c]? := by
  unfold World.freeze
  split
  · rfl
  · simp only [Array.getElem?_modify]
    rw [if_neg h]
theorem freeze_size (w : World) (g n : Nat) : (w.freeze ⟨g, 0, none⟩ n).heap.size = w.heap.size := by
  unfold World.freeze
  split
  · rfl
  · simp
theorem freeze_csz (w : World) (g n c : Nat) : csz w c ≤ csz (w.freeze ⟨g, 0, none⟩ n) c := by
  unfold World.freeze
  split
  · exact Nat.le_refl _
  · unfold csz
    simp only [Array.getElem?_modify]
    by_cases e : g = c
    · subst e
      rw [if_pos rfl]
      cases h : w.heap[g]? with
      | none => exact Nat.le_refl _
      | some o => cases o <;> exact Nat.le_refl _
    · rw [if_neg e]
      exact Nat.le_refl _
theorem freeze_os (w : World) (g n : Nat) : (w.freeze ⟨g, 0, none⟩ n).os = w.os ∧ (w.freeze ⟨g, 0, none⟩ n).tape = w.tape ∧ (w.freeze ⟨g, 0, none⟩ n).output = w.output := by
  unfold World.freeze
  split
  · exact ⟨rfl, rfl, rfl⟩
  · exact ⟨rfl, rfl, rfl⟩
theorem builderStringA (p : AV) (l : List UInt8) (h0 : l ≠ []) (h63 : l.length ≤ 1048576) : CallA Tryz.prog 37 [.ptr 0 0 0] [bldB p (.sl 1 0 l.length), bytB l]
    (Ret (.str l) [{ bldB p (.sl 1 0 l.length) with live := false }, { bytB l with live := false }]) := by
  intro E vs H hl hrv
  obtain ⟨v, rfl, hv⟩ := RV.one hl hrv
  cases hv with
  | ptr _ _ _ hb hwd0 =>
    obtain ⟨cs, hc1, hc2⟩ := (H.holds 0 _ rfl rfl).cells (by show 0 < 2; decide)
    obtain ⟨cs1, hd1, hd2⟩ := (H.holds 1 _ rfl rfl).cells (by show 0 < 1; decide)
    obtain ⟨v1, k1, r1⟩ := (hc2 0 (.agg [p, .sl 1 0 l.length]) rfl).2 1 _ rfl
    have hpos : 0 < l.length := List.length_pos_iff.2 h0
    have hoff : 0 * E.wd 0 + 0 = 0 := by omega
    have hwd : E.wd 1 = 1 := H.wd 1 _ rfl
    rw [hoff]
    cases r1 with
    | sl _ _ _ off cap hbN ho hcap hmax hroom hwd1 =>
      have ho0 : off = 0 := by have := ho (by omega); omega
      subst ho0
      have k1 : cs[1]? = some (.slice (some ⟨E.ρ 1, 0, none⟩) l.length cap) := k1
      have bytes : ∀ (j : Nat) x, l[j]? = some x → cs1[j]? = some (.int .u8 (x.toNat : Int)) := fun j x hx => by
        have hj := (List.getElem?_eq_some_iff.1 hx).1
        obtain ⟨u, h3, h4⟩ := (hd2 j (.int .u8 (x.toNat : Int)) (by show (byts l)[j]? = _; simp [byts, hx])).2 0 _ rfl
        cases h4
        simpa [bytB] using h3
      have hsz : l.length ≤ cs1.size := by
        have h3 := bytes (l.length - 1) l[l.length - 1] (by simp)
        have := (Array.getElem?_eq_some_iff.1 h3).1
        omega
      obtain ⟨fr0, hx0, _⟩ := id hc1
      obtain ⟨fr1, hx1, _⟩ := id hd1
      refine .inl ⟨go37, (builderString (E.ρ 0) (E.ρ 1) cs1.size cap l E.w h0 (by simp [World.cell?, hx0, k1]) (by omega) h63 (by simp [World.shape?, hx1]; rfl) hsz (fun j x hx => by simp [World.cell?, hx1, bytes j x hx])).mono ?_⟩
      rintro ex w' ⟨rfl, rfl⟩
      have ap : ∀ c, E.F c → E.ρ 1 ≠ c := fun c hc e => H.apart 1 _ rfl rfl (e ▸ hc)
      have oth : ∀ c, E.ρ 1 ≠ c → ((E.w.drew.freeze ⟨E.ρ 1, 0, none⟩ l.length).heap)[c]? = E.w.heap[c]? := fun c hc => freeze_other E.w.drew _ _ _ hc
      refine ⟨_, rfl, .str l, _, E.with (E.w.drew.freeze ⟨E.ρ 1, 0, none⟩ l.length), rfl, ⟨rfl, rfl⟩, .str l, ?_, ?_⟩
      · refine ⟨H.N, fun b blk hb => ?_, fun b blk hb hl => ?_, fun b b' blk blk' hb hl => ?_, fun b blk hb hl => ?_, fun c hc => ?_, H.laid.keep (fun _ h => h) (fun c hc => oth c (ap c hc))⟩
        · match b, hb with
          | 0, hb => cases hb; exact H.wd 0 (bldB p (.sl 1 0 l.length)) rfl
          | 1, hb => cases hb; exact H.wd 1 (bytB l) rfl
        · match b, hb with
          | 0, hb => cases hb; cases hl
          | 1, hb => cases hb; cases hl
        · match b, hb with
          | 0, hb => cases hb; cases hl
          | 1, hb => cases hb; cases hl
        · match b, hb with
          | 0, hb => cases hb; cases hl
          | 1, hb => cases hb; cases hl
        · show c < (E.w.drew.freeze ⟨E.ρ 1, 0, none⟩ l.length).heap.size
          rw [freeze_size]; exact H.old c hc
      · exact { size := by show _ ≤ (E.w.drew.freeze ⟨E.ρ 1, 0, none⟩ l.length).heap.size; rw [freeze_size]; exact Nat.le_refl _
                os := (freeze_os E.w.drew _ _).1, tape := (freeze_os E.w.drew _ _).2.1, output := (freeze_os E.w.drew _ _).2.2
                block := fun c hc hn => oth c (hn 1 ⟨_, rfl, rfl⟩)
                len := Nat.le_refl _, ρ := fun _ _ => rfl, wd := fun _ _ => rfl, F := fun _ h => h, F' := fun c h => .inl h
                live := fun b ⟨blk, hb, hl⟩ => by
                  match b, hb with
                  | 0, hb => cases hb; cases hl
                  | 1, hb => cases hb; cases hl
                csz := fun c => freeze_csz E.w.drew _ _ c }
end Go.Proofs.YtodjjpmigcacoaaGreatDoor
