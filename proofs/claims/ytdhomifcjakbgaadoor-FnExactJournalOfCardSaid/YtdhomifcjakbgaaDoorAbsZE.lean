/- The abstract layer, part ZE: numerals by the kit's contract; bytes; places in strings. -/
import Derived.Test.YtdhomifcjakbgaaDoorAbsZD
import Derived.Test.YtdhomifcjakbgaaDoorAbsZ9
import Derived.Lib.ItoaNum
import Derived.Lib.LaidTab
import Derived.Below
import Derived.Lib.Join
import Derived.Sort.Grow
import Derived.Deep.Draws
set_option linter.unusedSimpArgs false
set_option linter.unusedVariables false
namespace Go.Abs
open Go Go.RowKit
variable {P : Program}

/-- A laid table, as the kit's contracts ask for it. -/
theorem HRel.table {E : Env P} {hp : List Blk} (H : HRel E hp) {n : String} {k : IntKind} {zs : List Int} (ht : (n, k, zs) ∈ tables) {g : Nat} (hg : P.globalNamed n = some g) : Lib.TabIs P E.w n k zs := by
  obtain ⟨_, ty, fr, h⟩ := H.laid _ ht g hg
  simp only [Lib.TabIs, World.var?, hg, Option.bind_some, h]

/-- A decimal numeral, by the library. -/
theorem itoa_call {f : FuncId} (hg : (P.globalNamed "internal/strconv.uint64pow10").isSome = true) (hgo : isGo P f) (n : Int)
    (h : ∀ w : World, Lib.TabIs P w "internal/strconv.uint64pow10" .u64 Lib.pow10Tab → Calls P f #[.int .i64 n, .int .i64 10] w fun e w' => e = .returned (.string ⟨(Lib.itoa n).toArray⟩) ∧ ∃ k os, w' = Sort.grow (w.drewN k) os) :
    CallA P f [.int .i64 n, .int .i64 10] [] (Ret (.str (Lib.itoa n)) []) := by
  intro E vs H hl hrv
  obtain ⟨g, hg⟩ := Option.isSome_iff_exists.1 hg
  obtain ⟨v, u, rfl, hv, hu⟩ := RV.two hl hrv
  cases hv
  cases hu
  refine .inl ⟨hgo, (h E.w (H.table (by simp [tables]) hg)).mono ?_⟩
  rintro ex w' ⟨rfl, k, os, rfl⟩
  have hh : (E.w.drewN k).heap = E.w.heap := rfl
  obtain ⟨H2, F2, _⟩ := H.extend (w' := Sort.grow (E.w.drewN k) os) (by simp [Sort.grow, World.drewN]) (fun c hc => by rw [Sort.heap_grow_old _ _ (by rw [hh]; exact hc), hh]) rfl rfl rfl
  exact ⟨_, rfl, .str _, [], E.with _, rfl, ⟨rfl, rfl⟩, .str _, H2, F2 (Fr.refl E _)⟩

/-! ### Bytes as elements -/
theorem byts_len (l : List UInt8) : (byts l).length = l.length := by simp [byts]
theorem byts_app (l r : List UInt8) : byts (l ++ r) = byts l ++ byts r := by simp [byts]
theorem byts_cons (x : UInt8) (l : List UInt8) : AV.int .u8 (x.toNat : Int) :: byts l = byts (x :: l) := rfl
theorem byts_below (n : Nat) : ∀ l : List UInt8, allBelow n (byts l) = true
  | [] => rfl
  | x :: l => byts_below n l
theorem byts_kill (b : Nat) (l : List UInt8) : (byts l).map (kill b) = byts l := by
  unfold byts
  rw [List.map_map]
  exact List.map_congr_left fun x _ => rfl
theorem byts_ren (ρ : Nat → Nat) (l : List UInt8) : (byts l).map (ren ρ) = byts l := by
  unfold byts
  rw [List.map_map]
  exact List.map_congr_left fun x _ => rfl
theorem w8 {n : Int} (h0 : 0 ≤ n) (h1 : n ≤ 255) : IntKind.u8.wrap n = n := by
  unfold IntKind.wrap
  simp [IntKind.bits, IntKind.signed]
  omega
theorem take_byts (l : List UInt8) : (byts l).take l.length = byts l := List.take_of_length_le (by simp [byts_len])
theorem allW_byts (l : List UInt8) : AllW 1 (byts l) := by
  intro a ha
  obtain ⟨x, _, rfl⟩ := List.mem_map.1 ha
  exact ⟨rfl, rfl⟩

/-! ### The first place of a byte -/
/-- What stands ahead of and behind the first byte of a kind. -/
def firstAt (c : UInt8) : List UInt8 → Option (List UInt8 × List UInt8)
  | [] => none
  | x :: t => if x = c then some ([], t) else (firstAt c t).map fun p => (x :: p.1, p.2)
theorem firstAt_none {c : UInt8} : ∀ {s : List UInt8}, firstAt c s = none → Lib.indexByte s c = -1
  | [], _ => rfl
  | x :: t, h => by
    unfold firstAt at h
    by_cases e : x = c
    · rw [if_pos e] at h; cases h
    · rw [if_neg e] at h
      have := firstAt_none (s := t) (by simpa using h)
      unfold Lib.indexByte
      rw [if_neg (by simpa using e), this]
      rfl
theorem firstAt_some {c : UInt8} : ∀ {s a b : List UInt8}, firstAt c s = some (a, b) → Lib.indexByte s c = a.length ∧ s = a ++ c :: b ∧ c ∉ a
  | [], _, _, h => by cases h
  | x :: t, a, b, h => by
    unfold firstAt at h
    by_cases e : x = c
    · rw [if_pos e] at h
      cases h
      subst e
      exact ⟨by simp [Lib.indexByte], rfl, by simp⟩
    · rw [if_neg e] at h
      simp only [Option.map_eq_some_iff] at h
      obtain ⟨⟨a', b'⟩, h1, h2⟩ := h
      cases h2
      obtain ⟨h3, h4, h5⟩ := firstAt_some h1
      refine ⟨?_, by rw [h4]; rfl, by simp [h5, Ne.symm e]⟩
      unfold Lib.indexByte
      rw [if_neg (by simpa using e), h3, if_neg (by simp)]
      simp
theorem firstAt_take {c : UInt8} {s a b : List UInt8} (h : firstAt c s = some (a, b)) : s.take a.length = a ∧ s.drop (a.length + 1) = b ∧ s.length = a.length + 1 + b.length := by
  obtain ⟨_, h1, _⟩ := firstAt_some h
  rw [h1]
  refine ⟨by simp, ?_, by simp; omega⟩
  rw [show a ++ c :: b = (a ++ [c]) ++ b from by simp, List.drop_append_of_le_length (by simp)]
  simp
/-- The pieces of a text, one after another. -/
theorem cutA_nil (c : UInt8) (acc : List UInt8) : cutA c acc [] = [acc] := rfl
theorem cutA_cons (c : UInt8) (acc : List UInt8) (x : UInt8) (s : List UInt8) : cutA c acc (x :: s) = if x = c then acc :: cutA c [] s else cutA c (acc ++ [x]) s := rfl
theorem cutA_first (c : UInt8) : ∀ (s acc : List UInt8), cutA c acc s = match firstAt c s with
    | none => [acc ++ s]
    | some (a, b) => (acc ++ a) :: cutA c [] b
  | [], acc => by simp [cutA_nil, firstAt]
  | x :: t, acc => by
    rw [cutA_cons]
    by_cases e : x = c
    · rw [if_pos e]
      simp only [firstAt, if_pos e, List.append_nil]
    · rw [if_neg e, cutA_first c t (acc ++ [x])]
      simp only [firstAt, if_neg e]
      cases firstAt c t with
      | none => simp only [Option.map_none, List.append_assoc]; rfl
      | some p => simp only [Option.map_some, List.append_assoc]; rfl
/-- The library's join of a list of strings. -/
theorem join_call {f : FuncId} (hgo : isGo P f) (sep : List UInt8) (xs : List (List UInt8))
    (hnone : ∀ (a : Option Addr) (c : Nat) (w : World), Calls P f #[.slice a 0 c, .string ⟨sep.toArray⟩] w fun e w' => e = .returned (.string ⟨#[]⟩) ∧ w' = w)
    (h : ∀ (bk o c : Nat) (w : World), (∀ (j : Nat) x, xs[j]? = some x → w.cell? ⟨bk, o + j, none⟩ = some (.string ⟨x.toArray⟩)) → bk < w.heap.size → xs.length ≤ c →
      Calls P f #[.slice (some ⟨bk, o, none⟩) xs.length c, .string ⟨sep.toArray⟩] w fun e w' => e = .returned (.string ⟨(Lib.join xs sep).toArray⟩) ∧ Below w.heap.size w w') :
    CallA P f [.ro (strs xs), .str sep] [] (Ret (.str (Lib.join xs sep)) []) := by
  intro E vs H hl hrv
  obtain ⟨v, u, rfl, hv, hu⟩ := RV.two hl hrv
  cases hu
  generalize hs : strs xs = l at hv
  cases hv with
  | roNil a cap =>
    have : xs = [] := by cases xs with | nil => rfl | cons _ _ => simp [strs] at hs
    subst this
    refine .inl ⟨hgo, (hnone a cap E.w).mono ?_⟩
    rintro ex w' ⟨rfl, rfl⟩
    exact ⟨_, rfl, .str [], [], E, rfl, ⟨rfl, rfl⟩, .str [], H, Fr.refl E _⟩
  | ro _ b off cap wd val hF hcap hmax hw hc hv =>
    subst hs
    have hlen : (strs xs).length = xs.length := strs_len xs
    refine .inl ⟨hgo, ?_⟩
    rw [hlen]
    refine (h b off cap E.w (fun j x hx => ?_) (H.old _ hF) (by omega)).mono ?_
    · have g1 : (strs xs)[j]? = some (.str x) := by simp [strs, hx]
      have hwd : wd = 1 := by have := hw j _ g1; simpa [AV.cells] using this.symm
      have g2 := hc j _ g1 0 _ rfl
      have g3 := hv j _ g1 0 _ rfl
      rw [hwd] at g2
      generalize val j 0 = vv at g2 g3
      cases g3
      simpa using g2
    · rintro ex w' ⟨rfl, bel⟩
      obtain ⟨H2, F2, _⟩ := H.extend (w' := w') bel.size bel.block bel.os bel.tape bel.output
      exact ⟨_, rfl, .str _, [], E.with _, rfl, ⟨rfl, rfl⟩, .str _, H2, F2 (Fr.refl E _)⟩
/-- The tables as a row lays them. -/
theorem laid_of_tab {w : World} (h : ∀ t ∈ tables, (P.globalNamed t.1).isSome = true → Lib.TabIs P w t.1 t.2.1 t.2.2) : Laid P w fun c => c < w.heap.size := fun t ht g hg => by
  have h1 := h t ht (by rw [hg]; rfl)
  simp only [Lib.TabIs, World.var?, hg, Option.bind_some] at h1
  split at h1
  · rename_i cs ty fr hx
    refine ⟨(Array.getElem?_eq_some_iff.1 hx).1, ty, fr, ?_⟩
    rw [hx]
    cases h1
    rfl
  · cases h1
end Go.Abs
