/- The abstract layer, part X: what is lent, read. -/
import Derived.Test.YtdhomifcjakbgaaDoorAbsW
set_option linter.unusedSimpArgs false
set_option linter.unusedVariables false
namespace Go.Abs
open Go
variable {P : Program}

theorem view_sl (d : Nat) (hp : List Blk) (b i n : Nat) : view (d + 1) hp (.sl b i n) = match hp[b]? with
    | some blk => if blk.live && decide (i + n ≤ blk.els.length) then .ro (((blk.els.drop i).take n).map (view d hp)) else .any
    | none => .any := rfl
theorem view_agg (d : Nat) (hp : List Blk) (l : List AV) : view (d + 1) hp (.agg l) = .agg (l.map (view d hp)) := rfl
theorem view_ro (d : Nat) (hp : List Blk) (l : List AV) : view d hp (.ro l) = .ro l := by cases d <;> rfl
theorem view_rop (d : Nat) (hp : List Blk) (l : List AV) : view d hp (.rop l) = .rop l := by cases d <;> rfl
theorem view_int (d : Nat) (hp : List Blk) (k : IntKind) (n : Int) : view d hp (.int k n) = .int k n := by cases d <;> rfl
theorem view_flt (d : Nat) (hp : List Blk) (k : FloatKind) (n : Nat) : view d hp (.flt k n) = .flt k n := by cases d <;> rfl
theorem view_bool (d : Nat) (hp : List Blk) (b : Bool) : view d hp (.bool b) = .bool b := by cases d <;> rfl
theorem view_str (d : Nat) (hp : List Blk) (s : List UInt8) : view d hp (.str s) = .str s := by cases d <;> rfl
theorem view_nils (d : Nat) (hp : List Blk) : view d hp .nils = .nils := by cases d <;> rfl
theorem map_view_flts (d : Nat) (hp : List Blk) (xs : List Nat) : (flts xs).map (view d hp) = flts xs := by
  unfold flts
  rw [List.map_map]
  exact List.map_congr_left fun x _ => view_flt d hp .f32 x
theorem map_view_ints (d : Nat) (hp : List Blk) (xs : List Int) : (ints xs).map (view d hp) = ints xs := by
  unfold ints
  rw [List.map_map]
  exact List.map_congr_left fun x _ => view_int d hp .i64 x
theorem take_flts (xs : List Nat) : (flts xs).take xs.length = flts xs := List.take_of_length_le (by simp [flts_len])
theorem take_ints (xs : List Int) : (ints xs).take xs.length = ints xs := List.take_of_length_le (by simp [ints_len])
/-- A function that makes blocks: they are told as lists that nobody writes any more. -/
theorem CallA.freeze {P : Program} (d : Nat) {f : FuncId} {args : List AV} {r : AV} {new : List Blk} (h : CallA P f args [] (Ret r new)) : CallA P f args [] (Ret (view d new r) []) := by
  intro E vs H hl hrv
  refine (h E vs H hl hrv).mono ?_
  rintro v w' ⟨r', hp', E', hw, ⟨rfl, rfl⟩, hv, H', F'⟩
  refine ⟨_, [], E'.lent hp', hw, ⟨rfl, rfl⟩, (view_sound H' d r').1 v hv, ?_, ?_⟩
  · exact ⟨rfl, by simp, by simp, by simp, by simp, fun c hc => by
      rcases hc with h1 | ⟨b, ⟨q, hq, hlv⟩, rfl⟩
      · exact H'.old c h1
      · obtain ⟨cs', g2, _⟩ := (H'.holds b q hq hlv).cells
        exact (Array.getElem?_eq_some_iff.1 g2).1, H'.laid.keep (fun c h => .inl h) (fun _ _ => rfl)⟩
  · exact { size := F'.size, os := F'.os, tape := F'.tape, output := F'.output, block := F'.block, len := Nat.le_refl _, ρ := fun b hb => absurd hb (Nat.not_lt_zero _), wd := fun b hb => absurd hb (Nat.not_lt_zero _),
            F := fun c hc => .inl (F'.F c hc)
            F' := fun c hc => by
              rcases hc with h1 | ⟨b, hb, rfl⟩
              · exact F'.F' c h1
              · rcases F'.live b hb with ⟨h2, _⟩ | ⟨_, h3⟩
                · exact absurd h2 (Nat.not_lt_zero _)
                · exact .inr h3
            live := fun b ⟨q, hq, _⟩ => by simp at hq
            csz := F'.csz }
theorem CallA.frozen {P : Program} (d : Nat) {f : FuncId} {args : List AV} {r r2 : AV} {new : List Blk} (h : CallA P f args [] (Ret r new)) (hr : view d new r = r2) : CallA P f args [] (Ret r2 []) := by
  subst hr; exact h.freeze d
theorem ofT_int {P : Program} {m : Nat} {t : TypeId} {k : IntKind} {a : AV} (ht : P.underlying t = some (.int k)) (h : OfT P (m + 1) t [a]) : ∃ z : Int, a = .int k z ∧ (Lit.int k z).wf = true := by
  unfold OfT at h
  rw [ht] at h
  obtain ⟨z, h1, h2⟩ := h
  exact ⟨z, by simpa using h1, h2⟩
theorem ofT_float {P : Program} {m : Nat} {t : TypeId} {k : FloatKind} {a : AV} (ht : P.underlying t = some (.float k)) (h : OfT P (m + 1) t [a]) : ∃ x : Nat, a = .flt k x ∧ canon k x = x ∧ (Lit.float k x).wf = true := by
  unfold OfT at h
  rw [ht] at h
  obtain ⟨z, h1, h2⟩ := h
  exact ⟨z, by simpa using h1, h2⟩
theorem ofT_struct {P : Program} {m : Nat} {t : TypeId} {fs : Array Field} {l : List AV} (ht : P.underlying t = some (.struct fs)) (h : OfT P (m + 1) t l) : l.length = P.cellsOf t ∧ ∀ f ∈ fs.toList, OfT P m f.type ((l.drop f.offset).take (P.cellsOf f.type)) := by
  unfold OfT at h
  rw [ht] at h
  exact h
theorem len3 {α : Type} {l : List α} (h : l.length = 3) : ∃ a b c, l = [a, b, c] := by
  match l, h with
  | [a, b, c], _ => exact ⟨a, b, c, rfl⟩
theorem maxLen_le {n : Nat} (h : n ≤ maxLen) : n ≤ 9223372036854775807 := h
end Go.Abs
