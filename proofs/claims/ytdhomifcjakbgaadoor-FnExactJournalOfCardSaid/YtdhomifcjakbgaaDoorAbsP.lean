/- The abstract layer, part P: lists of plain values; what the walk's simp needs. -/
import Derived.Test.YtdhomifcjakbgaaDoorAbsO
set_option linter.unusedSimpArgs false
set_option linter.unusedVariables false
namespace Go.Abs
open Go
variable {P : Program}

/-- Lists of plain values. -/
def ints (l : List Int) : List AV := l.map (AV.int .i64)
def flts (l : List Nat) : List AV := l.map (AV.flt .f32)

section
variable (l m : List Int) (f g : List Nat)
theorem ints_len : (ints l).length = l.length := by simp [ints]
theorem ints_get (i : Nat) (h : i < (ints l).length) : (ints l)[i] = .int .i64 (l[i]'(by simpa [ints] using h)) := by simp [ints]
theorem ints_append : ints l ++ ints m = ints (l ++ m) := by simp [ints]
theorem ints_snoc (n : Int) : ints l ++ [AV.int .i64 n] = ints (l ++ [n]) := by simp [ints]
theorem ints_nil : ([] : List AV) = ints [] := rfl
theorem ints_set (i : Nat) (n : Int) : (ints l).set i (.int .i64 n) = ints (l.set i n) := by simp [ints, List.map_set]
theorem ints_take (n : Nat) : (ints l).take n = ints (l.take n) := by simp [ints, List.map_take]
theorem ints_drop (n : Nat) : (ints l).drop n = ints (l.drop n) := by simp [ints, List.map_drop]
theorem ints_kill (b : Nat) : (ints l).map (kill b) = ints l := by
  simp only [ints, List.map_map]; apply List.map_congr_left; intro x _; rfl
theorem ints_ren (π : Nat → Nat) : (ints l).map (ren π) = ints l := by
  simp only [ints, List.map_map]; apply List.map_congr_left; intro x _; rfl
theorem ints_view (d : Nat) (hp : List Blk) : (ints l).map (view d hp) = ints l := by
  simp only [ints, List.map_map]; apply List.map_congr_left; intro x _; cases d <;> rfl
theorem ints_below (N : Nat) : allBelow N (ints l) = true := by simp [allBelow, ints, below, belowM, belowL]
theorem ints_clean : (ints l).all clean = true := by simp [ints, clean, cleanM, cleanL]
theorem ints_allW : AllW 1 (ints l) := by intro a ha; simp only [ints, List.mem_map] at ha; obtain ⟨x, _, rfl⟩ := ha; exact ⟨rfl, rfl⟩
theorem ints_repl (n : Nat) (x : Int) : List.replicate n (AV.int .i64 x) = ints (List.replicate n x) := by simp [ints]
theorem flts_len : (flts f).length = f.length := by simp [flts]
theorem flts_get (i : Nat) (h : i < (flts f).length) : (flts f)[i] = .flt .f32 (f[i]'(by simpa [flts] using h)) := by simp [flts]
theorem flts_append : flts f ++ flts g = flts (f ++ g) := by simp [flts]
theorem flts_snoc (n : Nat) : flts f ++ [AV.flt .f32 n] = flts (f ++ [n]) := by simp [flts]
theorem flts_set (i : Nat) (n : Nat) : (flts f).set i (.flt .f32 n) = flts (f.set i n) := by simp [flts, List.map_set]
theorem flts_take (n : Nat) : (flts f).take n = flts (f.take n) := by simp [flts, List.map_take]
theorem flts_drop (n : Nat) : (flts f).drop n = flts (f.drop n) := by simp [flts, List.map_drop]
theorem flts_kill (b : Nat) : (flts f).map (kill b) = flts f := by
  simp only [flts, List.map_map]; apply List.map_congr_left; intro x _; rfl
theorem flts_ren (π : Nat → Nat) : (flts f).map (ren π) = flts f := by
  simp only [flts, List.map_map]; apply List.map_congr_left; intro x _; rfl
theorem flts_view (d : Nat) (hp : List Blk) : (flts f).map (view d hp) = flts f := by
  simp only [flts, List.map_map]; apply List.map_congr_left; intro x _; cases d <;> rfl
theorem flts_below (N : Nat) : allBelow N (flts f) = true := by simp [allBelow, flts, below, belowM, belowL]
theorem flts_clean : (flts f).all clean = true := by simp [flts, clean, cleanM, cleanL]
theorem flts_allW : AllW 1 (flts f) := by intro a ha; simp only [flts, List.mem_map] at ha; obtain ⟨x, _, rfl⟩ := ha; exact ⟨rfl, rfl⟩
theorem flts_repl (n : Nat) (x : Nat) : List.replicate n (AV.flt .f32 x) = flts (List.replicate n x) := by simp [flts]
end

theorem brk_true (x y : Prop) : brk true x y = x := by simp [brk]
theorem brk_false (x y : Prop) : brk false x y = y := by simp [brk]
theorem brk_intro {b : Bool} {x y : Prop} (hx : b = true → x) (hy : b = false → y) : brk b x y := ⟨hx, hy⟩
end Go.Abs
