/- The abstract layer, part Z9: places of bytes in strings, answered in place. -/
import Derived.Test.YtdhomifcjakbgaaDoorAbsZ8
import Derived.Test.YtdhomifcjakbgaaDoorAbsW
import Derived.Lib.Bytealg
set_option linter.unusedSimpArgs false
set_option linter.unusedVariables false
namespace Go.Abs
open Go
variable {P : Program}

section
variable {P : Program}
theorem RV.two {E : Env P} {a b : AV} {vs : List Value} (hl : vs.length = 2) (hv : ∀ (i : Nat) x v, [a, b][i]? = some x → vs[i]? = some v → RV E x v) : ∃ v u, vs = [v, u] ∧ RV E a v ∧ RV E b u := by
  match vs, hl with
  | [v, u], _ => exact ⟨v, u, rfl, hv 0 a v rfl rfl, hv 1 b u rfl rfl⟩
/-- A function of a string and a byte that is answered in place. -/
theorem bytes_call {f : FuncId} {fn : Func} {e : Array Value → Sem Value} (hf : P.funcs[f]? = some fn) (hname : (fn.name == "runtime.NumGoroutine") = false)
    (hb : fn.body.isNone = true) (hn : Extern.findNext fn = none) (he : Extern.find fn = some e) {g : List UInt8 → UInt8 → Int}
    (hE : ∀ (s : ByteArray) (c : Int) w, (e #[.string s, .int .u8 c]).run P w = .ok (.int .i64 (g s.data.toList c.toNat.toUInt8)) w)
    (s : List UInt8) (c : Int) : CallA P f [.str s, .int .u8 c] [] (Ret (.int .i64 (g s c.toNat.toUInt8)) []) := by
  refine ext_call hf hname hb hn he fun E vs hl hv => ?_
  obtain ⟨v, u, rfl, h1, h2⟩ := RV.two hl hv
  cases h1 with
  | str =>
    cases h2 with
    | int => exact ⟨_, _, hE _ c E.w, .int .i64 _, rfl, rfl⟩
end

/-- A text in pieces: between the bytes of a kind. -/
def cutA (c : UInt8) (acc : List UInt8) : List UInt8 → List (List UInt8)
  | [] => [acc]
  | x :: s => if x = c then acc :: cutA c [] s else cutA c (acc ++ [x]) s
theorem cutA_len (c : UInt8) : ∀ (l acc : List UInt8), (cutA c acc l).length = Lib.countByte l c + 1
  | [], _ => by simp [cutA, Lib.countByte]
  | x :: l, acc => by
    unfold cutA
    by_cases h : x = c
    · rw [if_pos h, List.length_cons, cutA_len c l]; simp [Lib.countByte, h]
    · rw [if_neg h, cutA_len c l]; simp [Lib.countByte, h]
theorem cutA_none (c : UInt8) : ∀ (l acc : List UInt8), Lib.countByte l c = 0 → cutA c acc l = [acc ++ l]
  | [], _, _ => by simp [cutA]
  | x :: l, acc, h => by
    unfold cutA
    by_cases e : x = c
    · simp [Lib.countByte, e] at h
    · rw [if_neg e, cutA_none c l _ (by simpa [Lib.countByte, e] using h)]; simp
/-- The first byte of the kind, where there is one. -/
theorem cutA_at (c : UInt8) : ∀ (l acc : List UInt8), Lib.countByte l c ≠ 0 →
    ∃ m : Nat, Lib.indexByte l c = m ∧ m < l.length ∧ cutA c acc l = (acc ++ l.take m) :: cutA c [] (l.drop (m + 1)) ∧ Lib.countByte l c = Lib.countByte (l.drop (m + 1)) c + 1
  | [], _, h => absurd rfl h
  | x :: l, acc, h => by
    by_cases e : x = c
    · refine ⟨0, by simp [Lib.indexByte, e], by simp, by (conv => lhs; unfold cutA); rw [if_pos e]; simp, by simp [Lib.countByte, e]⟩
    · obtain ⟨m, h1, h2, h3, h4⟩ := cutA_at c l (acc ++ [x]) (by simpa [Lib.countByte, e] using h)
      refine ⟨m + 1, ?_, by simp; omega, ?_, ?_⟩
      · unfold Lib.indexByte
        rw [if_neg (by simpa using e), h1, if_neg (by simp)]
        omega
      · conv => lhs; unfold cutA
        rw [if_neg e, h3]
        simp
      · have : Lib.countByte (x :: l) c = Lib.countByte l c := by simp [Lib.countByte, e]
        rw [this, h4]
        simp
theorem count_len (l : List UInt8) (c : UInt8) : Lib.countByte l c ≤ l.length := List.count_le_length
def strs (l : List (List UInt8)) : List AV := l.map AV.str
theorem strs_len (l : List (List UInt8)) : (strs l).length = l.length := by simp [strs]
theorem strs_get (l : List (List UInt8)) (i : Nat) (h : i < (strs l).length) : (strs l)[i] = AV.str (l[i]'(by simpa [strs] using h)) := by simp [strs]
theorem strs_app (l r : List (List UInt8)) : strs (l ++ r) = strs l ++ strs r := by simp [strs]
theorem strs_set (l : List (List UInt8)) (i : Nat) (x : List UInt8) : (strs l).set i (.str x) = strs (l.set i x) := by simp [strs, List.map_set]
theorem strs_rep (n : Nat) (x : List UInt8) : strs (List.replicate n x) = List.replicate n (.str x) := by simp [strs]
theorem strs_below (n : Nat) : ∀ l : List (List UInt8), allBelow n (strs l) = true
  | [] => rfl
  | x :: l => strs_below n l
theorem strs_ren (ρ : Nat → Nat) (l : List (List UInt8)) : (strs l).map (ren ρ) = strs l := by simp [strs, ren, renM, renL]
theorem map_view_strs (d : Nat) (hp : List Blk) (l : List (List UInt8)) : (strs l).map (view d hp) = strs l := by
  unfold strs
  rw [List.map_map]
  exact List.map_congr_left fun x _ => by cases d <;> rfl
end Go.Abs
