/- The abstract layer: parts ZN ZO ZP. -/
import Derived.Test.YtodjjpmigcacoaaGreatDoorAbsM4
set_option linter.unusedSimpArgs false
set_option linter.unusedVariables false
namespace Go.Abs
open Go
def p2 (e : Int) : Rat := (2 : Rat) ^ e
def sg (s : Bool) : Rat := if s then -1 else 1
def least (k : FloatKind) : Int := match k with | .f32 => -149 | .f64 => -1074
def top (k : FloatKind) : Int := match k with | .f32 => 127 | .f64 => 1023
def ab (v : Rat) : Rat := if 0 ≤ v then v else -v
set_option maxRecDepth 10000
set_option maxHeartbeats 2000000
theorem nan32 : nanOf .f32 = 2143289344 := rfl
theorem canon_low {w : Nat} (h : w < 4294967296 ∧ w ≠ 2147483648) : canon .f32 w < 4294967296 ∧ canon .f32 w ≠ 2147483648 := by
  unfold canon
  rw [nan32]
  cases (FloatKind.f32.decode w).isNaN
  · exact h
  · rw [if_pos rfl]; exact ⟨by omega, by omega⟩
theorem word_low (neg : Bool) {r : Nat} (h1 : 1 ≤ r) (h2 : r ≤ 2139095040) : Ieee.single.word neg r < 4294967296 ∧ Ieee.single.word neg r ≠ 2147483648 := by
  have w0 : Ieee.single.word false r = r := rfl
  have w1 : Ieee.single.word true r = Ieee.single.signWeight + r := rfl
  have w2 : Ieee.single.signWeight = 2147483648 := by decide +kernel
  rw [w2] at w1
  cases neg
  · rw [w0]; omega
  · rw [w1]; omega
theorem inf32 : Ieee.single.infRung = 2139095040 := by decide +kernel
def one32 : Nat := 1065353216
def ep : Rat := p2 (-23)
theorem word_lt (s : Bool) {r : Nat} (h : r ≤ 2139095040) : Ieee.single.word s r < 4294967296 := by
  have w0 : Ieee.single.word false r = r := rfl
  have w1 : Ieee.single.word true r = Ieee.single.signWeight + r := rfl
  have w2 : Ieee.single.signWeight = 2147483648 := by decide +kernel
  rw [w2] at w1
  cases s
  · rw [w0]; omega
  · rw [w1]; omega
theorem canon_lt {w : Nat} (h : w < 4294967296) : canon .f32 w < 4294967296 := by
  unfold canon
  rw [nan32]
  cases (FloatKind.f32.decode w).isNaN
  · exact h
  · rw [if_pos rfl]; omega
theorem write_lt (s : Bool) (m : Nat) (e : Int) : canon .f32 (FloatKind.f32.format.write (.number s m e)) < 4294967296 := by
  obtain ⟨r, h1, h2, _⟩ := nearest_word .f32 s m e
  show canon .f32 (FloatKind.f32.format.nearest s m e) < _
  rw [h1]
  exact canon_lt (word_lt s (by rw [show FloatKind.f32.format.infRung = Ieee.single.infRung from rfl, inf32] at h2; exact h2))
def FlatV (a b : AV) : Prop := b = .any ∨ (∃ j, a = .ptr 0 0 j ∧ b = .ptr 0 j 0) ∨ (a = b ∧ below 0 a = true)
def FlatTm : List AV → List AV → Prop
  | [], [] => True
  | a :: l, b :: m => FlatV a b ∧ FlatTm l m
  | _, _ => False
theorem FlatTm.get : ∀ {l m : List AV}, FlatTm l m → l.length = m.length ∧ ∀ (i : Nat) b, m[i]? = some b → ∃ a, l[i]? = some a ∧ FlatV a b
  | [], [], _ => ⟨rfl, by simp⟩
  | a :: l, b :: m, h => by
    obtain ⟨h1, h2⟩ := FlatTm.get h.2
    refine ⟨by simp [h1], fun i b' hb => ?_⟩
    cases i with
    | zero => simp at hb; subst hb; exact ⟨a, rfl, h.1⟩
    | succ i => simpa using h2 i b' (by simpa using hb)
  | [], _ :: _, h => h.elim
  | _ :: _, [], h => h.elim
def Env.flat {P : Program} (E : Env P) : Env P := { E with wd := fun _ => 1 }
theorem RV.rewd {P : Program} {E : Env P} {a : AV} {v : Value} (hb : Abs.below 0 a = true) (h : RV E a v) : RV E.flat a v :=
  RV.mono (RV.bare hb h) ⟨fun _ h => h, fun _ _ => rfl, Nat.zero_le _, fun _ hb => absurd hb (Nat.not_lt_zero _), fun _ hb => absurd hb (Nat.not_lt_zero _), fun _ => Nat.le_refl _⟩
theorem one_cell {a : AV} (h : a.one = true) : a.cells = [a] := by cases a <;> first | rfl | cases h
theorem weak_flat {ty : TypeId} {W : Nat} {cs : List AV} {tm tm2 : List AV} (hW : 0 < W) (hc : cs.all (fun c => c.one && below 0 c) = true) (ht : FlatTm tm tm2) : Weak 0 ⟨tm, [{ ty := ty, w := W, els := [.agg cs] }]⟩ ⟨tm2, [{ ty := ty, w := 1, els := cs }]⟩ := by
  intro P E0 hp0 E a hn hs
  have H := hs.hr
  have F := hs.fr
  obtain rfl : hp0 = [] := List.eq_nil_of_length_eq_zero hn
  obtain ⟨tl, tg⟩ := ht.get
  have hw0 : E.wd 0 = W := H.wd 0 _ rfl
  have hb0 : ∀ (b : Nat) (q : Blk), ([{ ty := ty, w := 1, els := cs }] : List Blk)[b]? = some q → b = 0 ∧ q = { ty := ty, w := 1, els := cs } := fun b q h => by
    cases b with
    | zero => simp at h; exact ⟨rfl, h.symm⟩
    | succ b => simp at h
  refine ⟨E.flat, rfl, ⟨⟨H.N, ?_, ?_, ?_, ?_, H.old, H.laid⟩, ⟨F.size, F.os, F.tape, F.output, F.block, Nat.zero_le _, fun b hb => absurd hb (Nat.not_lt_zero _), fun b hb => absurd hb (Nat.not_lt_zero _), F.F, F.F', ?_, F.csz⟩, tl ▸ hs.len, ?_, hs.df⟩⟩
  · intro b q h
    obtain ⟨rfl, rfl⟩ := hb0 b q h
    rfl
  · intro b q h hl
    obtain ⟨rfl, rfl⟩ := hb0 b q h
    obtain ⟨A, hrow, hA⟩ := (H.holds 0 _ rfl rfl).cells hW
    refine Holds.of (by show 0 < 1; decide) ⟨A, hrow, fun i e he => ?_⟩
    obtain ⟨_, h2⟩ := hA 0 _ rfl
    have hm := List.all_eq_true.1 hc e (List.mem_of_getElem? he)
    rw [Bool.and_eq_true] at hm
    rw [one_cell hm.1]
    refine ⟨rfl, fun j x hj => ?_⟩
    cases j with
    | succ j => simp at hj
    | zero =>
      simp at hj
      subst hj
      obtain ⟨v, hv, hr⟩ := h2 i e he
      refine ⟨v, ?_, RV.rewd hm.2 hr⟩
      simpa using hv
  · intro b b' q q' h hl h' hl' _
    rw [(hb0 b q h).1, (hb0 b' q' h').1]
  · intro b q h hl
    obtain ⟨rfl, rfl⟩ := hb0 b q h
    exact H.apart 0 _ rfl rfl
  · rintro b ⟨q, h, hl⟩
    obtain ⟨rfl, rfl⟩ := hb0 b q h
    exact F.live 0 ⟨_, rfl, rfl⟩
  · intro i b u hb hu
    obtain ⟨x, hx, hv⟩ := tg i b hb
    have hr := hs.tm i x u hx hu
    rcases hv with rfl | ⟨j, rfl, rfl⟩ | ⟨rfl, hlow⟩
    · exact .any _
    · cases hr with
      | ptr b i j hbN hw =>
        have := RV.ptr (E := E.flat) 0 j 0 hbN (by show 0 < 1; decide)
        have e : 0 * E.wd 0 + j = j * 1 + 0 := by omega
        rw [e]
        exact this
    · exact RV.rewd hlow hr
end Go.Abs
