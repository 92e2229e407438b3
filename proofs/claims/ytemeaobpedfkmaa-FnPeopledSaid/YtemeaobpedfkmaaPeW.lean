/- Peoples: those drawn are such; the draw told as lists. -/
import Derived.Test.YtemeaobpedfkmaaPeV
set_option maxRecDepth 10000
set_option maxHeartbeats 4000000
set_option linter.unusedSimpArgs false
set_option linter.unusedVariables false
namespace Go.Proofs.Ytemeaobpedfkmaa
open Go Go.Abs

theorem list_all {l : List Nat} {p : Nat → Prop} (h0 : p 0) (h : ∀ x ∈ l, p x) (j : Nat) : p (l.getD j 0) := by
  by_cases hj : j < l.length
  · rw [getD_at l 0 j hj]; exact h _ (List.getElem_mem hj)
  · rw [List.getD_eq_getElem?_getD, List.getElem?_eq_none (by omega)]; exact h0
def w15 : Nat := 1064304640
def w54 : Nat := 1067450368
def w14 : Nat := 1048576000
theorem w15_v : finB .f32 w15 = true ∧ fval .f32 w15 = 15 / 16 := by
  have h : FloatKind.f32.decode w15 = .number false 15728640 (-24) := by decide +kernel
  refine ⟨num_fin h, ?_⟩
  rw [fval_of h]; decide +kernel
theorem w54_v : finB .f32 w54 = true ∧ fval .f32 w54 = 5 / 4 := by
  have h : FloatKind.f32.decode w54 = .number false 10485760 (-23) := by decide +kernel
  refine ⟨num_fin h, ?_⟩
  rw [fval_of h]; decide +kernel
theorem w14_v : finB .f32 w14 = true ∧ fval .f32 w14 = 1 / 4 := by
  have h : FloatKind.f32.decode w14 = .number false 8388608 (-25) := by decide +kernel
  refine ⟨num_fin h, ?_⟩
  rw [fval_of h]; decide +kernel
def btw (a x b : Nat) : Bool := finB .f32 x && fle .f32 a x && fle .f32 x b
theorem btw_v {a x b : Nat} (fa : finB .f32 a = true) (fb : finB .f32 b = true) (h : btw a x b = true) : finB .f32 x = true ∧ fval .f32 a ≤ fval .f32 x ∧ fval .f32 x ≤ fval .f32 b := by
  unfold btw at h
  simp only [Bool.and_eq_true] at h
  obtain ⟨⟨f, p⟩, q⟩ := h
  rw [fle_val fa f] at p
  rw [fle_val f fb] at q
  exact ⟨f, of_decide_eq_true p, of_decide_eq_true q⟩
theorem six_btw : ∀ y : Nat, y < 16 → btw 0 (sixF (y : Int)) w15 = true := by decide +kernel
theorem eig_btw : ∀ y : Nat, y < 9 → btw 0 (eigF (y : Int)) w54 = true := by decide +kernel
theorem eig_add : ∀ y : Nat, y < 9 → btw w14 (fadd .f32 (eigF (y : Int)) 1048576000) w54 = true := by decide +kernel
theorem iF_add : ∀ x : Nat, x < 40 → fadd .f32 (iF (x : Int)) 1065353216 = iF ((x + 1 : Nat) : Int) := by decide +kernel
theorem zero_f : finB .f32 0 = true := by decide +kernel
theorem iF_w {x : Int} (h0 : 0 ≤ x) (h : x ≤ 40) : IntW (iF x) := ⟨(iF_rn (by omega)).fin, x, iF_val (by omega), h0, h⟩
def csT (L : List Tri) : List Nat := (cL L).set 0 (fadd .f32 ((cL L).getD 0 0) 1065353216)
def bsT (L : List Tri) : List Nat := (bL L).set 0 (fadd .f32 ((bL L).getD 0 0) 1048576000)
theorem csT_mem {L : List Tri} (hT : ∀ t ∈ L, triB t) : ∀ x ∈ csT L, IntW x := by
  intro x hx
  cases L with
  | nil => cases hx
  | cons t M =>
    have e : csT (t :: M) = fadd .f32 (iF t.1) 1065353216 :: cL M := rfl
    rw [e] at hx
    rcases List.mem_cons.1 hx with rfl | hx
    · obtain ⟨⟨a, b⟩, _⟩ := hT t (by simp)
      have := iF_add t.1.toNat (by omega)
      rw [show ((t.1.toNat : Nat) : Int) = t.1 by omega] at this
      rw [this]
      exact iF_w (by omega) (by omega)
    · obtain ⟨s, hs, rfl⟩ := List.mem_map.1 hx
      obtain ⟨⟨a, b⟩, _⟩ := hT s (by simp [hs])
      exact iF_w (by omega) (by omega)
theorem sL_mem {L : List Tri} (hT : ∀ t ∈ L, triB t) : ∀ x ∈ sL L, finB .f32 x = true ∧ 0 ≤ fval .f32 x ∧ fval .f32 x ≤ 15 / 16 := by
  intro x hx
  obtain ⟨s, hs, rfl⟩ := List.mem_map.1 hx
  obtain ⟨_, ⟨a, b⟩, _⟩ := hT s hs
  have := six_btw s.2.1.toNat (by omega)
  rw [show ((s.2.1.toNat : Nat) : Int) = s.2.1 by omega] at this
  have := btw_v zero_f w15_v.1 this
  rw [fval_zero, w15_v.2] at this
  exact this
theorem bsT_mem {L : List Tri} (hT : ∀ t ∈ L, triB t) : ∀ x ∈ bsT L, finB .f32 x = true ∧ 0 ≤ fval .f32 x ∧ fval .f32 x ≤ 5 / 4 := by
  intro x hx
  cases L with
  | nil => cases hx
  | cons t M =>
    have e : bsT (t :: M) = fadd .f32 (eigF t.2.2) 1048576000 :: bL M := rfl
    rw [e] at hx
    rcases List.mem_cons.1 hx with rfl | hx
    · obtain ⟨_, _, a, b⟩ := hT t (by simp)
      have := eig_add t.2.2.toNat (by omega)
      rw [show ((t.2.2.toNat : Nat) : Int) = t.2.2 by omega] at this
      have := btw_v w14_v.1 w54_v.1 this
      rw [w14_v.2, w54_v.2] at this
      exact ⟨this.1, by grind, this.2.2⟩
    · obtain ⟨s, hs, rfl⟩ := List.mem_map.1 hx
      obtain ⟨_, _, a, b⟩ := hT s (by simp [hs])
      have := eig_btw s.2.2.toNat (by omega)
      rw [show ((s.2.2.toNat : Nat) : Int) = s.2.2 by omega] at this
      have := btw_v zero_f w54_v.1 this
      rw [fval_zero, w54_v.2] at this
      exact this
theorem nf_of {l : List Nat} (h : ∀ x ∈ l, finB .f32 x = true ∧ 0 ≤ fval .f32 x) : NfL l :=
  ⟨fun j => list_all (p := fun x => finB .f32 x = true) zero_f (fun x hx => (h x hx).1) j, fun j => list_all (p := fun x => 0 ≤ fval .f32 x) (by show 0 ≤ fval .f32 0; rw [fval_zero]; exact Rat.le_refl) (fun x hx => (h x hx).2) j⟩
theorem sR_up {f : Nat → Rat} (h : ∀ j, f j ≤ 40) : ∀ k : Nat, sR f k ≤ 40 * (k : Rat)
  | 0 => by show (0 : Rat) ≤ 40 * ((0 : Nat) : Rat); rw [show ((0 : Nat) : Rat) = 0 from rfl]; grind
  | k + 1 => by
    have := sR_up h k
    have := h k
    show sR f k + f k ≤ _
    rw [nat_cast_succ]; grind
theorem int_rat {z : Int} (h0 : 0 ≤ z) (h : z ≤ 40) : 0 ≤ (z : Rat) ∧ (z : Rat) ≤ 40 := by
  have b := int_bounds h0 h
  have e0 : ((0 : Int) : Rat) = 0 := rfl
  have e4 : ((40 : Int) : Rat) = 40 := rfl
  rw [e0, e4] at b
  exact b
theorem pop_of {L : List Tri} (h : 2 ≤ L.length ∧ L.length ≤ 5) (hT : ∀ t ∈ L, triB t) : Pop (csT L) (sL L) (bsT L) := by
  have lc : (csT L).length = L.length := by simp [csT, cL]
  have ls : (sL L).length = L.length := by simp [sL]
  have lb : (bsT L).length = L.length := by simp [bsT, bL]
  have hc := csT_mem hT
  have hs := sL_mem hT
  have hb := bsT_mem hT
  have ci : ∀ j, IntW ((csT L).getD j 0) := fun j => list_all (p := IntW) ⟨zero_f, 0, fval_zero _, by omega, by omega⟩ hc j
  have c40 : ∀ j, vL (csT L) j ≤ 40 := fun j => by
    obtain ⟨_, z, v, z0, z4⟩ := ci j
    show fval .f32 _ ≤ 40
    rw [v]; exact (int_rat z0 z4).2
  have cn : NfL (csT L) := nf_of fun x hx => by
    obtain ⟨f, z, v, z0, z4⟩ := hc x hx
    exact ⟨f, by rw [v]; exact (int_rat z0 z4).1⟩
  have par : Par (sL L) (bsT L) := by
    refine ⟨nf_of fun x hx => ⟨(hs x hx).1, (hs x hx).2.1⟩, nf_of fun x hx => ⟨(hb x hx).1, (hb x hx).2.1⟩, fun j => ?_, fun j => ?_, ?_⟩
    · exact list_all (p := fun x => fval .f32 x ≤ 15 / 16) (by show fval .f32 0 ≤ _; rw [fval_zero]; grind) (fun x hx => (hs x hx).2.2) j
    · exact list_all (p := fun x => fval .f32 x ≤ 5 / 4) (by show fval .f32 0 ≤ _; rw [fval_zero]; grind) (fun x hx => (hb x hx).2.2) j
    · cases L with
      | nil => simp at h
      | cons t M =>
        show 1 / 4 ≤ fval .f32 (fadd .f32 (eigF t.2.2) 1048576000)
        obtain ⟨_, _, a, b⟩ := hT t (by simp)
        have := eig_add t.2.2.toNat (by omega)
        rw [show ((t.2.2.toNat : Nat) : Int) = t.2.2 by omega] at this
        have := btw_v w14_v.1 w54_v.1 this
        rw [w14_v.2] at this
        exact this.2.1
  refine ⟨⟨par, cn, by omega, by omega, ?_, ?_⟩, by omega, by omega, fun j => (ci j).2⟩
  · cases L with
    | nil => simp at h
    | cons t M =>
      show 1 ≤ fval .f32 (fadd .f32 (iF t.1) 1065353216)
      obtain ⟨⟨a, b⟩, _⟩ := hT t (by simp)
      have := iF_add t.1.toNat (by omega)
      rw [show ((t.1.toNat : Nat) : Int) = t.1 by omega] at this
      rw [this, iF_val (by omega)]
      have := int_cast_le (show 1 ≤ ((t.1.toNat + 1 : Nat) : Int) by omega)
      have e1 : ((1 : Int) : Rat) = 1 := rfl
      rw [e1] at this
      exact this
  · have := sR_up c40 (csT L).length
    have := cast5 (show (csT L).length ≤ 5 by omega)
    grind
theorem b10People_call (code : List Int) (hc : byteL code) (hl : code.length ≤ 1048576) :
    CallA Try.prog 5 [.ro (kint .u8 code)] [] (fun r hp => ∃ cs ss bs : List Nat, Pop cs ss bs ∧ r = .agg [.ro (flts cs), .ro (flts ss), .ro (flts bs)] ∧ hp = []) := by
  refine (CallA.freezeQ 3 (b10People0_call code hc hl)).mono ?_
  rintro r hp ⟨r0, new, ⟨L, h, hT, rfl, rfl⟩, rfl, rfl⟩
  refine ⟨csT L, sL L, bsT L, pop_of h hT, ?_, rfl⟩
  have lc : (csT L).length = L.length := by simp [csT, cL]
  have ls : (sL L).length = L.length := by simp [sL]
  have lb : (bsT L).length = L.length := by simp [bsT, bL]
  show view 3 [fltB (csT L), fltB (sL L), fltB (bsT L)] _ = _
  simp [fltB, view_sl, view_agg, map_view_flts, take_flts, flts_len, lc, ls, lb]
  exact ⟨List.take_of_length_le (by rw [flts_len]; omega), List.take_of_length_le (by rw [flts_len]; omega), List.take_of_length_le (by rw [flts_len]; omega)⟩
end Go.Proofs.Ytemeaobpedfkmaa
