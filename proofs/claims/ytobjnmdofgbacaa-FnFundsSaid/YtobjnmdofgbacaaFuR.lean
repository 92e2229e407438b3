/- Funds: the numbers, in plain Lean: what the law asks. -/
import Derived.Test.YtobjnmdofgbacaaFuQ
set_option maxRecDepth 10000
set_option maxHeartbeats 4000000
set_option linter.unusedSimpArgs false
set_option linter.unusedVariables false
namespace Go.Proofs.Ytobjnmdofgbacaa
open Go Go.Abs

theorem ab_int {z a : Int} (h1 : -a ≤ z) (h2 : z ≤ a) : ab (z : Rat) ≤ (a : Rat) := by
  have x := int_cast_le h1
  have y := int_cast_le h2
  rw [Rat.intCast_neg] at x
  exact ab_le y x
theorem Fu.iv {is os rs : List Nat} {n : Nat} (F : Fu is os rs n) (j : Nat) (hj : j < n) : finB .f32 (is.getD j 0) = true ∧ 1 ≤ fval .f32 (is.getD j 0) ∧ fval .f32 (is.getD j 0) ≤ 20 := by
  obtain ⟨z, z1, z2, e⟩ := F.i j hj
  rw [e]
  obtain ⟨a, b⟩ := z_bounds z1 z2
  have v := iF_val (z := z) (by omega)
  have t1 : ((1 : Int) : Rat) = 1 := rfl
  have t2 : ((20 : Int) : Rat) = 20 := rfl
  rw [t1] at a; rw [t2] at b
  rw [v]
  exact ⟨(iF_rn (by omega)).fin, a, b⟩
theorem Fu.ov {is os rs : List Nat} {n : Nat} (F : Fu is os rs n) (j : Nat) (hj : j < n) : finB .f32 (os.getD j 0) = true ∧ 0 ≤ fval .f32 (os.getD j 0) ∧ fval .f32 (os.getD j 0) ≤ 19 := by
  obtain ⟨z, z1, z2, e⟩ := F.o j hj
  rw [e]
  obtain ⟨a, b⟩ := z_bounds z1 z2
  have v := iF_val (z := z) (by omega)
  have t1 : ((0 : Int) : Rat) = 0 := rfl
  have t2 : ((19 : Int) : Rat) = 19 := rfl
  rw [t1] at a; rw [t2] at b
  rw [v]
  exact ⟨(iF_rn (by omega)).fin, a, b⟩
theorem all_getD {p : Nat → Bool} {xs : List Nat} {n : Nat} (hn : xs.length = n) (h : ∀ j, j < n → p (xs.getD j 0) = true) : xs.all p = true := by
  rw [List.all_eq_true]
  intro x hx
  obtain ⟨j, hj, rfl⟩ := List.getElem_of_mem hx
  have := h j (by omega)
  rw [getD_at xs 0 j hj] at this
  exact this
theorem m1_ok : finB .f32 3212836864 = true ∧ fval .f32 3212836864 = -1 := by
  have h : FloatKind.f32.decode 3212836864 = .number true 8388608 (-23) := by decide +kernel
  exact ⟨num_fin h, by rw [fval_of h]; decide +kernel⟩
theorem in_mul {is os rs : List Nat} {n : Nat} (F : Fu is os rs n) {y : Nat} (fy : finB .f32 y = true) (by' : ab (fval .f32 y) ≤ 17) (j : Nat) (hj : j < n) : Rn .f32 (fval .f32 (is.getD j 0) * fval .f32 y) (fmul .f32 (is.getD j 0) y) ∧ ab (fval .f32 (fmul .f32 (is.getD j 0) y)) ≤ 512 := by
  obtain ⟨f, a, b⟩ := F.iv j hj
  have bb : ab (fval .f32 (is.getD j 0) * fval .f32 y) ≤ 512 := by
    rw [ab_mul, ab_of (by grind)]
    have m1 := Rat.mul_le_mul_of_nonneg_left by' (show 0 ≤ fval .f32 (is.getD j 0) by grind)
    grind
  have r := rn_mul f fy (top_of (by grind))
  refine ⟨r, r.bound ?_ bb⟩
  have h9' : p2 9 = 512 := p2_nat 9
  rw [← h9']
  exact rep_p2 _ (by decide)
theorem Fu.trm {is os rs : List Nat} {n : Nat} (F : Fu is os rs n) {y : Nat} (fy : finB .f32 y = true) (by' : ab (fval .f32 y) ≤ 17) : Trm (fun j => fmul .f32 (is.getD j 0) y) (fun j => os.getD j 0) (fun j => rs.getD j 0) n :=
  ⟨F.eight, fun j hj => ⟨(in_mul F fy by' j hj).1.fin, (in_mul F fy by' j hj).2⟩, fun j hj => ⟨(F.ov j hj).1, by
    obtain ⟨_, a, b⟩ := F.ov j hj
    rw [ab_of a]; grind⟩, F.r⟩
theorem okR_of {s : Nat} {is os rs : List Nat} {y n : Nat} (hn : is.length = n) (T : Trm (fun j => fmul .f32 (is.getD j 0) y) (fun j => os.getD j 0) (fun j => rs.getD j 0) n) (fs : finB .f32 s = true) (bs : ab (fval .f32 s) ≤ 512) : okR s is os rs y = true := by
  unfold okR
  refine all_getD (n := n) (by rw [runL_len, hn]) fun j hj => ?_
  rw [getD_at _ 0 j (by rw [runL_len]; omega), runL_get, runS_T]
  exact (runT_ok T fs bs (j + 1) (by omega)).1
theorem fund_of {s : Nat} {is os rs : List Nat} {n : Nat} (h1 : 1 ≤ n) (h8 : n ≤ 8) (li : is.length = n) (lo : os.length = n) (lr : rs.length = n) (fs : finB .f32 s = true) (fi : ∀ j, j < n → finB .f32 (is.getD j 0) = true) (fo : ∀ j, j < n → finB .f32 (os.getD j 0) = true) (fr : ∀ j, j < n → finB .f32 (rs.getD j 0) = true ∧ -1 < fval .f32 (rs.getD j 0)) : fundB s is os rs = true := by
  unfold fundB
  rw [fs, all_getD li fi, all_getD lo fo, all_getD lr fun j hj => (fr j hj).1, all_getD (p := fun r => fgt .f32 r 3212836864) lr fun j hj => by
    rw [fgt_val (fr j hj).1 m1_ok.1, m1_ok.2]
    exact decide_eq_true (fr j hj).2]
  simp only [Bool.and_true, Bool.true_and, decide_eq_true_eq]
  omega
theorem Fu.fund {is os rs : List Nat} {n : Nat} (F : Fu is os rs n) {s : Nat} (fs : finB .f32 s = true) : fundB s is os rs = true :=
  fund_of F.one F.eight F.li F.lo F.lr fs (fun j hj => (F.iv j hj).1) (fun j hj => (F.ov j hj).1) fun j hj => by
    obtain ⟨a, b, c⟩ := F.r j hj
    exact ⟨a, by grind⟩
theorem Fu.worth {is os rs : List Nat} {n : Nat} (F : Fu is os rs n) : fundB 0 os os rs = true :=
  fund_of F.one F.eight F.lo F.lo F.lr (by decide +kernel) (fun j hj => (F.ov j hj).1) (fun j hj => (F.ov j hj).1) fun j hj => by
    obtain ⟨a, b, c⟩ := F.r j hj
    exact ⟨a, by grind⟩
def c001W : Nat := 1008981770
theorem c001W_ok : finB .f32 c001W = true ∧ 9 / 1000 ≤ fval .f32 c001W ∧ fval .f32 c001W ≤ 11 / 1000 := by
  obtain ⟨a, b⟩ := w_of (x := c001W) (m := 10737418) (e := -30) (by decide +kernel)
  refine ⟨a, ?_, ?_⟩ <;> rw [b] <;> decide +kernel
def c002W : Nat := 1017370378
theorem c002W_ok : finB .f32 c002W = true ∧ 19 / 1000 ≤ fval .f32 c002W ∧ fval .f32 c002W ≤ 21 / 1000 := by
  obtain ⟨a, b⟩ := w_of (x := c002W) (m := 10737418) (e := -29) (by decide +kernel)
  refine ⟨a, ?_, ?_⟩ <;> rw [b] <;> decide +kernel
theorem w16_ok : finB .f32 1098907648 = true ∧ fval .f32 1098907648 = 16 := by
  obtain ⟨a, b⟩ := w_of (x := 1098907648) (m := 8388608) (e := -19) (by decide +kernel)
  exact ⟨a, b.trans (by decide +kernel)⟩
theorem fin00 : finB .f32 0 = true := by decide +kernel
theorem ab0 : ab (fval .f32 0) ≤ 512 := by rw [fval_zero]; exact ab_le (by decide) (by decide)
theorem rate_found {is os rs : List Nat} {n : Nat} (F : Fu is os rs n) : fundO 0 is os rs 20 = none ∨ ∃ h, fundO 0 is os rs 20 = some h ∧ Found (endR 0 is os rs) h := by
  have hA : ∀ y, finB .f32 y = true → 0 ≤ fval .f32 y → fval .f32 y ≤ 16 → okR 0 is os rs y = true := fun y fy y0 y16 =>
    okR_of F.li (F.trm fy (by rw [ab_of y0]; grind)) fin00 ab0
  have h16 := hA 1098907648 w16_ok.1 (by rw [w16_ok.2]; decide) (by rw [w16_ok.2]; decide)
  by_cases c : endR 0 is os rs 1098907648 = true
  · right
    have e : fundO 0 is os rs 20 = search (okR 0 is os rs) (endR 0 is os rs) 20 0 1098907648 := by
      unfold fundO
      rw [F.fund fin00, h16, c]
      rfl
    rw [e]
    refine search_ok _ _ hA 20 (by decide) 0 0 1098907648 fin00 w16_ok.1 ?_ ?_ (by decide) c (.inl rfl)
    · rw [fval_zero]; simp
    · rw [w16_ok.2]; decide +kernel
  · left
    have c' : endR 0 is os rs 1098907648 = false := by simpa using c
    unfold fundO
    rw [F.fund fin00, h16, c']
    rfl
def bentL (is : List Nat) (y : Nat) (i : Nat) : List Nat := (List.range i).map fun j => fmul .f32 (is.getD j 0) y
theorem bentL_len (is : List Nat) (y i : Nat) : (bentL is y i).length = i := by simp [bentL]
theorem bentL_get (is : List Nat) (y : Nat) {i j : Nat} (h : j < i) : (bentL is y i).getD j 0 = fmul .f32 (is.getD j 0) y := by simp [bentL, h]
theorem bent_trm {is os rs : List Nat} {n : Nat} (F : Fu is os rs n) {y : Nat} (fy : finB .f32 y = true) (by' : ab (fval .f32 y) ≤ 17) : Trm (fun j => fmul .f32 ((bentL is y n).getD j 0) one32) (fun j => os.getD j 0) (fun j => rs.getD j 0) n ∧ ∀ j, j < n → fval .f32 (fmul .f32 ((bentL is y n).getD j 0) one32) = fval .f32 (fmul .f32 (is.getD j 0) y) := by
  have T := F.trm fy by'
  have key : ∀ j, j < n → finB .f32 (fmul .f32 ((bentL is y n).getD j 0) one32) = true ∧ fval .f32 (fmul .f32 ((bentL is y n).getD j 0) one32) = fval .f32 (fmul .f32 (is.getD j 0) y) := fun j hj => by
    rw [bentL_get is y hj]
    obtain ⟨f, b⟩ := T.t j hj
    have r := rn_mul f fin_one (top_of (by rw [one_val, Rat.mul_one]; grind))
    rw [one_val, Rat.mul_one] at r
    exact ⟨r.fin, r.same (rep_val32 f)⟩
  exact ⟨⟨T.n8, fun j hj => ⟨(key j hj).1, by rw [(key j hj).2]; exact (T.t j hj).2⟩, T.o, T.r⟩, fun j hj => (key j hj).2⟩
theorem bent_fund {is os rs : List Nat} {n : Nat} (F : Fu is os rs n) {y : Nat} (fy : finB .f32 y = true) (by' : ab (fval .f32 y) ≤ 17) : fundB 0 (bentL is y n) os rs = true ∧ okR 0 (bentL is y n) os rs one32 = true :=
  ⟨fund_of F.one F.eight (bentL_len is y n) F.lo F.lr fin00 (fun j hj => by rw [bentL_get is y hj]; exact (in_mul F fy by' j hj).1.fin) (fun j hj => (F.ov j hj).1) fun j hj => by
    obtain ⟨a, b, c⟩ := F.r j hj
    exact ⟨a, by grind⟩, okR_of (bentL_len is y n) (bent_trm F fy by').1 fin00 ab0⟩
theorem bent_ge {is os rs : List Nat} {n : Nat} (F : Fu is os rs n) {y h : Nat} (fy : finB .f32 y = true) (by' : ab (fval .f32 y) ≤ 17) (fh : finB .f32 h = true) (bh : ab (fval .f32 h) ≤ 17) :
    (fval .f32 h ≤ fval .f32 y → fval .f32 (runS 0 is os rs h n) ≤ fval .f32 (runS 0 (bentL is y n) os rs one32 n)) ∧ (fval .f32 y ≤ fval .f32 h → fval .f32 (runS 0 (bentL is y n) os rs one32 n) ≤ fval .f32 (runS 0 is os rs h n)) := by
  have T := F.trm fh bh
  obtain ⟨B, v⟩ := bent_trm F fy by'
  rw [runS_T, runS_T]
  constructor
  · intro hle
    refine runT_mono T B fin00 ab0 (fun j hj => ?_) n (Nat.le_refl _)
    rw [v j hj]
    exact (in_mul F fh bh j hj).1.mono (in_mul F fy by' j hj).1 (Rat.mul_le_mul_of_nonneg_left hle (by have := (F.iv j hj).2.1; grind))
  · intro hle
    refine runT_mono B T fin00 ab0 (fun j hj => ?_) n (Nat.le_refl _)
    rw [v j hj]
    exact (in_mul F fy by' j hj).1.mono (in_mul F fh bh j hj).1 (Rat.mul_le_mul_of_nonneg_left hle (by have := (F.iv j hj).2.1; grind))
structure RateOk (is os rs : List Nat) (n h : Nat) : Prop where
  low : flt .f32 h 0 = false
  high : fgt .f32 h 1098907648 = false
  fin : finB .f32 h = true
  mf : fundB 0 (bentL is (fadd .f32 h c001W) n) os rs = true
  mo : okR 0 (bentL is (fadd .f32 h c001W) n) os rs one32 = true
  ff : fundB 0 (bentL is (fsub .f32 h c001W) n) os rs = true
  fo : okR 0 (bentL is (fsub .f32 h c001W) n) os rs one32 = true
  me : fge .f32 (runS 0 (bentL is (fadd .f32 h c001W) n) os rs one32 n) 0 = true
  fe : flt .f32 h c002W = true ∨ fle .f32 (runS 0 (bentL is (fsub .f32 h c001W) n) os rs one32 n) 0 = true
theorem rate_ok {is os rs : List Nat} {n h : Nat} (F : Fu is os rs n) (H : Found (endR 0 is os rs) h) : RateOk is os rs n h := by
  obtain ⟨l, m, fh, vh, hm, hB, fl, vl, hL⟩ := H
  have e16 : p2 (-16) * 65536 = 1 := by decide +kernel
  have pp := p2_pos (-16)
  have a1 := cast_le hm
  have o1 : ((1 : Nat) : Rat) = 1 := rfl
  have o2 : ((2 ^ 20 : Nat) : Rat) = 1048576 := rfl
  rw [Rat.natCast_add, o1] at vh a1
  rw [o2] at a1
  have m0 : (0 : Rat) ≤ (m : Rat) := by exact_mod_cast Nat.zero_le m
  have mp := Rat.mul_nonneg m0 (Rat.le_of_lt pp)
  have b1 := mul_le_r (Rat.le_of_lt pp) a1
  have h0 : 0 ≤ fval .f32 h := by rw [vh]; grind
  have h16 : fval .f32 h ≤ 16 := by rw [vh]; grind
  have hl : fval .f32 h = fval .f32 l + p2 (-16) := by rw [vh, vl]; grind
  have hp : fval .f32 h ≤ p2 (-16) ∨ 1 ≤ m := by
    by_cases c : m = 0
    · left; subst c; rw [vh]; have : ((0 : Nat) : Rat) = 0 := rfl; rw [this]; grind
    · exact .inr (by omega)
  obtain ⟨fc, c1, c2⟩ := c001W_ok
  obtain ⟨fd, d1, d2⟩ := c002W_ok
  clear vh vl a1 mp b1 m0 hm
  have bh : ab (fval .f32 h) ≤ 17 := by rw [ab_of h0]; grind
  have r1 := rn_add fh fc (top_of (ab_le (by grind) (by grind)))
  have r2 := rn_sub fh fc (top_of (ab_le (by grind) (by grind)))
  have rep17 : Rep .f32 17 := by have := rep_int .f32 (z := 17) (by decide); exact this
  have b17 : ab (fval .f32 (fadd .f32 h c001W)) ≤ 17 := r1.bound rep17 (ab_le (by grind) (by grind))
  have b17' : ab (fval .f32 (fsub .f32 h c001W)) ≤ 17 := r2.bound rep17 (ab_le (by grind) (by grind))
  have up : fval .f32 h ≤ fval .f32 (fadd .f32 h c001W) := r1.lo _ (rep_val32 fh) (by grind)
  have dn : fval .f32 (fsub .f32 h c001W) ≤ fval .f32 l := r2.up _ (rep_val32 fl) (by grind)
  obtain ⟨mf, mo⟩ := bent_fund F r1.fin b17
  obtain ⟨ff, fo⟩ := bent_fund F r2.fin b17'
  have nr : finB .f32 (runS 0 is os rs h n) = true := by
    rw [runS_T]; exact (runT_ok (F.trm fh bh) fin00 ab0 n (Nat.le_refl _)).1
  have nm : finB .f32 (runS 0 (bentL is (fadd .f32 h c001W) n) os rs one32 n) = true := by
    rw [runS_T]; exact (runT_ok (bent_trm F r1.fin b17).1 fin00 ab0 n (Nat.le_refl _)).1
  have nf : finB .f32 (runS 0 (bentL is (fsub .f32 h c001W) n) os rs one32 n) = true := by
    rw [runS_T]; exact (runT_ok (bent_trm F r2.fin b17').1 fin00 ab0 n (Nat.le_refl _)).1
  refine ⟨?_, ?_, fh, mf, mo, ff, fo, ?_, ?_⟩
  · rw [flt_val fh fin00, fval_zero]; exact decide_eq_false (by grind)
  · rw [fgt_val fh w16_ok.1, w16_ok.2]; exact decide_eq_false (by grind)
  · have g := (bent_ge F r1.fin b17 fh bh).1 up
    unfold endR at hB
    rw [F.li, fge_val nr fin00, fval_zero] at hB
    have hB' := of_decide_eq_true hB
    rw [fge_val nm fin00, fval_zero]
    exact decide_eq_true (by clear r1 r2; grind)
  · by_cases c : fval .f32 h < fval .f32 c002W
    · left; rw [flt_val fh fd]; exact decide_eq_true c
    · right
      have hm1 : 1 ≤ m := by
        rcases hp with h1 | h1
        · exfalso; clear r1 r2; grind
        · exact h1
      have eL : endR 0 is os rs l = false := by
        rcases hL with h1 | h1
        · omega
        · exact h1
      have l0 : 0 ≤ fval .f32 l := by clear r1 r2; grind
      have bl : ab (fval .f32 l) ≤ 17 := by rw [ab_of l0]; clear r1 r2; grind
      have nl : finB .f32 (runS 0 is os rs l n) = true := by
        rw [runS_T]; exact (runT_ok (F.trm fl bl) fin00 ab0 n (Nat.le_refl _)).1
      have g := (bent_ge F r2.fin b17' fl bl).2 dn
      unfold endR at eL
      rw [F.li, fge_val nl fin00, fval_zero] at eL
      have eL' := of_decide_eq_false eL
      rw [fle_val nf fin00, fval_zero]
      exact decide_eq_true (by clear r1 r2; grind)
end Go.Proofs.Ytobjnmdofgbacaa
