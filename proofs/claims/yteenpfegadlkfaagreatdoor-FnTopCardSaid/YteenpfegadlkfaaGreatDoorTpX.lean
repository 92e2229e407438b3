/- FnTop's script: its lines, what is answered, the desks between them. Printed by gen_tpx.py. -/
import Derived.Test.YteenpfegadlkfaaGreatDoorTpW
import Derived.Test.YteenpfegadlkfaaGreatDoorTpV
set_option maxRecDepth 10000
set_option maxHeartbeats 8000000
set_option linter.unusedSimpArgs false
set_option linter.unusedVariables false
namespace Go.Proofs.YteenpfegadlkfaaGreatDoor
open Go Go.Abs
section
variable {bs rs ps ra : List Int} {q : List Nat}
def ln (w t : List UInt8) : List UInt8 := w ++ 32 :: t
theorem ln_cut {w t : List UInt8} (hw : (32 : UInt8) ∉ w) (ht : (32 : UInt8) ∉ t) : cutA 32 [] (ln w t) = [w, t] := by
  unfold ln
  rw [cutA_at 32 w [] t hw, cutA_no 32 t [] ht]; rfl
theorem ln_cut3 {w t u : List UInt8} (hw : (32 : UInt8) ∉ w) (ht : (32 : UInt8) ∉ t) (hu : (32 : UInt8) ∉ u) : cutA 32 [] (ln w (ln t u)) = [w, t, u] := by
  unfold ln
  rw [cutA_at 32 w [] _ hw, cutA_at 32 t [] u ht, cutA_no 32 u [] hu]; rfl
theorem w_cut {w : List UInt8} (hw : (32 : UInt8) ∉ w) : cutA 32 [] w = [w] := cutA_no 32 w [] hw
theorem ln_len (w t : List UInt8) : (ln w t).length = w.length + 1 + t.length := by simp [ln]; omega
theorem ln_10 {w t : List UInt8} (hw : (10 : UInt8) ∉ w) (ht : (10 : UInt8) ∉ t) : (10 : UInt8) ∉ ln w t := by
  intro h
  rcases List.mem_append.1 h with h | h
  · exact hw h
  · rcases List.mem_cons.1 h with h | h
    · revert h; decide
    · exact ht h
theorem scT_no {c : UInt8} (h0 : c ≠ 44) (h1 : c ≠ 45) (h2 : dig c = false) (h3 : c ≠ 59) (bs rs : List Int) : c ∉ scT bs rs := by
  intro h
  rcases List.mem_append.1 h with h | h
  · exact txt_no h0 h1 h2 bs h
  · rcases List.mem_cons.1 h with h | h
    · exact h3 h
    · exact txt_no h0 h1 h2 rs h
theorem itoa_21 {x : Int} (h : okM x) : (Lib.itoa x).length ≤ 21 := itoa_len h.i
theorem wds_len (xs : List Nat) (h : 1 ≤ xs.length) : (wdsT (hexW xs)).length ≤ xs.length * 9 := by
  have e : hexW xs ≠ [] := by intro e; have := congrArg List.length e; rw [hexW_len] at this; simp at this; rw [this] at h; simp at h
  unfold wdsT
  rw [if_neg e]
  have := (join_len (L := 8) (W := hexW xs) fun x hx => by obtain ⟨y, _, rfl⟩ := List.mem_map.1 hx; exact hexT_len y 8).1
  rw [hexW_len] at this
  omega
def nb0 : List Int := [0, 1000]
def nr0 : List Int := [1000, 2000]
def np0 : List Int := [100, 250, 400]
def na0 : List Int := [500, 0, -500]
def nq0 : List Nat := [1056964608, 1056964608, 1065353216]
theorem new_ok : Dok nb0 nr0 np0 na0 nq0 := newDesk_ok
def topL (bs rs ps ra : List Int) (q : List Nat) (n w : Int) : List (List UInt8) := [ln [115, 99, 97, 108, 101] (scT bs rs), ln [112, 97, 121, 115] (txt [44] ps), ln [114, 97, 116, 101, 115] (txt [44] ra), ln [116, 97, 98, 108, 101] (wdsT (hexW q)), [115, 99, 97, 108, 101], [112, 97, 121, 115], [114, 97, 116, 101, 115], [116, 97, 98, 108, 101], ln [100, 117, 101] (ln (Lib.itoa n) (Lib.itoa w)), ln [110, 101, 116] (ln (Lib.itoa n) (Lib.itoa w)), [110, 101, 116, 115], ln [114, 97, 116, 101] (Lib.itoa n), ln [104, 111, 108, 100] (Lib.itoa w), ln [115, 104, 97, 114, 101] (Lib.itoa n), ln [115, 97, 102, 101] (Lib.itoa n), [97, 108, 105, 118, 101], [116, 114, 105, 109]]
def topO (bs rs ps ra : List Int) (q : List Nat) (n w : Int) : List (List UInt8) := [[111, 107], [111, 107], [111, 107], [111, 107], scT bs rs, txt [44] ps, txt [44] ra, wdsT (hexW q), Lib.itoa (dueF bs rs n w), Lib.itoa (netF bs rs n w), [119, 104, 97, 116], Lib.itoa (rtG bs rs n), txt [44] (whL bs rs ps w), txt [44] (larL ps n), Lib.itoa (safV ra n), wdsT (hexW (alvL q)), [111, 107]]
def topS (bs rs ps ra : List Int) (q : List Nat) : Nat → DV
  | 0 => (nb0, nr0, np0, na0, nq0)
  | 1 => (bs, rs, np0, na0, nq0)
  | 2 => (bs, rs, ps, na0, nq0)
  | 3 => (bs, rs, ps, ra, nq0)
  | 17 => (trB bs rs, trR bs rs, ps, ra, q)
  | _ => (bs, rs, ps, ra, q)
structure Bds (bs rs ps ra : List Int) (q : List Nat) (n w : Int) : Prop where
  D : Dok bs rs ps ra q
  n0 : 0 ≤ n
  n1 : n ≤ 10000
  w0 : 0 ≤ w
  w3 : w ≤ 3
variable {n w : Int}
theorem Bds.d1 (H : Bds bs rs ps ra q n w) : Dok bs rs np0 na0 nq0 := dok_of H.D.scl new_ok.pys new_ok.rts new_ok.tab new_ok.okw
theorem Bds.d2 (H : Bds bs rs ps ra q n w) : Dok bs rs ps na0 nq0 := dok_of H.D.scl H.D.pys new_ok.rts new_ok.tab new_ok.okw
theorem Bds.d3 (H : Bds bs rs ps ra q n w) : Dok bs rs ps ra nq0 := dok_of H.D.scl H.D.pys H.D.rts new_ok.tab new_ok.okw
theorem Bds.dt (H : Bds bs rs ps ra q n w) : Dok (trB bs rs) (trR bs rs) ps ra q := dok_of (trim_of H.D.scl).1 H.D.pys H.D.rts H.D.tab H.D.okw
structure Len (bs rs ps ra : List Int) (q : List Nat) (n w : Int) : Prop where
  l_sc : (scT bs rs).length ≤ 400
  l_ps : (txt [44] ps).length ≤ 144
  l_ra : (txt [44] ra).length ≤ 144
  l_q : (wdsT (hexW q)).length ≤ 54
  l_n : (Lib.itoa n).length ≤ 21
  l_w : (Lib.itoa w).length ≤ 21
  l_due : (Lib.itoa (dueF bs rs n w)).length ≤ 21
  l_net : (Lib.itoa (netF bs rs n w)).length ≤ 21
  l_rt : (Lib.itoa (rtG bs rs n)).length ≤ 21
  l_wh : (txt [44] (whL bs rs ps w)).length ≤ 144
  l_lar : (txt [44] (larL ps n)).length ≤ 144
  l_saf : (Lib.itoa (safV ra n)).length ≤ 21
  l_alv : (wdsT (hexW (alvL q))).length ≤ 54
theorem Bds.num (H : Bds bs rs ps ra q n w) : okM n ∧ okM w ∧ okM (dueF bs rs n w) ∧ okM (netF bs rs n w) ∧ okM (rtG bs rs n) ∧ okM (safV ra n) := by
  have n0 := H.n0
  have n1 := H.n1
  have w0 := H.w0
  have w3 := H.w3
  have d := H.D.scl.due (c := n) (w := w) n0 w0 w3
  have nf : netF bs rs n w = n - dueF bs rs n w := rfl
  have r := H.D.scl.rt n
  have s := (safe_call H.D.rts n n0 (by omega)).1
  unfold okM
  omega
theorem Bds.len (H : Bds bs rs ps ra q n w) : Len bs rs ps ra q n w := by
  obtain ⟨a1, a2, a3⟩ := H.D.b1
  have p1 := H.D.pys.six
  have r1 := H.D.rts.six
  have q1 := H.D.tab.six
  have q0_ := H.D.tab.one
  obtain ⟨n1, n2, n3, n4, n5, n6⟩ := H.num
  have t1 := txt_len (sep := [44]) (by decide) bs fun x hx => (H.D.bm x hx).i
  have t2 := txt_len (sep := [44]) (by decide) rs fun x hx => (H.D.rm x hx).i
  have t3 := txt_len (sep := [44]) (by decide) ps fun x hx => (H.D.pm x hx).i
  have t4 := txt_len (sep := [44]) (by decide) ra fun x hx => (H.D.am x hx).i
  have t5 := txt_len (sep := [44]) (by decide) (whL bs rs ps w) fun x hx => (wh_ok H.D.scl H.D.pys H.w0 H.w3 x hx).i
  have t6 := txt_len (sep := [44]) (by decide) (larL ps n) fun x hx => (lar_bound H.D.pys H.n0 H.n1 x hx).i
  rw [whL_len] at t5
  rw [larL_len] at t6
  have h1 := wds_len q q0_
  have h2 := wds_len (alvL q) (by rw [alvL_len]; exact q0_)
  rw [alvL_len] at h2
  exact ⟨by unfold scT; simp only [List.length_append, List.length_cons]; omega, by omega, by omega, by omega, itoa_21 n1, itoa_21 n2, itoa_21 n3, itoa_21 n4, itoa_21 n5, by omega, by omega, itoa_21 n6, by omega⟩
theorem tcm0 (H : Bds bs rs ps ra q n w) : CallA Tryz.prog 34 [dvA (topS bs rs ps ra q 0), .str (ln [115, 99, 97, 108, 101] (scT bs rs))] [] (Ret (.tup [dvA (topS bs rs ps ra q 1), .str ([111, 107])]) []) := by
  have e : cutA 32 [] (ln [115, 99, 97, 108, 101] (scT bs rs)) = [[115, 99, 97, 108, 101], (scT bs rs)] := ln_cut (by decide) (scT_no (by decide) (by decide) (by decide) (by decide) _ _)
  have L := H.len
  have l1 := L.l_sc
  have l2 := L.l_ps
  have l3 := L.l_ra
  have l4 := L.l_q
  have l5 := L.l_n
  have l6 := L.l_w
  exact cmd_part new_ok H.d1 _ _ (by simp only [ln_len, List.length_cons, List.length_nil]; omega) (by rw [e]; exact set_scale H.d1 false)
theorem tcm1 (H : Bds bs rs ps ra q n w) : CallA Tryz.prog 34 [dvA (topS bs rs ps ra q 1), .str (ln [112, 97, 121, 115] (txt [44] ps))] [] (Ret (.tup [dvA (topS bs rs ps ra q 2), .str ([111, 107])]) []) := by
  have e : cutA 32 [] (ln [112, 97, 121, 115] (txt [44] ps)) = [[112, 97, 121, 115], (txt [44] ps)] := ln_cut (by decide) (txt_no (by decide) (by decide) (by decide) _)
  have L := H.len
  have l1 := L.l_sc
  have l2 := L.l_ps
  have l3 := L.l_ra
  have l4 := L.l_q
  have l5 := L.l_n
  have l6 := L.l_w
  exact cmd_part H.d1 H.d2 _ _ (by simp only [ln_len, List.length_cons, List.length_nil]; omega) (by rw [e]; exact set_pays H.d2 false)
theorem tcm2 (H : Bds bs rs ps ra q n w) : CallA Tryz.prog 34 [dvA (topS bs rs ps ra q 2), .str (ln [114, 97, 116, 101, 115] (txt [44] ra))] [] (Ret (.tup [dvA (topS bs rs ps ra q 3), .str ([111, 107])]) []) := by
  have e : cutA 32 [] (ln [114, 97, 116, 101, 115] (txt [44] ra)) = [[114, 97, 116, 101, 115], (txt [44] ra)] := ln_cut (by decide) (txt_no (by decide) (by decide) (by decide) _)
  have L := H.len
  have l1 := L.l_sc
  have l2 := L.l_ps
  have l3 := L.l_ra
  have l4 := L.l_q
  have l5 := L.l_n
  have l6 := L.l_w
  exact cmd_part H.d2 H.d3 _ _ (by simp only [ln_len, List.length_cons, List.length_nil]; omega) (by rw [e]; exact set_rates H.d3 false)
theorem tcm3 (H : Bds bs rs ps ra q n w) : CallA Tryz.prog 34 [dvA (topS bs rs ps ra q 3), .str (ln [116, 97, 98, 108, 101] (wdsT (hexW q)))] [] (Ret (.tup [dvA (topS bs rs ps ra q 4), .str ([111, 107])]) []) := by
  have e : cutA 32 [] (ln [116, 97, 98, 108, 101] (wdsT (hexW q))) = [[116, 97, 98, 108, 101], (wdsT (hexW q))] := ln_cut (by decide) (wds_no _ H.D.tab.one).1
  have L := H.len
  have l1 := L.l_sc
  have l2 := L.l_ps
  have l3 := L.l_ra
  have l4 := L.l_q
  have l5 := L.l_n
  have l6 := L.l_w
  exact cmd_part H.d3 H.D _ _ (by simp only [ln_len, List.length_cons, List.length_nil]; omega) (by rw [e]; exact set_table H.D false)
theorem tcm4 (H : Bds bs rs ps ra q n w) : CallA Tryz.prog 34 [dvA (topS bs rs ps ra q 4), .str ([115, 99, 97, 108, 101])] [] (Ret (.tup [dvA (topS bs rs ps ra q 5), .str (scT bs rs)]) []) := by
  have e : cutA 32 [] ([115, 99, 97, 108, 101]) = [[115, 99, 97, 108, 101]] := w_cut (by decide)
  have L := H.len
  have l1 := L.l_sc
  have l2 := L.l_ps
  have l3 := L.l_ra
  have l4 := L.l_q
  have l5 := L.l_n
  have l6 := L.l_w
  exact cmd_part H.D H.D _ _ (by decide) (by rw [e]; exact show_scale H.D false)
theorem tcm5 (H : Bds bs rs ps ra q n w) : CallA Tryz.prog 34 [dvA (topS bs rs ps ra q 5), .str ([112, 97, 121, 115])] [] (Ret (.tup [dvA (topS bs rs ps ra q 6), .str (txt [44] ps)]) []) := by
  have e : cutA 32 [] ([112, 97, 121, 115]) = [[112, 97, 121, 115]] := w_cut (by decide)
  have L := H.len
  have l1 := L.l_sc
  have l2 := L.l_ps
  have l3 := L.l_ra
  have l4 := L.l_q
  have l5 := L.l_n
  have l6 := L.l_w
  exact cmd_part H.D H.D _ _ (by decide) (by rw [e]; exact show_pays H.D false)
theorem tcm6 (H : Bds bs rs ps ra q n w) : CallA Tryz.prog 34 [dvA (topS bs rs ps ra q 6), .str ([114, 97, 116, 101, 115])] [] (Ret (.tup [dvA (topS bs rs ps ra q 7), .str (txt [44] ra)]) []) := by
  have e : cutA 32 [] ([114, 97, 116, 101, 115]) = [[114, 97, 116, 101, 115]] := w_cut (by decide)
  have L := H.len
  have l1 := L.l_sc
  have l2 := L.l_ps
  have l3 := L.l_ra
  have l4 := L.l_q
  have l5 := L.l_n
  have l6 := L.l_w
  exact cmd_part H.D H.D _ _ (by decide) (by rw [e]; exact show_rates H.D false)
theorem tcm7 (H : Bds bs rs ps ra q n w) : CallA Tryz.prog 34 [dvA (topS bs rs ps ra q 7), .str ([116, 97, 98, 108, 101])] [] (Ret (.tup [dvA (topS bs rs ps ra q 8), .str (wdsT (hexW q))]) []) := by
  have e : cutA 32 [] ([116, 97, 98, 108, 101]) = [[116, 97, 98, 108, 101]] := w_cut (by decide)
  have L := H.len
  have l1 := L.l_sc
  have l2 := L.l_ps
  have l3 := L.l_ra
  have l4 := L.l_q
  have l5 := L.l_n
  have l6 := L.l_w
  exact cmd_part H.D H.D _ _ (by decide) (by rw [e]; exact show_table H.D false)
theorem tcm8 (H : Bds bs rs ps ra q n w) : CallA Tryz.prog 34 [dvA (topS bs rs ps ra q 8), .str (ln [100, 117, 101] (ln (Lib.itoa n) (Lib.itoa w)))] [] (Ret (.tup [dvA (topS bs rs ps ra q 9), .str (Lib.itoa (dueF bs rs n w))]) []) := by
  have e : cutA 32 [] (ln [100, 117, 101] (ln (Lib.itoa n) (Lib.itoa w))) = [[100, 117, 101], (Lib.itoa n), (Lib.itoa w)] := ln_cut3 (by decide) (itoa_no (by decide) (by decide) _) (itoa_no (by decide) (by decide) _)
  have L := H.len
  have l1 := L.l_sc
  have l2 := L.l_ps
  have l3 := L.l_ra
  have l4 := L.l_q
  have l5 := L.l_n
  have l6 := L.l_w
  exact cmd_double H.D _ _ (by simp only [ln_len, List.length_cons, List.length_nil]; omega) (by rw [e]; rfl) (by rw [e]; exact not_due _ _ false) (by rw [e]; exact do_due H.D n w H.n0 H.n1 H.w0 H.w3 false)
theorem tcm9 (H : Bds bs rs ps ra q n w) : CallA Tryz.prog 34 [dvA (topS bs rs ps ra q 9), .str (ln [110, 101, 116] (ln (Lib.itoa n) (Lib.itoa w)))] [] (Ret (.tup [dvA (topS bs rs ps ra q 10), .str (Lib.itoa (netF bs rs n w))]) []) := by
  have e : cutA 32 [] (ln [110, 101, 116] (ln (Lib.itoa n) (Lib.itoa w))) = [[110, 101, 116], (Lib.itoa n), (Lib.itoa w)] := ln_cut3 (by decide) (itoa_no (by decide) (by decide) _) (itoa_no (by decide) (by decide) _)
  have L := H.len
  have l1 := L.l_sc
  have l2 := L.l_ps
  have l3 := L.l_ra
  have l4 := L.l_q
  have l5 := L.l_n
  have l6 := L.l_w
  exact cmd_double H.D _ _ (by simp only [ln_len, List.length_cons, List.length_nil]; omega) (by rw [e]; rfl) (by rw [e]; exact not_net _ _ false) (by rw [e]; exact do_net H.D n w H.n0 H.n1 H.w0 H.w3 false)
theorem tcm10 (H : Bds bs rs ps ra q n w) : CallA Tryz.prog 34 [dvA (topS bs rs ps ra q 10), .str ([110, 101, 116, 115])] [] (Ret (.tup [dvA (topS bs rs ps ra q 11), .str ([119, 104, 97, 116])]) []) := by
  have e : cutA 32 [] ([110, 101, 116, 115]) = [[110, 101, 116, 115]] := w_cut (by decide)
  have L := H.len
  have l1 := L.l_sc
  have l2 := L.l_ps
  have l3 := L.l_ra
  have l4 := L.l_q
  have l5 := L.l_n
  have l6 := L.l_w
  exact cmd_what H.D _ (by decide) (by rw [e]; decide) (by rw [e]; exact not_nets false) (by rw [e]; exact no_nets false)
theorem tcm11 (H : Bds bs rs ps ra q n w) : CallA Tryz.prog 34 [dvA (topS bs rs ps ra q 11), .str (ln [114, 97, 116, 101] (Lib.itoa n))] [] (Ret (.tup [dvA (topS bs rs ps ra q 12), .str (Lib.itoa (rtG bs rs n))]) []) := by
  have e : cutA 32 [] (ln [114, 97, 116, 101] (Lib.itoa n)) = [[114, 97, 116, 101], (Lib.itoa n)] := ln_cut (by decide) (itoa_no (by decide) (by decide) _)
  have L := H.len
  have l1 := L.l_sc
  have l2 := L.l_ps
  have l3 := L.l_ra
  have l4 := L.l_q
  have l5 := L.l_n
  have l6 := L.l_w
  exact cmd_plain H.D H.D _ _ (by simp only [ln_len, List.length_cons, List.length_nil]; omega) (by rw [e]; exact (by decide : (2 : Nat) < 3)) (by rw [e]; exact not_rate _ false) (by rw [e]; exact do_rate H.D n H.n0 H.n1 false)
theorem tcm12 (H : Bds bs rs ps ra q n w) : CallA Tryz.prog 34 [dvA (topS bs rs ps ra q 12), .str (ln [104, 111, 108, 100] (Lib.itoa w))] [] (Ret (.tup [dvA (topS bs rs ps ra q 13), .str (txt [44] (whL bs rs ps w))]) []) := by
  have e : cutA 32 [] (ln [104, 111, 108, 100] (Lib.itoa w)) = [[104, 111, 108, 100], (Lib.itoa w)] := ln_cut (by decide) (itoa_no (by decide) (by decide) _)
  have L := H.len
  have l1 := L.l_sc
  have l2 := L.l_ps
  have l3 := L.l_ra
  have l4 := L.l_q
  have l5 := L.l_n
  have l6 := L.l_w
  exact cmd_plain H.D H.D _ _ (by simp only [ln_len, List.length_cons, List.length_nil]; omega) (by rw [e]; exact (by decide : (2 : Nat) < 3)) (by rw [e]; exact not_hold _ false) (by rw [e]; exact do_hold H.D w H.w0 H.w3 false)
theorem tcm13 (H : Bds bs rs ps ra q n w) : CallA Tryz.prog 34 [dvA (topS bs rs ps ra q 13), .str (ln [115, 104, 97, 114, 101] (Lib.itoa n))] [] (Ret (.tup [dvA (topS bs rs ps ra q 14), .str (txt [44] (larL ps n))]) []) := by
  have e : cutA 32 [] (ln [115, 104, 97, 114, 101] (Lib.itoa n)) = [[115, 104, 97, 114, 101], (Lib.itoa n)] := ln_cut (by decide) (itoa_no (by decide) (by decide) _)
  have L := H.len
  have l1 := L.l_sc
  have l2 := L.l_ps
  have l3 := L.l_ra
  have l4 := L.l_q
  have l5 := L.l_n
  have l6 := L.l_w
  exact cmd_plain H.D H.D _ _ (by simp only [ln_len, List.length_cons, List.length_nil]; omega) (by rw [e]; exact (by decide : (2 : Nat) < 3)) (by rw [e]; exact not_share _ false) (by rw [e]; exact do_share H.D n H.n0 H.n1 false)
theorem tcm14 (H : Bds bs rs ps ra q n w) : CallA Tryz.prog 34 [dvA (topS bs rs ps ra q 14), .str (ln [115, 97, 102, 101] (Lib.itoa n))] [] (Ret (.tup [dvA (topS bs rs ps ra q 15), .str (Lib.itoa (safV ra n))]) []) := by
  have e : cutA 32 [] (ln [115, 97, 102, 101] (Lib.itoa n)) = [[115, 97, 102, 101], (Lib.itoa n)] := ln_cut (by decide) (itoa_no (by decide) (by decide) _)
  have L := H.len
  have l1 := L.l_sc
  have l2 := L.l_ps
  have l3 := L.l_ra
  have l4 := L.l_q
  have l5 := L.l_n
  have l6 := L.l_w
  exact cmd_plain H.D H.D _ _ (by simp only [ln_len, List.length_cons, List.length_nil]; omega) (by rw [e]; exact (by decide : (2 : Nat) < 3)) (by rw [e]; exact not_safe _ false) (by rw [e]; exact do_safe H.D n H.n0 H.n1 false)
theorem tcm15 (H : Bds bs rs ps ra q n w) : CallA Tryz.prog 34 [dvA (topS bs rs ps ra q 15), .str ([97, 108, 105, 118, 101])] [] (Ret (.tup [dvA (topS bs rs ps ra q 16), .str (wdsT (hexW (alvL q)))]) []) := by
  have e : cutA 32 [] ([97, 108, 105, 118, 101]) = [[97, 108, 105, 118, 101]] := w_cut (by decide)
  have L := H.len
  have l1 := L.l_sc
  have l2 := L.l_ps
  have l3 := L.l_ra
  have l4 := L.l_q
  have l5 := L.l_n
  have l6 := L.l_w
  exact cmd_plain H.D H.D _ _ (by decide) (by rw [e]; exact (by decide : (1 : Nat) < 3)) (by rw [e]; exact not_alive false) (by rw [e]; exact do_alive H.D false)
theorem tcm16 (H : Bds bs rs ps ra q n w) : CallA Tryz.prog 34 [dvA (topS bs rs ps ra q 16), .str ([116, 114, 105, 109])] [] (Ret (.tup [dvA (topS bs rs ps ra q 17), .str ([111, 107])]) []) := by
  have e : cutA 32 [] ([116, 114, 105, 109]) = [[116, 114, 105, 109]] := w_cut (by decide)
  have L := H.len
  have l1 := L.l_sc
  have l2 := L.l_ps
  have l3 := L.l_ra
  have l4 := L.l_q
  have l5 := L.l_n
  have l6 := L.l_w
  exact cmd_plain H.D H.dt _ _ (by decide) (by rw [e]; exact (by decide : (1 : Nat) < 3)) (by rw [e]; exact not_trim false) (by rw [e]; exact do_trim H.D false)
theorem topL_no (H : Bds bs rs ps ra q n w) : ∀ x ∈ topL bs rs ps ra q n w, (10 : UInt8) ∉ x := by
  intro x hx
  have s1 := scT_no (c := 10) (by decide) (by decide) (by decide) (by decide) bs rs
  have s2 := txt_no (c := 10) (by decide) (by decide) (by decide) ps
  have s3 := txt_no (c := 10) (by decide) (by decide) (by decide) ra
  have s4 := (wds_no q H.D.tab.one).2
  have s5 := itoa_no (c := 10) (by decide) (by decide) n
  have s6 := itoa_no (c := 10) (by decide) (by decide) w
  simp only [topL, List.mem_cons, List.not_mem_nil, or_false] at hx
  rcases hx with rfl | rfl | rfl | rfl | rfl | rfl | rfl | rfl | rfl | rfl | rfl | rfl | rfl | rfl | rfl | rfl | rfl
  · exact ln_10 (by decide) s1
  · exact ln_10 (by decide) s2
  · exact ln_10 (by decide) s3
  · exact ln_10 (by decide) s4
  · decide
  · decide
  · decide
  · decide
  · exact ln_10 (by decide) (ln_10 s5 s6)
  · exact ln_10 (by decide) (ln_10 s5 s6)
  · decide
  · exact ln_10 (by decide) s5
  · exact ln_10 (by decide) s6
  · exact ln_10 (by decide) s5
  · exact ln_10 (by decide) s5
  · decide
  · decide
theorem topL_len (H : Bds bs rs ps ra q n w) : (linT 10 (topL bs rs ps ra q n w)).length ≤ 16000 := by
  have L := H.len
  have l1 := L.l_sc
  have l2 := L.l_ps
  have l3 := L.l_ra
  have l4 := L.l_q
  have l5 := L.l_n
  have l6 := L.l_w
  simp only [linT, topL, List.flatMap_cons, List.flatMap_nil, List.length_append, ln_len, List.length_cons, List.length_nil]
  omega
theorem topO_len (H : Bds bs rs ps ra q n w) : (linT 10 (topO bs rs ps ra q n w)).length ≤ 16000 := by
  have L := H.len
  have l1 := L.l_sc
  have l2 := L.l_ps
  have l3 := L.l_ra
  have l4 := L.l_q
  have l5 := L.l_due
  have l6 := L.l_net
  have l7 := L.l_rt
  have l8 := L.l_wh
  have l9 := L.l_lar
  have l10 := L.l_saf
  have l11 := L.l_alv
  simp only [linT, topO, List.flatMap_cons, List.flatMap_nil, List.length_append, List.length_cons, List.length_nil]
  omega
theorem top_run (H : Bds bs rs ps ra q n w) : Run (topL bs rs ps ra q n w) (topO bs rs ps ra q n w) (topS bs rs ps ra q) := by
  refine ⟨topL_no H, rfl, topL_len H, by have := topO_len H; omega, new_ok.vd, new_ok.clone, ?_⟩
  intro i h
  have h : i < 17 := h
  match i, h with
  | 0, _ => exact tcm0 H
  | 1, _ => exact tcm1 H
  | 2, _ => exact tcm2 H
  | 3, _ => exact tcm3 H
  | 4, _ => exact tcm4 H
  | 5, _ => exact tcm5 H
  | 6, _ => exact tcm6 H
  | 7, _ => exact tcm7 H
  | 8, _ => exact tcm8 H
  | 9, _ => exact tcm9 H
  | 10, _ => exact tcm10 H
  | 11, _ => exact tcm11 H
  | 12, _ => exact tcm12 H
  | 13, _ => exact tcm13 H
  | 14, _ => exact tcm14 H
  | 15, _ => exact tcm15 H
  | 16, _ => exact tcm16 H
  | i + 17, h => omega
theorem topRun_call (H : Bds bs rs ps ra q n w) : CallA Tryz.prog 11 [deskV nb0 nr0 np0 na0 nq0, .str (linT 10 (topL bs rs ps ra q n w))] [] (Ret (.tup [deskV (trB bs rs) (trR bs rs) ps ra q, .str (linT 10 (topO bs rs ps ra q n w)), .bool true]) []) :=
  run_call (top_run H) (by show 1 ≤ 17; decide)
end
end Go.Proofs.YteenpfegadlkfaaGreatDoor
