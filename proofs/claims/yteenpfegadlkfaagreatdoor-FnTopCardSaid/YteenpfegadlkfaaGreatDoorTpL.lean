/- The law of FnTop. -/
import Derived.Test.YteenpfegadlkfaaGreatDoorTpX
set_option maxRecDepth 10000
set_option maxHeartbeats 16000000
set_option linter.unusedSimpArgs false
set_option linter.unusedVariables false
namespace Go.Proofs.YteenpfegadlkfaaGreatDoor
open Go Go.Abs
theorem topO_no {bs rs ps ra : List Int} {q : List Nat} {n w : Int} (H : Bds bs rs ps ra q n w) : ∀ x ∈ topO bs rs ps ra q n w, (10 : UInt8) ∉ x := by
  intro x hx
  have e1 : 1 ≤ (alvL q).length := by rw [alvL_len]; exact H.D.tab.one
  simp only [topO, List.mem_cons, List.not_mem_nil, or_false] at hx
  have s2 : ∀ xs, (10 : UInt8) ∉ txt [44] xs := fun xs => txt_no (by decide) (by decide) (by decide) xs
  have s5 : ∀ m, (10 : UInt8) ∉ Lib.itoa m := fun m => itoa_no (by decide) (by decide) m
  rcases hx with rfl | rfl | rfl | rfl | rfl | rfl | rfl | rfl | rfl | rfl | rfl | rfl | rfl | rfl | rfl | rfl | rfl
  · decide
  · decide
  · decide
  · decide
  · exact scT_no (by decide) (by decide) (by decide) (by decide) bs rs
  · exact s2 _
  · exact s2 _
  · exact (wds_no q H.D.tab.one).2
  · exact s5 _
  · exact s5 _
  · decide
  · exact s5 _
  · exact s2 _
  · exact s2 _
  · exact s5 _
  · exact (wds_no _ e1).2
  · decide
theorem bad_no {x : List UInt8} (h1 : (110 : UInt8) ∉ x) (h2 : (119 : UInt8) ∉ x) : badB x = false := by
  unfold badB
  rw [Bool.or_eq_false_iff]
  constructor
  · refine beq_eq_false_iff_ne.2 fun e => ?_
    rw [e] at h1; exact h1 (by decide)
  · refine beq_eq_false_iff_ne.2 fun e => ?_
    rw [e] at h2; exact h2 (by decide)
theorem hexC_nw : ∀ d, d < 16 → hexC d ≠ 110 ∧ hexC d ≠ 119 := by decide
theorem hexT_nw (n : Nat) : ∀ k, (110 : UInt8) ∉ hexT n k ∧ (119 : UInt8) ∉ hexT n k
  | 0 => by simp [hexT]
  | k + 1 => by
    obtain ⟨h1, h2⟩ := hexT_nw n k
    obtain ⟨c1, c2⟩ := hexC_nw _ (Nat.mod_lt (n / 16 ^ k) (show 0 < 16 by decide))
    constructor <;> intro h <;> rcases List.mem_cons.1 h with e | e
    · exact c1 e.symm
    · exact h1 e
    · exact c2 e.symm
    · exact h2 e
theorem wds_nw (xs : List Nat) (h : 1 ≤ xs.length) : (110 : UInt8) ∉ wdsT (hexW xs) ∧ (119 : UInt8) ∉ wdsT (hexW xs) := by
  have e : hexW xs ≠ [] := by intro e; have := congrArg List.length e; rw [hexW_len] at this; simp at this; rw [this] at h; simp at h
  unfold wdsT
  rw [if_neg e]
  constructor <;> intro h <;> rcases join_mem h with h | ⟨z, h1, h2⟩
  · revert h; decide
  · obtain ⟨y, _, rfl⟩ := List.mem_map.1 h1; exact (hexT_nw y 8).1 h2
  · revert h; decide
  · obtain ⟨y, _, rfl⟩ := List.mem_map.1 h1; exact (hexT_nw y 8).2 h2
theorem badN_step {L : List (List UInt8)} {i c : Nat} {x : List UInt8} (h : badN L i = c) (g : L.getD i [] = x) (b : badB x = false) : badN L (i + 1) = c := by
  rw [badN, g, b]; exact h
theorem badN_more {L : List (List UInt8)} {i c : Nat} {x : List UInt8} (h : badN L i = c) (g : L.getD i [] = x) (b : badB x = true) : badN L (i + 1) = c + 1 := by
  rw [badN, g, b, if_pos rfl, h]
theorem top_bad {bs rs ps ra : List Int} {q : List Nat} {n w : Int} (H : Bds bs rs ps ra q n w) : badN (topO bs rs ps ra q n w ++ [[]]) 17 = 1 := by
  have e1 : 1 ≤ (alvL q).length := by rw [alvL_len]; exact H.D.tab.one
  have bt : ∀ xs, badB (txt [44] xs) = false := fun xs => bad_no (txt_no (by decide) (by decide) (by decide) xs) (txt_no (by decide) (by decide) (by decide) xs)
  have bi : ∀ m, badB (Lib.itoa m) = false := fun m => bad_no (itoa_no (by decide) (by decide) m) (itoa_no (by decide) (by decide) m)
  have bw : ∀ xs, 1 ≤ xs.length → badB (wdsT (hexW xs)) = false := fun xs h => bad_no (wds_nw xs h).1 (wds_nw xs h).2
  have b0 : badN (topO bs rs ps ra q n w ++ [[]]) 0 = 0 := rfl
  have b1 := badN_step b0 (x := [111, 107]) rfl (by decide)
  have b2 := badN_step b1 (x := [111, 107]) rfl (by decide)
  have b3 := badN_step b2 (x := [111, 107]) rfl (by decide)
  have b4 := badN_step b3 (x := [111, 107]) rfl (by decide)
  have b5 := badN_step b4 (x := scT bs rs) rfl (bad_no (scT_no (by decide) (by decide) (by decide) (by decide) bs rs) (scT_no (by decide) (by decide) (by decide) (by decide) bs rs))
  have b6 := badN_step b5 (x := txt [44] ps) rfl (bt _)
  have b7 := badN_step b6 (x := txt [44] ra) rfl (bt _)
  have b8 := badN_step b7 (x := wdsT (hexW q)) rfl (bw q H.D.tab.one)
  have b9 := badN_step b8 (x := Lib.itoa (dueF bs rs n w)) rfl (bi _)
  have b10 := badN_step b9 (x := Lib.itoa (netF bs rs n w)) rfl (bi _)
  have b11 := badN_more b10 (x := [119, 104, 97, 116]) rfl (by decide)
  have b12 := badN_step b11 (x := Lib.itoa (rtG bs rs n)) rfl (bi _)
  have b13 := badN_step b12 (x := txt [44] (whL bs rs ps w)) rfl (bt _)
  have b14 := badN_step b13 (x := txt [44] (larL ps n)) rfl (bt _)
  have b15 := badN_step b14 (x := Lib.itoa (safV ra n)) rfl (bi _)
  have b16 := badN_step b15 (x := wdsT (hexW (alvL q))) rfl (bw _ e1)
  have b17 := badN_step b16 (x := [111, 107]) rfl (by decide)
  exact b17
theorem top_out {bs rs ps ra : List Int} {q : List Nat} {n w : Int} (H : Bds bs rs ps ra q n w) : outA (linT 10 (topO bs rs ps ra q n w)) = .tup [.int .i64 1, .int .i64 16, .bool true] := by
  have e := cutA_lines 10 _ (topO_no H)
  have c : Lib.countByte (linT 10 (topO bs rs ps ra q n w)) 10 = 17 := by
    have := cutA_len 10 (linT 10 (topO bs rs ps ra q n w)) []
    rw [e] at this
    have l : (topO bs rs ps ra q n w ++ [[]]).length = 18 := rfl
    omega
  unfold outA okT
  rw [c, e, top_bad H, decide_eq_true (topO_len H)]
  rfl
end Go.Proofs.YteenpfegadlkfaaGreatDoor
