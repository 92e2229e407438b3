/- Numerals that are read: the program, by the kit's contracts. -/
import Derived.Test.YtigipcckflcilaaGreatDoorRdV
import Derived.Handy
import Derived.Below
import Derived.Lib.ParseIntBTie
set_option linter.unusedVariables false
set_option maxHeartbeats 4000000
set_option maxRecDepth 100000
namespace Go.Proofs.YtigipcckflcilaaGreatDoor
open Go Go.RowKit

theorem within_C (a b c : Int) (w : World) : Calls Tryz.prog 59 #[.int .i64 a, .int .i64 b, .int .i64 c] w fun e w' => e = .returned (.bool (inR b c a)) ∧ w' = w := by
  have mixed : Tryz.prog.follows .mixedOrders = true := by kernel_rfl
  have u2 := run_underlying Tryz.underlying2
  have u4 := run_underlying Tryz.underlying4
  go_enter Tryz.func59, Tryz.ntmps59
  go_wp2
  all_goals go_ret
  · rename_i h
    refine ⟨?_, rfl⟩
    show Ending.returned (.bool (decide (a ≤ c))) = _
    unfold inR
    rw [decide_eq_true h, Bool.true_and]
  · rename_i h
    refine ⟨?_, rfl⟩
    show Ending.returned (.bool false) = _
    unfold inR
    rw [decide_eq_false (by omega), Bool.false_and]
theorem below_grow (w : World) (k : Nat) (os : Array Obj) : Below w.heap.size w (Sort.grow (w.drewN k) os) := by
  refine ⟨rfl, rfl, rfl, ?_, fun c hc => ?_⟩
  · simp [Sort.grow, World.drewN]
  · have hh : (w.drewN k).heap = w.heap := rfl
    rw [Sort.heap_grow_old _ _ (by rw [hh]; exact hc), hh]
theorem decimal_C (n : Int) (h0 : -9223372036854775808 ≤ n) (h1 : n ≤ 9223372036854775807) (w : World) (htab : Lib.TabIs Tryz.prog w "internal/strconv.uint64pow10" .u64 Lib.pow10Tab) :
    Calls Tryz.prog 85 #[.int .i64 n] w fun e w' => e = .returned (.string ⟨(Lib.itoa n).toArray⟩) ∧ Below w.heap.size w w' := by
  have mixed : Tryz.prog.follows .mixedOrders = true := by kernel_rfl
  have u2 := run_underlying Tryz.underlying2
  have u9 := run_underlying Tryz.underlying9
  go_enter Tryz.func85, Tryz.ntmps85
  go_wp2_with fail
  refine (strconv_FormatInt_10 n h0 h1 w htab).mono ?_
  rintro e W1 ⟨rfl, k, os, rfl⟩
  go_wp2
  go_ret
  exact ⟨rfl, below_grow w k os⟩
theorem readDecimal_gen (s : List UInt8) (v : Int) (good ok : Bool) (hok : ok = (good && (inR (-1000000000000000) 1000000000000000 v && decide (Lib.itoa v = s)))) (h0 : -9223372036854775808 ≤ v) (h1 : v ≤ 9223372036854775807) (w : World)
    (htab2 : ∀ w', Below w.heap.size w w' → Lib.TabIs Tryz.prog w' "internal/strconv.uint64pow10" .u64 Lib.pow10Tab)
    (hp : Calls Tryz.prog 87 #[.string ⟨s.toArray⟩, .int .i64 10, .int .i64 64] w fun e w' => ∃ err, e = .returned (.tuple #[.int .i64 v, err]) ∧ (if good then err = .nilIface else ∃ te pe, err = .iface te pe) ∧ Below w.heap.size w w') :
    Calls Tryz.prog 54 #[.string ⟨s.toArray⟩] w fun e w' => e = .returned (.tuple #[.int .i64 (cond ok v 0), .bool ok]) ∧ Below w.heap.size w w' := by
  have mixed : Tryz.prog.follows .mixedOrders = true := by kernel_rfl
  have u2 := run_underlying Tryz.underlying2
  have u4 := run_underlying Tryz.underlying4
  have u9 := run_underlying Tryz.underlying9
  have u52 := run_underlying Tryz.underlying52
  go_enter Tryz.func54, Tryz.ntmps54
  go_wp2_with fail
  refine hp.mono ?_
  clear hp
  rintro e W1 ⟨err, rfl, herr, hb⟩
  cases good with
  | false =>
    rw [if_neg (by decide)] at herr
    obtain ⟨te, pe, rfl⟩ := herr
    obtain rfl : ok = false := hok
    go_wp2
    go_ret2
    exact ⟨rfl, hb⟩
  | true =>
    rw [if_pos rfl] at herr
    subst herr
    rw [Bool.true_and] at hok
    go_wp2_with fail
    refine (within_C v _ _ W1).mono ?_
    rintro e W2 ⟨rfl, rfl⟩
    generalize inR (-1000000000000000) 1000000000000000 v = b at hok
    cases b with
    | false =>
      obtain rfl : ok = false := hok
      go_wp2
      go_ret2
      exact ⟨rfl, hb⟩
    | true =>
      rw [Bool.true_and] at hok
      go_wp2_with fail
      refine (decimal_C v h0 h1 _ (htab2 _ hb)).mono ?_
      rintro e W3 ⟨rfl, hb2⟩
      have hb3 := hb.trans (hb2.mono hb.size)
      by_cases q : Lib.itoa v = s
      · rw [decide_eq_true q] at hok
        subst hok
        subst q
        go_wp2
        go_ret2
        exact ⟨rfl, hb3⟩
      · rw [decide_eq_false q] at hok
        subst hok
        have hne : (⟨(Lib.itoa v).toArray⟩ : ByteArray) ≠ ⟨s.toArray⟩ := fun e => q (by simpa using congrArg (fun b : ByteArray => b.data.toList) e)
        go_wp2
        all_goals first | (go_ret2; exact ⟨rfl, hb3⟩) | (exfalso; rename_i h; revert h; simp [q])
open Go.Abs
theorem gSyn : Tryz.prog.globalNamed "strconv.ErrSyntax" = some 1 := by kernel_rfl
theorem gRan : Tryz.prog.globalNamed "strconv.ErrRange" = some 2 := by kernel_rfl
theorem readDecimal_call (s : List UInt8) (hs : s.length ≤ 1048576) : CallA Tryz.prog 54 [.str s] [] (Ret (decA (decOf s)) []) := by
  intro E vs H hl hrv
  obtain ⟨u, rfl, hu⟩ := RV.one hl hrv
  cases hu
  obtain ⟨g, hg⟩ := Option.isSome_iff_exists.1 tabG
  obtain ⟨hF, ty, fr, hheap⟩ := H.laid.1 _ (show ("internal/strconv.uint64pow10", IntKind.u64, Lib.pow10Tab) ∈ tables by simp [tables]) g hg
  have htab2 : ∀ w', Below E.w.heap.size E.w w' → Lib.TabIs Tryz.prog w' "internal/strconv.uint64pow10" .u64 Lib.pow10Tab := fun w' hb => by
    have h1 : w'.heap[g]? = _ := (hb.block g (H.old g hF)).trans hheap
    simp only [Lib.TabIs, World.var?, hg, Option.bind_some, h1]
  have hsz : (⟨s.toArray⟩ : ByteArray).size = s.length := by simp [ByteArray.size]
  have key : ∀ (v : Int) (ok : Bool), decOf s = (cond ok (some v) none) → Calls Tryz.prog 54 #[.string ⟨s.toArray⟩] E.w (fun e w' => e = .returned (.tuple #[.int .i64 (cond ok v 0), .bool ok]) ∧ Below E.w.heap.size E.w w') →
      Gets Tryz.prog 54 [Value.string ⟨s.toArray⟩].toArray E.w fun v w' => ∃ r hp' E', E'.w = w' ∧ Ret (decA (decOf s)) [] r hp' ∧ RV E' r v ∧ HRel E' hp' ∧ Fr E [] E' hp' := by
    intro v ok hd hc
    refine .inl ⟨go54, hc.mono ?_⟩
    rintro ex w' ⟨rfl, bel⟩
    obtain ⟨H2, F2, _⟩ := H.extend (w' := w') bel.size bel.block bel.os bel.tape bel.output
    refine ⟨_, rfl, _, [], E.with _, rfl, ⟨rfl, rfl⟩, ?_, H2, F2 (Fr.refl E _)⟩
    rw [hd]
    cases ok with
    | true =>
      refine .tup _ _ rfl fun i a v h1 h2 => ?_
      match i with
      | 0 => cases h1; cases h2; exact .int .i64 _
      | 1 => cases h1; cases h2; exact .bool true
      | i + 2 => simp at h1
    | false =>
      refine .tup _ _ rfl fun i a v h1 h2 => ?_
      match i with
      | 0 => cases h1; cases h2; exact .int .i64 _
      | 1 => cases h1; cases h2; exact .bool false
      | i + 2 => simp at h1
  cases hp : Lib.parseIntB 64 s with
  | ok v =>
    have bd := Lib.parseIntB_bounds hp
    have e63 : ((2 ^ (64 - 1) : Nat) : Int) = 9223372036854775808 := by decide
    rw [e63] at bd
    refine key v (inR (-1000000000000000) 1000000000000000 v && decide (Lib.itoa v = s)) ?_ (readDecimal_gen s v true _ (by rw [Bool.true_and]) (by omega) (by omega) E.w htab2 ((strconv_ParseInt_10_at64_ok ⟨s.toArray⟩ (by omega) v hp E.w).mono ?_))
    · rw [decOf_parse hp]
      by_cases h1 : inR (-1000000000000000) 1000000000000000 v = true
      · by_cases h2 : Lib.itoa v = s
        · rw [if_pos ⟨h1, h2⟩, h1, decide_eq_true h2]; rfl
        · rw [if_neg (fun h => h2 h.2), h1, decide_eq_false h2]; rfl
      · rw [if_neg (fun h => h1 h.1), show inR (-1000000000000000) 1000000000000000 v = false by simpa using h1]; rfl
    · rintro e w' ⟨rfl, hw⟩
      refine ⟨_, rfl, rfl, ?_⟩
      rcases hw with rfl | ⟨t, rfl⟩
      · exact Below.refl _ _
      · exact Lib.bytesWorld_below _ _ _
  | range =>
    obtain ⟨ev, h1, h2⟩ := H.err (show "strconv.ErrRange" ∈ errs by simp [errs]) gRan
    have bd : -9223372036854775808 ≤ Lib.intSat 64 s ∧ Lib.intSat 64 s ≤ 9223372036854775807 := by
      unfold Lib.intSat
      split <;> decide
    refine key (Lib.intSat 64 s) false (decOf_bad (fun v h => by rw [hp] at h; cases h)) (readDecimal_gen s (Lib.intSat 64 s) false false rfl bd.1 bd.2 E.w htab2 ((strconv_ParseInt_10_at64_range ⟨s.toArray⟩ (by omega) hp ev E.w h1 h2).mono ?_))
    rintro e w' ⟨N, rfl, _, _, hb⟩
    exact ⟨_, rfl, ⟨_, _, rfl⟩, hb⟩
  | _ =>
    obtain ⟨ev, h1, h2⟩ := H.err (show "strconv.ErrSyntax" ∈ errs by simp [errs]) gSyn
    refine key 0 false (decOf_bad (fun v h => by rw [hp] at h; cases h)) (readDecimal_gen s 0 false false rfl (by decide) (by decide) E.w htab2 ((strconv_ParseInt_10_at64_syntax ⟨s.toArray⟩ (by omega) hp ev E.w h1 h2).mono ?_))
    rintro e w' ⟨N, rfl, _, _, hb⟩
    exact ⟨_, rfl, ⟨_, _, rfl⟩, hb⟩
end Go.Proofs.YtigipcckflcilaaGreatDoor
