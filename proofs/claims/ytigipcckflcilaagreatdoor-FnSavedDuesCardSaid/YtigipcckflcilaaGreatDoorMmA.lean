/- Rules in memory: a block of rules, and a block for the list of each. -/
import Derived.Test.YtigipcckflcilaaGreatDoorPrA
import Derived.Test.YtigipcckflcilaaGreatDoorSavB
import Derived.Test.YtigipcckflcilaaGreatDoorAbsM3
set_option maxRecDepth 10000
set_option maxHeartbeats 2000000
set_option linter.unusedSimpArgs false
set_option linter.unusedVariables false
namespace Go.Proofs.YtigipcckflcilaaGreatDoor
open Go Go.Abs

def slV (b n : Nat) : AV := if n = 0 then .nils else .sl b 0 n
def rulV (b : Nat) (r : Rul) : AV := .agg [.int .i64 r.1, slV b r.2.1.length, .int .i64 r.2.2.1, .int .i64 r.2.2.2.1, .int .i64 r.2.2.2.2]
def elsR (b : Nat) : List Rul → List AV
  | [] => []
  | r :: R => rulV b r :: elsR (b + 1) R
def intB (xs : List Int) : Blk := { ty := 2, w := 1, els := ints xs }
def ifsB (r : Rul) : Blk := if r.2.1.length = 0 then deadB else intB r.2.1
def encR (b : Nat) (R : List Rul) : List Blk := rulB (elsR (b + 1) R) :: R.map ifsB
theorem slV_pos {b n : Nat} (h : n ≠ 0) : slV b n = .sl b 0 n := if_neg h
theorem slV_below {N b n : Nat} (h : b < N) : below N (slV b n) = true ∧ belowM N (slV b n) = true ∧ belowL N (slV b n) = true := by
  unfold slV
  split
  · exact ⟨rfl, rfl, rfl⟩
  · simp [below, belowM, belowL, h]
theorem rulV_below {N b : Nat} (h : b < N) (r : Rul) : below N (rulV b r) = true ∧ belowM N (rulV b r) = true := by
  have := (slV_below (n := r.2.1.length) h).2.2
  constructor
  · show (List.all _ (belowL N)) = true
    simp only [List.all_cons, List.all_nil, this]; rfl
  · show (List.all _ (belowL N)) = true
    simp only [List.all_cons, List.all_nil, this]; rfl
theorem slV_kill {c b n : Nat} (h : b ≠ c) : killL c (slV b n) = slV b n := by
  unfold slV
  split
  · rfl
  · simp [killL, h]
theorem rulV_kill {c b : Nat} (h : b ≠ c) (r : Rul) : kill c (rulV b r) = rulV b r := by
  show AV.agg (List.map (killL c) _) = _
  simp only [List.map_cons, List.map_nil, slV_kill h]; rfl
theorem slV_ren (k b n : Nat) : renL (fun x => x + k) (slV b n) = slV (b + k) n := by
  unfold slV
  split
  · rfl
  · rfl
theorem rulV_ren (k b : Nat) (r : Rul) : ren (fun x => x + k) (rulV b r) = rulV (b + k) r := by
  show AV.agg (List.map (renL fun x => x + k) _) = _
  simp only [List.map_cons, List.map_nil, slV_ren]; rfl
theorem rulV_renM (k b : Nat) (r : Rul) : renM (fun x => x + k) (rulV b r) = rulV (b + k) r := by
  show AV.agg (List.map (renL fun x => x + k) _) = _
  simp only [List.map_cons, List.map_nil, slV_ren]; rfl
theorem elsR_len (b : Nat) (R : List Rul) : (elsR b R).length = R.length := by
  induction R generalizing b with
  | nil => rfl
  | cons r R ih => simp [elsR, ih]
theorem elsR_snoc (b : Nat) (R : List Rul) (r : Rul) : elsR b (R ++ [r]) = elsR b R ++ [rulV (b + R.length) r] := by
  induction R generalizing b with
  | nil => rfl
  | cons q R ih =>
    show rulV b q :: elsR (b + 1) (R ++ [r]) = _
    rw [ih]
    simp [elsR]
    congr 1
    omega
theorem elsR_kill (c b : Nat) (R : List Rul) (h : c < b) : (elsR b R).map (kill c) = elsR b R := by
  induction R generalizing b with
  | nil => rfl
  | cons q R ih => simp only [elsR, List.map_cons]; rw [rulV_kill (by omega), ih (b + 1) (by omega)]
theorem elsR_ren (k b : Nat) (R : List Rul) : (elsR b R).map (ren fun x => x + k) = elsR (b + k) R := by
  induction R generalizing b with
  | nil => rfl
  | cons q R ih =>
    simp only [elsR, List.map_cons]
    rw [rulV_ren, ih (b + 1)]
    congr 2
    omega
theorem elsR_below (N b : Nat) (R : List Rul) (h : b + R.length ≤ N) : allBelow N (elsR b R) = true := by
  induction R generalizing b with
  | nil => rfl
  | cons q R ih =>
    simp only [List.length_cons] at h
    show (below N (rulV b q) && allBelow N (elsR (b + 1) R)) = true
    rw [(rulV_below (by omega) q).1, ih (b + 1) (by omega)]
    rfl
theorem intB_more (b : Nat) (ys : List Int) (x : Int) : ((intB ys).els ++ [AV.int .i64 x]).map (kill b) = ints (ys ++ [x]) := by
  show (ints ys ++ [AV.int .i64 x]).map (kill b) = _
  rw [show ints ys ++ [AV.int .i64 x] = ints (ys ++ [x]) by simp [ints], ints_kill]
theorem ifsB_below (N : Nat) (r : Rul) : allBelow N (ifsB r).els = true := by
  unfold ifsB
  split
  · rfl
  · exact ints_below _ _
theorem ifsB_kill (c : Nat) (r : Rul) : { ifsB r with els := (ifsB r).els.map (kill c) } = ifsB r := by
  unfold ifsB
  split
  · rfl
  · have e : (ints r.2.1).map (kill c) = ints r.2.1 := by
      unfold ints
      rw [List.map_map]
      exact List.map_congr_left fun _ _ => rfl
    show Blk.mk _ _ ((ints r.2.1).map (kill c)) _ = _
    rw [e]; rfl
theorem ifsB_ren (π : Nat → Nat) (r : Rul) : renB π (ifsB r) = ifsB r := renB_flat (ifsB_below 0 r)
theorem ifsBs_kill (c : Nat) (R : List Rul) : (R.map ifsB).map (fun q => { q with els := q.els.map (kill c) }) = R.map ifsB := by
  rw [List.map_map]
  exact List.map_congr_left fun r _ => ifsB_kill c r
theorem ifsBs_ren (π : Nat → Nat) (R : List Rul) : (R.map ifsB).map (renB π) = R.map ifsB := by
  rw [List.map_map]
  exact List.map_congr_left fun r _ => ifsB_ren π r
theorem encR_len (b : Nat) (R : List Rul) : (encR b R).length = R.length + 1 := by simp [encR]
theorem encR_ren (k b : Nat) (R : List Rul) : (encR b R).map (renB fun x => x + k) = encR (b + k) R := by
  unfold encR
  rw [List.map_cons, ifsBs_ren]
  congr 1
  unfold rulB renB
  simp only
  rw [elsR_ren]
  congr 2
  omega
def rulN (r : Rul) : AV := .agg [.int .i64 r.1, if r.2.1.length = 0 then .nils else .ro (ints r.2.1), .int .i64 r.2.2.1, .int .i64 r.2.2.2.1, .int .i64 r.2.2.2.2]
theorem nilD_ints (d : Nat) (xs : List Int) : (ints xs).map (nilD d) = ints xs := by
  unfold ints
  rw [List.map_map]
  exact List.map_congr_left fun _ _ => by cases d <;> rfl
theorem rulN_nil (d : Nat) (r : Rul) : nilD (d + 2) (rulN r) = rulA r := by
  unfold rulN rulA
  simp only [nilD, List.map_cons, List.map_nil]
  congr 3
  by_cases h : r.2.1.length = 0
  · rw [if_pos h, List.length_eq_zero_iff.1 h]; rfl
  · rw [if_neg h]
    simp only [nilD, nilD_ints]
theorem rulV_view (d : Nat) {hp : List Blk} {b : Nat} {r : Rul} (h : hp[b]? = some (ifsB r)) : view (d + 2) hp (rulV b r) = rulN r := by
  unfold rulV rulN
  rw [view_agg]
  simp only [List.map_cons, List.map_nil, view_int]
  congr 3
  unfold slV ifsB at *
  by_cases hz : r.2.1.length = 0
  · rw [if_pos hz, if_pos hz, view_nils]
  · rw [if_neg hz] at h ⊢
    rw [if_neg hz, view_sl, h]
    simp [intB, ints_len, map_view_ints, take_ints]
theorem elsR_view (d : Nat) {hp : List Blk} : ∀ (b : Nat) (R : List Rul), (∀ (i : Nat) r, R[i]? = some r → hp[b + i]? = some (ifsB r)) → (elsR b R).map (view (d + 2) hp) = R.map rulN
  | b, [], _ => rfl
  | b, r :: R, h => by
    simp only [elsR, List.map_cons]
    rw [rulV_view d (show hp[b]? = some (ifsB r) from h 0 r rfl), elsR_view d (b + 1) R (fun i q hq => by have := h (i + 1) q (by simpa using hq); rw [show b + 1 + i = b + (i + 1) by omega]; exact this)]
theorem rulNs_nil (d : Nat) (R : List Rul) : (R.map rulN).map (nilD (d + 2)) = R.map rulA := by
  rw [List.map_map]
  exact List.map_congr_left fun r _ => rulN_nil d r
structure HasR (hp : List Blk) (b : Nat) (R : List Rul) : Prop where
  blk : hp[b]? = some (rulB (elsR (b + 1) R))
  ifs : ∀ (i : Nat) r, R[i]? = some r → hp[b + 1 + i]? = some (ifsB r)
theorem hasR_at (A T : List Blk) (R : List Rul) : HasR (A ++ encR A.length R ++ T) A.length R := by
  refine ⟨by simp [encR], fun i r hr => ?_⟩
  have hi := (List.getElem?_eq_some_iff.1 hr).1
  rw [List.append_assoc, List.getElem?_append_right (by omega), List.getElem?_append_left (by rw [encR_len]; omega)]
  unfold encR
  rw [show A.length + 1 + i - A.length = i + 1 by omega, List.getElem?_cons_succ, List.getElem?_map, hr]
  rfl
theorem HasR.view {hp : List Blk} {b : Nat} {R : List Rul} (h : HasR hp b R) (d : Nat) : view (d + 3) hp (.sl b 0 R.length) = .ro (R.map rulN) := by
  rw [view_sl, h.blk]
  have e : (elsR (b + 1) R).take R.length = elsR (b + 1) R := List.take_of_length_le (by rw [elsR_len]; exact Nat.le_refl _)
  simp [rulB, elsR_len, e, elsR_view d (b + 1) R h.ifs]
theorem elsR_kill2 (c b : Nat) (R : List Rul) (h : b + R.length ≤ c) : (elsR b R).map (kill c) = elsR b R := by
  induction R generalizing b with
  | nil => rfl
  | cons q R ih =>
    simp only [List.length_cons] at h
    simp only [elsR, List.map_cons]
    rw [rulV_kill (by omega), ih (b + 1) (by omega)]
theorem encR_kill (c b : Nat) (R : List Rul) (h : b + 1 + R.length ≤ c) : (encR b R).map (fun q => { q with els := q.els.map (kill c) }) = encR b R := by
  unfold encR
  rw [List.map_cons, ifsBs_kill]
  unfold rulB
  simp only
  rw [elsR_kill2 c _ R h]
theorem encR_last (b : Nat) (R : List Rul) (x : Blk) : (encR b R ++ [x])[R.length + 1]? = some x := by
  rw [List.getElem?_append_right (by rw [encR_len]; omega), encR_len]
  simp
theorem encR_last_set (b : Nat) (R : List Rul) (x y : Blk) : (encR b R ++ [x]).set (R.length + 1) y = encR b R ++ [y] := by
  rw [List.set_append_right _ _ (by rw [encR_len]; omega), encR_len]
  simp
theorem ifs_flat (N : Nat) (R : List Rul) : ∀ q ∈ R.map ifsB, allBelow N q.els = true := fun q hq => by
  obtain ⟨r, _, rfl⟩ := List.mem_map.1 hq
  exact ifsB_below _ _
theorem ifs_drop (N : Nat) (R : List Rul) (r : Rul) (x y : Blk) : DropHp N ((R.map ifsB ++ [ifsB r] ++ [x] ++ [y]).map fun q => { q with els := q.els.map (kill 0) }) ((R ++ [r]).map ifsB) := by
  rw [show R.map ifsB ++ [ifsB r] = (R ++ [r]).map ifsB by simp, List.map_append, List.map_append, ifsBs_kill, List.append_assoc]
  exact dropHp_app (ifs_flat N _)
theorem encR_flat {N b : Nat} {R : List Rul} (h : b + 1 + R.length ≤ N) : ∀ q ∈ encR b R, allBelow N q.els = true := fun q hq => by
  rcases List.mem_cons.1 hq with rfl | hq
  · exact elsR_below N _ R h
  · exact ifs_flat N R q hq
theorem hasR_0 (R : List Rul) : HasR (encR 0 R) 0 R := by
  have := hasR_at [] [] R
  rw [List.nil_append, List.append_nil] at this
  exact this
theorem HasR.lent {hp : List Blk} {b : Nat} {R : List Rul} (h : HasR hp b R) (d : Nat) : nilD (d + 3) (Abs.view (d + 3) hp (.sl b 0 R.length)) = .ro (R.map rulA) := by
  rw [h.view d]
  show AV.ro ((R.map rulN).map (nilD (d + 2))) = _
  rw [rulNs_nil]
end Go.Proofs.YtigipcckflcilaaGreatDoor
