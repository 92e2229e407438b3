/- What is stored and read, as lists that nobody writes: the program's side. -/
import Derived.Test.YtigipcckflcilaaGreatDoorSdA
import Derived.Test.YtigipcckflcilaaGreatDoorReB
import Derived.Test.YtigipcckflcilaaGreatDoorSmA
import Derived.Test.YtigipcckflcilaaGreatDoorRtA
set_option maxRecDepth 10000
set_option maxHeartbeats 8000000
set_option linter.unusedSimpArgs false
set_option linter.unusedVariables false
namespace Go.Proofs.YtigipcckflcilaaGreatDoor
open Go Go.Abs

def HasE (hp : List Blk) : Nat → List Sav → Prop
  | _, [] => True
  | b, x :: L => HasR hp b x.2.1 ∧ hp[b + 1 + x.2.1.length]? = some (intB x.2.2) ∧ HasE hp (b + widS x) L
theorem hasE_at (T : List Blk) : ∀ (L : List Sav) (A : List Blk), HasE (A ++ (blkS A.length L ++ T)) A.length L
  | [], A => trivial
  | x :: L, A => by
    have e : A ++ (blkS A.length (x :: L) ++ T) = memS A (blkS (A.length + widS x) L ++ T) x := by
      rw [memS_is]
      simp [blkS]
    have e2 : A ++ (blkS A.length (x :: L) ++ T) = (A ++ (encR A.length x.2.1 ++ [intB x.2.2])) ++ (blkS (A ++ (encR A.length x.2.1 ++ [intB x.2.2])).length L ++ T) := by
      rw [List.length_append, one_len]
      simp [blkS]
    refine ⟨by rw [e]; exact memS_has A _ x, by rw [e]; exact memS_int A _ x, ?_⟩
    have := hasE_at T L (A ++ (encR A.length x.2.1 ++ [intB x.2.2]))
    rw [← e2] at this
    rw [List.length_append, one_len] at this
    exact this
theorem get_more {α : Type} {M V : List α} {i : Nat} {q : α} (h : M[i]? = some q) : (M ++ V)[i]? = some q := by
  rw [List.getElem?_append_left (List.getElem?_eq_some_iff.1 h).1, h]
theorem HasE.more {hp V : List Blk} : ∀ {L : List Sav} {b : Nat}, HasE hp b L → HasE (hp ++ V) b L
  | [], _, _ => trivial
  | _ :: _, _, h => ⟨⟨get_more h.1.blk, fun i r hr => get_more (h.1.ifs i r hr)⟩, get_more h.2.1, HasE.more h.2.2⟩
theorem HasE.view {hp : List Blk} : ∀ {L : List Sav} {b : Nat}, HasE hp b L → ((elsS b L).map (Abs.view 4 hp)).map (nilD 4) = L.map savA
  | [], _, _ => rfl
  | x :: L, b, h => by
    simp only [elsS, List.map_cons]
    rw [HasE.view h.2.2]
    congr 1
    exact sav_held h.1 h.2.1
theorem sav_lentS {hp : List Blk} {b : Nat} {L : List Sav} (g : hp[b]? = some (savB (elsS (b + 1) L))) (h : HasE hp (b + 1) L) : nilD 5 (view 5 hp (.sl b 0 L.length)) = .ro (L.map savA) := by
  have hv := h.view
  have ht : (elsS (b + 1) L).take L.length = elsS (b + 1) L := List.take_of_length_le (by rw [elsS_len]; exact Nat.le_refl _)
  rw [view_sl, g]
  simp only [savB, elsS_len, List.drop_zero, ht, Nat.zero_add, Nat.le_refl, decide_true, Bool.and_self, if_true]
  show AV.ro (((elsS (b + 1) L).map (Abs.view 4 hp)).map (nilD 4)) = _
  rw [hv]
theorem encS_get (A T : List Blk) (L : List Sav) : (A ++ (encS A.length L ++ T))[A.length]? = some (savB (elsS (A.length + 1) L)) ∧ HasE (A ++ (encS A.length L ++ T)) (A.length + 1) L := by
  constructor
  · rw [List.getElem?_append_right (Nat.le_refl _), Nat.sub_self]; rfl
  · have := hasE_at T L (A ++ [savB (elsS (A.length + 1) L)])
    rw [List.length_append] at this
    have e : A ++ (encS A.length L ++ T) = (A ++ [savB (elsS (A.length + 1) L)]) ++ (blkS (A.length + 1) L ++ T) := by simp [encS]
    rw [e]
    exact this
theorem sizS_valid {x : Sav} (h : validB x = true) : sizS x ≤ 1000 := by
  have O := okS_of h
  have h2 := rulesB_le O.r
  have h3 := sumL_six (R := x.2.1) fun r hr => (okV_of (rulesB_all O.r r hr)).n
  have h4 := O.n
  have h5 := O.l
  unfold sizS sizR
  omega
theorem savS_of {s : Sav} (h : sizS s ≤ 1048576) : SavS s := by
  unfold sizS sizR at h
  exact ⟨by omega, by omega, fun r hr => by have := sumL_mem hr; omega, by omega⟩
theorem implRecoverN (s : List UInt8) (hs : s.length ≤ 1048576) : CallA Tryz.prog 14 [.str s] [] (Ret (.tup [.ro ((recOf 8 s).1.map savA), .int .i64 (((recOf 8 s).2 : Nat) : Int), .bool true]) []) := by
  refine CallA.nilR 6 ?_ ((implRecoverAll_call s hs).frozen 6 rfl)
  generalize recOf 8 s = q
  obtain ⟨L, a⟩ := q
  obtain ⟨g, h⟩ := encS_get [] [] L
  have e := sav_lentS g h
  rw [List.append_nil] at e
  show AV.tup [nilD 5 (Abs.view 5 (encS 0 L) (.sl 0 0 L.length)), .int .i64 ((a : Nat) : Int), .bool true] = _
  rw [show nilD 5 (Abs.view 5 (encS 0 L) (.sl 0 0 L.length)) = .ro (L.map savA) from e]
theorem implLoadN {x : Sav} (h : validB x = true) (hs : (storeT x).length ≤ 1048576) : CallA Tryz.prog 10 [.str (storeT x)] [] (Ret (.tup [savA x, .bool true]) []) := by
  have lo : loadOf (storeT x) = some x := by
    have := begin_store h []
    rw [List.append_nil] at this
    unfold loadOf
    rw [this]
    exact if_pos rfl
  have ld := implLoadSaved_call (storeT x) hs
  rw [lo] at ld
  refine CallA.nilR 5 ?_ (ld.frozen 5 rfl)
  have hr : HasR (encR 0 x.2.1 ++ [intB x.2.2]) 0 x.2.1 := hasR_at [] [intB x.2.2] x.2.1
  show AV.tup [nilD 4 (Abs.view 4 (encR 0 x.2.1 ++ [intB x.2.2]) (.agg [.str x.1, .sl 0 0 x.2.1.length, .sl (x.2.1.length + 1) 0 x.2.2.length])), .bool true] = _
  rw [sav_held hr (encR_last 0 x.2.1 (intB x.2.2))]
theorem implStoreN {x : Sav} (h : validB x = true) : CallA Tryz.prog 9 [savA x] [] (Ret (.tup [.str (storeT x), .bool true]) []) := by
  have := implStore_call x (by have := sizS_valid h; omega)
  rw [h, outS_yes h] at this
  exact this
theorem implAllN {L : List Sav} (h : ∀ x ∈ L, validB x = true) (h8 : L.length ≤ 8) : CallA Tryz.prog 13 [.ro (L.map savA)] [] (Ret (.tup [.str (allT L), .bool true]) []) := by
  have := implAll_call L (by omega) (fun x hx => by have := sizS_valid (h x hx); omega)
  have g := okA_good h8 h
  rw [g, outA_yes g] at this
  exact this
theorem implSameN {L : List Sav} (h : ∀ x ∈ L, validB x = true) (h8 : L.length ≤ 8) : CallA Tryz.prog 12 [.ro (L.map savA), .ro (L.map savA)] [] (Ret (.bool true) []) := by
  have sv : ∀ x ∈ L, SavS x := fun x hx => savS_of (by have := sizS_valid (h x hx); omega)
  have := sameSaved_call L L (by omega) sv sv (by omega)
  rw [decide_eq_true rfl] at this
  exact this
end Go.Proofs.YtigipcckflcilaaGreatDoor
