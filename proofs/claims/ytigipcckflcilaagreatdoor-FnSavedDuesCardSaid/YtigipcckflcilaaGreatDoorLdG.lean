/- Marks that are held; the law on what is loaded. -/
import Derived.Test.YtigipcckflcilaaGreatDoorLdF
set_option maxRecDepth 10000
set_option maxHeartbeats 8000000
set_option linter.unusedSimpArgs false
set_option linter.unusedVariables false
namespace Go.Proofs.YtigipcckflcilaaGreatDoor
open Go Go.Abs

def memS (A T : List Blk) (x : Sav) : List Blk := A ++ (rulB (elsR (A.length + 1) x.2.1) :: (x.2.1.map ifsB ++ (intB x.2.2 :: T)))
def savN (b : Nat) (x : Sav) : AV := .agg [.str x.1, .sl b 0 x.2.1.length, .sl (b + 1 + x.2.1.length) 0 x.2.2.length]
def x0 : Sav := ([], [], [])
theorem sav_held {hp : List Blk} {b c : Nat} {x : Sav} (h : HasR hp b x.2.1) (g : hp[c]? = some (intB x.2.2)) : nilD 4 (view 4 hp (.agg [.str x.1, .sl b 0 x.2.1.length, .sl c 0 x.2.2.length])) = savA x := by
  have e : nilD 4 (view 4 hp (.agg [.str x.1, .sl b 0 x.2.1.length, .sl c 0 x.2.2.length])) = .agg [.str x.1, nilD 3 (view 3 hp (.sl b 0 x.2.1.length)), nilD 3 (view 3 hp (.sl c 0 x.2.2.length))] := rfl
  rw [e, h.lent 0, view_sl, g]
  simp only [intB, ints_len, map_view_ints, take_ints, List.drop_zero, Nat.zero_add, Nat.le_refl, decide_true, Bool.and_self, if_true]
  show AV.agg [_, _, .ro ((ints x.2.2).map (nilD 2))] = _
  rw [nilD_ints]
  rfl
theorem memS_is (A T : List Blk) (x : Sav) : memS A T x = A ++ encR A.length x.2.1 ++ (intB x.2.2 :: T) := by simp [memS, encR]
theorem memS_has (A T : List Blk) (x : Sav) : HasR (memS A T x) A.length x.2.1 := by
  rw [memS_is]; exact hasR_at A _ x.2.1
theorem memS_int (A T : List Blk) (x : Sav) : (memS A T x)[A.length + 1 + x.2.1.length]? = some (intB x.2.2) := by
  rw [memS_is, List.getElem?_append_right (by rw [List.length_append, encR_len]; omega), List.length_append, encR_len, show A.length + 1 + x.2.1.length - (A.length + (x.2.1.length + 1)) = 0 by omega]
  rfl
theorem memS_head (A T : List Blk) (x : Sav) {i : Nat} {q : Blk} (h : A[i]? = some q) : (memS A T x)[i]? = some q := by
  rw [memS, List.getElem?_append_left (List.getElem?_eq_some_iff.1 h).1, h]
end Go.Proofs.YtigipcckflcilaaGreatDoor
