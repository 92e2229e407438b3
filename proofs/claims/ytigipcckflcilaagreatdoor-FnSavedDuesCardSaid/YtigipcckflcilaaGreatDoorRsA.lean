/- Texts of rules that are read: the plain law of the reference's reading. -/
import Derived.Test.YtigipcckflcilaaGreatDoorRrC
set_option maxRecDepth 10000
set_option maxHeartbeats 2000000
set_option linter.unusedSimpArgs false
set_option linter.unusedVariables false
namespace Go.Proofs.YtigipcckflcilaaGreatDoor
open Go Go.Abs

def sgn (t : List UInt8) : Nat := if t.head? = some 45 then 1 else 0
def dgs (t : List UInt8) : List UInt8 := ((t.drop (sgn t)).take 6).takeWhile dig
def digR (t : List UInt8) : Int × Nat × Bool := (if t.head? = some 45 then -valD (dgs t) else valD (dgs t), sgn t + (dgs t).length, !(dgs t).isEmpty)
def pre (p t : List UInt8) : Bool := p.isPrefixOf t
def step (t p : List UInt8) (k : Int → List UInt8 → Option Rul) : Option Rul :=
  if (digR t).2.2 = false ∨ pre p (t.drop (digR t).2.1) = false then none else k (digR t).1 ((t.drop (digR t).2.1).drop p.length)
def last (o : Option (List Int × List UInt8)) (z1 z2 z3 : Int) : Option Rul :=
  match o with
  | none => none
  | some (xs, t4) => if (digR (t4.drop 3)).2.2 = false then none else some ((digR (t4.drop 3)).1, xs, z1, z2, z3)
end Go.Proofs.YtigipcckflcilaaGreatDoor
