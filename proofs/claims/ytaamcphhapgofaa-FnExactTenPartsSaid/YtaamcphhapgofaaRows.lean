/-
  No cell of these rows narrows 'for every input' (looked for: loops, veiled, ifaces, maps, wideKeys, modest, calm, conditions, laid).
  DERIVED. THE GIVEN ROWS OF THIS SEAT. 3 by the template 'for every input the law returns true; each argument reads behind the call as it read before'; 0 by the template 'total and deterministic' (their statements: YtaamcphhapgofaaTotals.lean).
  GIVEN WITH THE SEED: the statements are not yours to turn. If you find one false, say at which input.
  Laid BY PROGRAM, IN A SANDBOX (cutbox-rows.mjs): the forced cells as the released guide's own fill.sh prints them over the translation 2055ccf11d94e49c… (all of the seat's roots in one cut). By AI agents, Wed Nov 11 2026. No macro, syntax, notation, axiom, sorry.
-/
import Derived.Test.YtaamcphhapgofaaChecked
import GoSem.Claim
import GoSem.ClaimJoined
import GoSem.ClaimMapViews
import Derived.JoinedTies
import Derived.KernelRfl
namespace Go.Proofs.Ytaamcphhapgofaa
/- THE CELL 'sum', in the pinned program and in every row, IS THE sha256 OF THE DUMP (.gsa) THAT YtaamcphhapgofaaProg.lean LOADS. Nothing in Lean hashes anything: it is a label: what it is worth is what the hold of that sum in a sandbox is worth. -/
noncomputable def Try.pinned : Pinned := { name := "ytaamcphhapgofaa", sum := "2055ccf11d94e49cfe36b400660a1576c53fd8a97d7e45b036bdf0898e03f864", checked := Try.checked }
namespace Rows
def none {H : Type} : Left H := { results := [], args := [] }

/-- 'laws.FnExactTenParts': WHATEVER THE INPUT: true; the input reads as it did. -/
def fnExactTenPartsSpec : ChangeSpec := { name := "fnExactTenParts", fn := fun _ => fun
  | [d] => { results := [.lit (.bool true)], args := [d] }
  | _ => none }
def fnExactTenPartsRow : OpenClaim := { program := "ytaamcphhapgofaa", sum := "2055ccf11d94e49cfe36b400660a1576c53fd8a97d7e45b036bdf0898e03f864", func := "loop.example/g01393/laws.FnExactTenParts", spec := "fnExactTenParts", unfollowed := true, recurses := true, apart := false }
def FnExactTenPartsSaid : Prop := fnExactTenPartsRow.holds Try.pinned (OpenSpec.ofChange fnExactTenPartsSpec)

/-- ITS FALSE NEIGHBOUR: 'it returns false'. Refute it at one input. -/
def fnExactTenPartsWrong : ChangeSpec := { name := "fnExactTenParts", fn := fun _ => fun
  | [d] => { results := [.lit (.bool false)], args := [d] }
  | _ => none }
def FnExactTenPartsWrongFalsely : Prop := fnExactTenPartsRow.holds Try.pinned (OpenSpec.ofChange fnExactTenPartsWrong)

/-- 'laws.FnExactEvennessCurve': WHATEVER THE INPUT: true; the input reads as it did. -/
def fnExactEvennessCurveSpec : ChangeSpec := { name := "fnExactEvennessCurve", fn := fun _ => fun
  | [d] => { results := [.lit (.bool true)], args := [d] }
  | _ => none }
def fnExactEvennessCurveRow : OpenClaim := { program := "ytaamcphhapgofaa", sum := "2055ccf11d94e49cfe36b400660a1576c53fd8a97d7e45b036bdf0898e03f864", func := "loop.example/g01393/laws.FnExactEvennessCurve", spec := "fnExactEvennessCurve", unfollowed := true, recurses := true, apart := false }
def FnExactEvennessCurveSaid : Prop := fnExactEvennessCurveRow.holds Try.pinned (OpenSpec.ofChange fnExactEvennessCurveSpec)

/-- ITS FALSE NEIGHBOUR: 'it returns false'. Refute it at one input. -/
def fnExactEvennessCurveWrong : ChangeSpec := { name := "fnExactEvennessCurve", fn := fun _ => fun
  | [d] => { results := [.lit (.bool false)], args := [d] }
  | _ => none }
def FnExactEvennessCurveWrongFalsely : Prop := fnExactEvennessCurveRow.holds Try.pinned (OpenSpec.ofChange fnExactEvennessCurveWrong)

/-- 'laws.FnExactShareOfTop': WHATEVER THE INPUT: true; the input reads as it did. -/
def fnExactShareOfTopSpec : ChangeSpec := { name := "fnExactShareOfTop", fn := fun _ => fun
  | [d1, d2] => { results := [.lit (.bool true)], args := [d1, d2] }
  | _ => none }
def fnExactShareOfTopRow : OpenClaim := { program := "ytaamcphhapgofaa", sum := "2055ccf11d94e49cfe36b400660a1576c53fd8a97d7e45b036bdf0898e03f864", func := "loop.example/g01393/laws.FnExactShareOfTop", spec := "fnExactShareOfTop", unfollowed := true, recurses := true, apart := false }
def FnExactShareOfTopSaid : Prop := fnExactShareOfTopRow.holds Try.pinned (OpenSpec.ofChange fnExactShareOfTopSpec)

/-- ITS FALSE NEIGHBOUR: 'it returns false'. Refute it at one input. -/
def fnExactShareOfTopWrong : ChangeSpec := { name := "fnExactShareOfTop", fn := fun _ => fun
  | [d1, d2] => { results := [.lit (.bool false)], args := [d1, d2] }
  | _ => none }
def FnExactShareOfTopWrongFalsely : Prop := fnExactShareOfTopRow.holds Try.pinned (OpenSpec.ofChange fnExactShareOfTopWrong)

/- THE SECOND FORM. 'bulk': how many values and letters a reading holds, each counted each time it is reached (what is shared counts as often as it is met; a slice's spare places count too). A statement '..UptoSaid' is the law's where the arguments, and the package variables that the reading takes, are together of bulk at most 1048576: NARROWER than '..Said'. Prove '..Said' where nothing that the law and all that it calls make is longer than what came in: it says more and counts as full. Else prove '..UptoSaid'. A law counts once. -/
mutual
def uptoBulk {H : Type} : DataW H → Nat
  | .lit (.string bytes) => bytes.length + 1
  | .lit _ => 1
  | .nil => 1
  | .ptr d => uptoBulk d + 1
  | .slice elems spare => uptoBulkAll elems + uptoBulkAll spare + 1
  | .agg parts => uptoBulkAll parts + 1
  | .iface _ d => uptoBulk d + 1
  | .map entries => uptoBulkEntries entries + 1
  | .held _ => 1
def uptoBulkAll {H : Type} : List (DataW H) → Nat
  | [] => 0
  | d :: r => uptoBulk d + uptoBulkAll r
def uptoBulkEntries {H : Type} : List (Lit × DataW H) → Nat
  | [] => 0
  | x :: r => uptoBulkEntry x + uptoBulkEntries r
def uptoBulkEntry {H : Type} : Lit × DataW H → Nat
  | (.string bytes, d) => bytes.length + uptoBulk d + 1
  | (_, d) => uptoBulk d + 1
 end
def uptoSmall : (H : Type) → List (DataW H) → Bool := fun _ ds => decide (uptoBulkAll ds ≤ 1048576)
def OpenSpec.upto (s : _root_.Go.ChangeSpec) : _root_.Go.OpenSpec := { _root_.Go.OpenSpec.ofChange s with cond := some uptoSmall }

/-- 'laws.FnExactTenParts', WHERE WHAT IT READS IS OF BULK AT MOST 1048576: true; the input reads as it did. -/
def fnExactTenPartsUptoRow : OpenClaim := { program := "ytaamcphhapgofaa", sum := "2055ccf11d94e49cfe36b400660a1576c53fd8a97d7e45b036bdf0898e03f864", func := "loop.example/g01393/laws.FnExactTenParts", spec := "fnExactTenParts", unfollowed := true, recurses := true, apart := false, narrowed := true }
def FnExactTenPartsUptoSaid : Prop := fnExactTenPartsUptoRow.holds Try.pinned (OpenSpec.upto fnExactTenPartsSpec)

/-- 'laws.FnExactEvennessCurve', WHERE WHAT IT READS IS OF BULK AT MOST 1048576: true; the input reads as it did. -/
def fnExactEvennessCurveUptoRow : OpenClaim := { program := "ytaamcphhapgofaa", sum := "2055ccf11d94e49cfe36b400660a1576c53fd8a97d7e45b036bdf0898e03f864", func := "loop.example/g01393/laws.FnExactEvennessCurve", spec := "fnExactEvennessCurve", unfollowed := true, recurses := true, apart := false, narrowed := true }
def FnExactEvennessCurveUptoSaid : Prop := fnExactEvennessCurveUptoRow.holds Try.pinned (OpenSpec.upto fnExactEvennessCurveSpec)

/-- 'laws.FnExactShareOfTop', WHERE WHAT IT READS IS OF BULK AT MOST 1048576: true; the input reads as it did. -/
def fnExactShareOfTopUptoRow : OpenClaim := { program := "ytaamcphhapgofaa", sum := "2055ccf11d94e49cfe36b400660a1576c53fd8a97d7e45b036bdf0898e03f864", func := "loop.example/g01393/laws.FnExactShareOfTop", spec := "fnExactShareOfTop", unfollowed := true, recurses := true, apart := false, narrowed := true }
def FnExactShareOfTopUptoSaid : Prop := fnExactShareOfTopUptoRow.holds Try.pinned (OpenSpec.upto fnExactShareOfTopSpec)

end Rows
end Go.Proofs.Ytaamcphhapgofaa
