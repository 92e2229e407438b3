/-
  No cell of these rows narrows 'for every input' (looked for: loops, veiled, ifaces, maps, wideKeys, modest, calm, conditions, laid).
  DERIVED. THE GIVEN ROWS OF THIS SEAT. 3 by the template 'for every input the law returns true; each argument reads behind the call as it read before'; 0 by the template 'total and deterministic' (their statements: YtedcleblhbncmaaTotals.lean).
  GIVEN WITH THE SEED: the statements are not yours to turn. If you find one false, say at which input.
  Laid BY PROGRAM, IN A SANDBOX (cutbox-rows.mjs): the forced cells as the released guide's own fill.sh prints them over the translation 114181c3a420cbb4… (all of the seat's roots in one cut). By AI agents, Wed Nov 11 2026. No macro, syntax, notation, axiom, sorry.
-/
import Derived.Test.YtedcleblhbncmaaChecked
import GoSem.Claim
import GoSem.ClaimJoined
import GoSem.ClaimMapViews
import Derived.JoinedTies
import Derived.KernelRfl
namespace Go.Proofs.Ytedcleblhbncmaa
/- THE CELL 'sum', in the pinned program and in every row, IS THE sha256 OF THE DUMP (.gsa) THAT YtedcleblhbncmaaProg.lean LOADS. Nothing in Lean hashes anything: it is a label: what it is worth is what the hold of that sum in a sandbox is worth. -/
noncomputable def Try.pinned : Pinned := { name := "ytedcleblhbncmaa", sum := "114181c3a420cbb497574dd77c6c4fad1428ef56eb1543c3196c9512166cd9d4", checked := Try.checked }
namespace Rows
def none {H : Type} : Left H := { results := [], args := [] }

/-- 'laws.FnExactNextPeople': WHATEVER THE INPUT: true; the input reads as it did. -/
def fnExactNextPeopleSpec : ChangeSpec := { name := "fnExactNextPeople", fn := fun _ => fun
  | [d] => { results := [.lit (.bool true)], args := [d] }
  | _ => none }
def fnExactNextPeopleRow : OpenClaim := { program := "ytedcleblhbncmaa", sum := "114181c3a420cbb497574dd77c6c4fad1428ef56eb1543c3196c9512166cd9d4", func := "loop.example/g01393/laws.FnExactNextPeople", spec := "fnExactNextPeople", inPlace := ["math.Float64bits", "math.Float64frombits"], unfollowed := true, recurses := true, apart := false }
def FnExactNextPeopleSaid : Prop := fnExactNextPeopleRow.holds Try.pinned (OpenSpec.ofChange fnExactNextPeopleSpec)

/-- ITS FALSE NEIGHBOUR: 'it returns false'. Refute it at one input. -/
def fnExactNextPeopleWrong : ChangeSpec := { name := "fnExactNextPeople", fn := fun _ => fun
  | [d] => { results := [.lit (.bool false)], args := [d] }
  | _ => none }
def FnExactNextPeopleWrongFalsely : Prop := fnExactNextPeopleRow.holds Try.pinned (OpenSpec.ofChange fnExactNextPeopleWrong)

/-- 'laws.FnExactRunPeople': WHATEVER THE INPUT: true; the input reads as it did. -/
def fnExactRunPeopleSpec : ChangeSpec := { name := "fnExactRunPeople", fn := fun _ => fun
  | [d1, d2] => { results := [.lit (.bool true)], args := [d1, d2] }
  | _ => none }
def fnExactRunPeopleRow : OpenClaim := { program := "ytedcleblhbncmaa", sum := "114181c3a420cbb497574dd77c6c4fad1428ef56eb1543c3196c9512166cd9d4", func := "loop.example/g01393/laws.FnExactRunPeople", spec := "fnExactRunPeople", inPlace := ["math.Float64bits", "math.Float64frombits"], unfollowed := true, recurses := true, apart := false }
def FnExactRunPeopleSaid : Prop := fnExactRunPeopleRow.holds Try.pinned (OpenSpec.ofChange fnExactRunPeopleSpec)

/-- ITS FALSE NEIGHBOUR: 'it returns false'. Refute it at one input. -/
def fnExactRunPeopleWrong : ChangeSpec := { name := "fnExactRunPeople", fn := fun _ => fun
  | [d1, d2] => { results := [.lit (.bool false)], args := [d1, d2] }
  | _ => none }
def FnExactRunPeopleWrongFalsely : Prop := fnExactRunPeopleRow.holds Try.pinned (OpenSpec.ofChange fnExactRunPeopleWrong)

/-- 'laws.FnExactGrowthOf': WHATEVER THE INPUT: true; the input reads as it did. -/
def fnExactGrowthOfSpec : ChangeSpec := { name := "fnExactGrowthOf", fn := fun _ => fun
  | [d1, d2] => { results := [.lit (.bool true)], args := [d1, d2] }
  | _ => none }
def fnExactGrowthOfRow : OpenClaim := { program := "ytedcleblhbncmaa", sum := "114181c3a420cbb497574dd77c6c4fad1428ef56eb1543c3196c9512166cd9d4", func := "loop.example/g01393/laws.FnExactGrowthOf", spec := "fnExactGrowthOf", inPlace := ["math.Float64bits", "math.Float64frombits"], unfollowed := true, recurses := true, apart := false }
def FnExactGrowthOfSaid : Prop := fnExactGrowthOfRow.holds Try.pinned (OpenSpec.ofChange fnExactGrowthOfSpec)

/-- ITS FALSE NEIGHBOUR: 'it returns false'. Refute it at one input. -/
def fnExactGrowthOfWrong : ChangeSpec := { name := "fnExactGrowthOf", fn := fun _ => fun
  | [d1, d2] => { results := [.lit (.bool false)], args := [d1, d2] }
  | _ => none }
def FnExactGrowthOfWrongFalsely : Prop := fnExactGrowthOfRow.holds Try.pinned (OpenSpec.ofChange fnExactGrowthOfWrong)

/- THE SECOND FORM. 'bulk': how many values and letters a reading holds, each counted each time it is reached (what is shared counts as often as it is met; a slice's spare places count too). A statement '..UptoSaid' is the law's where the arguments, and the package variables that the reading takes, are together of bulk at most 1048576: NARROWER than '..Said'. Prove '..Said' where nothing that the law and all that it calls make is longer than what came in: it says more and counts as full. Else prove '..UptoSaid'. A law counts once. -/
mutual
def uptoBulk {H : Type} : DataW H → Nat
  | .lit (.string bytes) => bytes.length + 1
  | .lit _ => 1
  | .nil => 1
  | .ptr d => uptoBulk d + 1
  | .slice elems spare => uptoBulkAll elems + uptoBulkAll spare + 1
  | .agg parts => uptoBulkAll parts + 1
  | .iface _ d => uptoBulk d + 1
  | .map entries => uptoBulkEntries entries + 1
  | .held _ => 1
def uptoBulkAll {H : Type} : List (DataW H) → Nat
  | [] => 0
  | d :: r => uptoBulk d + uptoBulkAll r
def uptoBulkEntries {H : Type} : List (Lit × DataW H) → Nat
  | [] => 0
  | x :: r => uptoBulkEntry x + uptoBulkEntries r
def uptoBulkEntry {H : Type} : Lit × DataW H → Nat
  | (.string bytes, d) => bytes.length + uptoBulk d + 1
  | (_, d) => uptoBulk d + 1
 end
def uptoSmall : (H : Type) → List (DataW H) → Bool := fun _ ds => decide (uptoBulkAll ds ≤ 1048576)
def OpenSpec.upto (s : _root_.Go.ChangeSpec) : _root_.Go.OpenSpec := { _root_.Go.OpenSpec.ofChange s with cond := some uptoSmall }

/-- 'laws.FnExactNextPeople', WHERE WHAT IT READS IS OF BULK AT MOST 1048576: true; the input reads as it did. -/
def fnExactNextPeopleUptoRow : OpenClaim := { program := "ytedcleblhbncmaa", sum := "114181c3a420cbb497574dd77c6c4fad1428ef56eb1543c3196c9512166cd9d4", func := "loop.example/g01393/laws.FnExactNextPeople", spec := "fnExactNextPeople", inPlace := ["math.Float64bits", "math.Float64frombits"], unfollowed := true, recurses := true, apart := false, narrowed := true }
def FnExactNextPeopleUptoSaid : Prop := fnExactNextPeopleUptoRow.holds Try.pinned (OpenSpec.upto fnExactNextPeopleSpec)

/-- 'laws.FnExactRunPeople', WHERE WHAT IT READS IS OF BULK AT MOST 1048576: true; the input reads as it did. -/
def fnExactRunPeopleUptoRow : OpenClaim := { program := "ytedcleblhbncmaa", sum := "114181c3a420cbb497574dd77c6c4fad1428ef56eb1543c3196c9512166cd9d4", func := "loop.example/g01393/laws.FnExactRunPeople", spec := "fnExactRunPeople", inPlace := ["math.Float64bits", "math.Float64frombits"], unfollowed := true, recurses := true, apart := false, narrowed := true }
def FnExactRunPeopleUptoSaid : Prop := fnExactRunPeopleUptoRow.holds Try.pinned (OpenSpec.upto fnExactRunPeopleSpec)

/-- 'laws.FnExactGrowthOf', WHERE WHAT IT READS IS OF BULK AT MOST 1048576: true; the input reads as it did. -/
def fnExactGrowthOfUptoRow : OpenClaim := { program := "ytedcleblhbncmaa", sum := "114181c3a420cbb497574dd77c6c4fad1428ef56eb1543c3196c9512166cd9d4", func := "loop.example/g01393/laws.FnExactGrowthOf", spec := "fnExactGrowthOf", inPlace := ["math.Float64bits", "math.Float64frombits"], unfollowed := true, recurses := true, apart := false, narrowed := true }
def FnExactGrowthOfUptoSaid : Prop := fnExactGrowthOfUptoRow.holds Try.pinned (OpenSpec.upto fnExactGrowthOfSpec)

end Rows
end Go.Proofs.Ytedcleblhbncmaa
