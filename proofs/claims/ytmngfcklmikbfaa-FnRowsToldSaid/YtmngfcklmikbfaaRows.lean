/-
  No cell of these rows narrows 'for every input' (looked for: loops, veiled, ifaces, maps, wideKeys, modest, calm, conditions, laid).
  DERIVED. THE GIVEN ROWS OF THIS SEAT. 9 by the template 'for every input the law returns true; each argument reads behind the call as it read before'; 0 by the template 'total and deterministic' (their statements: YtmngfcklmikbfaaTotals.lean).
  GIVEN WITH THE SEED: the statements are not yours to turn. If you find one false, say at which input.
  Laid BY PROGRAM, IN A SANDBOX (cutbox-rows.mjs): the forced cells as the released guide's own fill.sh prints them over the translation b675ec5e7d502a1b… (all of the seat's roots in one cut). By AI agents, Wed Nov 11 2026. No macro, syntax, notation, axiom, sorry.
-/
import Derived.Test.YtmngfcklmikbfaaChecked
import GoSem.Claim
import GoSem.ClaimJoined
import GoSem.ClaimMapViews
import Derived.JoinedTies
import Derived.KernelRfl
namespace Go.Proofs.Ytmngfcklmikbfaa
/- THE CELL 'sum', in the pinned program and in every row, IS THE sha256 OF THE DUMP (.gsa) THAT YtmngfcklmikbfaaProg.lean LOADS. Nothing in Lean hashes anything: it is a label: what it is worth is what the hold of that sum in a sandbox is worth. -/
noncomputable def Try.pinned : Pinned := { name := "ytmngfcklmikbfaa", sum := "b675ec5e7d502a1bc1cd72f8a784f37ccbb66dcd98856dddcf23a34f43b12dbd", checked := Try.checked }
namespace Rows
def none {H : Type} : Left H := { results := [], args := [] }

/-- 'laws.FnDues': WHATEVER THE INPUT: true; the input reads as it did. -/
def fnDuesSpec : ChangeSpec := { name := "fnDues", fn := fun _ => fun
  | [d1, d2] => { results := [.lit (.bool true)], args := [d1, d2] }
  | _ => none }
def fnDuesRow : OpenClaim := { program := "ytmngfcklmikbfaa", sum := "b675ec5e7d502a1bc1cd72f8a784f37ccbb66dcd98856dddcf23a34f43b12dbd", func := "loop.example/g01393/laws.FnDues", spec := "fnDues", unfollowed := true, recurses := true, apart := false }
def FnDuesSaid : Prop := fnDuesRow.holds Try.pinned (OpenSpec.ofChange fnDuesSpec)

/-- ITS FALSE NEIGHBOUR: 'it returns false'. Refute it at one input. -/
def fnDuesWrong : ChangeSpec := { name := "fnDues", fn := fun _ => fun
  | [d1, d2] => { results := [.lit (.bool false)], args := [d1, d2] }
  | _ => none }
def FnDuesWrongFalsely : Prop := fnDuesRow.holds Try.pinned (OpenSpec.ofChange fnDuesWrong)

/-- 'laws.FnTapers': WHATEVER THE INPUT: true; the input reads as it did. -/
def fnTapersSpec : ChangeSpec := { name := "fnTapers", fn := fun _ => fun
  | [d1, d2] => { results := [.lit (.bool true)], args := [d1, d2] }
  | _ => none }
def fnTapersRow : OpenClaim := { program := "ytmngfcklmikbfaa", sum := "b675ec5e7d502a1bc1cd72f8a784f37ccbb66dcd98856dddcf23a34f43b12dbd", func := "loop.example/g01393/laws.FnTapers", spec := "fnTapers", unfollowed := true, recurses := true, apart := false }
def FnTapersSaid : Prop := fnTapersRow.holds Try.pinned (OpenSpec.ofChange fnTapersSpec)

/-- ITS FALSE NEIGHBOUR: 'it returns false'. Refute it at one input. -/
def fnTapersWrong : ChangeSpec := { name := "fnTapers", fn := fun _ => fun
  | [d1, d2] => { results := [.lit (.bool false)], args := [d1, d2] }
  | _ => none }
def FnTapersWrongFalsely : Prop := fnTapersRow.holds Try.pinned (OpenSpec.ofChange fnTapersWrong)

/-- 'laws.FnCurves': WHATEVER THE INPUT: true; the input reads as it did. -/
def fnCurvesSpec : ChangeSpec := { name := "fnCurves", fn := fun _ => fun
  | [d1, d2] => { results := [.lit (.bool true)], args := [d1, d2] }
  | _ => none }
def fnCurvesRow : OpenClaim := { program := "ytmngfcklmikbfaa", sum := "b675ec5e7d502a1bc1cd72f8a784f37ccbb66dcd98856dddcf23a34f43b12dbd", func := "loop.example/g01393/laws.FnCurves", spec := "fnCurves", unfollowed := true, recurses := true, apart := false }
def FnCurvesSaid : Prop := fnCurvesRow.holds Try.pinned (OpenSpec.ofChange fnCurvesSpec)

/-- ITS FALSE NEIGHBOUR: 'it returns false'. Refute it at one input. -/
def fnCurvesWrong : ChangeSpec := { name := "fnCurves", fn := fun _ => fun
  | [d1, d2] => { results := [.lit (.bool false)], args := [d1, d2] }
  | _ => none }
def FnCurvesWrongFalsely : Prop := fnCurvesRow.holds Try.pinned (OpenSpec.ofChange fnCurvesWrong)

/-- 'laws.FnTreaties': WHATEVER THE INPUT: true; the input reads as it did. -/
def fnTreatiesSpec : ChangeSpec := { name := "fnTreaties", fn := fun _ => fun
  | [d1, d2] => { results := [.lit (.bool true)], args := [d1, d2] }
  | _ => none }
def fnTreatiesRow : OpenClaim := { program := "ytmngfcklmikbfaa", sum := "b675ec5e7d502a1bc1cd72f8a784f37ccbb66dcd98856dddcf23a34f43b12dbd", func := "loop.example/g01393/laws.FnTreaties", spec := "fnTreaties", unfollowed := true, recurses := true, apart := false }
def FnTreatiesSaid : Prop := fnTreatiesRow.holds Try.pinned (OpenSpec.ofChange fnTreatiesSpec)

/-- ITS FALSE NEIGHBOUR: 'it returns false'. Refute it at one input. -/
def fnTreatiesWrong : ChangeSpec := { name := "fnTreaties", fn := fun _ => fun
  | [d1, d2] => { results := [.lit (.bool false)], args := [d1, d2] }
  | _ => none }
def FnTreatiesWrongFalsely : Prop := fnTreatiesRow.holds Try.pinned (OpenSpec.ofChange fnTreatiesWrong)

/-- 'laws.FnScalesOf': WHATEVER THE INPUT: true; the input reads as it did. -/
def fnScalesOfSpec : ChangeSpec := { name := "fnScalesOf", fn := fun _ => fun
  | [d1, d2] => { results := [.lit (.bool true)], args := [d1, d2] }
  | _ => none }
def fnScalesOfRow : OpenClaim := { program := "ytmngfcklmikbfaa", sum := "b675ec5e7d502a1bc1cd72f8a784f37ccbb66dcd98856dddcf23a34f43b12dbd", func := "loop.example/g01393/laws.FnScalesOf", spec := "fnScalesOf", unfollowed := true, recurses := true, apart := false }
def FnScalesOfSaid : Prop := fnScalesOfRow.holds Try.pinned (OpenSpec.ofChange fnScalesOfSpec)

/-- ITS FALSE NEIGHBOUR: 'it returns false'. Refute it at one input. -/
def fnScalesOfWrong : ChangeSpec := { name := "fnScalesOf", fn := fun _ => fun
  | [d1, d2] => { results := [.lit (.bool false)], args := [d1, d2] }
  | _ => none }
def FnScalesOfWrongFalsely : Prop := fnScalesOfRow.holds Try.pinned (OpenSpec.ofChange fnScalesOfWrong)

/-- 'laws.FnChained': WHATEVER THE INPUT: true; the input reads as it did. -/
def fnChainedSpec : ChangeSpec := { name := "fnChained", fn := fun _ => fun
  | [d1, d2] => { results := [.lit (.bool true)], args := [d1, d2] }
  | _ => none }
def fnChainedRow : OpenClaim := { program := "ytmngfcklmikbfaa", sum := "b675ec5e7d502a1bc1cd72f8a784f37ccbb66dcd98856dddcf23a34f43b12dbd", func := "loop.example/g01393/laws.FnChained", spec := "fnChained", unfollowed := true, recurses := true, apart := false }
def FnChainedSaid : Prop := fnChainedRow.holds Try.pinned (OpenSpec.ofChange fnChainedSpec)

/-- ITS FALSE NEIGHBOUR: 'it returns false'. Refute it at one input. -/
def fnChainedWrong : ChangeSpec := { name := "fnChained", fn := fun _ => fun
  | [d1, d2] => { results := [.lit (.bool false)], args := [d1, d2] }
  | _ => none }
def FnChainedWrongFalsely : Prop := fnChainedRow.holds Try.pinned (OpenSpec.ofChange fnChainedWrong)

/-- 'laws.FnRowsTold': WHATEVER THE INPUT: true; the input reads as it did. -/
def fnRowsToldSpec : ChangeSpec := { name := "fnRowsTold", fn := fun _ => fun
  | [d1, d2] => { results := [.lit (.bool true)], args := [d1, d2] }
  | _ => none }
def fnRowsToldRow : OpenClaim := { program := "ytmngfcklmikbfaa", sum := "b675ec5e7d502a1bc1cd72f8a784f37ccbb66dcd98856dddcf23a34f43b12dbd", func := "loop.example/g01393/laws.FnRowsTold", spec := "fnRowsTold", unfollowed := true, recurses := true, apart := false }
def FnRowsToldSaid : Prop := fnRowsToldRow.holds Try.pinned (OpenSpec.ofChange fnRowsToldSpec)

/-- ITS FALSE NEIGHBOUR: 'it returns false'. Refute it at one input. -/
def fnRowsToldWrong : ChangeSpec := { name := "fnRowsTold", fn := fun _ => fun
  | [d1, d2] => { results := [.lit (.bool false)], args := [d1, d2] }
  | _ => none }
def FnRowsToldWrongFalsely : Prop := fnRowsToldRow.holds Try.pinned (OpenSpec.ofChange fnRowsToldWrong)

/-- 'laws.FnPaid': WHATEVER THE INPUT: true; the input reads as it did. -/
def fnPaidSpec : ChangeSpec := { name := "fnPaid", fn := fun _ => fun
  | [d1, d2] => { results := [.lit (.bool true)], args := [d1, d2] }
  | _ => none }
def fnPaidRow : OpenClaim := { program := "ytmngfcklmikbfaa", sum := "b675ec5e7d502a1bc1cd72f8a784f37ccbb66dcd98856dddcf23a34f43b12dbd", func := "loop.example/g01393/laws.FnPaid", spec := "fnPaid", unfollowed := true, recurses := true, named := ["math/bits.divideError", "math/bits.overflowError"], apart := false }
def FnPaidSaid : Prop := fnPaidRow.holds Try.pinned (OpenSpec.ofChange fnPaidSpec)

/-- ITS FALSE NEIGHBOUR: 'it returns false'. Refute it at one input. -/
def fnPaidWrong : ChangeSpec := { name := "fnPaid", fn := fun _ => fun
  | [d1, d2] => { results := [.lit (.bool false)], args := [d1, d2] }
  | _ => none }
def FnPaidWrongFalsely : Prop := fnPaidRow.holds Try.pinned (OpenSpec.ofChange fnPaidWrong)

/-- 'laws.FnCareers': WHATEVER THE INPUT: true; the input reads as it did. -/
def fnCareersSpec : ChangeSpec := { name := "fnCareers", fn := fun _ => fun
  | [d1, d2] => { results := [.lit (.bool true)], args := [d1, d2] }
  | _ => none }
def fnCareersRow : OpenClaim := { program := "ytmngfcklmikbfaa", sum := "b675ec5e7d502a1bc1cd72f8a784f37ccbb66dcd98856dddcf23a34f43b12dbd", func := "loop.example/g01393/laws.FnCareers", spec := "fnCareers", unfollowed := true, recurses := true, apart := false }
def FnCareersSaid : Prop := fnCareersRow.holds Try.pinned (OpenSpec.ofChange fnCareersSpec)

/-- ITS FALSE NEIGHBOUR: 'it returns false'. Refute it at one input. -/
def fnCareersWrong : ChangeSpec := { name := "fnCareers", fn := fun _ => fun
  | [d1, d2] => { results := [.lit (.bool false)], args := [d1, d2] }
  | _ => none }
def FnCareersWrongFalsely : Prop := fnCareersRow.holds Try.pinned (OpenSpec.ofChange fnCareersWrong)

/- THE SECOND FORM. 'bulk': how many values and letters a reading holds, each counted each time it is reached (what is shared counts as often as it is met; a slice's spare places count too). A statement '..UptoSaid' is the law's where the arguments, and the package variables that the reading takes, are together of bulk at most 1048576: NARROWER than '..Said'. Prove '..Said' where nothing that the law and all that it calls make is longer than what came in: it says more and counts as full. Else prove '..UptoSaid'. A law counts once. -/
mutual
def uptoBulk {H : Type} : DataW H → Nat
  | .lit (.string bytes) => bytes.length + 1
  | .lit _ => 1
  | .nil => 1
  | .ptr d => uptoBulk d + 1
  | .slice elems spare => uptoBulkAll elems + uptoBulkAll spare + 1
  | .agg parts => uptoBulkAll parts + 1
  | .iface _ d => uptoBulk d + 1
  | .map entries => uptoBulkEntries entries + 1
  | .held _ => 1
def uptoBulkAll {H : Type} : List (DataW H) → Nat
  | [] => 0
  | d :: r => uptoBulk d + uptoBulkAll r
def uptoBulkEntries {H : Type} : List (Lit × DataW H) → Nat
  | [] => 0
  | x :: r => uptoBulkEntry x + uptoBulkEntries r
def uptoBulkEntry {H : Type} : Lit × DataW H → Nat
  | (.string bytes, d) => bytes.length + uptoBulk d + 1
  | (_, d) => uptoBulk d + 1
 end
def uptoSmall : (H : Type) → List (DataW H) → Bool := fun _ ds => decide (uptoBulkAll ds ≤ 1048576)
def OpenSpec.upto (s : _root_.Go.ChangeSpec) : _root_.Go.OpenSpec := { _root_.Go.OpenSpec.ofChange s with cond := some uptoSmall }

/-- 'laws.FnDues', WHERE WHAT IT READS IS OF BULK AT MOST 1048576: true; the input reads as it did. -/
def fnDuesUptoRow : OpenClaim := { program := "ytmngfcklmikbfaa", sum := "b675ec5e7d502a1bc1cd72f8a784f37ccbb66dcd98856dddcf23a34f43b12dbd", func := "loop.example/g01393/laws.FnDues", spec := "fnDues", unfollowed := true, recurses := true, apart := false, narrowed := true }
def FnDuesUptoSaid : Prop := fnDuesUptoRow.holds Try.pinned (OpenSpec.upto fnDuesSpec)

/-- 'laws.FnTapers', WHERE WHAT IT READS IS OF BULK AT MOST 1048576: true; the input reads as it did. -/
def fnTapersUptoRow : OpenClaim := { program := "ytmngfcklmikbfaa", sum := "b675ec5e7d502a1bc1cd72f8a784f37ccbb66dcd98856dddcf23a34f43b12dbd", func := "loop.example/g01393/laws.FnTapers", spec := "fnTapers", unfollowed := true, recurses := true, apart := false, narrowed := true }
def FnTapersUptoSaid : Prop := fnTapersUptoRow.holds Try.pinned (OpenSpec.upto fnTapersSpec)

/-- 'laws.FnCurves', WHERE WHAT IT READS IS OF BULK AT MOST 1048576: true; the input reads as it did. -/
def fnCurvesUptoRow : OpenClaim := { program := "ytmngfcklmikbfaa", sum := "b675ec5e7d502a1bc1cd72f8a784f37ccbb66dcd98856dddcf23a34f43b12dbd", func := "loop.example/g01393/laws.FnCurves", spec := "fnCurves", unfollowed := true, recurses := true, apart := false, narrowed := true }
def FnCurvesUptoSaid : Prop := fnCurvesUptoRow.holds Try.pinned (OpenSpec.upto fnCurvesSpec)

/-- 'laws.FnTreaties', WHERE WHAT IT READS IS OF BULK AT MOST 1048576: true; the input reads as it did. -/
def fnTreatiesUptoRow : OpenClaim := { program := "ytmngfcklmikbfaa", sum := "b675ec5e7d502a1bc1cd72f8a784f37ccbb66dcd98856dddcf23a34f43b12dbd", func := "loop.example/g01393/laws.FnTreaties", spec := "fnTreaties", unfollowed := true, recurses := true, apart := false, narrowed := true }
def FnTreatiesUptoSaid : Prop := fnTreatiesUptoRow.holds Try.pinned (OpenSpec.upto fnTreatiesSpec)

/-- 'laws.FnScalesOf', WHERE WHAT IT READS IS OF BULK AT MOST 1048576: true; the input reads as it did. -/
def fnScalesOfUptoRow : OpenClaim := { program := "ytmngfcklmikbfaa", sum := "b675ec5e7d502a1bc1cd72f8a784f37ccbb66dcd98856dddcf23a34f43b12dbd", func := "loop.example/g01393/laws.FnScalesOf", spec := "fnScalesOf", unfollowed := true, recurses := true, apart := false, narrowed := true }
def FnScalesOfUptoSaid : Prop := fnScalesOfUptoRow.holds Try.pinned (OpenSpec.upto fnScalesOfSpec)

/-- 'laws.FnChained', WHERE WHAT IT READS IS OF BULK AT MOST 1048576: true; the input reads as it did. -/
def fnChainedUptoRow : OpenClaim := { program := "ytmngfcklmikbfaa", sum := "b675ec5e7d502a1bc1cd72f8a784f37ccbb66dcd98856dddcf23a34f43b12dbd", func := "loop.example/g01393/laws.FnChained", spec := "fnChained", unfollowed := true, recurses := true, apart := false, narrowed := true }
def FnChainedUptoSaid : Prop := fnChainedUptoRow.holds Try.pinned (OpenSpec.upto fnChainedSpec)

/-- 'laws.FnRowsTold', WHERE WHAT IT READS IS OF BULK AT MOST 1048576: true; the input reads as it did. -/
def fnRowsToldUptoRow : OpenClaim := { program := "ytmngfcklmikbfaa", sum := "b675ec5e7d502a1bc1cd72f8a784f37ccbb66dcd98856dddcf23a34f43b12dbd", func := "loop.example/g01393/laws.FnRowsTold", spec := "fnRowsTold", unfollowed := true, recurses := true, apart := false, narrowed := true }
def FnRowsToldUptoSaid : Prop := fnRowsToldUptoRow.holds Try.pinned (OpenSpec.upto fnRowsToldSpec)

/-- 'laws.FnPaid', WHERE WHAT IT READS IS OF BULK AT MOST 1048576: true; the input reads as it did. -/
def fnPaidUptoRow : OpenClaim := { program := "ytmngfcklmikbfaa", sum := "b675ec5e7d502a1bc1cd72f8a784f37ccbb66dcd98856dddcf23a34f43b12dbd", func := "loop.example/g01393/laws.FnPaid", spec := "fnPaid", unfollowed := true, recurses := true, named := ["math/bits.divideError", "math/bits.overflowError"], apart := false, narrowed := true }
def FnPaidUptoSaid : Prop := fnPaidUptoRow.holds Try.pinned (OpenSpec.upto fnPaidSpec)

/-- 'laws.FnCareers', WHERE WHAT IT READS IS OF BULK AT MOST 1048576: true; the input reads as it did. -/
def fnCareersUptoRow : OpenClaim := { program := "ytmngfcklmikbfaa", sum := "b675ec5e7d502a1bc1cd72f8a784f37ccbb66dcd98856dddcf23a34f43b12dbd", func := "loop.example/g01393/laws.FnCareers", spec := "fnCareers", unfollowed := true, recurses := true, apart := false, narrowed := true }
def FnCareersUptoSaid : Prop := fnCareersUptoRow.holds Try.pinned (OpenSpec.upto fnCareersSpec)

end Rows
end Go.Proofs.Ytmngfcklmikbfaa
