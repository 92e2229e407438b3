/-
  No cell of these rows narrows 'for every input' (looked for: loops, veiled, ifaces, maps, wideKeys, modest, calm, conditions, laid).
  DERIVED. THE GIVEN ROWS OF THIS SEAT. 11 by the template 'for every input the law returns true; each argument reads behind the call as it read before'; 0 by the template 'total and deterministic' (their statements: YtpnknljphgkioaaTotals.lean).
  GIVEN WITH THE SEED: the statements are not yours to turn. If you find one false, say at which input.
  Laid BY PROGRAM, IN A SANDBOX (cutbox-rows.mjs): the forced cells as the released guide's own fill.sh prints them over the translation d51dfc623f5af56e… (all of the seat's roots in one cut). By AI agents, Wed Nov 11 2026. No macro, syntax, notation, axiom, sorry.
-/
import Derived.Test.YtpnknljphgkioaaChecked
import GoSem.Claim
import GoSem.ClaimJoined
import GoSem.ClaimMapViews
import Derived.JoinedTies
import Derived.KernelRfl
namespace Go.Proofs.Ytpnknljphgkioaa
/- THE CELL 'sum', in the pinned program and in every row, IS THE sha256 OF THE DUMP (.gsa) THAT YtpnknljphgkioaaProg.lean LOADS. Nothing in Lean hashes anything: it is a label: what it is worth is what the hold of that sum in a sandbox is worth. -/
noncomputable def Try.pinned : Pinned := { name := "ytpnknljphgkioaa", sum := "d51dfc623f5af56eb560e1a7dea49058d3b494d7b09c53501c07b94bce63de79", checked := Try.checked }
namespace Rows
def none {H : Type} : Left H := { results := [], args := [] }

/-- 'laws.FnExactNewDesk': WHATEVER THE INPUT: true; the input reads as it did. -/
def fnExactNewDeskSpec : ChangeSpec := { name := "fnExactNewDesk", fn := fun _ => fun
  | [] => { results := [.lit (.bool true)], args := [] }
  | _ => none }
def fnExactNewDeskRow : OpenClaim := { program := "ytpnknljphgkioaa", sum := "d51dfc623f5af56eb560e1a7dea49058d3b494d7b09c53501c07b94bce63de79", func := "loop.example/g01393/laws.FnExactNewDesk", spec := "fnExactNewDesk", apart := false }
def FnExactNewDeskSaid : Prop := fnExactNewDeskRow.holds Try.pinned (OpenSpec.ofChange fnExactNewDeskSpec)

/-- ITS FALSE NEIGHBOUR: 'it returns false'. Refute it at one input. -/
def fnExactNewDeskWrong : ChangeSpec := { name := "fnExactNewDesk", fn := fun _ => fun
  | [] => { results := [.lit (.bool false)], args := [] }
  | _ => none }
def FnExactNewDeskWrongFalsely : Prop := fnExactNewDeskRow.holds Try.pinned (OpenSpec.ofChange fnExactNewDeskWrong)

/-- 'laws.FnExactFundRate': WHATEVER THE INPUT: true; the input reads as it did. -/
def fnExactFundRateSpec : ChangeSpec := { name := "fnExactFundRate", fn := fun _ => fun
  | [d1, d2, d3, d4, d5] => { results := [.lit (.bool true)], args := [d1, d2, d3, d4, d5] }
  | _ => none }
def fnExactFundRateRow : OpenClaim := { program := "ytpnknljphgkioaa", sum := "d51dfc623f5af56eb560e1a7dea49058d3b494d7b09c53501c07b94bce63de79", func := "loop.example/g01393/laws.FnExactFundRate", spec := "fnExactFundRate", inPlace := ["math.Float64bits", "math.Float64frombits"], unfollowed := true, recurses := true, apart := false }
def FnExactFundRateSaid : Prop := fnExactFundRateRow.holds Try.pinned (OpenSpec.ofChange fnExactFundRateSpec)

/-- ITS FALSE NEIGHBOUR: 'it returns false'. Refute it at one input. -/
def fnExactFundRateWrong : ChangeSpec := { name := "fnExactFundRate", fn := fun _ => fun
  | [d1, d2, d3, d4, d5] => { results := [.lit (.bool false)], args := [d1, d2, d3, d4, d5] }
  | _ => none }
def FnExactFundRateWrongFalsely : Prop := fnExactFundRateRow.holds Try.pinned (OpenSpec.ofChange fnExactFundRateWrong)

/-- 'laws.FnExactSumPeople': WHATEVER THE INPUT: true; the input reads as it did. -/
def fnExactSumPeopleSpec : ChangeSpec := { name := "fnExactSumPeople", fn := fun _ => fun
  | [d1, d2, d3] => { results := [.lit (.bool true)], args := [d1, d2, d3] }
  | _ => none }
def fnExactSumPeopleRow : OpenClaim := { program := "ytpnknljphgkioaa", sum := "d51dfc623f5af56eb560e1a7dea49058d3b494d7b09c53501c07b94bce63de79", func := "loop.example/g01393/laws.FnExactSumPeople", spec := "fnExactSumPeople", inPlace := ["math.Float64bits", "math.Float64frombits"], unfollowed := true, recurses := true, apart := false }
def FnExactSumPeopleSaid : Prop := fnExactSumPeopleRow.holds Try.pinned (OpenSpec.ofChange fnExactSumPeopleSpec)

/-- ITS FALSE NEIGHBOUR: 'it returns false'. Refute it at one input. -/
def fnExactSumPeopleWrong : ChangeSpec := { name := "fnExactSumPeople", fn := fun _ => fun
  | [d1, d2, d3] => { results := [.lit (.bool false)], args := [d1, d2, d3] }
  | _ => none }
def FnExactSumPeopleWrongFalsely : Prop := fnExactSumPeopleRow.holds Try.pinned (OpenSpec.ofChange fnExactSumPeopleWrong)

/-- 'laws.FnDots': WHATEVER THE INPUT: true; the input reads as it did. -/
def fnDotsSpec : ChangeSpec := { name := "fnDots", fn := fun _ => fun
  | [d1, d2] => { results := [.lit (.bool true)], args := [d1, d2] }
  | _ => none }
def fnDotsRow : OpenClaim := { program := "ytpnknljphgkioaa", sum := "d51dfc623f5af56eb560e1a7dea49058d3b494d7b09c53501c07b94bce63de79", func := "loop.example/g01393/laws.FnDots", spec := "fnDots", inPlace := ["math.Float32frombits", "math.Float32bits"], apart := false }
def FnDotsSaid : Prop := fnDotsRow.holds Try.pinned (OpenSpec.ofChange fnDotsSpec)

/-- ITS FALSE NEIGHBOUR: 'it returns false'. Refute it at one input. -/
def fnDotsWrong : ChangeSpec := { name := "fnDots", fn := fun _ => fun
  | [d1, d2] => { results := [.lit (.bool false)], args := [d1, d2] }
  | _ => none }
def FnDotsWrongFalsely : Prop := fnDotsRow.holds Try.pinned (OpenSpec.ofChange fnDotsWrong)

/-- 'laws.FnExactPeopleRate': WHATEVER THE INPUT: true; the input reads as it did. -/
def fnExactPeopleRateSpec : ChangeSpec := { name := "fnExactPeopleRate", fn := fun _ => fun
  | [d1, d2, d3, d4] => { results := [.lit (.bool true)], args := [d1, d2, d3, d4] }
  | _ => none }
def fnExactPeopleRateRow : OpenClaim := { program := "ytpnknljphgkioaa", sum := "d51dfc623f5af56eb560e1a7dea49058d3b494d7b09c53501c07b94bce63de79", func := "loop.example/g01393/laws.FnExactPeopleRate", spec := "fnExactPeopleRate", inPlace := ["math.Float64bits", "math.Float64frombits"], unfollowed := true, recurses := true, apart := false }
def FnExactPeopleRateSaid : Prop := fnExactPeopleRateRow.holds Try.pinned (OpenSpec.ofChange fnExactPeopleRateSpec)

/-- ITS FALSE NEIGHBOUR: 'it returns false'. Refute it at one input. -/
def fnExactPeopleRateWrong : ChangeSpec := { name := "fnExactPeopleRate", fn := fun _ => fun
  | [d1, d2, d3, d4] => { results := [.lit (.bool false)], args := [d1, d2, d3, d4] }
  | _ => none }
def FnExactPeopleRateWrongFalsely : Prop := fnExactPeopleRateRow.holds Try.pinned (OpenSpec.ofChange fnExactPeopleRateWrong)

/-- 'laws.FnExactLifeLeft': WHATEVER THE INPUT: true; the input reads as it did. -/
def fnExactLifeLeftSpec : ChangeSpec := { name := "fnExactLifeLeft", fn := fun _ => fun
  | [d] => { results := [.lit (.bool true)], args := [d] }
  | _ => none }
def fnExactLifeLeftRow : OpenClaim := { program := "ytpnknljphgkioaa", sum := "d51dfc623f5af56eb560e1a7dea49058d3b494d7b09c53501c07b94bce63de79", func := "loop.example/g01393/laws.FnExactLifeLeft", spec := "fnExactLifeLeft", inPlace := ["math.Float64bits", "math.Float64frombits"], unfollowed := true, recurses := true, apart := false }
def FnExactLifeLeftSaid : Prop := fnExactLifeLeftRow.holds Try.pinned (OpenSpec.ofChange fnExactLifeLeftSpec)

/-- ITS FALSE NEIGHBOUR: 'it returns false'. Refute it at one input. -/
def fnExactLifeLeftWrong : ChangeSpec := { name := "fnExactLifeLeft", fn := fun _ => fun
  | [d] => { results := [.lit (.bool false)], args := [d] }
  | _ => none }
def FnExactLifeLeftWrongFalsely : Prop := fnExactLifeLeftRow.holds Try.pinned (OpenSpec.ofChange fnExactLifeLeftWrong)

/-- 'laws.FnExactEntropyOf': WHATEVER THE INPUT: true; the input reads as it did. -/
def fnExactEntropyOfSpec : ChangeSpec := { name := "fnExactEntropyOf", fn := fun _ => fun
  | [d] => { results := [.lit (.bool true)], args := [d] }
  | _ => none }
def fnExactEntropyOfRow : OpenClaim := { program := "ytpnknljphgkioaa", sum := "d51dfc623f5af56eb560e1a7dea49058d3b494d7b09c53501c07b94bce63de79", func := "loop.example/g01393/laws.FnExactEntropyOf", spec := "fnExactEntropyOf", inPlace := ["math.Float64frombits", "math.Float64bits"], unfollowed := true, recurses := true, apart := false }
def FnExactEntropyOfSaid : Prop := fnExactEntropyOfRow.holds Try.pinned (OpenSpec.ofChange fnExactEntropyOfSpec)

/-- ITS FALSE NEIGHBOUR: 'it returns false'. Refute it at one input. -/
def fnExactEntropyOfWrong : ChangeSpec := { name := "fnExactEntropyOf", fn := fun _ => fun
  | [d] => { results := [.lit (.bool false)], args := [d] }
  | _ => none }
def FnExactEntropyOfWrongFalsely : Prop := fnExactEntropyOfRow.holds Try.pinned (OpenSpec.ofChange fnExactEntropyOfWrong)

/-- 'laws.FnExactNextPeople': WHATEVER THE INPUT: true; the input reads as it did. -/
def fnExactNextPeopleSpec : ChangeSpec := { name := "fnExactNextPeople", fn := fun _ => fun
  | [d] => { results := [.lit (.bool true)], args := [d] }
  | _ => none }
def fnExactNextPeopleRow : OpenClaim := { program := "ytpnknljphgkioaa", sum := "d51dfc623f5af56eb560e1a7dea49058d3b494d7b09c53501c07b94bce63de79", func := "loop.example/g01393/laws.FnExactNextPeople", spec := "fnExactNextPeople", inPlace := ["math.Float64bits", "math.Float64frombits"], unfollowed := true, recurses := true, apart := false }
def FnExactNextPeopleSaid : Prop := fnExactNextPeopleRow.holds Try.pinned (OpenSpec.ofChange fnExactNextPeopleSpec)

/-- ITS FALSE NEIGHBOUR: 'it returns false'. Refute it at one input. -/
def fnExactNextPeopleWrong : ChangeSpec := { name := "fnExactNextPeople", fn := fun _ => fun
  | [d] => { results := [.lit (.bool false)], args := [d] }
  | _ => none }
def FnExactNextPeopleWrongFalsely : Prop := fnExactNextPeopleRow.holds Try.pinned (OpenSpec.ofChange fnExactNextPeopleWrong)

/-- 'laws.FnExactRunPeople': WHATEVER THE INPUT: true; the input reads as it did. -/
def fnExactRunPeopleSpec : ChangeSpec := { name := "fnExactRunPeople", fn := fun _ => fun
  | [d1, d2] => { results := [.lit (.bool true)], args := [d1, d2] }
  | _ => none }
def fnExactRunPeopleRow : OpenClaim := { program := "ytpnknljphgkioaa", sum := "d51dfc623f5af56eb560e1a7dea49058d3b494d7b09c53501c07b94bce63de79", func := "loop.example/g01393/laws.FnExactRunPeople", spec := "fnExactRunPeople", inPlace := ["math.Float64bits", "math.Float64frombits"], unfollowed := true, recurses := true, apart := false }
def FnExactRunPeopleSaid : Prop := fnExactRunPeopleRow.holds Try.pinned (OpenSpec.ofChange fnExactRunPeopleSpec)

/-- ITS FALSE NEIGHBOUR: 'it returns false'. Refute it at one input. -/
def fnExactRunPeopleWrong : ChangeSpec := { name := "fnExactRunPeople", fn := fun _ => fun
  | [d1, d2] => { results := [.lit (.bool false)], args := [d1, d2] }
  | _ => none }
def FnExactRunPeopleWrongFalsely : Prop := fnExactRunPeopleRow.holds Try.pinned (OpenSpec.ofChange fnExactRunPeopleWrong)

/-- 'laws.FnExactRakeWeights': WHATEVER THE INPUT: true; the input reads as it did. -/
def fnExactRakeWeightsSpec : ChangeSpec := { name := "fnExactRakeWeights", fn := fun _ => fun
  | [d1, d2, d3, d4, d5, d6] => { results := [.lit (.bool true)], args := [d1, d2, d3, d4, d5, d6] }
  | _ => none }
def fnExactRakeWeightsRow : OpenClaim := { program := "ytpnknljphgkioaa", sum := "d51dfc623f5af56eb560e1a7dea49058d3b494d7b09c53501c07b94bce63de79", func := "loop.example/g01393/laws.FnExactRakeWeights", spec := "fnExactRakeWeights", inPlace := ["math.Float64bits", "math.Float64frombits"], unfollowed := true, recurses := true, apart := false }
def FnExactRakeWeightsSaid : Prop := fnExactRakeWeightsRow.holds Try.pinned (OpenSpec.ofChange fnExactRakeWeightsSpec)

/-- ITS FALSE NEIGHBOUR: 'it returns false'. Refute it at one input. -/
def fnExactRakeWeightsWrong : ChangeSpec := { name := "fnExactRakeWeights", fn := fun _ => fun
  | [d1, d2, d3, d4, d5, d6] => { results := [.lit (.bool false)], args := [d1, d2, d3, d4, d5, d6] }
  | _ => none }
def FnExactRakeWeightsWrongFalsely : Prop := fnExactRakeWeightsRow.holds Try.pinned (OpenSpec.ofChange fnExactRakeWeightsWrong)

/-- 'laws.FnExactGrowthOf': WHATEVER THE INPUT: true; the input reads as it did. -/
def fnExactGrowthOfSpec : ChangeSpec := { name := "fnExactGrowthOf", fn := fun _ => fun
  | [d1, d2] => { results := [.lit (.bool true)], args := [d1, d2] }
  | _ => none }
def fnExactGrowthOfRow : OpenClaim := { program := "ytpnknljphgkioaa", sum := "d51dfc623f5af56eb560e1a7dea49058d3b494d7b09c53501c07b94bce63de79", func := "loop.example/g01393/laws.FnExactGrowthOf", spec := "fnExactGrowthOf", inPlace := ["math.Float64bits", "math.Float64frombits"], unfollowed := true, recurses := true, apart := false }
def FnExactGrowthOfSaid : Prop := fnExactGrowthOfRow.holds Try.pinned (OpenSpec.ofChange fnExactGrowthOfSpec)

/-- ITS FALSE NEIGHBOUR: 'it returns false'. Refute it at one input. -/
def fnExactGrowthOfWrong : ChangeSpec := { name := "fnExactGrowthOf", fn := fun _ => fun
  | [d1, d2] => { results := [.lit (.bool false)], args := [d1, d2] }
  | _ => none }
def FnExactGrowthOfWrongFalsely : Prop := fnExactGrowthOfRow.holds Try.pinned (OpenSpec.ofChange fnExactGrowthOfWrong)

/- THE SECOND FORM. 'bulk': how many values and letters a reading holds, each counted each time it is reached (what is shared counts as often as it is met; a slice's spare places count too). A statement '..UptoSaid' is the law's where the arguments, and the package variables that the reading takes, are together of bulk at most 1048576: NARROWER than '..Said'. Prove '..Said' where nothing that the law and all that it calls make is longer than what came in: it says more and counts as full. Else prove '..UptoSaid'. A law counts once. -/
mutual
def uptoBulk {H : Type} : DataW H → Nat
  | .lit (.string bytes) => bytes.length + 1
  | .lit _ => 1
  | .nil => 1
  | .ptr d => uptoBulk d + 1
  | .slice elems spare => uptoBulkAll elems + uptoBulkAll spare + 1
  | .agg parts => uptoBulkAll parts + 1
  | .iface _ d => uptoBulk d + 1
  | .map entries => uptoBulkEntries entries + 1
  | .held _ => 1
def uptoBulkAll {H : Type} : List (DataW H) → Nat
  | [] => 0
  | d :: r => uptoBulk d + uptoBulkAll r
def uptoBulkEntries {H : Type} : List (Lit × DataW H) → Nat
  | [] => 0
  | x :: r => uptoBulkEntry x + uptoBulkEntries r
def uptoBulkEntry {H : Type} : Lit × DataW H → Nat
  | (.string bytes, d) => bytes.length + uptoBulk d + 1
  | (_, d) => uptoBulk d + 1
 end
def uptoSmall : (H : Type) → List (DataW H) → Bool := fun _ ds => decide (uptoBulkAll ds ≤ 1048576)
def OpenSpec.upto (s : _root_.Go.ChangeSpec) : _root_.Go.OpenSpec := { _root_.Go.OpenSpec.ofChange s with cond := some uptoSmall }

/-- 'laws.FnExactNewDesk', WHERE WHAT IT READS IS OF BULK AT MOST 1048576: true; the input reads as it did. -/
def fnExactNewDeskUptoRow : OpenClaim := { program := "ytpnknljphgkioaa", sum := "d51dfc623f5af56eb560e1a7dea49058d3b494d7b09c53501c07b94bce63de79", func := "loop.example/g01393/laws.FnExactNewDesk", spec := "fnExactNewDesk", apart := false, narrowed := true }
def FnExactNewDeskUptoSaid : Prop := fnExactNewDeskUptoRow.holds Try.pinned (OpenSpec.upto fnExactNewDeskSpec)

/-- 'laws.FnExactFundRate', WHERE WHAT IT READS IS OF BULK AT MOST 1048576: true; the input reads as it did. -/
def fnExactFundRateUptoRow : OpenClaim := { program := "ytpnknljphgkioaa", sum := "d51dfc623f5af56eb560e1a7dea49058d3b494d7b09c53501c07b94bce63de79", func := "loop.example/g01393/laws.FnExactFundRate", spec := "fnExactFundRate", inPlace := ["math.Float64bits", "math.Float64frombits"], unfollowed := true, recurses := true, apart := false, narrowed := true }
def FnExactFundRateUptoSaid : Prop := fnExactFundRateUptoRow.holds Try.pinned (OpenSpec.upto fnExactFundRateSpec)

/-- 'laws.FnExactSumPeople', WHERE WHAT IT READS IS OF BULK AT MOST 1048576: true; the input reads as it did. -/
def fnExactSumPeopleUptoRow : OpenClaim := { program := "ytpnknljphgkioaa", sum := "d51dfc623f5af56eb560e1a7dea49058d3b494d7b09c53501c07b94bce63de79", func := "loop.example/g01393/laws.FnExactSumPeople", spec := "fnExactSumPeople", inPlace := ["math.Float64bits", "math.Float64frombits"], unfollowed := true, recurses := true, apart := false, narrowed := true }
def FnExactSumPeopleUptoSaid : Prop := fnExactSumPeopleUptoRow.holds Try.pinned (OpenSpec.upto fnExactSumPeopleSpec)

/-- 'laws.FnDots', WHERE WHAT IT READS IS OF BULK AT MOST 1048576: true; the input reads as it did. -/
def fnDotsUptoRow : OpenClaim := { program := "ytpnknljphgkioaa", sum := "d51dfc623f5af56eb560e1a7dea49058d3b494d7b09c53501c07b94bce63de79", func := "loop.example/g01393/laws.FnDots", spec := "fnDots", inPlace := ["math.Float32frombits", "math.Float32bits"], apart := false, narrowed := true }
def FnDotsUptoSaid : Prop := fnDotsUptoRow.holds Try.pinned (OpenSpec.upto fnDotsSpec)

/-- 'laws.FnExactPeopleRate', WHERE WHAT IT READS IS OF BULK AT MOST 1048576: true; the input reads as it did. -/
def fnExactPeopleRateUptoRow : OpenClaim := { program := "ytpnknljphgkioaa", sum := "d51dfc623f5af56eb560e1a7dea49058d3b494d7b09c53501c07b94bce63de79", func := "loop.example/g01393/laws.FnExactPeopleRate", spec := "fnExactPeopleRate", inPlace := ["math.Float64bits", "math.Float64frombits"], unfollowed := true, recurses := true, apart := false, narrowed := true }
def FnExactPeopleRateUptoSaid : Prop := fnExactPeopleRateUptoRow.holds Try.pinned (OpenSpec.upto fnExactPeopleRateSpec)

/-- 'laws.FnExactLifeLeft', WHERE WHAT IT READS IS OF BULK AT MOST 1048576: true; the input reads as it did. -/
def fnExactLifeLeftUptoRow : OpenClaim := { program := "ytpnknljphgkioaa", sum := "d51dfc623f5af56eb560e1a7dea49058d3b494d7b09c53501c07b94bce63de79", func := "loop.example/g01393/laws.FnExactLifeLeft", spec := "fnExactLifeLeft", inPlace := ["math.Float64bits", "math.Float64frombits"], unfollowed := true, recurses := true, apart := false, narrowed := true }
def FnExactLifeLeftUptoSaid : Prop := fnExactLifeLeftUptoRow.holds Try.pinned (OpenSpec.upto fnExactLifeLeftSpec)

/-- 'laws.FnExactEntropyOf', WHERE WHAT IT READS IS OF BULK AT MOST 1048576: true; the input reads as it did. -/
def fnExactEntropyOfUptoRow : OpenClaim := { program := "ytpnknljphgkioaa", sum := "d51dfc623f5af56eb560e1a7dea49058d3b494d7b09c53501c07b94bce63de79", func := "loop.example/g01393/laws.FnExactEntropyOf", spec := "fnExactEntropyOf", inPlace := ["math.Float64frombits", "math.Float64bits"], unfollowed := true, recurses := true, apart := false, narrowed := true }
def FnExactEntropyOfUptoSaid : Prop := fnExactEntropyOfUptoRow.holds Try.pinned (OpenSpec.upto fnExactEntropyOfSpec)

/-- 'laws.FnExactNextPeople', WHERE WHAT IT READS IS OF BULK AT MOST 1048576: true; the input reads as it did. -/
def fnExactNextPeopleUptoRow : OpenClaim := { program := "ytpnknljphgkioaa", sum := "d51dfc623f5af56eb560e1a7dea49058d3b494d7b09c53501c07b94bce63de79", func := "loop.example/g01393/laws.FnExactNextPeople", spec := "fnExactNextPeople", inPlace := ["math.Float64bits", "math.Float64frombits"], unfollowed := true, recurses := true, apart := false, narrowed := true }
def FnExactNextPeopleUptoSaid : Prop := fnExactNextPeopleUptoRow.holds Try.pinned (OpenSpec.upto fnExactNextPeopleSpec)

/-- 'laws.FnExactRunPeople', WHERE WHAT IT READS IS OF BULK AT MOST 1048576: true; the input reads as it did. -/
def fnExactRunPeopleUptoRow : OpenClaim := { program := "ytpnknljphgkioaa", sum := "d51dfc623f5af56eb560e1a7dea49058d3b494d7b09c53501c07b94bce63de79", func := "loop.example/g01393/laws.FnExactRunPeople", spec := "fnExactRunPeople", inPlace := ["math.Float64bits", "math.Float64frombits"], unfollowed := true, recurses := true, apart := false, narrowed := true }
def FnExactRunPeopleUptoSaid : Prop := fnExactRunPeopleUptoRow.holds Try.pinned (OpenSpec.upto fnExactRunPeopleSpec)

/-- 'laws.FnExactRakeWeights', WHERE WHAT IT READS IS OF BULK AT MOST 1048576: true; the input reads as it did. -/
def fnExactRakeWeightsUptoRow : OpenClaim := { program := "ytpnknljphgkioaa", sum := "d51dfc623f5af56eb560e1a7dea49058d3b494d7b09c53501c07b94bce63de79", func := "loop.example/g01393/laws.FnExactRakeWeights", spec := "fnExactRakeWeights", inPlace := ["math.Float64bits", "math.Float64frombits"], unfollowed := true, recurses := true, apart := false, narrowed := true }
def FnExactRakeWeightsUptoSaid : Prop := fnExactRakeWeightsUptoRow.holds Try.pinned (OpenSpec.upto fnExactRakeWeightsSpec)

/-- 'laws.FnExactGrowthOf', WHERE WHAT IT READS IS OF BULK AT MOST 1048576: true; the input reads as it did. -/
def fnExactGrowthOfUptoRow : OpenClaim := { program := "ytpnknljphgkioaa", sum := "d51dfc623f5af56eb560e1a7dea49058d3b494d7b09c53501c07b94bce63de79", func := "loop.example/g01393/laws.FnExactGrowthOf", spec := "fnExactGrowthOf", inPlace := ["math.Float64bits", "math.Float64frombits"], unfollowed := true, recurses := true, apart := false, narrowed := true }
def FnExactGrowthOfUptoSaid : Prop := fnExactGrowthOfUptoRow.holds Try.pinned (OpenSpec.upto fnExactGrowthOfSpec)

end Rows
end Go.Proofs.Ytpnknljphgkioaa
