/-
  DERIVED. GIVEN WITH THE SEED: THE CARDS: each row of YtigipcckflcilaaDoorRows.lean that lists a variable, with what it lists TIED to the program's text (the seventh form; the later family's looks); each row that meets fmt, with fmt's text TOLD by the authors' own Lean function (tested against real Go, not proved from fmt's source: count such statements apart). THE CARD IS WHAT COUNTS. Prove the row's statement (the work); the ties are given (YtigipcckflcilaaDoorTie.lean); close each card by the builder's one call (the guide's Derived/Test/ToyasCard.lean, 'card_holds'). Laid BY PROGRAM, IN A SANDBOX (cutbox-door.mjs). By AI agents, Wed Nov 11 2026. No macro, syntax, notation, axiom, sorry.
-/
import Derived.Test.YtigipcckflcilaaDoorRows
import GoSem.ClaimSeven
namespace Go.Proofs.YtigipcckflcilaaDoor
namespace Rows

/-- THE TIED CARD OF 'laws.FnExactReadScale'. -/
def fnExactReadScaleCard : Claim7 := { stood := { row := fnExactReadScaleRow, standIns := [], harness := (true, "c68a2b627e91db369fd75a25a95067a97ffc7e15bbec7b1811630522f2c03cf3"), looks := true }, kinds := [], alts := [], laidByText := true, laidKinds := [.data, .data, .data, .data, .sentinel, .sentinel, .pinned], laidTests := true, laidLooks := .later }
def FnExactReadScaleCardSaid : Prop := Claim7.holds Tryd.pinned (.plain (OpenSpec.ofChange fnExactReadScaleSpec)) fnExactReadScaleCard

/-- THE SECOND FORM's CARD OF 'laws.FnExactReadScale'. -/
def fnExactReadScaleUptoCard : Claim7 := { stood := { row := fnExactReadScaleUptoRow, standIns := [], harness := (true, "c68a2b627e91db369fd75a25a95067a97ffc7e15bbec7b1811630522f2c03cf3"), looks := true }, kinds := [], alts := [], laidByText := true, laidKinds := [.data, .data, .data, .data, .sentinel, .sentinel, .pinned], laidTests := true, laidLooks := .later }
def FnExactReadScaleUptoCardSaid : Prop := Claim7.holds Tryd.pinned (.plain (OpenSpec.upto fnExactReadScaleSpec)) fnExactReadScaleUptoCard
end Rows
end Go.Proofs.YtigipcckflcilaaDoor
