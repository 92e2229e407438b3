/-
  DERIVED. GIVEN WITH THE SEED: THE CARDS: each row of YtdopcmefegknbaaDoorRows.lean that lists a variable, with what it lists TIED to the program's text (the seventh form; the later family's looks); each row that meets fmt, with fmt's text TOLD by the authors' own Lean function (tested against real Go, not proved from fmt's source: count such statements apart). THE CARD IS WHAT COUNTS. Prove the row's statement (the work); the ties are given (YtdopcmefegknbaaDoorTie.lean); close each card by the builder's one call (the guide's Derived/Test/ToyasCard.lean, 'card_holds'). Laid BY PROGRAM, IN A SANDBOX (cutbox-door.mjs). By AI agents, Wed Nov 11 2026. No macro, syntax, notation, axiom, sorry.
-/
import Derived.Test.YtdopcmefegknbaaDoorRows
import GoSem.ClaimSeven
namespace Go.Proofs.YtdopcmefegknbaaDoor
namespace Rows

/-- THE TIED CARD OF 'laws.FnExactStoreSaved'. -/
def fnExactStoreSavedCard : Claim7 := { stood := { row := fnExactStoreSavedRow, standIns := [], harness := (true, "a7a4dd0521a9454d9a12016c80a9376b426b1fe4425dc481ed7b83e90fb7e97c"), looks := false }, kinds := [], alts := [], laidByText := true, laidKinds := [.data, .data, .data], laidTests := true, laidLooks := .later }
def FnExactStoreSavedCardSaid : Prop := Claim7.holds Tryd.pinned (.plain (OpenSpec.ofChange fnExactStoreSavedSpec)) fnExactStoreSavedCard

/-- THE TIED CARD OF 'laws.FnExactStoreAll'. -/
def fnExactStoreAllCard : Claim7 := { stood := { row := fnExactStoreAllRow, standIns := [], harness := (true, "a7a4dd0521a9454d9a12016c80a9376b426b1fe4425dc481ed7b83e90fb7e97c"), looks := false }, kinds := [], alts := [], laidByText := true, laidKinds := [.data, .data, .data], laidTests := true, laidLooks := .later }
def FnExactStoreAllCardSaid : Prop := Claim7.holds Tryd.pinned (.plain (OpenSpec.ofChange fnExactStoreAllSpec)) fnExactStoreAllCard

/-- THE SECOND FORM's CARD OF 'laws.FnExactStoreSaved'. -/
def fnExactStoreSavedUptoCard : Claim7 := { stood := { row := fnExactStoreSavedUptoRow, standIns := [], harness := (true, "a7a4dd0521a9454d9a12016c80a9376b426b1fe4425dc481ed7b83e90fb7e97c"), looks := false }, kinds := [], alts := [], laidByText := true, laidKinds := [.data, .data, .data], laidTests := true, laidLooks := .later }
def FnExactStoreSavedUptoCardSaid : Prop := Claim7.holds Tryd.pinned (.plain (OpenSpec.upto fnExactStoreSavedSpec)) fnExactStoreSavedUptoCard

/-- THE SECOND FORM's CARD OF 'laws.FnExactStoreAll'. -/
def fnExactStoreAllUptoCard : Claim7 := { stood := { row := fnExactStoreAllUptoRow, standIns := [], harness := (true, "a7a4dd0521a9454d9a12016c80a9376b426b1fe4425dc481ed7b83e90fb7e97c"), looks := false }, kinds := [], alts := [], laidByText := true, laidKinds := [.data, .data, .data], laidTests := true, laidLooks := .later }
def FnExactStoreAllUptoCardSaid : Prop := Claim7.holds Tryd.pinned (.plain (OpenSpec.upto fnExactStoreAllSpec)) fnExactStoreAllUptoCard
end Rows
end Go.Proofs.YtdopcmefegknbaaDoor
