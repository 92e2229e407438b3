/-
  DERIVED. GIVEN WITH THE SEED: THE CARDS: each row of YtigipcckflcilaaGreatDoorRows.lean that lists a variable, with what it lists TIED to the program's text (the seventh form; the later family's looks); each row that meets fmt, with fmt's text TOLD by the authors' own Lean function (tested against real Go, not proved from fmt's source: count such statements apart). THE CARD IS WHAT COUNTS. Prove the row's statement (the work); the ties are given (YtigipcckflcilaaGreatDoorTie.lean); close each card by the builder's one call (the guide's Derived/Test/ToyasCard.lean, 'card_holds'). Laid BY PROGRAM, IN A SANDBOX (cutbox-door.mjs). By AI agents, Wed Nov 11 2026. No macro, syntax, notation, axiom, sorry.
-/
import Derived.Test.YtigipcckflcilaaGreatDoorRows
import GoSem.ClaimSeven
namespace Go.Proofs.YtigipcckflcilaaGreatDoor
namespace Rows

/-- THE TIED CARD OF 'laws.FnSavedDues'. -/
def fnSavedDuesCard : Claim7 := { stood := { row := fnSavedDuesRow, standIns := [], harness := (true, "81f1bd251c88071e3638e87920d526ab92248277dbc910cd5549a530631c3e23"), looks := true }, kinds := [], alts := [], laidByText := true, laidKinds := [.data, .data, .data, .data, .sentinel, .sentinel, .pinned], laidTests := true, laidLooks := .later }
def FnSavedDuesCardSaid : Prop := Claim7.holds Tryz.pinned (.plain (OpenSpec.ofChange fnSavedDuesSpec)) fnSavedDuesCard

/-- THE TIED CARD OF 'laws.FnRuleTexts'. -/
def fnRuleTextsCard : Claim7 := { stood := { row := fnRuleTextsRow, standIns := [], harness := (true, "81f1bd251c88071e3638e87920d526ab92248277dbc910cd5549a530631c3e23"), looks := true }, kinds := [], alts := [], laidByText := true, laidKinds := [.data, .data, .data, .data, .sentinel, .sentinel, .pinned], laidTests := true, laidLooks := .later }
def FnRuleTextsCardSaid : Prop := Claim7.holds Tryz.pinned (.plain (OpenSpec.ofChange fnRuleTextsSpec)) fnRuleTextsCard

/-- THE TIED CARD OF 'laws.FnExactLoadSaved'. -/
def fnExactLoadSavedCard : Claim7 := { stood := { row := fnExactLoadSavedRow, standIns := [], harness := (true, "81f1bd251c88071e3638e87920d526ab92248277dbc910cd5549a530631c3e23"), looks := true }, kinds := [], alts := [], laidByText := true, laidKinds := [.data, .data, .data, .data, .sentinel, .sentinel, .pinned], laidTests := true, laidLooks := .later }
def FnExactLoadSavedCardSaid : Prop := Claim7.holds Tryz.pinned (.plain (OpenSpec.ofChange fnExactLoadSavedSpec)) fnExactLoadSavedCard

/-- THE TIED CARD OF 'laws.FnExactRecoverAll'. -/
def fnExactRecoverAllCard : Claim7 := { stood := { row := fnExactRecoverAllRow, standIns := [], harness := (true, "81f1bd251c88071e3638e87920d526ab92248277dbc910cd5549a530631c3e23"), looks := true }, kinds := [], alts := [], laidByText := true, laidKinds := [.data, .data, .data, .data, .sentinel, .sentinel, .pinned], laidTests := true, laidLooks := .later }
def FnExactRecoverAllCardSaid : Prop := Claim7.holds Tryz.pinned (.plain (OpenSpec.ofChange fnExactRecoverAllSpec)) fnExactRecoverAllCard

/-- THE SECOND FORM's CARD OF 'laws.FnSavedDues'. -/
def fnSavedDuesUptoCard : Claim7 := { stood := { row := fnSavedDuesUptoRow, standIns := [], harness := (true, "81f1bd251c88071e3638e87920d526ab92248277dbc910cd5549a530631c3e23"), looks := true }, kinds := [], alts := [], laidByText := true, laidKinds := [.data, .data, .data, .data, .sentinel, .sentinel, .pinned], laidTests := true, laidLooks := .later }
def FnSavedDuesUptoCardSaid : Prop := Claim7.holds Tryz.pinned (.plain (OpenSpec.upto fnSavedDuesSpec)) fnSavedDuesUptoCard

/-- THE SECOND FORM's CARD OF 'laws.FnRuleTexts'. -/
def fnRuleTextsUptoCard : Claim7 := { stood := { row := fnRuleTextsUptoRow, standIns := [], harness := (true, "81f1bd251c88071e3638e87920d526ab92248277dbc910cd5549a530631c3e23"), looks := true }, kinds := [], alts := [], laidByText := true, laidKinds := [.data, .data, .data, .data, .sentinel, .sentinel, .pinned], laidTests := true, laidLooks := .later }
def FnRuleTextsUptoCardSaid : Prop := Claim7.holds Tryz.pinned (.plain (OpenSpec.upto fnRuleTextsSpec)) fnRuleTextsUptoCard

/-- THE SECOND FORM's CARD OF 'laws.FnExactLoadSaved'. -/
def fnExactLoadSavedUptoCard : Claim7 := { stood := { row := fnExactLoadSavedUptoRow, standIns := [], harness := (true, "81f1bd251c88071e3638e87920d526ab92248277dbc910cd5549a530631c3e23"), looks := true }, kinds := [], alts := [], laidByText := true, laidKinds := [.data, .data, .data, .data, .sentinel, .sentinel, .pinned], laidTests := true, laidLooks := .later }
def FnExactLoadSavedUptoCardSaid : Prop := Claim7.holds Tryz.pinned (.plain (OpenSpec.upto fnExactLoadSavedSpec)) fnExactLoadSavedUptoCard

/-- THE SECOND FORM's CARD OF 'laws.FnExactRecoverAll'. -/
def fnExactRecoverAllUptoCard : Claim7 := { stood := { row := fnExactRecoverAllUptoRow, standIns := [], harness := (true, "81f1bd251c88071e3638e87920d526ab92248277dbc910cd5549a530631c3e23"), looks := true }, kinds := [], alts := [], laidByText := true, laidKinds := [.data, .data, .data, .data, .sentinel, .sentinel, .pinned], laidTests := true, laidLooks := .later }
def FnExactRecoverAllUptoCardSaid : Prop := Claim7.holds Tryz.pinned (.plain (OpenSpec.upto fnExactRecoverAllSpec)) fnExactRecoverAllUptoCard
end Rows
end Go.Proofs.YtigipcckflcilaaGreatDoor
