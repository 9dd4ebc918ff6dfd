/-
  DERIVED. GIVEN WITH THE SEED: THE CARDS: each row of YtfcgblnlopemkaaGreatDoorRows.lean that lists a variable, with what it lists TIED to the program's text (the seventh form; the later family's looks); each row that meets fmt, with fmt's text TOLD by the authors' own Lean function (tested against real Go, not proved from fmt's source: count such statements apart). THE CARD IS WHAT COUNTS. Prove the row's statement (the work); the ties are given (YtfcgblnlopemkaaGreatDoorTie.lean); close each card by the builder's one call (the guide's Derived/Test/ToyasCard.lean, 'card_holds'). Laid BY PROGRAM, IN A SANDBOX (cutbox-door.mjs). By AI agents, Wed Nov 11 2026. No macro, syntax, notation, axiom, sorry.
-/
import Derived.Test.YtfcgblnlopemkaaGreatDoorRows
import GoSem.ClaimSeven
namespace Go.Proofs.YtfcgblnlopemkaaGreatDoor
namespace Rows

/-- THE TIED CARD OF 'laws.FnExactConsole'. -/
def fnExactConsoleCard : Claim7 := { stood := { row := fnExactConsoleRow, standIns := [], harness := (true, "ef6acf5d7b8bbffbcb39b7c87e0acaa4bb2dabeae45871b7ab6490e611698ee4"), looks := false }, kinds := [], alts := [], laidByText := true, laidKinds := [.data, .data, .data, .data, .pinned], laidTests := true, laidLooks := .later }
def FnExactConsoleCardSaid : Prop := Claim7.holds Tryz.pinned (.plain (OpenSpec.ofChange fnExactConsoleSpec)) fnExactConsoleCard

/-- THE TIED CARD OF 'laws.FnScript'. -/
def fnScriptCard : Claim7 := { stood := { row := fnScriptRow, standIns := [], harness := (true, "ef6acf5d7b8bbffbcb39b7c87e0acaa4bb2dabeae45871b7ab6490e611698ee4"), looks := false }, kinds := [], alts := [], laidByText := true, laidKinds := [.data, .data, .data, .data, .pinned], laidTests := true, laidLooks := .later }
def FnScriptCardSaid : Prop := Claim7.holds Tryz.pinned (.plain (OpenSpec.ofChange fnScriptSpec)) fnScriptCard

/-- THE SECOND FORM's CARD OF 'laws.FnExactConsole'. -/
def fnExactConsoleUptoCard : Claim7 := { stood := { row := fnExactConsoleUptoRow, standIns := [], harness := (true, "ef6acf5d7b8bbffbcb39b7c87e0acaa4bb2dabeae45871b7ab6490e611698ee4"), looks := false }, kinds := [], alts := [], laidByText := true, laidKinds := [.data, .data, .data, .data, .pinned], laidTests := true, laidLooks := .later }
def FnExactConsoleUptoCardSaid : Prop := Claim7.holds Tryz.pinned (.plain (OpenSpec.upto fnExactConsoleSpec)) fnExactConsoleUptoCard

/-- THE SECOND FORM's CARD OF 'laws.FnScript'. -/
def fnScriptUptoCard : Claim7 := { stood := { row := fnScriptUptoRow, standIns := [], harness := (true, "ef6acf5d7b8bbffbcb39b7c87e0acaa4bb2dabeae45871b7ab6490e611698ee4"), looks := false }, kinds := [], alts := [], laidByText := true, laidKinds := [.data, .data, .data, .data, .pinned], laidTests := true, laidLooks := .later }
def FnScriptUptoCardSaid : Prop := Claim7.holds Tryz.pinned (.plain (OpenSpec.upto fnScriptSpec)) fnScriptUptoCard
end Rows
end Go.Proofs.YtfcgblnlopemkaaGreatDoor
