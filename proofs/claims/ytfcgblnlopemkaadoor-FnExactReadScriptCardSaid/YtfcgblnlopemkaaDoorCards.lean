/-
  DERIVED. GIVEN WITH THE SEED: THE CARDS: each row of YtfcgblnlopemkaaDoorRows.lean that lists a variable, with what it lists TIED to the program's text (the seventh form; the later family's looks); each row that meets fmt, with fmt's text TOLD by the authors' own Lean function (tested against real Go, not proved from fmt's source: count such statements apart). THE CARD IS WHAT COUNTS. Prove the row's statement (the work); the ties are given (YtfcgblnlopemkaaDoorTie.lean); close each card by the builder's one call (the guide's Derived/Test/ToyasCard.lean, 'card_holds'). Laid BY PROGRAM, IN A SANDBOX (cutbox-door.mjs). By AI agents, Wed Nov 11 2026. No macro, syntax, notation, axiom, sorry.
-/
import Derived.Test.YtfcgblnlopemkaaDoorRows
import GoSem.ClaimSeven
namespace Go.Proofs.YtfcgblnlopemkaaDoor
namespace Rows

/-- THE TIED CARD OF 'laws.FnExactReadScript'. -/
def fnExactReadScriptCard : Claim7 := { stood := { row := fnExactReadScriptRow, standIns := [], harness := (true, "324ac68c20431f6e7e6c7c12ec56ebac4261f3b3f593376032c01d5047fb2fb7"), looks := false }, kinds := [], alts := [], laidByText := true, laidKinds := [.data, .data, .data, .data, .pinned], laidTests := true, laidLooks := .later }
def FnExactReadScriptCardSaid : Prop := Claim7.holds Tryd.pinned (.plain (OpenSpec.ofChange fnExactReadScriptSpec)) fnExactReadScriptCard

/-- THE SECOND FORM's CARD OF 'laws.FnExactReadScript'. -/
def fnExactReadScriptUptoCard : Claim7 := { stood := { row := fnExactReadScriptUptoRow, standIns := [], harness := (true, "324ac68c20431f6e7e6c7c12ec56ebac4261f3b3f593376032c01d5047fb2fb7"), looks := false }, kinds := [], alts := [], laidByText := true, laidKinds := [.data, .data, .data, .data, .pinned], laidTests := true, laidLooks := .later }
def FnExactReadScriptUptoCardSaid : Prop := Claim7.holds Tryd.pinned (.plain (OpenSpec.upto fnExactReadScriptSpec)) fnExactReadScriptUptoCard
end Rows
end Go.Proofs.YtfcgblnlopemkaaDoor
