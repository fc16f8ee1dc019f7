/-
  DERIVED. GIVEN WITH THE SEED: THE CARDS: each row of YteckngloamnfdaaGreatDoorRows.lean that lists a variable, with what it lists TIED to the program's text (the seventh form; the later family's looks); each row that meets fmt, with fmt's text TOLD by the authors' own Lean function (tested against real Go, not proved from fmt's source: count such statements apart). THE CARD IS WHAT COUNTS. Prove the row's statement (the work); the ties are given (YteckngloamnfdaaGreatDoorTie.lean); close each card by the builder's one call (the guide's Derived/Test/ToyasCard.lean, 'card_holds'). Laid BY PROGRAM, IN A SANDBOX (cutbox-door.mjs). By AI agents, Wed Nov 11 2026. No macro, syntax, notation, axiom, sorry.
-/
import Derived.Test.YteckngloamnfdaaGreatDoorRows
import GoSem.ClaimSeven
namespace Go.Proofs.YteckngloamnfdaaGreatDoor
namespace Rows

/-- THE TIED CARD OF 'laws.FnExactDeskReport'. -/
def fnExactDeskReportCard : Claim7 := { stood := { row := fnExactDeskReportRow, standIns := [], harness := (true, "3a4c1285bcd9a152471196397c1a6a60dbee9d4d678e120bbfbdbb90418d4c8a"), looks := false }, kinds := [], alts := [], laidByText := true, laidKinds := [.data, .data, .data, .data], laidTests := true, laidLooks := .later }
def FnExactDeskReportCardSaid : Prop := Claim7.holds Tryz.pinned (.plain (OpenSpec.ofChange fnExactDeskReportSpec)) fnExactDeskReportCard

/-- THE SECOND FORM's CARD OF 'laws.FnExactDeskReport'. -/
def fnExactDeskReportUptoCard : Claim7 := { stood := { row := fnExactDeskReportUptoRow, standIns := [], harness := (true, "3a4c1285bcd9a152471196397c1a6a60dbee9d4d678e120bbfbdbb90418d4c8a"), looks := false }, kinds := [], alts := [], laidByText := true, laidKinds := [.data, .data, .data, .data], laidTests := true, laidLooks := .later }
def FnExactDeskReportUptoCardSaid : Prop := Claim7.holds Tryz.pinned (.plain (OpenSpec.upto fnExactDeskReportSpec)) fnExactDeskReportUptoCard
end Rows
end Go.Proofs.YteckngloamnfdaaGreatDoor
