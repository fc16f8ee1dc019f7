/-
  DERIVED. GIVEN WITH THE SEED: THE CARDS: each row of YtmdablalfmcgnaaDoorRows.lean that lists a variable, with what it lists TIED to the program's text (the seventh form; the later family's looks); each row that meets fmt, with fmt's text TOLD by the authors' own Lean function (tested against real Go, not proved from fmt's source: count such statements apart). THE CARD IS WHAT COUNTS. Prove the row's statement (the work); the ties are given (YtmdablalfmcgnaaDoorTie.lean); close each card by the builder's one call (the guide's Derived/Test/ToyasCard.lean, 'card_holds'). Laid BY PROGRAM, IN A SANDBOX (cutbox-door.mjs). By AI agents, Wed Nov 11 2026. No macro, syntax, notation, axiom, sorry.
-/
import Derived.Test.YtmdablalfmcgnaaDoorRows
import GoSem.ClaimSeven
namespace Go.Proofs.YtmdablalfmcgnaaDoor
namespace Rows

/-- THE TIED CARD OF 'laws.FnExactSwingsOf'. -/
def fnExactSwingsOfCard : Claim7 := { stood := { row := fnExactSwingsOfRow, standIns := [], harness := (true, "20eabfe61a68a357b8f5a8e9ca3aa155e3f0c49a2149f607508e869b1c42c402"), looks := false }, kinds := [], alts := [], laidByText := true, laidKinds := [.data], laidTests := true, laidLooks := .later }
def FnExactSwingsOfCardSaid : Prop := Claim7.holds Tryd.pinned (.plain (OpenSpec.ofChange fnExactSwingsOfSpec)) fnExactSwingsOfCard

/-- THE TIED CARD OF 'laws.FnExactSaveLedger'. -/
def fnExactSaveLedgerCard : Claim7 := { stood := { row := fnExactSaveLedgerRow, standIns := [], harness := (true, "20eabfe61a68a357b8f5a8e9ca3aa155e3f0c49a2149f607508e869b1c42c402"), looks := false }, kinds := [], alts := [], laidByText := true, laidKinds := [.data, .data, .data], laidTests := true, laidLooks := .later }
def FnExactSaveLedgerCardSaid : Prop := Claim7.holds Tryd.pinned (.plain (OpenSpec.ofChange fnExactSaveLedgerSpec)) fnExactSaveLedgerCard

/-- THE TIED CARD OF 'laws.FnChanges'. -/
def fnChangesCard : Claim7 := { stood := { row := fnChangesRow, standIns := [], harness := (true, "20eabfe61a68a357b8f5a8e9ca3aa155e3f0c49a2149f607508e869b1c42c402"), looks := false }, kinds := [], alts := [], laidByText := true, laidKinds := [.data, .pinned], laidTests := true, laidLooks := .later }
def FnChangesCardSaid : Prop := Claim7.holds Tryd.pinned (.plain (OpenSpec.ofChange fnChangesSpec)) fnChangesCard

/-- THE SECOND FORM's CARD OF 'laws.FnExactSwingsOf'. -/
def fnExactSwingsOfUptoCard : Claim7 := { stood := { row := fnExactSwingsOfUptoRow, standIns := [], harness := (true, "20eabfe61a68a357b8f5a8e9ca3aa155e3f0c49a2149f607508e869b1c42c402"), looks := false }, kinds := [], alts := [], laidByText := true, laidKinds := [.data], laidTests := true, laidLooks := .later }
def FnExactSwingsOfUptoCardSaid : Prop := Claim7.holds Tryd.pinned (.plain (OpenSpec.upto fnExactSwingsOfSpec)) fnExactSwingsOfUptoCard

/-- THE SECOND FORM's CARD OF 'laws.FnExactSaveLedger'. -/
def fnExactSaveLedgerUptoCard : Claim7 := { stood := { row := fnExactSaveLedgerUptoRow, standIns := [], harness := (true, "20eabfe61a68a357b8f5a8e9ca3aa155e3f0c49a2149f607508e869b1c42c402"), looks := false }, kinds := [], alts := [], laidByText := true, laidKinds := [.data, .data, .data], laidTests := true, laidLooks := .later }
def FnExactSaveLedgerUptoCardSaid : Prop := Claim7.holds Tryd.pinned (.plain (OpenSpec.upto fnExactSaveLedgerSpec)) fnExactSaveLedgerUptoCard

/-- THE SECOND FORM's CARD OF 'laws.FnChanges'. -/
def fnChangesUptoCard : Claim7 := { stood := { row := fnChangesUptoRow, standIns := [], harness := (true, "20eabfe61a68a357b8f5a8e9ca3aa155e3f0c49a2149f607508e869b1c42c402"), looks := false }, kinds := [], alts := [], laidByText := true, laidKinds := [.data, .pinned], laidTests := true, laidLooks := .later }
def FnChangesUptoCardSaid : Prop := Claim7.holds Tryd.pinned (.plain (OpenSpec.upto fnChangesSpec)) fnChangesUptoCard
end Rows
end Go.Proofs.YtmdablalfmcgnaaDoor
