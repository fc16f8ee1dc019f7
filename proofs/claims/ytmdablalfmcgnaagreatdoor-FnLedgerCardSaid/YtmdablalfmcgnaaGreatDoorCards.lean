/-
  DERIVED. GIVEN WITH THE SEED: THE CARDS: each row of YtmdablalfmcgnaaGreatDoorRows.lean that lists a variable, with what it lists TIED to the program's text (the seventh form; the later family's looks); each row that meets fmt, with fmt's text TOLD by the authors' own Lean function (tested against real Go, not proved from fmt's source: count such statements apart). THE CARD IS WHAT COUNTS. Prove the row's statement (the work); the ties are given (YtmdablalfmcgnaaGreatDoorTie.lean); close each card by the builder's one call (the guide's Derived/Test/ToyasCard.lean, 'card_holds'). Laid BY PROGRAM, IN A SANDBOX (cutbox-door.mjs). By AI agents, Wed Nov 11 2026. No macro, syntax, notation, axiom, sorry.
-/
import Derived.Test.YtmdablalfmcgnaaGreatDoorRows
import GoSem.ClaimSeven
namespace Go.Proofs.YtmdablalfmcgnaaGreatDoor
namespace Rows

/-- THE TIED CARD OF 'laws.FnLedger'. -/
def fnLedgerCard : Claim7 := { stood := { row := fnLedgerRow, standIns := [], harness := (true, "740d05c34a55139120266a2a72729d26a9f71d83d6cacf9e2e5d98dc8f1064b1"), looks := true }, kinds := [], alts := [], laidByText := true, laidKinds := [.data, .data, .data, .data, .sentinel, .sentinel, .pinned], laidTests := true, laidLooks := .later }
def FnLedgerCardSaid : Prop := Claim7.holds Tryz.pinned (.plain (OpenSpec.ofChange fnLedgerSpec)) fnLedgerCard

/-- THE TIED CARD OF 'laws.FnDamage'. -/
def fnDamageCard : Claim7 := { stood := { row := fnDamageRow, standIns := [], harness := (true, "740d05c34a55139120266a2a72729d26a9f71d83d6cacf9e2e5d98dc8f1064b1"), looks := true }, kinds := [], alts := [], laidByText := true, laidKinds := [.data, .data, .data, .data, .sentinel, .sentinel, .pinned], laidTests := true, laidLooks := .later }
def FnDamageCardSaid : Prop := Claim7.holds Tryz.pinned (.plain (OpenSpec.ofChange fnDamageSpec)) fnDamageCard

/-- THE TIED CARD OF 'laws.FnPins'. -/
def fnPinsCard : Claim7 := { stood := { row := fnPinsRow, standIns := [], harness := (true, "740d05c34a55139120266a2a72729d26a9f71d83d6cacf9e2e5d98dc8f1064b1"), looks := true }, kinds := [], alts := [], laidByText := true, laidKinds := [.data, .data, .data, .data, .sentinel, .sentinel, .pinned], laidTests := true, laidLooks := .later }
def FnPinsCardSaid : Prop := Claim7.holds Tryz.pinned (.plain (OpenSpec.ofChange fnPinsSpec)) fnPinsCard

/-- THE SECOND FORM's CARD OF 'laws.FnLedger'. -/
def fnLedgerUptoCard : Claim7 := { stood := { row := fnLedgerUptoRow, standIns := [], harness := (true, "740d05c34a55139120266a2a72729d26a9f71d83d6cacf9e2e5d98dc8f1064b1"), looks := true }, kinds := [], alts := [], laidByText := true, laidKinds := [.data, .data, .data, .data, .sentinel, .sentinel, .pinned], laidTests := true, laidLooks := .later }
def FnLedgerUptoCardSaid : Prop := Claim7.holds Tryz.pinned (.plain (OpenSpec.upto fnLedgerSpec)) fnLedgerUptoCard

/-- THE SECOND FORM's CARD OF 'laws.FnDamage'. -/
def fnDamageUptoCard : Claim7 := { stood := { row := fnDamageUptoRow, standIns := [], harness := (true, "740d05c34a55139120266a2a72729d26a9f71d83d6cacf9e2e5d98dc8f1064b1"), looks := true }, kinds := [], alts := [], laidByText := true, laidKinds := [.data, .data, .data, .data, .sentinel, .sentinel, .pinned], laidTests := true, laidLooks := .later }
def FnDamageUptoCardSaid : Prop := Claim7.holds Tryz.pinned (.plain (OpenSpec.upto fnDamageSpec)) fnDamageUptoCard

/-- THE SECOND FORM's CARD OF 'laws.FnPins'. -/
def fnPinsUptoCard : Claim7 := { stood := { row := fnPinsUptoRow, standIns := [], harness := (true, "740d05c34a55139120266a2a72729d26a9f71d83d6cacf9e2e5d98dc8f1064b1"), looks := true }, kinds := [], alts := [], laidByText := true, laidKinds := [.data, .data, .data, .data, .sentinel, .sentinel, .pinned], laidTests := true, laidLooks := .later }
def FnPinsUptoCardSaid : Prop := Claim7.holds Tryz.pinned (.plain (OpenSpec.upto fnPinsSpec)) fnPinsUptoCard
end Rows
end Go.Proofs.YtmdablalfmcgnaaGreatDoor
