/-
  DERIVED. GIVEN WITH THE SEED: THE CARDS: each row of YtjmoilnklaeacaaGreatDoorRows.lean that lists a variable, with what it lists TIED to the program's text (the seventh form; the later family's looks); each row that meets fmt, with fmt's text TOLD by the authors' own Lean function (tested against real Go, not proved from fmt's source: count such statements apart). THE CARD IS WHAT COUNTS. Prove the row's statement (the work); the ties are given (YtjmoilnklaeacaaGreatDoorTie.lean); close each card by the builder's one call (the guide's Derived/Test/ToyasCard.lean, 'card_holds'). Laid BY PROGRAM, IN A SANDBOX (cutbox-door.mjs). By AI agents, Wed Nov 11 2026. No macro, syntax, notation, axiom, sorry.
-/
import Derived.Test.YtjmoilnklaeacaaGreatDoorRows
import GoSem.ClaimSeven
namespace Go.Proofs.YtjmoilnklaeacaaGreatDoor
namespace Rows

/-- THE TIED CARD OF 'laws.FnExactReadDrum'. -/
def fnExactReadDrumCard : Claim7 := { stood := { row := fnExactReadDrumRow, standIns := [], harness := (true, "5f3288853fc2405db6a5b5dd89de7eb55665de3a7656d061f44ea4d675d447fa"), looks := true }, kinds := [], alts := [], laidByText := true, laidKinds := [.data, .data, .data, .data, .sentinel, .sentinel, .pinned], laidTests := true, laidLooks := .later }
def FnExactReadDrumCardSaid : Prop := Claim7.holds Tryz.pinned (.plain (OpenSpec.ofChange fnExactReadDrumSpec)) fnExactReadDrumCard

/-- THE TIED CARD OF 'laws.FnExactSalvageLedger'. -/
def fnExactSalvageLedgerCard : Claim7 := { stood := { row := fnExactSalvageLedgerRow, standIns := [], harness := (true, "5f3288853fc2405db6a5b5dd89de7eb55665de3a7656d061f44ea4d675d447fa"), looks := true }, kinds := [], alts := [], laidByText := true, laidKinds := [.data, .data, .data, .data, .sentinel, .sentinel, .pinned], laidTests := true, laidLooks := .later }
def FnExactSalvageLedgerCardSaid : Prop := Claim7.holds Tryz.pinned (.plain (OpenSpec.ofChange fnExactSalvageLedgerSpec)) fnExactSalvageLedgerCard

/-- THE TIED CARD OF 'laws.FnExactLoadLedger'. -/
def fnExactLoadLedgerCard : Claim7 := { stood := { row := fnExactLoadLedgerRow, standIns := [], harness := (true, "5f3288853fc2405db6a5b5dd89de7eb55665de3a7656d061f44ea4d675d447fa"), looks := true }, kinds := [], alts := [], laidByText := true, laidKinds := [.data, .data, .data, .data, .sentinel, .sentinel, .pinned], laidTests := true, laidLooks := .later }
def FnExactLoadLedgerCardSaid : Prop := Claim7.holds Tryz.pinned (.plain (OpenSpec.ofChange fnExactLoadLedgerSpec)) fnExactLoadLedgerCard

/-- THE TIED CARD OF 'laws.FnDamage'. -/
def fnDamageCard : Claim7 := { stood := { row := fnDamageRow, standIns := [], harness := (true, "5f3288853fc2405db6a5b5dd89de7eb55665de3a7656d061f44ea4d675d447fa"), looks := true }, kinds := [], alts := [], laidByText := true, laidKinds := [.data, .data, .data, .data, .sentinel, .sentinel, .pinned], laidTests := true, laidLooks := .later }
def FnDamageCardSaid : Prop := Claim7.holds Tryz.pinned (.plain (OpenSpec.ofChange fnDamageSpec)) fnDamageCard

/-- THE TIED CARD OF 'laws.FnOrders'. -/
def fnOrdersCard : Claim7 := { stood := { row := fnOrdersRow, standIns := [], harness := (true, "5f3288853fc2405db6a5b5dd89de7eb55665de3a7656d061f44ea4d675d447fa"), looks := true }, kinds := [], alts := [], laidByText := true, laidKinds := [.data, .data, .data, .data, .sentinel, .sentinel, .pinned], laidTests := true, laidLooks := .later }
def FnOrdersCardSaid : Prop := Claim7.holds Tryz.pinned (.plain (OpenSpec.ofChange fnOrdersSpec)) fnOrdersCard

/-- THE SECOND FORM's CARD OF 'laws.FnExactReadDrum'. -/
def fnExactReadDrumUptoCard : Claim7 := { stood := { row := fnExactReadDrumUptoRow, standIns := [], harness := (true, "5f3288853fc2405db6a5b5dd89de7eb55665de3a7656d061f44ea4d675d447fa"), looks := true }, kinds := [], alts := [], laidByText := true, laidKinds := [.data, .data, .data, .data, .sentinel, .sentinel, .pinned], laidTests := true, laidLooks := .later }
def FnExactReadDrumUptoCardSaid : Prop := Claim7.holds Tryz.pinned (.plain (OpenSpec.upto fnExactReadDrumSpec)) fnExactReadDrumUptoCard

/-- THE SECOND FORM's CARD OF 'laws.FnExactSalvageLedger'. -/
def fnExactSalvageLedgerUptoCard : Claim7 := { stood := { row := fnExactSalvageLedgerUptoRow, standIns := [], harness := (true, "5f3288853fc2405db6a5b5dd89de7eb55665de3a7656d061f44ea4d675d447fa"), looks := true }, kinds := [], alts := [], laidByText := true, laidKinds := [.data, .data, .data, .data, .sentinel, .sentinel, .pinned], laidTests := true, laidLooks := .later }
def FnExactSalvageLedgerUptoCardSaid : Prop := Claim7.holds Tryz.pinned (.plain (OpenSpec.upto fnExactSalvageLedgerSpec)) fnExactSalvageLedgerUptoCard

/-- THE SECOND FORM's CARD OF 'laws.FnExactLoadLedger'. -/
def fnExactLoadLedgerUptoCard : Claim7 := { stood := { row := fnExactLoadLedgerUptoRow, standIns := [], harness := (true, "5f3288853fc2405db6a5b5dd89de7eb55665de3a7656d061f44ea4d675d447fa"), looks := true }, kinds := [], alts := [], laidByText := true, laidKinds := [.data, .data, .data, .data, .sentinel, .sentinel, .pinned], laidTests := true, laidLooks := .later }
def FnExactLoadLedgerUptoCardSaid : Prop := Claim7.holds Tryz.pinned (.plain (OpenSpec.upto fnExactLoadLedgerSpec)) fnExactLoadLedgerUptoCard

/-- THE SECOND FORM's CARD OF 'laws.FnDamage'. -/
def fnDamageUptoCard : Claim7 := { stood := { row := fnDamageUptoRow, standIns := [], harness := (true, "5f3288853fc2405db6a5b5dd89de7eb55665de3a7656d061f44ea4d675d447fa"), looks := true }, kinds := [], alts := [], laidByText := true, laidKinds := [.data, .data, .data, .data, .sentinel, .sentinel, .pinned], laidTests := true, laidLooks := .later }
def FnDamageUptoCardSaid : Prop := Claim7.holds Tryz.pinned (.plain (OpenSpec.upto fnDamageSpec)) fnDamageUptoCard

/-- THE SECOND FORM's CARD OF 'laws.FnOrders'. -/
def fnOrdersUptoCard : Claim7 := { stood := { row := fnOrdersUptoRow, standIns := [], harness := (true, "5f3288853fc2405db6a5b5dd89de7eb55665de3a7656d061f44ea4d675d447fa"), looks := true }, kinds := [], alts := [], laidByText := true, laidKinds := [.data, .data, .data, .data, .sentinel, .sentinel, .pinned], laidTests := true, laidLooks := .later }
def FnOrdersUptoCardSaid : Prop := Claim7.holds Tryz.pinned (.plain (OpenSpec.upto fnOrdersSpec)) fnOrdersUptoCard
end Rows
end Go.Proofs.YtjmoilnklaeacaaGreatDoor
