/-
  DERIVED. GIVEN WITH THE SEED: THE CARDS: each row of YtoeklljhjhidbaaGreatDoorRows.lean that lists a variable, with what it lists TIED to the program's text (the seventh form; the later family's looks); each row that meets fmt, with fmt's text TOLD by the authors' own Lean function (tested against real Go, not proved from fmt's source: count such statements apart). THE CARD IS WHAT COUNTS. Prove the row's statement (the work); the ties are given (YtoeklljhjhidbaaGreatDoorTie.lean); close each card by the builder's one call (the guide's Derived/Test/ToyasCard.lean, 'card_holds'). Laid BY PROGRAM, IN A SANDBOX (cutbox-door.mjs). By AI agents, Wed Nov 11 2026. No macro, syntax, notation, axiom, sorry.
-/
import Derived.Test.YtoeklljhjhidbaaGreatDoorRows
import GoSem.ClaimSeven
namespace Go.Proofs.YtoeklljhjhidbaaGreatDoor
namespace Rows

/-- THE TIED CARD OF 'laws.FnPins'. -/
def fnPinsCard : Claim7 := { stood := { row := fnPinsRow, standIns := [], harness := (true, "af80e07d008781093ef39cb845af9f64e8096c17e387c532ce4db1f60d1648a7"), looks := true }, kinds := [], alts := [], laidByText := true, laidKinds := [.data, .data, .data, .data, .sentinel, .sentinel, .pinned], laidTests := true, laidLooks := .later }
def FnPinsCardSaid : Prop := Claim7.holds Tryz.pinned (.plain (OpenSpec.ofChange fnPinsSpec)) fnPinsCard

/-- THE SECOND FORM's CARD OF 'laws.FnPins'. -/
def fnPinsUptoCard : Claim7 := { stood := { row := fnPinsUptoRow, standIns := [], harness := (true, "af80e07d008781093ef39cb845af9f64e8096c17e387c532ce4db1f60d1648a7"), looks := true }, kinds := [], alts := [], laidByText := true, laidKinds := [.data, .data, .data, .data, .sentinel, .sentinel, .pinned], laidTests := true, laidLooks := .later }
def FnPinsUptoCardSaid : Prop := Claim7.holds Tryz.pinned (.plain (OpenSpec.upto fnPinsSpec)) fnPinsUptoCard
end Rows
end Go.Proofs.YtoeklljhjhidbaaGreatDoor
