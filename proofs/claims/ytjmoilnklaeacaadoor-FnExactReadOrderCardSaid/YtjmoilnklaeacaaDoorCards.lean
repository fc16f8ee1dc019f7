/-
  DERIVED. GIVEN WITH THE SEED: THE CARDS: each row of YtjmoilnklaeacaaDoorRows.lean that lists a variable, with what it lists TIED to the program's text (the seventh form; the later family's looks); each row that meets fmt, with fmt's text TOLD by the authors' own Lean function (tested against real Go, not proved from fmt's source: count such statements apart). THE CARD IS WHAT COUNTS. Prove the row's statement (the work); the ties are given (YtjmoilnklaeacaaDoorTie.lean); close each card by the builder's one call (the guide's Derived/Test/ToyasCard.lean, 'card_holds'). Laid BY PROGRAM, IN A SANDBOX (cutbox-door.mjs). By AI agents, Wed Nov 11 2026. No macro, syntax, notation, axiom, sorry.
-/
import Derived.Test.YtjmoilnklaeacaaDoorRows
import GoSem.ClaimSeven
namespace Go.Proofs.YtjmoilnklaeacaaDoor
namespace Rows

/-- THE TIED CARD OF 'laws.FnExactReadOrder'. -/
def fnExactReadOrderCard : Claim7 := { stood := { row := fnExactReadOrderRow, standIns := [], harness := (true, "065f6bbc998c8d25111cd4a91826c82f9afaddca2e310f3a764a4bf0fa9cb4a2"), looks := true }, kinds := [], alts := [], laidByText := true, laidKinds := [.data, .data, .data, .data, .sentinel, .sentinel, .pinned], laidTests := true, laidLooks := .later }
def FnExactReadOrderCardSaid : Prop := Claim7.holds Tryd.pinned (.plain (OpenSpec.ofChange fnExactReadOrderSpec)) fnExactReadOrderCard

/-- THE SECOND FORM's CARD OF 'laws.FnExactReadOrder'. -/
def fnExactReadOrderUptoCard : Claim7 := { stood := { row := fnExactReadOrderUptoRow, standIns := [], harness := (true, "065f6bbc998c8d25111cd4a91826c82f9afaddca2e310f3a764a4bf0fa9cb4a2"), looks := true }, kinds := [], alts := [], laidByText := true, laidKinds := [.data, .data, .data, .data, .sentinel, .sentinel, .pinned], laidTests := true, laidLooks := .later }
def FnExactReadOrderUptoCardSaid : Prop := Claim7.holds Tryd.pinned (.plain (OpenSpec.upto fnExactReadOrderSpec)) fnExactReadOrderUptoCard
end Rows
end Go.Proofs.YtjmoilnklaeacaaDoor
