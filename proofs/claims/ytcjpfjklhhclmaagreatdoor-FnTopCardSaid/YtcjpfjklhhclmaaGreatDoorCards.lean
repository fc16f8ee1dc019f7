/-
  DERIVED. GIVEN WITH THE SEED: THE CARDS: each row of YtcjpfjklhhclmaaGreatDoorRows.lean that lists a variable, with what it lists TIED to the program's text (the seventh form; the later family's looks); each row that meets fmt, with fmt's text TOLD by the authors' own Lean function (tested against real Go, not proved from fmt's source: count such statements apart). THE CARD IS WHAT COUNTS. Prove the row's statement (the work); the ties are given (YtcjpfjklhhclmaaGreatDoorTie.lean); close each card by the builder's one call (the guide's Derived/Test/ToyasCard.lean, 'card_holds'). Laid BY PROGRAM, IN A SANDBOX (cutbox-door.mjs). By AI agents, Wed Nov 11 2026. No macro, syntax, notation, axiom, sorry.
-/
import Derived.Test.YtcjpfjklhhclmaaGreatDoorRows
import GoSem.ClaimSeven
namespace Go.Proofs.YtcjpfjklhhclmaaGreatDoor
namespace Rows

/-- THE TIED CARD OF 'laws.FnTop'. -/
def fnTopCard : Claim7 := { stood := { row := fnTopRow, standIns := [], harness := (true, "38479d172949038ecd10667c8a83ef58370551a382b74bf13f39e43e8d870cdc"), looks := false }, kinds := [], alts := [], laidByText := true, laidKinds := [.data, .data, .data, .data], laidTests := true, laidLooks := .later }
def FnTopCardSaid : Prop := Claim7.holds Tryz.pinned (.plain (OpenSpec.ofChange fnTopSpec)) fnTopCard

/-- THE TIED CARD OF 'laws.FnAudit'. -/
def fnAuditCard : Claim7 := { stood := { row := fnAuditRow, standIns := [], harness := (true, "38479d172949038ecd10667c8a83ef58370551a382b74bf13f39e43e8d870cdc"), looks := false }, kinds := [], alts := [], laidByText := true, laidKinds := [.data, .data, .data, .data], laidTests := true, laidLooks := .later }
def FnAuditCardSaid : Prop := Claim7.holds Tryz.pinned (.plain (OpenSpec.ofChange fnAuditSpec)) fnAuditCard

/-- THE TIED CARD OF 'laws.FnExactAuditCarillon'. -/
def fnExactAuditCarillonCard : Claim7 := { stood := { row := fnExactAuditCarillonRow, standIns := [], harness := (true, "38479d172949038ecd10667c8a83ef58370551a382b74bf13f39e43e8d870cdc"), looks := false }, kinds := [], alts := [], laidByText := true, laidKinds := [.data, .data, .data, .data], laidTests := true, laidLooks := .later }
def FnExactAuditCarillonCardSaid : Prop := Claim7.holds Tryz.pinned (.plain (OpenSpec.ofChange fnExactAuditCarillonSpec)) fnExactAuditCarillonCard

/-- THE SECOND FORM's CARD OF 'laws.FnTop'. -/
def fnTopUptoCard : Claim7 := { stood := { row := fnTopUptoRow, standIns := [], harness := (true, "38479d172949038ecd10667c8a83ef58370551a382b74bf13f39e43e8d870cdc"), looks := false }, kinds := [], alts := [], laidByText := true, laidKinds := [.data, .data, .data, .data], laidTests := true, laidLooks := .later }
def FnTopUptoCardSaid : Prop := Claim7.holds Tryz.pinned (.plain (OpenSpec.upto fnTopSpec)) fnTopUptoCard

/-- THE SECOND FORM's CARD OF 'laws.FnAudit'. -/
def fnAuditUptoCard : Claim7 := { stood := { row := fnAuditUptoRow, standIns := [], harness := (true, "38479d172949038ecd10667c8a83ef58370551a382b74bf13f39e43e8d870cdc"), looks := false }, kinds := [], alts := [], laidByText := true, laidKinds := [.data, .data, .data, .data], laidTests := true, laidLooks := .later }
def FnAuditUptoCardSaid : Prop := Claim7.holds Tryz.pinned (.plain (OpenSpec.upto fnAuditSpec)) fnAuditUptoCard

/-- THE SECOND FORM's CARD OF 'laws.FnExactAuditCarillon'. -/
def fnExactAuditCarillonUptoCard : Claim7 := { stood := { row := fnExactAuditCarillonUptoRow, standIns := [], harness := (true, "38479d172949038ecd10667c8a83ef58370551a382b74bf13f39e43e8d870cdc"), looks := false }, kinds := [], alts := [], laidByText := true, laidKinds := [.data, .data, .data, .data], laidTests := true, laidLooks := .later }
def FnExactAuditCarillonUptoCardSaid : Prop := Claim7.holds Tryz.pinned (.plain (OpenSpec.upto fnExactAuditCarillonSpec)) fnExactAuditCarillonUptoCard
end Rows
end Go.Proofs.YtcjpfjklhhclmaaGreatDoor
