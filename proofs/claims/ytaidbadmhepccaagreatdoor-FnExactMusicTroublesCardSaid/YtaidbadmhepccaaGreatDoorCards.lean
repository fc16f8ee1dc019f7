/-
  DERIVED. GIVEN WITH THE SEED: THE CARDS: each row of YtaidbadmhepccaaGreatDoorRows.lean that lists a variable, with what it lists TIED to the program's text (the seventh form; the later family's looks); each row that meets fmt, with fmt's text TOLD by the authors' own Lean function (tested against real Go, not proved from fmt's source: count such statements apart). THE CARD IS WHAT COUNTS. Prove the row's statement (the work); the ties are given (YtaidbadmhepccaaGreatDoorTie.lean); close each card by the builder's one call (the guide's Derived/Test/ToyasCard.lean, 'card_holds'). Laid BY PROGRAM, IN A SANDBOX (cutbox-door.mjs). By AI agents, Wed Nov 11 2026. No macro, syntax, notation, axiom, sorry.
-/
import Derived.Test.YtaidbadmhepccaaGreatDoorRows
import GoSem.ClaimSeven
namespace Go.Proofs.YtaidbadmhepccaaGreatDoor
namespace Rows

/-- THE TIED CARD OF 'laws.FnExactTowerTroubles'. -/
def fnExactTowerTroublesCard : Claim7 := { stood := { row := fnExactTowerTroublesRow, standIns := [], harness := (true, "98fdf685572541e287fa3ddca2178ff3bc270d6a92bcc70d5b7186686588b85a"), looks := false }, kinds := [], alts := [], laidByText := true, laidKinds := [.data], laidTests := true, laidLooks := .later }
def FnExactTowerTroublesCardSaid : Prop := Claim7.holds Tryz.pinned (.plain (OpenSpec.ofChange fnExactTowerTroublesSpec)) fnExactTowerTroublesCard

/-- THE TIED CARD OF 'laws.FnExactMusicTroubles'. -/
def fnExactMusicTroublesCard : Claim7 := { stood := { row := fnExactMusicTroublesRow, standIns := [], harness := (true, "98fdf685572541e287fa3ddca2178ff3bc270d6a92bcc70d5b7186686588b85a"), looks := false }, kinds := [], alts := [], laidByText := true, laidKinds := [.data, .data, .data], laidTests := true, laidLooks := .later }
def FnExactMusicTroublesCardSaid : Prop := Claim7.holds Tryz.pinned (.plain (OpenSpec.ofChange fnExactMusicTroublesSpec)) fnExactMusicTroublesCard

/-- THE TIED CARD OF 'laws.FnExactAuditCarillon'. -/
def fnExactAuditCarillonCard : Claim7 := { stood := { row := fnExactAuditCarillonRow, standIns := [], harness := (true, "98fdf685572541e287fa3ddca2178ff3bc270d6a92bcc70d5b7186686588b85a"), looks := false }, kinds := [], alts := [], laidByText := true, laidKinds := [.data, .data, .data, .data], laidTests := true, laidLooks := .later }
def FnExactAuditCarillonCardSaid : Prop := Claim7.holds Tryz.pinned (.plain (OpenSpec.ofChange fnExactAuditCarillonSpec)) fnExactAuditCarillonCard

/-- THE SECOND FORM's CARD OF 'laws.FnExactTowerTroubles'. -/
def fnExactTowerTroublesUptoCard : Claim7 := { stood := { row := fnExactTowerTroublesUptoRow, standIns := [], harness := (true, "98fdf685572541e287fa3ddca2178ff3bc270d6a92bcc70d5b7186686588b85a"), looks := false }, kinds := [], alts := [], laidByText := true, laidKinds := [.data], laidTests := true, laidLooks := .later }
def FnExactTowerTroublesUptoCardSaid : Prop := Claim7.holds Tryz.pinned (.plain (OpenSpec.upto fnExactTowerTroublesSpec)) fnExactTowerTroublesUptoCard

/-- THE SECOND FORM's CARD OF 'laws.FnExactMusicTroubles'. -/
def fnExactMusicTroublesUptoCard : Claim7 := { stood := { row := fnExactMusicTroublesUptoRow, standIns := [], harness := (true, "98fdf685572541e287fa3ddca2178ff3bc270d6a92bcc70d5b7186686588b85a"), looks := false }, kinds := [], alts := [], laidByText := true, laidKinds := [.data, .data, .data], laidTests := true, laidLooks := .later }
def FnExactMusicTroublesUptoCardSaid : Prop := Claim7.holds Tryz.pinned (.plain (OpenSpec.upto fnExactMusicTroublesSpec)) fnExactMusicTroublesUptoCard

/-- THE SECOND FORM's CARD OF 'laws.FnExactAuditCarillon'. -/
def fnExactAuditCarillonUptoCard : Claim7 := { stood := { row := fnExactAuditCarillonUptoRow, standIns := [], harness := (true, "98fdf685572541e287fa3ddca2178ff3bc270d6a92bcc70d5b7186686588b85a"), looks := false }, kinds := [], alts := [], laidByText := true, laidKinds := [.data, .data, .data, .data], laidTests := true, laidLooks := .later }
def FnExactAuditCarillonUptoCardSaid : Prop := Claim7.holds Tryz.pinned (.plain (OpenSpec.upto fnExactAuditCarillonSpec)) fnExactAuditCarillonUptoCard
end Rows
end Go.Proofs.YtaidbadmhepccaaGreatDoor
