/-
  DERIVED. GIVEN WITH THE SEED: THE CARDS: each row of YtnphmemhejhooaaDoorRows.lean that lists a variable, with what it lists TIED to the program's text (the seventh form; the later family's looks); each row that meets fmt, with fmt's text TOLD by the authors' own Lean function (tested against real Go, not proved from fmt's source: count such statements apart). THE CARD IS WHAT COUNTS. Prove the row's statement (the work); the ties are given (YtnphmemhejhooaaDoorTie.lean); close each card by the builder's one call (the guide's Derived/Test/ToyasCard.lean, 'card_holds'). Laid BY PROGRAM, IN A SANDBOX (cutbox-door.mjs). By AI agents, Wed Nov 11 2026. No macro, syntax, notation, axiom, sorry.
-/
import Derived.Test.YtnphmemhejhooaaDoorRows
import GoSem.ClaimSeven
namespace Go.Proofs.YtnphmemhejhooaaDoor
namespace Rows

/-- THE TIED CARD OF 'laws.FnExactSwingsOf'. -/
def fnExactSwingsOfCard : Claim7 := { stood := { row := fnExactSwingsOfRow, standIns := [], harness := (true, "032a67c7f8320028e7fcbfcd1f2c0a536b9bd66644a8f9d211e434a1890ac10c"), looks := false }, kinds := [], alts := [], laidByText := true, laidKinds := [.data], laidTests := true, laidLooks := .later }
def FnExactSwingsOfCardSaid : Prop := Claim7.holds Tryd.pinned (.plain (OpenSpec.ofChange fnExactSwingsOfSpec)) fnExactSwingsOfCard

/-- THE TIED CARD OF 'laws.FnExactOrderText'. -/
def fnExactOrderTextCard : Claim7 := { stood := { row := fnExactOrderTextRow, standIns := [], harness := (true, "032a67c7f8320028e7fcbfcd1f2c0a536b9bd66644a8f9d211e434a1890ac10c"), looks := false }, kinds := [], alts := [], laidByText := true, laidKinds := [.data, .data, .data], laidTests := true, laidLooks := .later }
def FnExactOrderTextCardSaid : Prop := Claim7.holds Tryd.pinned (.plain (OpenSpec.ofChange fnExactOrderTextSpec)) fnExactOrderTextCard

/-- THE TIED CARD OF 'laws.FnExactDrumText'. -/
def fnExactDrumTextCard : Claim7 := { stood := { row := fnExactDrumTextRow, standIns := [], harness := (true, "032a67c7f8320028e7fcbfcd1f2c0a536b9bd66644a8f9d211e434a1890ac10c"), looks := false }, kinds := [], alts := [], laidByText := true, laidKinds := [.data, .data, .data], laidTests := true, laidLooks := .later }
def FnExactDrumTextCardSaid : Prop := Claim7.holds Tryd.pinned (.plain (OpenSpec.ofChange fnExactDrumTextSpec)) fnExactDrumTextCard

/-- THE TIED CARD OF 'laws.FnExactSaveLedger'. -/
def fnExactSaveLedgerCard : Claim7 := { stood := { row := fnExactSaveLedgerRow, standIns := [], harness := (true, "032a67c7f8320028e7fcbfcd1f2c0a536b9bd66644a8f9d211e434a1890ac10c"), looks := false }, kinds := [], alts := [], laidByText := true, laidKinds := [.data, .data, .data], laidTests := true, laidLooks := .later }
def FnExactSaveLedgerCardSaid : Prop := Claim7.holds Tryd.pinned (.plain (OpenSpec.ofChange fnExactSaveLedgerSpec)) fnExactSaveLedgerCard

/-- THE SECOND FORM's CARD OF 'laws.FnExactSwingsOf'. -/
def fnExactSwingsOfUptoCard : Claim7 := { stood := { row := fnExactSwingsOfUptoRow, standIns := [], harness := (true, "032a67c7f8320028e7fcbfcd1f2c0a536b9bd66644a8f9d211e434a1890ac10c"), looks := false }, kinds := [], alts := [], laidByText := true, laidKinds := [.data], laidTests := true, laidLooks := .later }
def FnExactSwingsOfUptoCardSaid : Prop := Claim7.holds Tryd.pinned (.plain (OpenSpec.upto fnExactSwingsOfSpec)) fnExactSwingsOfUptoCard

/-- THE SECOND FORM's CARD OF 'laws.FnExactOrderText'. -/
def fnExactOrderTextUptoCard : Claim7 := { stood := { row := fnExactOrderTextUptoRow, standIns := [], harness := (true, "032a67c7f8320028e7fcbfcd1f2c0a536b9bd66644a8f9d211e434a1890ac10c"), looks := false }, kinds := [], alts := [], laidByText := true, laidKinds := [.data, .data, .data], laidTests := true, laidLooks := .later }
def FnExactOrderTextUptoCardSaid : Prop := Claim7.holds Tryd.pinned (.plain (OpenSpec.upto fnExactOrderTextSpec)) fnExactOrderTextUptoCard

/-- THE SECOND FORM's CARD OF 'laws.FnExactDrumText'. -/
def fnExactDrumTextUptoCard : Claim7 := { stood := { row := fnExactDrumTextUptoRow, standIns := [], harness := (true, "032a67c7f8320028e7fcbfcd1f2c0a536b9bd66644a8f9d211e434a1890ac10c"), looks := false }, kinds := [], alts := [], laidByText := true, laidKinds := [.data, .data, .data], laidTests := true, laidLooks := .later }
def FnExactDrumTextUptoCardSaid : Prop := Claim7.holds Tryd.pinned (.plain (OpenSpec.upto fnExactDrumTextSpec)) fnExactDrumTextUptoCard

/-- THE SECOND FORM's CARD OF 'laws.FnExactSaveLedger'. -/
def fnExactSaveLedgerUptoCard : Claim7 := { stood := { row := fnExactSaveLedgerUptoRow, standIns := [], harness := (true, "032a67c7f8320028e7fcbfcd1f2c0a536b9bd66644a8f9d211e434a1890ac10c"), looks := false }, kinds := [], alts := [], laidByText := true, laidKinds := [.data, .data, .data], laidTests := true, laidLooks := .later }
def FnExactSaveLedgerUptoCardSaid : Prop := Claim7.holds Tryd.pinned (.plain (OpenSpec.upto fnExactSaveLedgerSpec)) fnExactSaveLedgerUptoCard
end Rows
end Go.Proofs.YtnphmemhejhooaaDoor
