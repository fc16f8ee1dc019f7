/-
  No cell of these rows narrows 'for every input' (looked for: loops, veiled, ifaces, maps, wideKeys, modest, calm, conditions, laid).
  DERIVED. THE GIVEN ROWS OF THIS SEAT. 12 by the template 'for every input the law returns true; each argument reads behind the call as it read before'; 0 by the template 'total and deterministic' (their statements: YtnidojjahhhaaaaTotals.lean).
  GIVEN WITH THE SEED: the statements are not yours to turn. If you find one false, say at which input.
  Laid BY PROGRAM, IN A SANDBOX (cutbox-rows.mjs): the forced cells as the released guide's own fill.sh prints them over the translation 46b7d932880e9d80… (all of the seat's roots in one cut). By AI agents, Wed Nov 11 2026. No macro, syntax, notation, axiom, sorry.
-/
import Derived.Test.YtnidojjahhhaaaaChecked
import GoSem.Claim
import GoSem.ClaimJoined
import GoSem.ClaimMapViews
import Derived.JoinedTies
import Derived.KernelRfl
namespace Go.Proofs.Ytnidojjahhhaaaa
/- THE CELL 'sum', in the pinned program and in every row, IS THE sha256 OF THE DUMP (.gsa) THAT YtnidojjahhhaaaaProg.lean LOADS. Nothing in Lean hashes anything: it is a label: what it is worth is what the hold of that sum in a sandbox is worth. -/
noncomputable def Try.pinned : Pinned := { name := "ytnidojjahhhaaaa", sum := "46b7d932880e9d808f21e0a5a8adbcc1bd938829f179f0afc9d575f1c4b44a13", checked := Try.checked }
namespace Rows
def none {H : Type} : Left H := { results := [], args := [] }

/-- 'laws.FnExactValidOrders': WHATEVER THE INPUT: true; the input reads as it did. -/
def fnExactValidOrdersSpec : ChangeSpec := { name := "fnExactValidOrders", fn := fun _ => fun
  | [d] => { results := [.lit (.bool true)], args := [d] }
  | _ => none }
def fnExactValidOrdersRow : OpenClaim := { program := "ytnidojjahhhaaaa", sum := "46b7d932880e9d808f21e0a5a8adbcc1bd938829f179f0afc9d575f1c4b44a13", func := "loop.example/g00952/laws.FnExactValidOrders", spec := "fnExactValidOrders", apart := false }
def FnExactValidOrdersSaid : Prop := fnExactValidOrdersRow.holds Try.pinned (OpenSpec.ofChange fnExactValidOrdersSpec)

/-- ITS FALSE NEIGHBOUR: 'it returns false'. Refute it at one input. -/
def fnExactValidOrdersWrong : ChangeSpec := { name := "fnExactValidOrders", fn := fun _ => fun
  | [d] => { results := [.lit (.bool false)], args := [d] }
  | _ => none }
def FnExactValidOrdersWrongFalsely : Prop := fnExactValidOrdersRow.holds Try.pinned (OpenSpec.ofChange fnExactValidOrdersWrong)

/-- 'laws.FnExactCountTroubles': WHATEVER THE INPUT: true; the input reads as it did. -/
def fnExactCountTroublesSpec : ChangeSpec := { name := "fnExactCountTroubles", fn := fun _ => fun
  | [d] => { results := [.lit (.bool true)], args := [d] }
  | _ => none }
def fnExactCountTroublesRow : OpenClaim := { program := "ytnidojjahhhaaaa", sum := "46b7d932880e9d808f21e0a5a8adbcc1bd938829f179f0afc9d575f1c4b44a13", func := "loop.example/g00952/laws.FnExactCountTroubles", spec := "fnExactCountTroubles", apart := false }
def FnExactCountTroublesSaid : Prop := fnExactCountTroublesRow.holds Try.pinned (OpenSpec.ofChange fnExactCountTroublesSpec)

/-- ITS FALSE NEIGHBOUR: 'it returns false'. Refute it at one input. -/
def fnExactCountTroublesWrong : ChangeSpec := { name := "fnExactCountTroubles", fn := fun _ => fun
  | [d] => { results := [.lit (.bool false)], args := [d] }
  | _ => none }
def FnExactCountTroublesWrongFalsely : Prop := fnExactCountTroublesRow.holds Try.pinned (OpenSpec.ofChange fnExactCountTroublesWrong)

/-- 'laws.FnExactSameDrum': WHATEVER THE INPUT: true; the input reads as it did. -/
def fnExactSameDrumSpec : ChangeSpec := { name := "fnExactSameDrum", fn := fun _ => fun
  | [d1, d2] => { results := [.lit (.bool true)], args := [d1, d2] }
  | _ => none }
def fnExactSameDrumRow : OpenClaim := { program := "ytnidojjahhhaaaa", sum := "46b7d932880e9d808f21e0a5a8adbcc1bd938829f179f0afc9d575f1c4b44a13", func := "loop.example/g00952/laws.FnExactSameDrum", spec := "fnExactSameDrum", apart := false }
def FnExactSameDrumSaid : Prop := fnExactSameDrumRow.holds Try.pinned (OpenSpec.ofChange fnExactSameDrumSpec)

/-- ITS FALSE NEIGHBOUR: 'it returns false'. Refute it at one input. -/
def fnExactSameDrumWrong : ChangeSpec := { name := "fnExactSameDrum", fn := fun _ => fun
  | [d1, d2] => { results := [.lit (.bool false)], args := [d1, d2] }
  | _ => none }
def FnExactSameDrumWrongFalsely : Prop := fnExactSameDrumRow.holds Try.pinned (OpenSpec.ofChange fnExactSameDrumWrong)

/-- 'laws.FnExactValidDrum': WHATEVER THE INPUT: true; the input reads as it did. -/
def fnExactValidDrumSpec : ChangeSpec := { name := "fnExactValidDrum", fn := fun _ => fun
  | [d] => { results := [.lit (.bool true)], args := [d] }
  | _ => none }
def fnExactValidDrumRow : OpenClaim := { program := "ytnidojjahhhaaaa", sum := "46b7d932880e9d808f21e0a5a8adbcc1bd938829f179f0afc9d575f1c4b44a13", func := "loop.example/g00952/laws.FnExactValidDrum", spec := "fnExactValidDrum", apart := false }
def FnExactValidDrumSaid : Prop := fnExactValidDrumRow.holds Try.pinned (OpenSpec.ofChange fnExactValidDrumSpec)

/-- ITS FALSE NEIGHBOUR: 'it returns false'. Refute it at one input. -/
def fnExactValidDrumWrong : ChangeSpec := { name := "fnExactValidDrum", fn := fun _ => fun
  | [d] => { results := [.lit (.bool false)], args := [d] }
  | _ => none }
def FnExactValidDrumWrongFalsely : Prop := fnExactValidDrumRow.holds Try.pinned (OpenSpec.ofChange fnExactValidDrumWrong)

/-- 'laws.FnExactDelayOf': WHATEVER THE INPUT: true; the input reads as it did. -/
def fnExactDelayOfSpec : ChangeSpec := { name := "fnExactDelayOf", fn := fun _ => fun
  | [d1, d2, d3] => { results := [.lit (.bool true)], args := [d1, d2, d3] }
  | _ => none }
def fnExactDelayOfRow : OpenClaim := { program := "ytnidojjahhhaaaa", sum := "46b7d932880e9d808f21e0a5a8adbcc1bd938829f179f0afc9d575f1c4b44a13", func := "loop.example/g00952/laws.FnExactDelayOf", spec := "fnExactDelayOf", apart := false }
def FnExactDelayOfSaid : Prop := fnExactDelayOfRow.holds Try.pinned (OpenSpec.ofChange fnExactDelayOfSpec)

/-- ITS FALSE NEIGHBOUR: 'it returns false'. Refute it at one input. -/
def fnExactDelayOfWrong : ChangeSpec := { name := "fnExactDelayOf", fn := fun _ => fun
  | [d1, d2, d3] => { results := [.lit (.bool false)], args := [d1, d2, d3] }
  | _ => none }
def FnExactDelayOfWrongFalsely : Prop := fnExactDelayOfRow.holds Try.pinned (OpenSpec.ofChange fnExactDelayOfWrong)

/-- 'laws.FnExactEndsOf': WHATEVER THE INPUT: true; the input reads as it did. -/
def fnExactEndsOfSpec : ChangeSpec := { name := "fnExactEndsOf", fn := fun _ => fun
  | [d1, d2, d3] => { results := [.lit (.bool true)], args := [d1, d2, d3] }
  | _ => none }
def fnExactEndsOfRow : OpenClaim := { program := "ytnidojjahhhaaaa", sum := "46b7d932880e9d808f21e0a5a8adbcc1bd938829f179f0afc9d575f1c4b44a13", func := "loop.example/g00952/laws.FnExactEndsOf", spec := "fnExactEndsOf", apart := false }
def FnExactEndsOfSaid : Prop := fnExactEndsOfRow.holds Try.pinned (OpenSpec.ofChange fnExactEndsOfSpec)

/-- ITS FALSE NEIGHBOUR: 'it returns false'. Refute it at one input. -/
def fnExactEndsOfWrong : ChangeSpec := { name := "fnExactEndsOf", fn := fun _ => fun
  | [d1, d2, d3] => { results := [.lit (.bool false)], args := [d1, d2, d3] }
  | _ => none }
def FnExactEndsOfWrongFalsely : Prop := fnExactEndsOfRow.holds Try.pinned (OpenSpec.ofChange fnExactEndsOfWrong)

/-- 'laws.FnExactDropOrder': WHATEVER THE INPUT: true; the input reads as it did. -/
def fnExactDropOrderSpec : ChangeSpec := { name := "fnExactDropOrder", fn := fun _ => fun
  | [d1, d2] => { results := [.lit (.bool true)], args := [d1, d2] }
  | _ => none }
def fnExactDropOrderRow : OpenClaim := { program := "ytnidojjahhhaaaa", sum := "46b7d932880e9d808f21e0a5a8adbcc1bd938829f179f0afc9d575f1c4b44a13", func := "loop.example/g00952/laws.FnExactDropOrder", spec := "fnExactDropOrder", unfollowed := true, recurses := true, apart := false }
def FnExactDropOrderSaid : Prop := fnExactDropOrderRow.holds Try.pinned (OpenSpec.ofChange fnExactDropOrderSpec)

/-- ITS FALSE NEIGHBOUR: 'it returns false'. Refute it at one input. -/
def fnExactDropOrderWrong : ChangeSpec := { name := "fnExactDropOrder", fn := fun _ => fun
  | [d1, d2] => { results := [.lit (.bool false)], args := [d1, d2] }
  | _ => none }
def FnExactDropOrderWrongFalsely : Prop := fnExactDropOrderRow.holds Try.pinned (OpenSpec.ofChange fnExactDropOrderWrong)

/-- 'laws.FnExactBusiestStep': WHATEVER THE INPUT: true; the input reads as it did. -/
def fnExactBusiestStepSpec : ChangeSpec := { name := "fnExactBusiestStep", fn := fun _ => fun
  | [d] => { results := [.lit (.bool true)], args := [d] }
  | _ => none }
def fnExactBusiestStepRow : OpenClaim := { program := "ytnidojjahhhaaaa", sum := "46b7d932880e9d808f21e0a5a8adbcc1bd938829f179f0afc9d575f1c4b44a13", func := "loop.example/g00952/laws.FnExactBusiestStep", spec := "fnExactBusiestStep", apart := false }
def FnExactBusiestStepSaid : Prop := fnExactBusiestStepRow.holds Try.pinned (OpenSpec.ofChange fnExactBusiestStepSpec)

/-- ITS FALSE NEIGHBOUR: 'it returns false'. Refute it at one input. -/
def fnExactBusiestStepWrong : ChangeSpec := { name := "fnExactBusiestStep", fn := fun _ => fun
  | [d] => { results := [.lit (.bool false)], args := [d] }
  | _ => none }
def FnExactBusiestStepWrongFalsely : Prop := fnExactBusiestStepRow.holds Try.pinned (OpenSpec.ofChange fnExactBusiestStepWrong)

/-- 'laws.FnExactLineOf': WHATEVER THE INPUT: true; the input reads as it did. -/
def fnExactLineOfSpec : ChangeSpec := { name := "fnExactLineOf", fn := fun _ => fun
  | [d1, d2] => { results := [.lit (.bool true)], args := [d1, d2] }
  | _ => none }
def fnExactLineOfRow : OpenClaim := { program := "ytnidojjahhhaaaa", sum := "46b7d932880e9d808f21e0a5a8adbcc1bd938829f179f0afc9d575f1c4b44a13", func := "loop.example/g00952/laws.FnExactLineOf", spec := "fnExactLineOf", apart := false }
def FnExactLineOfSaid : Prop := fnExactLineOfRow.holds Try.pinned (OpenSpec.ofChange fnExactLineOfSpec)

/-- ITS FALSE NEIGHBOUR: 'it returns false'. Refute it at one input. -/
def fnExactLineOfWrong : ChangeSpec := { name := "fnExactLineOf", fn := fun _ => fun
  | [d1, d2] => { results := [.lit (.bool false)], args := [d1, d2] }
  | _ => none }
def FnExactLineOfWrongFalsely : Prop := fnExactLineOfRow.holds Try.pinned (OpenSpec.ofChange fnExactLineOfWrong)

/-- 'laws.FnExactRemovePin': WHATEVER THE INPUT: true; the input reads as it did. -/
def fnExactRemovePinSpec : ChangeSpec := { name := "fnExactRemovePin", fn := fun _ => fun
  | [d1, d2] => { results := [.lit (.bool true)], args := [d1, d2] }
  | _ => none }
def fnExactRemovePinRow : OpenClaim := { program := "ytnidojjahhhaaaa", sum := "46b7d932880e9d808f21e0a5a8adbcc1bd938829f179f0afc9d575f1c4b44a13", func := "loop.example/g00952/laws.FnExactRemovePin", spec := "fnExactRemovePin", unfollowed := true, recurses := true, apart := false }
def FnExactRemovePinSaid : Prop := fnExactRemovePinRow.holds Try.pinned (OpenSpec.ofChange fnExactRemovePinSpec)

/-- ITS FALSE NEIGHBOUR: 'it returns false'. Refute it at one input. -/
def fnExactRemovePinWrong : ChangeSpec := { name := "fnExactRemovePin", fn := fun _ => fun
  | [d1, d2] => { results := [.lit (.bool false)], args := [d1, d2] }
  | _ => none }
def FnExactRemovePinWrongFalsely : Prop := fnExactRemovePinRow.holds Try.pinned (OpenSpec.ofChange fnExactRemovePinWrong)

/-- 'laws.FnExactAddOrder': WHATEVER THE INPUT: true; the input reads as it did. -/
def fnExactAddOrderSpec : ChangeSpec := { name := "fnExactAddOrder", fn := fun _ => fun
  | [d1, d2] => { results := [.lit (.bool true)], args := [d1, d2] }
  | _ => none }
def fnExactAddOrderRow : OpenClaim := { program := "ytnidojjahhhaaaa", sum := "46b7d932880e9d808f21e0a5a8adbcc1bd938829f179f0afc9d575f1c4b44a13", func := "loop.example/g00952/laws.FnExactAddOrder", spec := "fnExactAddOrder", inPlace := ["slices.overlaps[loop.example/g00952/impl.Order]"], unfollowed := true, recurses := true, apart := false }
def FnExactAddOrderSaid : Prop := fnExactAddOrderRow.holds Try.pinned (OpenSpec.ofChange fnExactAddOrderSpec)

/-- ITS FALSE NEIGHBOUR: 'it returns false'. Refute it at one input. -/
def fnExactAddOrderWrong : ChangeSpec := { name := "fnExactAddOrder", fn := fun _ => fun
  | [d1, d2] => { results := [.lit (.bool false)], args := [d1, d2] }
  | _ => none }
def FnExactAddOrderWrongFalsely : Prop := fnExactAddOrderRow.holds Try.pinned (OpenSpec.ofChange fnExactAddOrderWrong)

/-- 'laws.FnExactLatestBegin': WHATEVER THE INPUT: true; the input reads as it did. -/
def fnExactLatestBeginSpec : ChangeSpec := { name := "fnExactLatestBegin", fn := fun _ => fun
  | [d] => { results := [.lit (.bool true)], args := [d] }
  | _ => none }
def fnExactLatestBeginRow : OpenClaim := { program := "ytnidojjahhhaaaa", sum := "46b7d932880e9d808f21e0a5a8adbcc1bd938829f179f0afc9d575f1c4b44a13", func := "loop.example/g00952/laws.FnExactLatestBegin", spec := "fnExactLatestBegin", unfollowed := true, recurses := true, apart := false }
def FnExactLatestBeginSaid : Prop := fnExactLatestBeginRow.holds Try.pinned (OpenSpec.ofChange fnExactLatestBeginSpec)

/-- ITS FALSE NEIGHBOUR: 'it returns false'. Refute it at one input. -/
def fnExactLatestBeginWrong : ChangeSpec := { name := "fnExactLatestBegin", fn := fun _ => fun
  | [d] => { results := [.lit (.bool false)], args := [d] }
  | _ => none }
def FnExactLatestBeginWrongFalsely : Prop := fnExactLatestBeginRow.holds Try.pinned (OpenSpec.ofChange fnExactLatestBeginWrong)

/- THE SECOND FORM. 'bulk': how many values and letters a reading holds, each counted each time it is reached (what is shared counts as often as it is met; a slice's spare places count too). A statement '..UptoSaid' is the law's where the arguments, and the package variables that the reading takes, are together of bulk at most 1048576: NARROWER than '..Said'. Prove '..Said' where nothing that the law and all that it calls make is longer than what came in: it says more and counts as full. Else prove '..UptoSaid'. A law counts once. -/
mutual
def uptoBulk {H : Type} : DataW H → Nat
  | .lit (.string bytes) => bytes.length + 1
  | .lit _ => 1
  | .nil => 1
  | .ptr d => uptoBulk d + 1
  | .slice elems spare => uptoBulkAll elems + uptoBulkAll spare + 1
  | .agg parts => uptoBulkAll parts + 1
  | .iface _ d => uptoBulk d + 1
  | .map entries => uptoBulkEntries entries + 1
  | .held _ => 1
def uptoBulkAll {H : Type} : List (DataW H) → Nat
  | [] => 0
  | d :: r => uptoBulk d + uptoBulkAll r
def uptoBulkEntries {H : Type} : List (Lit × DataW H) → Nat
  | [] => 0
  | x :: r => uptoBulkEntry x + uptoBulkEntries r
def uptoBulkEntry {H : Type} : Lit × DataW H → Nat
  | (.string bytes, d) => bytes.length + uptoBulk d + 1
  | (_, d) => uptoBulk d + 1
 end
def uptoSmall : (H : Type) → List (DataW H) → Bool := fun _ ds => decide (uptoBulkAll ds ≤ 1048576)
def OpenSpec.upto (s : _root_.Go.ChangeSpec) : _root_.Go.OpenSpec := { _root_.Go.OpenSpec.ofChange s with cond := some uptoSmall }

/-- 'laws.FnExactValidOrders', WHERE WHAT IT READS IS OF BULK AT MOST 1048576: true; the input reads as it did. -/
def fnExactValidOrdersUptoRow : OpenClaim := { program := "ytnidojjahhhaaaa", sum := "46b7d932880e9d808f21e0a5a8adbcc1bd938829f179f0afc9d575f1c4b44a13", func := "loop.example/g00952/laws.FnExactValidOrders", spec := "fnExactValidOrders", apart := false, narrowed := true }
def FnExactValidOrdersUptoSaid : Prop := fnExactValidOrdersUptoRow.holds Try.pinned (OpenSpec.upto fnExactValidOrdersSpec)

/-- 'laws.FnExactCountTroubles', WHERE WHAT IT READS IS OF BULK AT MOST 1048576: true; the input reads as it did. -/
def fnExactCountTroublesUptoRow : OpenClaim := { program := "ytnidojjahhhaaaa", sum := "46b7d932880e9d808f21e0a5a8adbcc1bd938829f179f0afc9d575f1c4b44a13", func := "loop.example/g00952/laws.FnExactCountTroubles", spec := "fnExactCountTroubles", apart := false, narrowed := true }
def FnExactCountTroublesUptoSaid : Prop := fnExactCountTroublesUptoRow.holds Try.pinned (OpenSpec.upto fnExactCountTroublesSpec)

/-- 'laws.FnExactSameDrum', WHERE WHAT IT READS IS OF BULK AT MOST 1048576: true; the input reads as it did. -/
def fnExactSameDrumUptoRow : OpenClaim := { program := "ytnidojjahhhaaaa", sum := "46b7d932880e9d808f21e0a5a8adbcc1bd938829f179f0afc9d575f1c4b44a13", func := "loop.example/g00952/laws.FnExactSameDrum", spec := "fnExactSameDrum", apart := false, narrowed := true }
def FnExactSameDrumUptoSaid : Prop := fnExactSameDrumUptoRow.holds Try.pinned (OpenSpec.upto fnExactSameDrumSpec)

/-- 'laws.FnExactValidDrum', WHERE WHAT IT READS IS OF BULK AT MOST 1048576: true; the input reads as it did. -/
def fnExactValidDrumUptoRow : OpenClaim := { program := "ytnidojjahhhaaaa", sum := "46b7d932880e9d808f21e0a5a8adbcc1bd938829f179f0afc9d575f1c4b44a13", func := "loop.example/g00952/laws.FnExactValidDrum", spec := "fnExactValidDrum", apart := false, narrowed := true }
def FnExactValidDrumUptoSaid : Prop := fnExactValidDrumUptoRow.holds Try.pinned (OpenSpec.upto fnExactValidDrumSpec)

/-- 'laws.FnExactDelayOf', WHERE WHAT IT READS IS OF BULK AT MOST 1048576: true; the input reads as it did. -/
def fnExactDelayOfUptoRow : OpenClaim := { program := "ytnidojjahhhaaaa", sum := "46b7d932880e9d808f21e0a5a8adbcc1bd938829f179f0afc9d575f1c4b44a13", func := "loop.example/g00952/laws.FnExactDelayOf", spec := "fnExactDelayOf", apart := false, narrowed := true }
def FnExactDelayOfUptoSaid : Prop := fnExactDelayOfUptoRow.holds Try.pinned (OpenSpec.upto fnExactDelayOfSpec)

/-- 'laws.FnExactEndsOf', WHERE WHAT IT READS IS OF BULK AT MOST 1048576: true; the input reads as it did. -/
def fnExactEndsOfUptoRow : OpenClaim := { program := "ytnidojjahhhaaaa", sum := "46b7d932880e9d808f21e0a5a8adbcc1bd938829f179f0afc9d575f1c4b44a13", func := "loop.example/g00952/laws.FnExactEndsOf", spec := "fnExactEndsOf", apart := false, narrowed := true }
def FnExactEndsOfUptoSaid : Prop := fnExactEndsOfUptoRow.holds Try.pinned (OpenSpec.upto fnExactEndsOfSpec)

/-- 'laws.FnExactDropOrder', WHERE WHAT IT READS IS OF BULK AT MOST 1048576: true; the input reads as it did. -/
def fnExactDropOrderUptoRow : OpenClaim := { program := "ytnidojjahhhaaaa", sum := "46b7d932880e9d808f21e0a5a8adbcc1bd938829f179f0afc9d575f1c4b44a13", func := "loop.example/g00952/laws.FnExactDropOrder", spec := "fnExactDropOrder", unfollowed := true, recurses := true, apart := false, narrowed := true }
def FnExactDropOrderUptoSaid : Prop := fnExactDropOrderUptoRow.holds Try.pinned (OpenSpec.upto fnExactDropOrderSpec)

/-- 'laws.FnExactBusiestStep', WHERE WHAT IT READS IS OF BULK AT MOST 1048576: true; the input reads as it did. -/
def fnExactBusiestStepUptoRow : OpenClaim := { program := "ytnidojjahhhaaaa", sum := "46b7d932880e9d808f21e0a5a8adbcc1bd938829f179f0afc9d575f1c4b44a13", func := "loop.example/g00952/laws.FnExactBusiestStep", spec := "fnExactBusiestStep", apart := false, narrowed := true }
def FnExactBusiestStepUptoSaid : Prop := fnExactBusiestStepUptoRow.holds Try.pinned (OpenSpec.upto fnExactBusiestStepSpec)

/-- 'laws.FnExactLineOf', WHERE WHAT IT READS IS OF BULK AT MOST 1048576: true; the input reads as it did. -/
def fnExactLineOfUptoRow : OpenClaim := { program := "ytnidojjahhhaaaa", sum := "46b7d932880e9d808f21e0a5a8adbcc1bd938829f179f0afc9d575f1c4b44a13", func := "loop.example/g00952/laws.FnExactLineOf", spec := "fnExactLineOf", apart := false, narrowed := true }
def FnExactLineOfUptoSaid : Prop := fnExactLineOfUptoRow.holds Try.pinned (OpenSpec.upto fnExactLineOfSpec)

/-- 'laws.FnExactRemovePin', WHERE WHAT IT READS IS OF BULK AT MOST 1048576: true; the input reads as it did. -/
def fnExactRemovePinUptoRow : OpenClaim := { program := "ytnidojjahhhaaaa", sum := "46b7d932880e9d808f21e0a5a8adbcc1bd938829f179f0afc9d575f1c4b44a13", func := "loop.example/g00952/laws.FnExactRemovePin", spec := "fnExactRemovePin", unfollowed := true, recurses := true, apart := false, narrowed := true }
def FnExactRemovePinUptoSaid : Prop := fnExactRemovePinUptoRow.holds Try.pinned (OpenSpec.upto fnExactRemovePinSpec)

/-- 'laws.FnExactAddOrder', WHERE WHAT IT READS IS OF BULK AT MOST 1048576: true; the input reads as it did. -/
def fnExactAddOrderUptoRow : OpenClaim := { program := "ytnidojjahhhaaaa", sum := "46b7d932880e9d808f21e0a5a8adbcc1bd938829f179f0afc9d575f1c4b44a13", func := "loop.example/g00952/laws.FnExactAddOrder", spec := "fnExactAddOrder", inPlace := ["slices.overlaps[loop.example/g00952/impl.Order]"], unfollowed := true, recurses := true, apart := false, narrowed := true }
def FnExactAddOrderUptoSaid : Prop := fnExactAddOrderUptoRow.holds Try.pinned (OpenSpec.upto fnExactAddOrderSpec)

/-- 'laws.FnExactLatestBegin', WHERE WHAT IT READS IS OF BULK AT MOST 1048576: true; the input reads as it did. -/
def fnExactLatestBeginUptoRow : OpenClaim := { program := "ytnidojjahhhaaaa", sum := "46b7d932880e9d808f21e0a5a8adbcc1bd938829f179f0afc9d575f1c4b44a13", func := "loop.example/g00952/laws.FnExactLatestBegin", spec := "fnExactLatestBegin", unfollowed := true, recurses := true, apart := false, narrowed := true }
def FnExactLatestBeginUptoSaid : Prop := fnExactLatestBeginUptoRow.holds Try.pinned (OpenSpec.upto fnExactLatestBeginSpec)

end Rows
end Go.Proofs.Ytnidojjahhhaaaa
