/-
  No cell of these rows narrows 'for every input' (looked for: loops, veiled, ifaces, maps, wideKeys, modest, calm, conditions, laid).
  DERIVED. THE GIVEN ROWS OF THIS SEAT. 7 by the template 'for every input the law returns true; each argument reads behind the call as it read before'; 0 by the template 'total and deterministic' (their statements: YtpbpkpghkbcjdaaTotals.lean).
  GIVEN WITH THE SEED: the statements are not yours to turn. If you find one false, say at which input.
  Laid BY PROGRAM, IN A SANDBOX (cutbox-rows.mjs): the forced cells as the released guide's own fill.sh prints them over the translation 35b793fa175b4f3f… (all of the seat's roots in one cut). By AI agents, Wed Nov 11 2026. No macro, syntax, notation, axiom, sorry.
-/
import Derived.Test.YtpbpkpghkbcjdaaChecked
import GoSem.Claim
import GoSem.ClaimJoined
import GoSem.ClaimMapViews
import Derived.JoinedTies
import Derived.KernelRfl
namespace Go.Proofs.Ytpbpkpghkbcjdaa
/- THE CELL 'sum', in the pinned program and in every row, IS THE sha256 OF THE DUMP (.gsa) THAT YtpbpkpghkbcjdaaProg.lean LOADS. Nothing in Lean hashes anything: it is a label: what it is worth is what the hold of that sum in a sandbox is worth. -/
noncomputable def Try.pinned : Pinned := { name := "ytpbpkpghkbcjdaa", sum := "35b793fa175b4f3f061e23504e20819e00d4c981831e858c430ed5fc0f3fa448", checked := Try.checked }
namespace Rows
def none {H : Type} : Left H := { results := [], args := [] }

/-- 'laws.FnExactTroubleName': WHATEVER THE INPUT: true; the input reads as it did. -/
def fnExactTroubleNameSpec : ChangeSpec := { name := "fnExactTroubleName", fn := fun _ => fun
  | [d] => { results := [.lit (.bool true)], args := [d] }
  | _ => none }
def fnExactTroubleNameRow : OpenClaim := { program := "ytpbpkpghkbcjdaa", sum := "35b793fa175b4f3f061e23504e20819e00d4c981831e858c430ed5fc0f3fa448", func := "loop.example/g00952/laws.FnExactTroubleName", spec := "fnExactTroubleName", apart := false }
def FnExactTroubleNameSaid : Prop := fnExactTroubleNameRow.holds Try.pinned (OpenSpec.ofChange fnExactTroubleNameSpec)

/-- ITS FALSE NEIGHBOUR: 'it returns false'. Refute it at one input. -/
def fnExactTroubleNameWrong : ChangeSpec := { name := "fnExactTroubleName", fn := fun _ => fun
  | [d] => { results := [.lit (.bool false)], args := [d] }
  | _ => none }
def FnExactTroubleNameWrongFalsely : Prop := fnExactTroubleNameRow.holds Try.pinned (OpenSpec.ofChange fnExactTroubleNameWrong)

/-- 'laws.FnExactTroubleText': WHATEVER THE INPUT: true; the input reads as it did. -/
def fnExactTroubleTextSpec : ChangeSpec := { name := "fnExactTroubleText", fn := fun _ => fun
  | [d] => { results := [.lit (.bool true)], args := [d] }
  | _ => none }
def fnExactTroubleTextRow : OpenClaim := { program := "ytpbpkpghkbcjdaa", sum := "35b793fa175b4f3f061e23504e20819e00d4c981831e858c430ed5fc0f3fa448", func := "loop.example/g00952/laws.FnExactTroubleText", spec := "fnExactTroubleText", apart := false }
def FnExactTroubleTextSaid : Prop := fnExactTroubleTextRow.holds Try.pinned (OpenSpec.ofChange fnExactTroubleTextSpec)

/-- ITS FALSE NEIGHBOUR: 'it returns false'. Refute it at one input. -/
def fnExactTroubleTextWrong : ChangeSpec := { name := "fnExactTroubleText", fn := fun _ => fun
  | [d] => { results := [.lit (.bool false)], args := [d] }
  | _ => none }
def FnExactTroubleTextWrongFalsely : Prop := fnExactTroubleTextRow.holds Try.pinned (OpenSpec.ofChange fnExactTroubleTextWrong)

/-- 'laws.FnExactCommandNames': WHATEVER THE INPUT: true; the input reads as it did. -/
def fnExactCommandNamesSpec : ChangeSpec := { name := "fnExactCommandNames", fn := fun _ => fun
  | [] => { results := [.lit (.bool true)], args := [] }
  | _ => none }
def fnExactCommandNamesRow : OpenClaim := { program := "ytpbpkpghkbcjdaa", sum := "35b793fa175b4f3f061e23504e20819e00d4c981831e858c430ed5fc0f3fa448", func := "loop.example/g00952/laws.FnExactCommandNames", spec := "fnExactCommandNames", apart := false }
def FnExactCommandNamesSaid : Prop := fnExactCommandNamesRow.holds Try.pinned (OpenSpec.ofChange fnExactCommandNamesSpec)

/-- ITS FALSE NEIGHBOUR: 'it returns false'. Refute it at one input. -/
def fnExactCommandNamesWrong : ChangeSpec := { name := "fnExactCommandNames", fn := fun _ => fun
  | [] => { results := [.lit (.bool false)], args := [] }
  | _ => none }
def FnExactCommandNamesWrongFalsely : Prop := fnExactCommandNamesRow.holds Try.pinned (OpenSpec.ofChange fnExactCommandNamesWrong)

/-- 'laws.FnExactPriceOf': WHATEVER THE INPUT: true; the input reads as it did. -/
def fnExactPriceOfSpec : ChangeSpec := { name := "fnExactPriceOf", fn := fun _ => fun
  | [d] => { results := [.lit (.bool true)], args := [d] }
  | _ => none }
def fnExactPriceOfRow : OpenClaim := { program := "ytpbpkpghkbcjdaa", sum := "35b793fa175b4f3f061e23504e20819e00d4c981831e858c430ed5fc0f3fa448", func := "loop.example/g00952/laws.FnExactPriceOf", spec := "fnExactPriceOf", apart := false }
def FnExactPriceOfSaid : Prop := fnExactPriceOfRow.holds Try.pinned (OpenSpec.ofChange fnExactPriceOfSpec)

/-- ITS FALSE NEIGHBOUR: 'it returns false'. Refute it at one input. -/
def fnExactPriceOfWrong : ChangeSpec := { name := "fnExactPriceOf", fn := fun _ => fun
  | [d] => { results := [.lit (.bool false)], args := [d] }
  | _ => none }
def FnExactPriceOfWrongFalsely : Prop := fnExactPriceOfRow.holds Try.pinned (OpenSpec.ofChange fnExactPriceOfWrong)

/-- 'laws.FnExactSameRecords': WHATEVER THE INPUT: true; the input reads as it did. -/
def fnExactSameRecordsSpec : ChangeSpec := { name := "fnExactSameRecords", fn := fun _ => fun
  | [d1, d2] => { results := [.lit (.bool true)], args := [d1, d2] }
  | _ => none }
def fnExactSameRecordsRow : OpenClaim := { program := "ytpbpkpghkbcjdaa", sum := "35b793fa175b4f3f061e23504e20819e00d4c981831e858c430ed5fc0f3fa448", func := "loop.example/g00952/laws.FnExactSameRecords", spec := "fnExactSameRecords", apart := false }
def FnExactSameRecordsSaid : Prop := fnExactSameRecordsRow.holds Try.pinned (OpenSpec.ofChange fnExactSameRecordsSpec)

/-- ITS FALSE NEIGHBOUR: 'it returns false'. Refute it at one input. -/
def fnExactSameRecordsWrong : ChangeSpec := { name := "fnExactSameRecords", fn := fun _ => fun
  | [d1, d2] => { results := [.lit (.bool false)], args := [d1, d2] }
  | _ => none }
def FnExactSameRecordsWrongFalsely : Prop := fnExactSameRecordsRow.holds Try.pinned (OpenSpec.ofChange fnExactSameRecordsWrong)

/-- 'laws.FnExactValidRecord': WHATEVER THE INPUT: true; the input reads as it did. -/
def fnExactValidRecordSpec : ChangeSpec := { name := "fnExactValidRecord", fn := fun _ => fun
  | [d] => { results := [.lit (.bool true)], args := [d] }
  | _ => none }
def fnExactValidRecordRow : OpenClaim := { program := "ytpbpkpghkbcjdaa", sum := "35b793fa175b4f3f061e23504e20819e00d4c981831e858c430ed5fc0f3fa448", func := "loop.example/g00952/laws.FnExactValidRecord", spec := "fnExactValidRecord", unfollowed := true, recurses := true, apart := false }
def FnExactValidRecordSaid : Prop := fnExactValidRecordRow.holds Try.pinned (OpenSpec.ofChange fnExactValidRecordSpec)

/-- ITS FALSE NEIGHBOUR: 'it returns false'. Refute it at one input. -/
def fnExactValidRecordWrong : ChangeSpec := { name := "fnExactValidRecord", fn := fun _ => fun
  | [d] => { results := [.lit (.bool false)], args := [d] }
  | _ => none }
def FnExactValidRecordWrongFalsely : Prop := fnExactValidRecordRow.holds Try.pinned (OpenSpec.ofChange fnExactValidRecordWrong)

/-- 'laws.FnExactSameOrders': WHATEVER THE INPUT: true; the input reads as it did. -/
def fnExactSameOrdersSpec : ChangeSpec := { name := "fnExactSameOrders", fn := fun _ => fun
  | [d1, d2] => { results := [.lit (.bool true)], args := [d1, d2] }
  | _ => none }
def fnExactSameOrdersRow : OpenClaim := { program := "ytpbpkpghkbcjdaa", sum := "35b793fa175b4f3f061e23504e20819e00d4c981831e858c430ed5fc0f3fa448", func := "loop.example/g00952/laws.FnExactSameOrders", spec := "fnExactSameOrders", apart := false }
def FnExactSameOrdersSaid : Prop := fnExactSameOrdersRow.holds Try.pinned (OpenSpec.ofChange fnExactSameOrdersSpec)

/-- ITS FALSE NEIGHBOUR: 'it returns false'. Refute it at one input. -/
def fnExactSameOrdersWrong : ChangeSpec := { name := "fnExactSameOrders", fn := fun _ => fun
  | [d1, d2] => { results := [.lit (.bool false)], args := [d1, d2] }
  | _ => none }
def FnExactSameOrdersWrongFalsely : Prop := fnExactSameOrdersRow.holds Try.pinned (OpenSpec.ofChange fnExactSameOrdersWrong)

/- THE SECOND FORM. 'bulk': how many values and letters a reading holds, each counted each time it is reached (what is shared counts as often as it is met; a slice's spare places count too). A statement '..UptoSaid' is the law's where the arguments, and the package variables that the reading takes, are together of bulk at most 1048576: NARROWER than '..Said'. Prove '..Said' where nothing that the law and all that it calls make is longer than what came in: it says more and counts as full. Else prove '..UptoSaid'. A law counts once. -/
mutual
def uptoBulk {H : Type} : DataW H → Nat
  | .lit (.string bytes) => bytes.length + 1
  | .lit _ => 1
  | .nil => 1
  | .ptr d => uptoBulk d + 1
  | .slice elems spare => uptoBulkAll elems + uptoBulkAll spare + 1
  | .agg parts => uptoBulkAll parts + 1
  | .iface _ d => uptoBulk d + 1
  | .map entries => uptoBulkEntries entries + 1
  | .held _ => 1
def uptoBulkAll {H : Type} : List (DataW H) → Nat
  | [] => 0
  | d :: r => uptoBulk d + uptoBulkAll r
def uptoBulkEntries {H : Type} : List (Lit × DataW H) → Nat
  | [] => 0
  | x :: r => uptoBulkEntry x + uptoBulkEntries r
def uptoBulkEntry {H : Type} : Lit × DataW H → Nat
  | (.string bytes, d) => bytes.length + uptoBulk d + 1
  | (_, d) => uptoBulk d + 1
 end
def uptoSmall : (H : Type) → List (DataW H) → Bool := fun _ ds => decide (uptoBulkAll ds ≤ 1048576)
def OpenSpec.upto (s : _root_.Go.ChangeSpec) : _root_.Go.OpenSpec := { _root_.Go.OpenSpec.ofChange s with cond := some uptoSmall }

/-- 'laws.FnExactTroubleName', WHERE WHAT IT READS IS OF BULK AT MOST 1048576: true; the input reads as it did. -/
def fnExactTroubleNameUptoRow : OpenClaim := { program := "ytpbpkpghkbcjdaa", sum := "35b793fa175b4f3f061e23504e20819e00d4c981831e858c430ed5fc0f3fa448", func := "loop.example/g00952/laws.FnExactTroubleName", spec := "fnExactTroubleName", apart := false, narrowed := true }
def FnExactTroubleNameUptoSaid : Prop := fnExactTroubleNameUptoRow.holds Try.pinned (OpenSpec.upto fnExactTroubleNameSpec)

/-- 'laws.FnExactTroubleText', WHERE WHAT IT READS IS OF BULK AT MOST 1048576: true; the input reads as it did. -/
def fnExactTroubleTextUptoRow : OpenClaim := { program := "ytpbpkpghkbcjdaa", sum := "35b793fa175b4f3f061e23504e20819e00d4c981831e858c430ed5fc0f3fa448", func := "loop.example/g00952/laws.FnExactTroubleText", spec := "fnExactTroubleText", apart := false, narrowed := true }
def FnExactTroubleTextUptoSaid : Prop := fnExactTroubleTextUptoRow.holds Try.pinned (OpenSpec.upto fnExactTroubleTextSpec)

/-- 'laws.FnExactCommandNames', WHERE WHAT IT READS IS OF BULK AT MOST 1048576: true; the input reads as it did. -/
def fnExactCommandNamesUptoRow : OpenClaim := { program := "ytpbpkpghkbcjdaa", sum := "35b793fa175b4f3f061e23504e20819e00d4c981831e858c430ed5fc0f3fa448", func := "loop.example/g00952/laws.FnExactCommandNames", spec := "fnExactCommandNames", apart := false, narrowed := true }
def FnExactCommandNamesUptoSaid : Prop := fnExactCommandNamesUptoRow.holds Try.pinned (OpenSpec.upto fnExactCommandNamesSpec)

/-- 'laws.FnExactPriceOf', WHERE WHAT IT READS IS OF BULK AT MOST 1048576: true; the input reads as it did. -/
def fnExactPriceOfUptoRow : OpenClaim := { program := "ytpbpkpghkbcjdaa", sum := "35b793fa175b4f3f061e23504e20819e00d4c981831e858c430ed5fc0f3fa448", func := "loop.example/g00952/laws.FnExactPriceOf", spec := "fnExactPriceOf", apart := false, narrowed := true }
def FnExactPriceOfUptoSaid : Prop := fnExactPriceOfUptoRow.holds Try.pinned (OpenSpec.upto fnExactPriceOfSpec)

/-- 'laws.FnExactSameRecords', WHERE WHAT IT READS IS OF BULK AT MOST 1048576: true; the input reads as it did. -/
def fnExactSameRecordsUptoRow : OpenClaim := { program := "ytpbpkpghkbcjdaa", sum := "35b793fa175b4f3f061e23504e20819e00d4c981831e858c430ed5fc0f3fa448", func := "loop.example/g00952/laws.FnExactSameRecords", spec := "fnExactSameRecords", apart := false, narrowed := true }
def FnExactSameRecordsUptoSaid : Prop := fnExactSameRecordsUptoRow.holds Try.pinned (OpenSpec.upto fnExactSameRecordsSpec)

/-- 'laws.FnExactValidRecord', WHERE WHAT IT READS IS OF BULK AT MOST 1048576: true; the input reads as it did. -/
def fnExactValidRecordUptoRow : OpenClaim := { program := "ytpbpkpghkbcjdaa", sum := "35b793fa175b4f3f061e23504e20819e00d4c981831e858c430ed5fc0f3fa448", func := "loop.example/g00952/laws.FnExactValidRecord", spec := "fnExactValidRecord", unfollowed := true, recurses := true, apart := false, narrowed := true }
def FnExactValidRecordUptoSaid : Prop := fnExactValidRecordUptoRow.holds Try.pinned (OpenSpec.upto fnExactValidRecordSpec)

/-- 'laws.FnExactSameOrders', WHERE WHAT IT READS IS OF BULK AT MOST 1048576: true; the input reads as it did. -/
def fnExactSameOrdersUptoRow : OpenClaim := { program := "ytpbpkpghkbcjdaa", sum := "35b793fa175b4f3f061e23504e20819e00d4c981831e858c430ed5fc0f3fa448", func := "loop.example/g00952/laws.FnExactSameOrders", spec := "fnExactSameOrders", apart := false, narrowed := true }
def FnExactSameOrdersUptoSaid : Prop := fnExactSameOrdersUptoRow.holds Try.pinned (OpenSpec.upto fnExactSameOrdersSpec)

end Rows
end Go.Proofs.Ytpbpkpghkbcjdaa
