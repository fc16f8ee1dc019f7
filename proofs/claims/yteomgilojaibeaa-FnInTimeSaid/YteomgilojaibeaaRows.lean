/-
  No cell of these rows narrows 'for every input' (looked for: loops, veiled, ifaces, maps, wideKeys, modest, calm, conditions, laid).
  DERIVED. THE GIVEN ROWS OF THIS SEAT. 7 by the template 'for every input the law returns true; each argument reads behind the call as it read before'; 0 by the template 'total and deterministic' (their statements: YteomgilojaibeaaTotals.lean).
  GIVEN WITH THE SEED: the statements are not yours to turn. If you find one false, say at which input.
  Laid BY PROGRAM, IN A SANDBOX (cutbox-rows.mjs): the forced cells as the released guide's own fill.sh prints them over the translation b403b0e1954001ee… (all of the seat's roots in one cut). By AI agents, Wed Nov 11 2026. No macro, syntax, notation, axiom, sorry.
-/
import Derived.Test.YteomgilojaibeaaChecked
import GoSem.Claim
import GoSem.ClaimJoined
import GoSem.ClaimMapViews
import Derived.JoinedTies
import Derived.KernelRfl
namespace Go.Proofs.Yteomgilojaibeaa
/- THE CELL 'sum', in the pinned program and in every row, IS THE sha256 OF THE DUMP (.gsa) THAT YteomgilojaibeaaProg.lean LOADS. Nothing in Lean hashes anything: it is a label: what it is worth is what the hold of that sum in a sandbox is worth. -/
noncomputable def Try.pinned : Pinned := { name := "yteomgilojaibeaa", sum := "b403b0e1954001eee61160cd96b8fed89990eae5eadc8ffac581e0a09f3c5254", checked := Try.checked }
namespace Rows
def none {H : Type} : Left H := { results := [], args := [] }

/-- 'laws.FnExactDrumOf': WHATEVER THE INPUT: true; the input reads as it did. -/
def fnExactDrumOfSpec : ChangeSpec := { name := "fnExactDrumOf", fn := fun _ => fun
  | [d1, d2, d3] => { results := [.lit (.bool true)], args := [d1, d2, d3] }
  | _ => none }
def fnExactDrumOfRow : OpenClaim := { program := "yteomgilojaibeaa", sum := "b403b0e1954001eee61160cd96b8fed89990eae5eadc8ffac581e0a09f3c5254", func := "loop.example/g00952/laws.FnExactDrumOf", spec := "fnExactDrumOf", unfollowed := true, recurses := true, apart := false }
def FnExactDrumOfSaid : Prop := fnExactDrumOfRow.holds Try.pinned (OpenSpec.ofChange fnExactDrumOfSpec)

/-- ITS FALSE NEIGHBOUR: 'it returns false'. Refute it at one input. -/
def fnExactDrumOfWrong : ChangeSpec := { name := "fnExactDrumOf", fn := fun _ => fun
  | [d1, d2, d3] => { results := [.lit (.bool false)], args := [d1, d2, d3] }
  | _ => none }
def FnExactDrumOfWrongFalsely : Prop := fnExactDrumOfRow.holds Try.pinned (OpenSpec.ofChange fnExactDrumOfWrong)

/-- 'laws.FnExactHammersNeeded': WHATEVER THE INPUT: true; the input reads as it did. -/
def fnExactHammersNeededSpec : ChangeSpec := { name := "fnExactHammersNeeded", fn := fun _ => fun
  | [d1, d2, d3] => { results := [.lit (.bool true)], args := [d1, d2, d3] }
  | _ => none }
def fnExactHammersNeededRow : OpenClaim := { program := "yteomgilojaibeaa", sum := "b403b0e1954001eee61160cd96b8fed89990eae5eadc8ffac581e0a09f3c5254", func := "loop.example/g00952/laws.FnExactHammersNeeded", spec := "fnExactHammersNeeded", unfollowed := true, recurses := true, apart := false }
def FnExactHammersNeededSaid : Prop := fnExactHammersNeededRow.holds Try.pinned (OpenSpec.ofChange fnExactHammersNeededSpec)

/-- ITS FALSE NEIGHBOUR: 'it returns false'. Refute it at one input. -/
def fnExactHammersNeededWrong : ChangeSpec := { name := "fnExactHammersNeeded", fn := fun _ => fun
  | [d1, d2, d3] => { results := [.lit (.bool false)], args := [d1, d2, d3] }
  | _ => none }
def FnExactHammersNeededWrongFalsely : Prop := fnExactHammersNeededRow.holds Try.pinned (OpenSpec.ofChange fnExactHammersNeededWrong)

/-- 'laws.FnExactPlayDrum': WHATEVER THE INPUT: true; the input reads as it did. -/
def fnExactPlayDrumSpec : ChangeSpec := { name := "fnExactPlayDrum", fn := fun _ => fun
  | [d1, d2] => { results := [.lit (.bool true)], args := [d1, d2] }
  | _ => none }
def fnExactPlayDrumRow : OpenClaim := { program := "yteomgilojaibeaa", sum := "b403b0e1954001eee61160cd96b8fed89990eae5eadc8ffac581e0a09f3c5254", func := "loop.example/g00952/laws.FnExactPlayDrum", spec := "fnExactPlayDrum", unfollowed := true, recurses := true, apart := false }
def FnExactPlayDrumSaid : Prop := fnExactPlayDrumRow.holds Try.pinned (OpenSpec.ofChange fnExactPlayDrumSpec)

/-- ITS FALSE NEIGHBOUR: 'it returns false'. Refute it at one input. -/
def fnExactPlayDrumWrong : ChangeSpec := { name := "fnExactPlayDrum", fn := fun _ => fun
  | [d1, d2] => { results := [.lit (.bool false)], args := [d1, d2] }
  | _ => none }
def FnExactPlayDrumWrongFalsely : Prop := fnExactPlayDrumRow.holds Try.pinned (OpenSpec.ofChange fnExactPlayDrumWrong)

/-- 'laws.FnExactMostInTime': WHATEVER THE INPUT: true; the input reads as it did. -/
def fnExactMostInTimeSpec : ChangeSpec := { name := "fnExactMostInTime", fn := fun _ => fun
  | [d1, d2] => { results := [.lit (.bool true)], args := [d1, d2] }
  | _ => none }
def fnExactMostInTimeRow : OpenClaim := { program := "yteomgilojaibeaa", sum := "b403b0e1954001eee61160cd96b8fed89990eae5eadc8ffac581e0a09f3c5254", func := "loop.example/g00952/laws.FnExactMostInTime", spec := "fnExactMostInTime", unfollowed := true, recurses := true, apart := false }
def FnExactMostInTimeSaid : Prop := fnExactMostInTimeRow.holds Try.pinned (OpenSpec.ofChange fnExactMostInTimeSpec)

/-- ITS FALSE NEIGHBOUR: 'it returns false'. Refute it at one input. -/
def fnExactMostInTimeWrong : ChangeSpec := { name := "fnExactMostInTime", fn := fun _ => fun
  | [d1, d2] => { results := [.lit (.bool false)], args := [d1, d2] }
  | _ => none }
def FnExactMostInTimeWrongFalsely : Prop := fnExactMostInTimeRow.holds Try.pinned (OpenSpec.ofChange fnExactMostInTimeWrong)

/-- 'laws.FnExactBestInTime': WHATEVER THE INPUT: true; the input reads as it did. -/
def fnExactBestInTimeSpec : ChangeSpec := { name := "fnExactBestInTime", fn := fun _ => fun
  | [d1, d2] => { results := [.lit (.bool true)], args := [d1, d2] }
  | _ => none }
def fnExactBestInTimeRow : OpenClaim := { program := "yteomgilojaibeaa", sum := "b403b0e1954001eee61160cd96b8fed89990eae5eadc8ffac581e0a09f3c5254", func := "loop.example/g00952/laws.FnExactBestInTime", spec := "fnExactBestInTime", unfollowed := true, recurses := true, apart := false }
def FnExactBestInTimeSaid : Prop := fnExactBestInTimeRow.holds Try.pinned (OpenSpec.ofChange fnExactBestInTimeSpec)

/-- ITS FALSE NEIGHBOUR: 'it returns false'. Refute it at one input. -/
def fnExactBestInTimeWrong : ChangeSpec := { name := "fnExactBestInTime", fn := fun _ => fun
  | [d1, d2] => { results := [.lit (.bool false)], args := [d1, d2] }
  | _ => none }
def FnExactBestInTimeWrongFalsely : Prop := fnExactBestInTimeRow.holds Try.pinned (OpenSpec.ofChange fnExactBestInTimeWrong)

/-- 'laws.FnInTime': WHATEVER THE INPUT: true; the input reads as it did. -/
def fnInTimeSpec : ChangeSpec := { name := "fnInTime", fn := fun _ => fun
  | [d1, d2] => { results := [.lit (.bool true)], args := [d1, d2] }
  | _ => none }
def fnInTimeRow : OpenClaim := { program := "yteomgilojaibeaa", sum := "b403b0e1954001eee61160cd96b8fed89990eae5eadc8ffac581e0a09f3c5254", func := "loop.example/g00952/laws.FnInTime", spec := "fnInTime", unfollowed := true, recurses := true, apart := false }
def FnInTimeSaid : Prop := fnInTimeRow.holds Try.pinned (OpenSpec.ofChange fnInTimeSpec)

/-- ITS FALSE NEIGHBOUR: 'it returns false'. Refute it at one input. -/
def fnInTimeWrong : ChangeSpec := { name := "fnInTime", fn := fun _ => fun
  | [d1, d2] => { results := [.lit (.bool false)], args := [d1, d2] }
  | _ => none }
def FnInTimeWrongFalsely : Prop := fnInTimeRow.holds Try.pinned (OpenSpec.ofChange fnInTimeWrong)

/-- 'laws.FnExactNewDesk': WHATEVER THE INPUT: true; the input reads as it did. -/
def fnExactNewDeskSpec : ChangeSpec := { name := "fnExactNewDesk", fn := fun _ => fun
  | [] => { results := [.lit (.bool true)], args := [] }
  | _ => none }
def fnExactNewDeskRow : OpenClaim := { program := "yteomgilojaibeaa", sum := "b403b0e1954001eee61160cd96b8fed89990eae5eadc8ffac581e0a09f3c5254", func := "loop.example/g00952/laws.FnExactNewDesk", spec := "fnExactNewDesk", apart := false }
def FnExactNewDeskSaid : Prop := fnExactNewDeskRow.holds Try.pinned (OpenSpec.ofChange fnExactNewDeskSpec)

/-- ITS FALSE NEIGHBOUR: 'it returns false'. Refute it at one input. -/
def fnExactNewDeskWrong : ChangeSpec := { name := "fnExactNewDesk", fn := fun _ => fun
  | [] => { results := [.lit (.bool false)], args := [] }
  | _ => none }
def FnExactNewDeskWrongFalsely : Prop := fnExactNewDeskRow.holds Try.pinned (OpenSpec.ofChange fnExactNewDeskWrong)

/- THE SECOND FORM. 'bulk': how many values and letters a reading holds, each counted each time it is reached (what is shared counts as often as it is met; a slice's spare places count too). A statement '..UptoSaid' is the law's where the arguments, and the package variables that the reading takes, are together of bulk at most 1048576: NARROWER than '..Said'. Prove '..Said' where nothing that the law and all that it calls make is longer than what came in: it says more and counts as full. Else prove '..UptoSaid'. A law counts once. -/
mutual
def uptoBulk {H : Type} : DataW H → Nat
  | .lit (.string bytes) => bytes.length + 1
  | .lit _ => 1
  | .nil => 1
  | .ptr d => uptoBulk d + 1
  | .slice elems spare => uptoBulkAll elems + uptoBulkAll spare + 1
  | .agg parts => uptoBulkAll parts + 1
  | .iface _ d => uptoBulk d + 1
  | .map entries => uptoBulkEntries entries + 1
  | .held _ => 1
def uptoBulkAll {H : Type} : List (DataW H) → Nat
  | [] => 0
  | d :: r => uptoBulk d + uptoBulkAll r
def uptoBulkEntries {H : Type} : List (Lit × DataW H) → Nat
  | [] => 0
  | x :: r => uptoBulkEntry x + uptoBulkEntries r
def uptoBulkEntry {H : Type} : Lit × DataW H → Nat
  | (.string bytes, d) => bytes.length + uptoBulk d + 1
  | (_, d) => uptoBulk d + 1
 end
def uptoSmall : (H : Type) → List (DataW H) → Bool := fun _ ds => decide (uptoBulkAll ds ≤ 1048576)
def OpenSpec.upto (s : _root_.Go.ChangeSpec) : _root_.Go.OpenSpec := { _root_.Go.OpenSpec.ofChange s with cond := some uptoSmall }

/-- 'laws.FnExactDrumOf', WHERE WHAT IT READS IS OF BULK AT MOST 1048576: true; the input reads as it did. -/
def fnExactDrumOfUptoRow : OpenClaim := { program := "yteomgilojaibeaa", sum := "b403b0e1954001eee61160cd96b8fed89990eae5eadc8ffac581e0a09f3c5254", func := "loop.example/g00952/laws.FnExactDrumOf", spec := "fnExactDrumOf", unfollowed := true, recurses := true, apart := false, narrowed := true }
def FnExactDrumOfUptoSaid : Prop := fnExactDrumOfUptoRow.holds Try.pinned (OpenSpec.upto fnExactDrumOfSpec)

/-- 'laws.FnExactHammersNeeded', WHERE WHAT IT READS IS OF BULK AT MOST 1048576: true; the input reads as it did. -/
def fnExactHammersNeededUptoRow : OpenClaim := { program := "yteomgilojaibeaa", sum := "b403b0e1954001eee61160cd96b8fed89990eae5eadc8ffac581e0a09f3c5254", func := "loop.example/g00952/laws.FnExactHammersNeeded", spec := "fnExactHammersNeeded", unfollowed := true, recurses := true, apart := false, narrowed := true }
def FnExactHammersNeededUptoSaid : Prop := fnExactHammersNeededUptoRow.holds Try.pinned (OpenSpec.upto fnExactHammersNeededSpec)

/-- 'laws.FnExactPlayDrum', WHERE WHAT IT READS IS OF BULK AT MOST 1048576: true; the input reads as it did. -/
def fnExactPlayDrumUptoRow : OpenClaim := { program := "yteomgilojaibeaa", sum := "b403b0e1954001eee61160cd96b8fed89990eae5eadc8ffac581e0a09f3c5254", func := "loop.example/g00952/laws.FnExactPlayDrum", spec := "fnExactPlayDrum", unfollowed := true, recurses := true, apart := false, narrowed := true }
def FnExactPlayDrumUptoSaid : Prop := fnExactPlayDrumUptoRow.holds Try.pinned (OpenSpec.upto fnExactPlayDrumSpec)

/-- 'laws.FnExactMostInTime', WHERE WHAT IT READS IS OF BULK AT MOST 1048576: true; the input reads as it did. -/
def fnExactMostInTimeUptoRow : OpenClaim := { program := "yteomgilojaibeaa", sum := "b403b0e1954001eee61160cd96b8fed89990eae5eadc8ffac581e0a09f3c5254", func := "loop.example/g00952/laws.FnExactMostInTime", spec := "fnExactMostInTime", unfollowed := true, recurses := true, apart := false, narrowed := true }
def FnExactMostInTimeUptoSaid : Prop := fnExactMostInTimeUptoRow.holds Try.pinned (OpenSpec.upto fnExactMostInTimeSpec)

/-- 'laws.FnExactBestInTime', WHERE WHAT IT READS IS OF BULK AT MOST 1048576: true; the input reads as it did. -/
def fnExactBestInTimeUptoRow : OpenClaim := { program := "yteomgilojaibeaa", sum := "b403b0e1954001eee61160cd96b8fed89990eae5eadc8ffac581e0a09f3c5254", func := "loop.example/g00952/laws.FnExactBestInTime", spec := "fnExactBestInTime", unfollowed := true, recurses := true, apart := false, narrowed := true }
def FnExactBestInTimeUptoSaid : Prop := fnExactBestInTimeUptoRow.holds Try.pinned (OpenSpec.upto fnExactBestInTimeSpec)

/-- 'laws.FnInTime', WHERE WHAT IT READS IS OF BULK AT MOST 1048576: true; the input reads as it did. -/
def fnInTimeUptoRow : OpenClaim := { program := "yteomgilojaibeaa", sum := "b403b0e1954001eee61160cd96b8fed89990eae5eadc8ffac581e0a09f3c5254", func := "loop.example/g00952/laws.FnInTime", spec := "fnInTime", unfollowed := true, recurses := true, apart := false, narrowed := true }
def FnInTimeUptoSaid : Prop := fnInTimeUptoRow.holds Try.pinned (OpenSpec.upto fnInTimeSpec)

/-- 'laws.FnExactNewDesk', WHERE WHAT IT READS IS OF BULK AT MOST 1048576: true; the input reads as it did. -/
def fnExactNewDeskUptoRow : OpenClaim := { program := "yteomgilojaibeaa", sum := "b403b0e1954001eee61160cd96b8fed89990eae5eadc8ffac581e0a09f3c5254", func := "loop.example/g00952/laws.FnExactNewDesk", spec := "fnExactNewDesk", apart := false, narrowed := true }
def FnExactNewDeskUptoSaid : Prop := fnExactNewDeskUptoRow.holds Try.pinned (OpenSpec.upto fnExactNewDeskSpec)

end Rows
end Go.Proofs.Yteomgilojaibeaa
