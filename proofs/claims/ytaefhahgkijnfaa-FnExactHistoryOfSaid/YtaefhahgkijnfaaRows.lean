/-
  No cell of these rows narrows 'for every input' (looked for: loops, veiled, ifaces, maps, wideKeys, modest, calm, conditions, laid).
  DERIVED. THE GIVEN ROWS OF THIS SEAT. 11 by the template 'for every input the law returns true; each argument reads behind the call as it read before'; 0 by the template 'total and deterministic' (their statements: YtaefhahgkijnfaaTotals.lean).
  GIVEN WITH THE SEED: the statements are not yours to turn. If you find one false, say at which input.
  Laid BY PROGRAM, IN A SANDBOX (cutbox-rows.mjs): the forced cells as the released guide's own fill.sh prints them over the translation afa81f046c6e7570… (all of the seat's roots in one cut). By AI agents, Wed Nov 11 2026. No macro, syntax, notation, axiom, sorry.
-/
import Derived.Test.YtaefhahgkijnfaaChecked
import GoSem.Claim
import GoSem.ClaimJoined
import GoSem.ClaimMapViews
import Derived.JoinedTies
import Derived.KernelRfl
namespace Go.Proofs.Ytaefhahgkijnfaa
/- THE CELL 'sum', in the pinned program and in every row, IS THE sha256 OF THE DUMP (.gsa) THAT YtaefhahgkijnfaaProg.lean LOADS. Nothing in Lean hashes anything: it is a label: what it is worth is what the hold of that sum in a sandbox is worth. -/
noncomputable def Try.pinned : Pinned := { name := "ytaefhahgkijnfaa", sum := "afa81f046c6e757029e17fad2054b1bdcd8f4e18e9d9b1dd485b6878e6a088cc", checked := Try.checked }
namespace Rows
def none {H : Type} : Left H := { results := [], args := [] }

/-- 'laws.FnExactDueFirst': WHATEVER THE INPUT: true; the input reads as it did. -/
def fnExactDueFirstSpec : ChangeSpec := { name := "fnExactDueFirst", fn := fun _ => fun
  | [d] => { results := [.lit (.bool true)], args := [d] }
  | _ => none }
def fnExactDueFirstRow : OpenClaim := { program := "ytaefhahgkijnfaa", sum := "afa81f046c6e757029e17fad2054b1bdcd8f4e18e9d9b1dd485b6878e6a088cc", func := "loop.example/g00952/laws.FnExactDueFirst", spec := "fnExactDueFirst", unfollowed := true, recurses := true, apart := false }
def FnExactDueFirstSaid : Prop := fnExactDueFirstRow.holds Try.pinned (OpenSpec.ofChange fnExactDueFirstSpec)

/-- ITS FALSE NEIGHBOUR: 'it returns false'. Refute it at one input. -/
def fnExactDueFirstWrong : ChangeSpec := { name := "fnExactDueFirst", fn := fun _ => fun
  | [d] => { results := [.lit (.bool false)], args := [d] }
  | _ => none }
def FnExactDueFirstWrongFalsely : Prop := fnExactDueFirstRow.holds Try.pinned (OpenSpec.ofChange fnExactDueFirstWrong)

/-- 'laws.FnExactValidLedger': WHATEVER THE INPUT: true; the input reads as it did. -/
def fnExactValidLedgerSpec : ChangeSpec := { name := "fnExactValidLedger", fn := fun _ => fun
  | [d] => { results := [.lit (.bool true)], args := [d] }
  | _ => none }
def fnExactValidLedgerRow : OpenClaim := { program := "ytaefhahgkijnfaa", sum := "afa81f046c6e757029e17fad2054b1bdcd8f4e18e9d9b1dd485b6878e6a088cc", func := "loop.example/g00952/laws.FnExactValidLedger", spec := "fnExactValidLedger", inPlace := ["internal/bytealg.abigen_runtime_cmpstring", "slices.overlaps[loop.example/g00952/impl.Pair]"], unfollowed := true, recurses := true, apart := false }
def FnExactValidLedgerSaid : Prop := fnExactValidLedgerRow.holds Try.pinned (OpenSpec.ofChange fnExactValidLedgerSpec)

/-- ITS FALSE NEIGHBOUR: 'it returns false'. Refute it at one input. -/
def fnExactValidLedgerWrong : ChangeSpec := { name := "fnExactValidLedger", fn := fun _ => fun
  | [d] => { results := [.lit (.bool false)], args := [d] }
  | _ => none }
def FnExactValidLedgerWrongFalsely : Prop := fnExactValidLedgerRow.holds Try.pinned (OpenSpec.ofChange fnExactValidLedgerWrong)

/-- 'laws.FnExactActiveRecords': WHATEVER THE INPUT: true; the input reads as it did. -/
def fnExactActiveRecordsSpec : ChangeSpec := { name := "fnExactActiveRecords", fn := fun _ => fun
  | [d] => { results := [.lit (.bool true)], args := [d] }
  | _ => none }
def fnExactActiveRecordsRow : OpenClaim := { program := "ytaefhahgkijnfaa", sum := "afa81f046c6e757029e17fad2054b1bdcd8f4e18e9d9b1dd485b6878e6a088cc", func := "loop.example/g00952/laws.FnExactActiveRecords", spec := "fnExactActiveRecords", inPlace := ["internal/bytealg.abigen_runtime_cmpstring", "slices.overlaps[loop.example/g00952/impl.Pair]"], unfollowed := true, recurses := true, apart := false }
def FnExactActiveRecordsSaid : Prop := fnExactActiveRecordsRow.holds Try.pinned (OpenSpec.ofChange fnExactActiveRecordsSpec)

/-- ITS FALSE NEIGHBOUR: 'it returns false'. Refute it at one input. -/
def fnExactActiveRecordsWrong : ChangeSpec := { name := "fnExactActiveRecords", fn := fun _ => fun
  | [d] => { results := [.lit (.bool false)], args := [d] }
  | _ => none }
def FnExactActiveRecordsWrongFalsely : Prop := fnExactActiveRecordsRow.holds Try.pinned (OpenSpec.ofChange fnExactActiveRecordsWrong)

/-- 'laws.FnExactAddRecord': WHATEVER THE INPUT: true; the input reads as it did. -/
def fnExactAddRecordSpec : ChangeSpec := { name := "fnExactAddRecord", fn := fun _ => fun
  | [d1, d2] => { results := [.lit (.bool true)], args := [d1, d2] }
  | _ => none }
def fnExactAddRecordRow : OpenClaim := { program := "ytaefhahgkijnfaa", sum := "afa81f046c6e757029e17fad2054b1bdcd8f4e18e9d9b1dd485b6878e6a088cc", func := "loop.example/g00952/laws.FnExactAddRecord", spec := "fnExactAddRecord", inPlace := ["internal/bytealg.abigen_runtime_cmpstring", "slices.overlaps[loop.example/g00952/impl.Pair]"], unfollowed := true, recurses := true, apart := false }
def FnExactAddRecordSaid : Prop := fnExactAddRecordRow.holds Try.pinned (OpenSpec.ofChange fnExactAddRecordSpec)

/-- ITS FALSE NEIGHBOUR: 'it returns false'. Refute it at one input. -/
def fnExactAddRecordWrong : ChangeSpec := { name := "fnExactAddRecord", fn := fun _ => fun
  | [d1, d2] => { results := [.lit (.bool false)], args := [d1, d2] }
  | _ => none }
def FnExactAddRecordWrongFalsely : Prop := fnExactAddRecordRow.holds Try.pinned (OpenSpec.ofChange fnExactAddRecordWrong)

/-- 'laws.FnExactStateAt': WHATEVER THE INPUT: true; the input reads as it did. -/
def fnExactStateAtSpec : ChangeSpec := { name := "fnExactStateAt", fn := fun _ => fun
  | [d1, d2] => { results := [.lit (.bool true)], args := [d1, d2] }
  | _ => none }
def fnExactStateAtRow : OpenClaim := { program := "ytaefhahgkijnfaa", sum := "afa81f046c6e757029e17fad2054b1bdcd8f4e18e9d9b1dd485b6878e6a088cc", func := "loop.example/g00952/laws.FnExactStateAt", spec := "fnExactStateAt", inPlace := ["internal/bytealg.abigen_runtime_cmpstring", "slices.overlaps[loop.example/g00952/impl.Pair]"], unfollowed := true, recurses := true, apart := false }
def FnExactStateAtSaid : Prop := fnExactStateAtRow.holds Try.pinned (OpenSpec.ofChange fnExactStateAtSpec)

/-- ITS FALSE NEIGHBOUR: 'it returns false'. Refute it at one input. -/
def fnExactStateAtWrong : ChangeSpec := { name := "fnExactStateAt", fn := fun _ => fun
  | [d1, d2] => { results := [.lit (.bool false)], args := [d1, d2] }
  | _ => none }
def FnExactStateAtWrongFalsely : Prop := fnExactStateAtRow.holds Try.pinned (OpenSpec.ofChange fnExactStateAtWrong)

/-- 'laws.FnExactAddPin': WHATEVER THE INPUT: true; the input reads as it did. -/
def fnExactAddPinSpec : ChangeSpec := { name := "fnExactAddPin", fn := fun _ => fun
  | [d1, d2] => { results := [.lit (.bool true)], args := [d1, d2] }
  | _ => none }
def fnExactAddPinRow : OpenClaim := { program := "ytaefhahgkijnfaa", sum := "afa81f046c6e757029e17fad2054b1bdcd8f4e18e9d9b1dd485b6878e6a088cc", func := "loop.example/g00952/laws.FnExactAddPin", spec := "fnExactAddPin", inPlace := ["slices.overlaps[loop.example/g00952/impl.Pin]"], unfollowed := true, recurses := true, apart := false }
def FnExactAddPinSaid : Prop := fnExactAddPinRow.holds Try.pinned (OpenSpec.ofChange fnExactAddPinSpec)

/-- ITS FALSE NEIGHBOUR: 'it returns false'. Refute it at one input. -/
def fnExactAddPinWrong : ChangeSpec := { name := "fnExactAddPin", fn := fun _ => fun
  | [d1, d2] => { results := [.lit (.bool false)], args := [d1, d2] }
  | _ => none }
def FnExactAddPinWrongFalsely : Prop := fnExactAddPinRow.holds Try.pinned (OpenSpec.ofChange fnExactAddPinWrong)

/-- 'laws.FnExactHistoryOf': WHATEVER THE INPUT: true; the input reads as it did. -/
def fnExactHistoryOfSpec : ChangeSpec := { name := "fnExactHistoryOf", fn := fun _ => fun
  | [d1, d2] => { results := [.lit (.bool true)], args := [d1, d2] }
  | _ => none }
def fnExactHistoryOfRow : OpenClaim := { program := "ytaefhahgkijnfaa", sum := "afa81f046c6e757029e17fad2054b1bdcd8f4e18e9d9b1dd485b6878e6a088cc", func := "loop.example/g00952/laws.FnExactHistoryOf", spec := "fnExactHistoryOf", inPlace := ["internal/bytealg.abigen_runtime_cmpstring", "slices.overlaps[loop.example/g00952/impl.Pair]"], unfollowed := true, recurses := true, apart := false }
def FnExactHistoryOfSaid : Prop := fnExactHistoryOfRow.holds Try.pinned (OpenSpec.ofChange fnExactHistoryOfSpec)

/-- ITS FALSE NEIGHBOUR: 'it returns false'. Refute it at one input. -/
def fnExactHistoryOfWrong : ChangeSpec := { name := "fnExactHistoryOf", fn := fun _ => fun
  | [d1, d2] => { results := [.lit (.bool false)], args := [d1, d2] }
  | _ => none }
def FnExactHistoryOfWrongFalsely : Prop := fnExactHistoryOfRow.holds Try.pinned (OpenSpec.ofChange fnExactHistoryOfWrong)

/-- 'laws.FnExactMostInTime': WHATEVER THE INPUT: true; the input reads as it did. -/
def fnExactMostInTimeSpec : ChangeSpec := { name := "fnExactMostInTime", fn := fun _ => fun
  | [d1, d2] => { results := [.lit (.bool true)], args := [d1, d2] }
  | _ => none }
def fnExactMostInTimeRow : OpenClaim := { program := "ytaefhahgkijnfaa", sum := "afa81f046c6e757029e17fad2054b1bdcd8f4e18e9d9b1dd485b6878e6a088cc", func := "loop.example/g00952/laws.FnExactMostInTime", spec := "fnExactMostInTime", unfollowed := true, recurses := true, apart := false }
def FnExactMostInTimeSaid : Prop := fnExactMostInTimeRow.holds Try.pinned (OpenSpec.ofChange fnExactMostInTimeSpec)

/-- ITS FALSE NEIGHBOUR: 'it returns false'. Refute it at one input. -/
def fnExactMostInTimeWrong : ChangeSpec := { name := "fnExactMostInTime", fn := fun _ => fun
  | [d1, d2] => { results := [.lit (.bool false)], args := [d1, d2] }
  | _ => none }
def FnExactMostInTimeWrongFalsely : Prop := fnExactMostInTimeRow.holds Try.pinned (OpenSpec.ofChange fnExactMostInTimeWrong)

/-- 'laws.FnExactBestInTime': WHATEVER THE INPUT: true; the input reads as it did. -/
def fnExactBestInTimeSpec : ChangeSpec := { name := "fnExactBestInTime", fn := fun _ => fun
  | [d1, d2] => { results := [.lit (.bool true)], args := [d1, d2] }
  | _ => none }
def fnExactBestInTimeRow : OpenClaim := { program := "ytaefhahgkijnfaa", sum := "afa81f046c6e757029e17fad2054b1bdcd8f4e18e9d9b1dd485b6878e6a088cc", func := "loop.example/g00952/laws.FnExactBestInTime", spec := "fnExactBestInTime", unfollowed := true, recurses := true, apart := false }
def FnExactBestInTimeSaid : Prop := fnExactBestInTimeRow.holds Try.pinned (OpenSpec.ofChange fnExactBestInTimeSpec)

/-- ITS FALSE NEIGHBOUR: 'it returns false'. Refute it at one input. -/
def fnExactBestInTimeWrong : ChangeSpec := { name := "fnExactBestInTime", fn := fun _ => fun
  | [d1, d2] => { results := [.lit (.bool false)], args := [d1, d2] }
  | _ => none }
def FnExactBestInTimeWrongFalsely : Prop := fnExactBestInTimeRow.holds Try.pinned (OpenSpec.ofChange fnExactBestInTimeWrong)

/-- 'laws.FnExactChangesBetween': WHATEVER THE INPUT: true; the input reads as it did. -/
def fnExactChangesBetweenSpec : ChangeSpec := { name := "fnExactChangesBetween", fn := fun _ => fun
  | [d1, d2] => { results := [.lit (.bool true)], args := [d1, d2] }
  | _ => none }
def fnExactChangesBetweenRow : OpenClaim := { program := "ytaefhahgkijnfaa", sum := "afa81f046c6e757029e17fad2054b1bdcd8f4e18e9d9b1dd485b6878e6a088cc", func := "loop.example/g00952/laws.FnExactChangesBetween", spec := "fnExactChangesBetween", inPlace := ["internal/bytealg.abigen_runtime_cmpstring"], unfollowed := true, recurses := true, apart := false }
def FnExactChangesBetweenSaid : Prop := fnExactChangesBetweenRow.holds Try.pinned (OpenSpec.ofChange fnExactChangesBetweenSpec)

/-- ITS FALSE NEIGHBOUR: 'it returns false'. Refute it at one input. -/
def fnExactChangesBetweenWrong : ChangeSpec := { name := "fnExactChangesBetween", fn := fun _ => fun
  | [d1, d2] => { results := [.lit (.bool false)], args := [d1, d2] }
  | _ => none }
def FnExactChangesBetweenWrongFalsely : Prop := fnExactChangesBetweenRow.holds Try.pinned (OpenSpec.ofChange fnExactChangesBetweenWrong)

/-- 'laws.FnExactTurnDrum': WHATEVER THE INPUT: true; the input reads as it did. -/
def fnExactTurnDrumSpec : ChangeSpec := { name := "fnExactTurnDrum", fn := fun _ => fun
  | [d1, d2] => { results := [.lit (.bool true)], args := [d1, d2] }
  | _ => none }
def fnExactTurnDrumRow : OpenClaim := { program := "ytaefhahgkijnfaa", sum := "afa81f046c6e757029e17fad2054b1bdcd8f4e18e9d9b1dd485b6878e6a088cc", func := "loop.example/g00952/laws.FnExactTurnDrum", spec := "fnExactTurnDrum", unfollowed := true, recurses := true, apart := false }
def FnExactTurnDrumSaid : Prop := fnExactTurnDrumRow.holds Try.pinned (OpenSpec.ofChange fnExactTurnDrumSpec)

/-- ITS FALSE NEIGHBOUR: 'it returns false'. Refute it at one input. -/
def fnExactTurnDrumWrong : ChangeSpec := { name := "fnExactTurnDrum", fn := fun _ => fun
  | [d1, d2] => { results := [.lit (.bool false)], args := [d1, d2] }
  | _ => none }
def FnExactTurnDrumWrongFalsely : Prop := fnExactTurnDrumRow.holds Try.pinned (OpenSpec.ofChange fnExactTurnDrumWrong)

/- THE SECOND FORM. 'bulk': how many values and letters a reading holds, each counted each time it is reached (what is shared counts as often as it is met; a slice's spare places count too). A statement '..UptoSaid' is the law's where the arguments, and the package variables that the reading takes, are together of bulk at most 1048576: NARROWER than '..Said'. Prove '..Said' where nothing that the law and all that it calls make is longer than what came in: it says more and counts as full. Else prove '..UptoSaid'. A law counts once. -/
mutual
def uptoBulk {H : Type} : DataW H → Nat
  | .lit (.string bytes) => bytes.length + 1
  | .lit _ => 1
  | .nil => 1
  | .ptr d => uptoBulk d + 1
  | .slice elems spare => uptoBulkAll elems + uptoBulkAll spare + 1
  | .agg parts => uptoBulkAll parts + 1
  | .iface _ d => uptoBulk d + 1
  | .map entries => uptoBulkEntries entries + 1
  | .held _ => 1
def uptoBulkAll {H : Type} : List (DataW H) → Nat
  | [] => 0
  | d :: r => uptoBulk d + uptoBulkAll r
def uptoBulkEntries {H : Type} : List (Lit × DataW H) → Nat
  | [] => 0
  | x :: r => uptoBulkEntry x + uptoBulkEntries r
def uptoBulkEntry {H : Type} : Lit × DataW H → Nat
  | (.string bytes, d) => bytes.length + uptoBulk d + 1
  | (_, d) => uptoBulk d + 1
 end
def uptoSmall : (H : Type) → List (DataW H) → Bool := fun _ ds => decide (uptoBulkAll ds ≤ 1048576)
def OpenSpec.upto (s : _root_.Go.ChangeSpec) : _root_.Go.OpenSpec := { _root_.Go.OpenSpec.ofChange s with cond := some uptoSmall }

/-- 'laws.FnExactDueFirst', WHERE WHAT IT READS IS OF BULK AT MOST 1048576: true; the input reads as it did. -/
def fnExactDueFirstUptoRow : OpenClaim := { program := "ytaefhahgkijnfaa", sum := "afa81f046c6e757029e17fad2054b1bdcd8f4e18e9d9b1dd485b6878e6a088cc", func := "loop.example/g00952/laws.FnExactDueFirst", spec := "fnExactDueFirst", unfollowed := true, recurses := true, apart := false, narrowed := true }
def FnExactDueFirstUptoSaid : Prop := fnExactDueFirstUptoRow.holds Try.pinned (OpenSpec.upto fnExactDueFirstSpec)

/-- 'laws.FnExactValidLedger', WHERE WHAT IT READS IS OF BULK AT MOST 1048576: true; the input reads as it did. -/
def fnExactValidLedgerUptoRow : OpenClaim := { program := "ytaefhahgkijnfaa", sum := "afa81f046c6e757029e17fad2054b1bdcd8f4e18e9d9b1dd485b6878e6a088cc", func := "loop.example/g00952/laws.FnExactValidLedger", spec := "fnExactValidLedger", inPlace := ["internal/bytealg.abigen_runtime_cmpstring", "slices.overlaps[loop.example/g00952/impl.Pair]"], unfollowed := true, recurses := true, apart := false, narrowed := true }
def FnExactValidLedgerUptoSaid : Prop := fnExactValidLedgerUptoRow.holds Try.pinned (OpenSpec.upto fnExactValidLedgerSpec)

/-- 'laws.FnExactActiveRecords', WHERE WHAT IT READS IS OF BULK AT MOST 1048576: true; the input reads as it did. -/
def fnExactActiveRecordsUptoRow : OpenClaim := { program := "ytaefhahgkijnfaa", sum := "afa81f046c6e757029e17fad2054b1bdcd8f4e18e9d9b1dd485b6878e6a088cc", func := "loop.example/g00952/laws.FnExactActiveRecords", spec := "fnExactActiveRecords", inPlace := ["internal/bytealg.abigen_runtime_cmpstring", "slices.overlaps[loop.example/g00952/impl.Pair]"], unfollowed := true, recurses := true, apart := false, narrowed := true }
def FnExactActiveRecordsUptoSaid : Prop := fnExactActiveRecordsUptoRow.holds Try.pinned (OpenSpec.upto fnExactActiveRecordsSpec)

/-- 'laws.FnExactAddRecord', WHERE WHAT IT READS IS OF BULK AT MOST 1048576: true; the input reads as it did. -/
def fnExactAddRecordUptoRow : OpenClaim := { program := "ytaefhahgkijnfaa", sum := "afa81f046c6e757029e17fad2054b1bdcd8f4e18e9d9b1dd485b6878e6a088cc", func := "loop.example/g00952/laws.FnExactAddRecord", spec := "fnExactAddRecord", inPlace := ["internal/bytealg.abigen_runtime_cmpstring", "slices.overlaps[loop.example/g00952/impl.Pair]"], unfollowed := true, recurses := true, apart := false, narrowed := true }
def FnExactAddRecordUptoSaid : Prop := fnExactAddRecordUptoRow.holds Try.pinned (OpenSpec.upto fnExactAddRecordSpec)

/-- 'laws.FnExactStateAt', WHERE WHAT IT READS IS OF BULK AT MOST 1048576: true; the input reads as it did. -/
def fnExactStateAtUptoRow : OpenClaim := { program := "ytaefhahgkijnfaa", sum := "afa81f046c6e757029e17fad2054b1bdcd8f4e18e9d9b1dd485b6878e6a088cc", func := "loop.example/g00952/laws.FnExactStateAt", spec := "fnExactStateAt", inPlace := ["internal/bytealg.abigen_runtime_cmpstring", "slices.overlaps[loop.example/g00952/impl.Pair]"], unfollowed := true, recurses := true, apart := false, narrowed := true }
def FnExactStateAtUptoSaid : Prop := fnExactStateAtUptoRow.holds Try.pinned (OpenSpec.upto fnExactStateAtSpec)

/-- 'laws.FnExactAddPin', WHERE WHAT IT READS IS OF BULK AT MOST 1048576: true; the input reads as it did. -/
def fnExactAddPinUptoRow : OpenClaim := { program := "ytaefhahgkijnfaa", sum := "afa81f046c6e757029e17fad2054b1bdcd8f4e18e9d9b1dd485b6878e6a088cc", func := "loop.example/g00952/laws.FnExactAddPin", spec := "fnExactAddPin", inPlace := ["slices.overlaps[loop.example/g00952/impl.Pin]"], unfollowed := true, recurses := true, apart := false, narrowed := true }
def FnExactAddPinUptoSaid : Prop := fnExactAddPinUptoRow.holds Try.pinned (OpenSpec.upto fnExactAddPinSpec)

/-- 'laws.FnExactHistoryOf', WHERE WHAT IT READS IS OF BULK AT MOST 1048576: true; the input reads as it did. -/
def fnExactHistoryOfUptoRow : OpenClaim := { program := "ytaefhahgkijnfaa", sum := "afa81f046c6e757029e17fad2054b1bdcd8f4e18e9d9b1dd485b6878e6a088cc", func := "loop.example/g00952/laws.FnExactHistoryOf", spec := "fnExactHistoryOf", inPlace := ["internal/bytealg.abigen_runtime_cmpstring", "slices.overlaps[loop.example/g00952/impl.Pair]"], unfollowed := true, recurses := true, apart := false, narrowed := true }
def FnExactHistoryOfUptoSaid : Prop := fnExactHistoryOfUptoRow.holds Try.pinned (OpenSpec.upto fnExactHistoryOfSpec)

/-- 'laws.FnExactMostInTime', WHERE WHAT IT READS IS OF BULK AT MOST 1048576: true; the input reads as it did. -/
def fnExactMostInTimeUptoRow : OpenClaim := { program := "ytaefhahgkijnfaa", sum := "afa81f046c6e757029e17fad2054b1bdcd8f4e18e9d9b1dd485b6878e6a088cc", func := "loop.example/g00952/laws.FnExactMostInTime", spec := "fnExactMostInTime", unfollowed := true, recurses := true, apart := false, narrowed := true }
def FnExactMostInTimeUptoSaid : Prop := fnExactMostInTimeUptoRow.holds Try.pinned (OpenSpec.upto fnExactMostInTimeSpec)

/-- 'laws.FnExactBestInTime', WHERE WHAT IT READS IS OF BULK AT MOST 1048576: true; the input reads as it did. -/
def fnExactBestInTimeUptoRow : OpenClaim := { program := "ytaefhahgkijnfaa", sum := "afa81f046c6e757029e17fad2054b1bdcd8f4e18e9d9b1dd485b6878e6a088cc", func := "loop.example/g00952/laws.FnExactBestInTime", spec := "fnExactBestInTime", unfollowed := true, recurses := true, apart := false, narrowed := true }
def FnExactBestInTimeUptoSaid : Prop := fnExactBestInTimeUptoRow.holds Try.pinned (OpenSpec.upto fnExactBestInTimeSpec)

/-- 'laws.FnExactChangesBetween', WHERE WHAT IT READS IS OF BULK AT MOST 1048576: true; the input reads as it did. -/
def fnExactChangesBetweenUptoRow : OpenClaim := { program := "ytaefhahgkijnfaa", sum := "afa81f046c6e757029e17fad2054b1bdcd8f4e18e9d9b1dd485b6878e6a088cc", func := "loop.example/g00952/laws.FnExactChangesBetween", spec := "fnExactChangesBetween", inPlace := ["internal/bytealg.abigen_runtime_cmpstring"], unfollowed := true, recurses := true, apart := false, narrowed := true }
def FnExactChangesBetweenUptoSaid : Prop := fnExactChangesBetweenUptoRow.holds Try.pinned (OpenSpec.upto fnExactChangesBetweenSpec)

/-- 'laws.FnExactTurnDrum', WHERE WHAT IT READS IS OF BULK AT MOST 1048576: true; the input reads as it did. -/
def fnExactTurnDrumUptoRow : OpenClaim := { program := "ytaefhahgkijnfaa", sum := "afa81f046c6e757029e17fad2054b1bdcd8f4e18e9d9b1dd485b6878e6a088cc", func := "loop.example/g00952/laws.FnExactTurnDrum", spec := "fnExactTurnDrum", unfollowed := true, recurses := true, apart := false, narrowed := true }
def FnExactTurnDrumUptoSaid : Prop := fnExactTurnDrumUptoRow.holds Try.pinned (OpenSpec.upto fnExactTurnDrumSpec)

end Rows
end Go.Proofs.Ytaefhahgkijnfaa
