/-
  No cell of these rows narrows 'for every input' (looked for: loops, veiled, ifaces, maps, wideKeys, modest, calm, conditions, laid).
  DERIVED. THE GIVEN ROWS OF THIS SEAT. 2 by the template 'for every input the law returns true; each argument reads behind the call as it read before'; 0 by the template 'total and deterministic' (their statements: YtaidbadmhepccaaGreatTotals.lean).
  GIVEN WITH THE SEED: the statements are not yours to turn. If you find one false, say at which input.
  Laid BY PROGRAM, IN A SANDBOX (cutbox-rows.mjs): the forced cells as the released guide's own fill.sh prints them over the translation d05625164ed52bc9… (all of the seat's roots in one cut). By AI agents, Wed Nov 11 2026. No macro, syntax, notation, axiom, sorry.
-/
import Derived.Test.YtaidbadmhepccaaGreatChecked
import GoSem.Claim
import GoSem.ClaimJoined
import GoSem.ClaimMapViews
import Derived.JoinedTies
import Derived.KernelRfl
namespace Go.Proofs.YtaidbadmhepccaaGreat
/- THE CELL 'sum', in the pinned program and in every row, IS THE sha256 OF THE DUMP (.gsa) THAT YtaidbadmhepccaaGreatProg.lean LOADS. Nothing in Lean hashes anything: it is a label: what it is worth is what the hold of that sum in a sandbox is worth. -/
noncomputable def Tryz.pinned : Pinned := { name := "ytaidbadmhepccaagreat", sum := "d05625164ed52bc946f4612ac62c82c8ca515a851fc45120098ab1b3b5697143", checked := Tryz.checked }
namespace Rows
def none {H : Type} : Left H := { results := [], args := [] }

/-- 'laws.FnExactRoomTroubles': WHATEVER THE INPUT: true; the input reads as it did. -/
def fnExactRoomTroublesSpec : ChangeSpec := { name := "fnExactRoomTroubles", fn := fun _ => fun
  | [d] => { results := [.lit (.bool true)], args := [d] }
  | _ => none }
def fnExactRoomTroublesRow : OpenClaim := { program := "ytaidbadmhepccaagreat", sum := "d05625164ed52bc946f4612ac62c82c8ca515a851fc45120098ab1b3b5697143", func := "loop.example/g00952/laws.FnExactRoomTroubles", spec := "fnExactRoomTroubles", unfollowed := true, recurses := true, apart := false }
def FnExactRoomTroublesSaid : Prop := fnExactRoomTroublesRow.holds Tryz.pinned (OpenSpec.ofChange fnExactRoomTroublesSpec)

/-- ITS FALSE NEIGHBOUR: 'it returns false'. Refute it at one input. -/
def fnExactRoomTroublesWrong : ChangeSpec := { name := "fnExactRoomTroubles", fn := fun _ => fun
  | [d] => { results := [.lit (.bool false)], args := [d] }
  | _ => none }
def FnExactRoomTroublesWrongFalsely : Prop := fnExactRoomTroublesRow.holds Tryz.pinned (OpenSpec.ofChange fnExactRoomTroublesWrong)

/-- 'laws.FnExactMetalTroubles': WHATEVER THE INPUT: true; the input reads as it did. -/
def fnExactMetalTroublesSpec : ChangeSpec := { name := "fnExactMetalTroubles", fn := fun _ => fun
  | [d] => { results := [.lit (.bool true)], args := [d] }
  | _ => none }
def fnExactMetalTroublesRow : OpenClaim := { program := "ytaidbadmhepccaagreat", sum := "d05625164ed52bc946f4612ac62c82c8ca515a851fc45120098ab1b3b5697143", func := "loop.example/g00952/laws.FnExactMetalTroubles", spec := "fnExactMetalTroubles", unfollowed := true, recurses := true, apart := false }
def FnExactMetalTroublesSaid : Prop := fnExactMetalTroublesRow.holds Tryz.pinned (OpenSpec.ofChange fnExactMetalTroublesSpec)

/-- ITS FALSE NEIGHBOUR: 'it returns false'. Refute it at one input. -/
def fnExactMetalTroublesWrong : ChangeSpec := { name := "fnExactMetalTroubles", fn := fun _ => fun
  | [d] => { results := [.lit (.bool false)], args := [d] }
  | _ => none }
def FnExactMetalTroublesWrongFalsely : Prop := fnExactMetalTroublesRow.holds Tryz.pinned (OpenSpec.ofChange fnExactMetalTroublesWrong)

/- THE SECOND FORM. 'bulk': how many values and letters a reading holds, each counted each time it is reached (what is shared counts as often as it is met; a slice's spare places count too). A statement '..UptoSaid' is the law's where the arguments, and the package variables that the reading takes, are together of bulk at most 1048576: NARROWER than '..Said'. Prove '..Said' where nothing that the law and all that it calls make is longer than what came in: it says more and counts as full. Else prove '..UptoSaid'. A law counts once. -/
mutual
def uptoBulk {H : Type} : DataW H → Nat
  | .lit (.string bytes) => bytes.length + 1
  | .lit _ => 1
  | .nil => 1
  | .ptr d => uptoBulk d + 1
  | .slice elems spare => uptoBulkAll elems + uptoBulkAll spare + 1
  | .agg parts => uptoBulkAll parts + 1
  | .iface _ d => uptoBulk d + 1
  | .map entries => uptoBulkEntries entries + 1
  | .held _ => 1
def uptoBulkAll {H : Type} : List (DataW H) → Nat
  | [] => 0
  | d :: r => uptoBulk d + uptoBulkAll r
def uptoBulkEntries {H : Type} : List (Lit × DataW H) → Nat
  | [] => 0
  | x :: r => uptoBulkEntry x + uptoBulkEntries r
def uptoBulkEntry {H : Type} : Lit × DataW H → Nat
  | (.string bytes, d) => bytes.length + uptoBulk d + 1
  | (_, d) => uptoBulk d + 1
 end
def uptoSmall : (H : Type) → List (DataW H) → Bool := fun _ ds => decide (uptoBulkAll ds ≤ 1048576)
def OpenSpec.upto (s : _root_.Go.ChangeSpec) : _root_.Go.OpenSpec := { _root_.Go.OpenSpec.ofChange s with cond := some uptoSmall }

/-- 'laws.FnExactRoomTroubles', WHERE WHAT IT READS IS OF BULK AT MOST 1048576: true; the input reads as it did. -/
def fnExactRoomTroublesUptoRow : OpenClaim := { program := "ytaidbadmhepccaagreat", sum := "d05625164ed52bc946f4612ac62c82c8ca515a851fc45120098ab1b3b5697143", func := "loop.example/g00952/laws.FnExactRoomTroubles", spec := "fnExactRoomTroubles", unfollowed := true, recurses := true, apart := false, narrowed := true }
def FnExactRoomTroublesUptoSaid : Prop := fnExactRoomTroublesUptoRow.holds Tryz.pinned (OpenSpec.upto fnExactRoomTroublesSpec)

/-- 'laws.FnExactMetalTroubles', WHERE WHAT IT READS IS OF BULK AT MOST 1048576: true; the input reads as it did. -/
def fnExactMetalTroublesUptoRow : OpenClaim := { program := "ytaidbadmhepccaagreat", sum := "d05625164ed52bc946f4612ac62c82c8ca515a851fc45120098ab1b3b5697143", func := "loop.example/g00952/laws.FnExactMetalTroubles", spec := "fnExactMetalTroubles", unfollowed := true, recurses := true, apart := false, narrowed := true }
def FnExactMetalTroublesUptoSaid : Prop := fnExactMetalTroublesUptoRow.holds Tryz.pinned (OpenSpec.upto fnExactMetalTroublesSpec)

end Rows
end Go.Proofs.YtaidbadmhepccaaGreat
