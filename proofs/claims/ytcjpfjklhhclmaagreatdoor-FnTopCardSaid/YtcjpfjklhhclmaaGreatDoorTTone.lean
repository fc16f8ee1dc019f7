/- The type Tone as plain data, and what the functions of package laws do with it. No condition. -/
import Derived.Test.YtcjpfjklhhclmaaGreatDoorCd
import Derived.Test.YtcjpfjklhhclmaaGreatDoorKc
namespace Go.Proofs.YtcjpfjklhhclmaaGreatDoor
open Go Go.Ab

set_option maxRecDepth 100000

structure Tone where
  note : Int
  start : Int
  length : Int
theorem Tone.eq_iff {a b : Tone} : a = b ↔ a.note = b.note ∧ a.start = b.start ∧ a.length = b.length := by cases a; cases b; simp
instance : DecidableEq Tone := fun _ _ => decidable_of_iff _ Tone.eq_iff.symm
def Tone.cells (x : Tone) : List PV := [.int .i64 x.note, .int .i64 x.start, .int .i64 x.length]
def Tone.rows (l : List Tone) : List (List PV) := l.map Tone.cells
theorem Tone.rows_len (l : List Tone) : (Tone.rows l).length = l.length := by simp [Tone.rows]
def Tone.wf (x : Tone) : Prop := -9223372036854775808 ≤ x.note ∧ x.note ≤ 9223372036854775807 ∧ -9223372036854775808 ≤ x.start ∧ x.start ≤ 9223372036854775807 ∧ -9223372036854775808 ≤ x.length ∧ x.length ≤ 9223372036854775807
end Go.Proofs.YtcjpfjklhhclmaaGreatDoor
