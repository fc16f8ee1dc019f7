/- Lists of numbers, and what the functions of package laws do with them. No condition. -/
import Derived.Test.YtcjpfjklhhclmaaGreatDoorCd
namespace Go.Proofs.YtcjpfjklhhclmaaGreatDoor
open Go Go.Ab
set_option maxRecDepth 100000

/-- A list of numbers, as rows. -/
def intRows (l : List Int) : List (List PV) := l.map fun n => [.int .i64 n]
theorem intRows_len (l : List Int) : (intRows l).length = l.length := by simp [intRows]
theorem flat_intRows (l : List Int) : flatRows (intRows l) := fun r hr c hc => by
  obtain ⟨s, _, rfl⟩ := List.mem_map.1 hr
  simp at hc
  subst hc
  rfl
def I64 (n : Int) : Prop := -9223372036854775808 ≤ n ∧ n ≤ 9223372036854775807
end Go.Proofs.YtcjpfjklhhclmaaGreatDoor
