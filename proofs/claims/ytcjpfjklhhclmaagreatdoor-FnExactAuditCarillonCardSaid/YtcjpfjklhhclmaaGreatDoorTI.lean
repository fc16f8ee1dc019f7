/- Lists of numbers, and what the functions of package laws do with them. No condition. -/
import Derived.Test.YtcjpfjklhhclmaaGreatDoorCd
namespace Go.Proofs.YtcjpfjklhhclmaaGreatDoor
open Go Go.Ab
set_option maxRecDepth 100000
def qad (l : List Int) : List (List PV) := l.map fun n => [.int .i64 n]
theorem qar (l : List Int) : (qad l).length = l.length := by simp [qad]
theorem qcm (l : List Int) : qbz (qad l) := fun r hr c hc => by
 obtain ⟨s, _, rfl⟩ := List.mem_map.1 hr
 simp at hc
 subst hc
 rfl
def I64 (n : Int) : Prop := -9223372036854775808 ≤ n ∧ n ≤ 9223372036854775807
end Go.Proofs.YtcjpfjklhhclmaaGreatDoor
