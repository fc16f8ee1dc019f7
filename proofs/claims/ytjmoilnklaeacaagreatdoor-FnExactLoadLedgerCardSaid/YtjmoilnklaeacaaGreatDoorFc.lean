/- Contracts: pins that are searched, drums that are copied. -/
import Derived.Test.YtjmoilnklaeacaaGreatDoorEd
import Derived.Test.YtjmoilnklaeacaaGreatDoorLPin
namespace Go.Proofs.YtjmoilnklaeacaaGreatDoor
open Go Go.Ab
set_option maxRecDepth 100000

theorem Pin.rowsOne (l : List Pin) : rowsOne (Pin.rows l) := fun r hr => by
  obtain ⟨x, _, rfl⟩ := List.mem_map.1 hr
  simp [Pin.cells]
theorem intRowsOne (l : List Int) : rowsOne (intRows l) := fun r hr => by
  obtain ⟨x, _, rfl⟩ := List.mem_map.1 hr
  simp

theorem c_CloneInt64 (rows : List (List PV)) (hone : Go.Ab.rowsOne rows) (hl : rows.length ≤ 1048576) : HFn Tryz.prog 128 [.sl 1 rows] [] (.sf 0 1) [some (.arr 1 rows)] := by
  refine hfn_intro hm Tryz.func128 (by kernel_rfl) rfl (by kernel_rfl) rfl (fun _ _ h => h) ?_
  simp
  refine ⟨fun h => ?_, hone, by omega, by omega, Wk.weak (ρ := [0]) (φ := []) (by simp)⟩
  rw [h]
  exact (weak_nil (t := 0) (z := 1) rfl).trans (Wk.weak (ρ := [0]) (φ := []) (by simp))

end Go.Proofs.YtjmoilnklaeacaaGreatDoor
