/- Contracts: pins that are searched, drums that are copied. -/
import Derived.Test.YtnphmemhejhooaaEd
import Derived.Test.YtnphmemhejhooaaLPin
namespace Go.Proofs.Ytnphmemhejhooaa
open Go Go.Ab
set_option maxRecDepth 100000

theorem Pin.rowsOne (l : List Pin) : rowsOne (Pin.rows l) := fun r hr => by
  obtain ⟨x, _, rfl⟩ := List.mem_map.1 hr
  simp [Pin.cells]
theorem intRowsOne (l : List Int) : rowsOne (intRows l) := fun r hr => by
  obtain ⟨x, _, rfl⟩ := List.mem_map.1 hr
  simp

theorem c_CloneInt64 (rows : List (List PV)) (hone : Go.Ab.rowsOne rows) (hl : rows.length ≤ 1048576) : HFn Try.prog 122 [.sl 1 rows] [] (.sf 0 1) [some (.arr 1 rows)] := by
  refine hfn_intro hm Try.func122 (by kernel_rfl) rfl (by kernel_rfl) rfl (fun _ _ h => h) ?_
  simp
  refine ⟨fun h => ?_, hone, by omega, by omega, Wk.weak (ρ := [0]) (φ := []) (by simp)⟩
  rw [h]
  exact (weak_nil (t := 0) (z := 1) rfl).trans (Wk.weak (ρ := [0]) (φ := []) (by simp))

theorem c_copyDrum (d : Drum) (hn : d.notes.length ≤ 1048576) (hp : d.pins.length ≤ 1048576) :
    HFn Try.prog 101 [.agg d.cells] [] (.agg [.int .i64 d.steps, .int .i64 d.rest, .sf 0 1, .sf 1 2]) [some (.arr 1 (intRows d.notes)), some (.arr 2 (Pin.rows d.pins))] := by
  refine hfn_intro hm Try.func101 (by kernel_rfl) rfl (by kernel_rfl) rfl (retN_ok (ρ := [2, 3]) (φ := [])) ?_
  simp [Drum.cells]
  refine CallZ.use (c_CloneInt64 (intRows d.notes) (intRowsOne _) (by rw [intRows_len]; exact hn)) rfl (.inr ⟨flat_intRows _, trivial⟩) rfl rfl ?_
  simp
  refine CallZ.use (c_ClonePin (Pin.rows d.pins) (Pin.rowsOne _) (by rw [Pin.rows_len]; exact hp)) rfl (.inr ⟨Pin.flat _, trivial⟩) rfl rfl ?_
  simp
end Go.Proofs.Ytnphmemhejhooaa
