/- Contracts: slices.Clone, Delete, Insert at Pin. -/
import Derived.Test.YtnphmemhejhooaaTy
import Derived.Test.YtnphmemhejhooaaAch
namespace Go.Proofs.Ytnphmemhejhooaa
open Go Go.Ab
set_option maxRecDepth 100000

theorem c_ClonePin (rows : List (List PV)) (hone : rowsOne rows) (hl : rows.length ≤ 1048576) : HFn Try.prog 158 [.sl 2 rows] [] (.sf 0 2) [some (.arr 2 rows)] := by
  refine hfn_intro hm Try.func158 (by kernel_rfl) rfl (by kernel_rfl) rfl (fun _ _ h => h) ?_
  simp
  refine ⟨fun h => ?_, hone, by omega, by omega, Wk.weak (ρ := [0]) (φ := []) (by simp)⟩
  rw [h]
  exact (weak_nil (t := 0) (z := 2) rfl).trans (Wk.weak (ρ := [0]) (φ := []) (by simp))


end Go.Proofs.Ytnphmemhejhooaa
