/- Contracts: orders. -/
import Derived.Test.YtoeklljhjhidbaaGreatDoorCe
namespace Go.Proofs.YtoeklljhjhidbaaGreatDoor
open Go Go.Ab
set_option maxRecDepth 100000

theorem c_isNote [Go.Ab.Drwn] (n : Int) : HFn Tryz.prog 47 [.int .i64 n] [] (.bool (decide (0 ≤ n) && decide (n ≤ 127))) [] := by
  refine hfn_intro hm Tryz.func47 (by kernel_rfl) rfl (by kernel_rfl) rfl ret0_ok ?_
  simp
  refine CallZ.use0 (c_within _ _ _) rfl rfl ?_
  simp
end Go.Proofs.YtoeklljhjhidbaaGreatDoor
