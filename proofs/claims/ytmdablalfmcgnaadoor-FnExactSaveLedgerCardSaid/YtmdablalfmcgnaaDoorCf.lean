/- Contracts: orders. -/
import Derived.Test.YtmdablalfmcgnaaDoorCe
namespace Go.Proofs.YtmdablalfmcgnaaDoor
open Go Go.Ab
set_option maxRecDepth 100000

theorem c_isMass (n : Int) : HFn Tryd.prog 106 [.int .i64 n] [] (.bool (decide (1 ≤ n) && decide (n ≤ 20000000))) [] := by
  refine hfn_intro hm Tryd.func106 (by kernel_rfl) rfl (by kernel_rfl) rfl ret0_ok ?_
  simp
  refine CallZ.use0 (c_within _ _ _) rfl rfl ?_
  simp
end Go.Proofs.YtmdablalfmcgnaaDoor
