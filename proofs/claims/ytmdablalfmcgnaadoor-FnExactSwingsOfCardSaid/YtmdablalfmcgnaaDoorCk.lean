/- Contracts: the delay of a sequence. -/
import Derived.Test.YtmdablalfmcgnaaDoorCj
namespace Go.Proofs.YtmdablalfmcgnaaDoor
open Go Go.Ab
set_option maxRecDepth 100000

theorem c_l00Max (a b : Int) : HFn Tryd.prog 67 [.int .i64 a, .int .i64 b] [] (.int .i64 (max a b)) [] := by
  refine hfn_intro hm Tryd.func67 (by kernel_rfl) rfl (by kernel_rfl) rfl ret0_ok ?_
  simp
  omega

end Go.Proofs.YtmdablalfmcgnaaDoor
