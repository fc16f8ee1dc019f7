/- Contracts: names of troubles. -/
import Derived.Test.YtaidbadmhepccaaGreatTy
namespace Go.Proofs.YtaidbadmhepccaaGreat
open Go Go.Ab
set_option maxRecDepth 100000

theorem c_within (n lo hi : Int) : HFn Tryz.prog 146 [.int .i64 n, .int .i64 lo, .int .i64 hi] [] (.bool (decide (lo ≤ n) && decide (n ≤ hi))) [] := by
  refine hfn_intro hm Tryz.func146 (by kernel_rfl) rfl (by kernel_rfl) rfl ret0_ok ?_
  simp

theorem c_l00In (n lo hi : Int) : HFn Tryz.prog 114 [.int .i64 n, .int .i64 lo, .int .i64 hi] [] (.bool (decide (lo ≤ n) && decide (n ≤ hi))) [] := by
  refine hfn_intro hm Tryz.func114 (by kernel_rfl) rfl (by kernel_rfl) rfl ret0_ok ?_
  simp

end Go.Proofs.YtaidbadmhepccaaGreat
