/- Contracts: orders. -/
import Derived.Test.YtaidbadmhepccaaGreatCe
namespace Go.Proofs.YtaidbadmhepccaaGreat
open Go Go.Ab
set_option maxRecDepth 100000

theorem c_isMass (n : Int) : HFn Tryz.prog 233 [.int .i64 n] [] (.bool (decide (1 ≤ n) && decide (n ≤ 20000000))) [] := by
  refine hfn_intro hm Tryz.func233 (by kernel_rfl) rfl (by kernel_rfl) rfl ret0_ok ?_
  simp
  refine CallZ.use0 (c_within _ _ _) rfl rfl ?_
  simp
theorem c_isNote (n : Int) : HFn Tryz.prog 241 [.int .i64 n] [] (.bool (decide (0 ≤ n) && decide (n ≤ 127))) [] := by
  refine hfn_intro hm Tryz.func241 (by kernel_rfl) rfl (by kernel_rfl) rfl ret0_ok ?_
  simp
  refine CallZ.use0 (c_within _ _ _) rfl rfl ?_
  simp
theorem c_l03Note (n : Int) : HFn Tryz.prog 216 [.int .i64 n] [] (.bool (decide (0 ≤ n) && decide (n ≤ 127))) [] := by
  refine hfn_intro hm Tryz.func216 (by kernel_rfl) rfl (by kernel_rfl) rfl ret0_ok ?_
  simp
  try refine CallZ.use0 (c_l00In _ _ _) rfl rfl ?_
  try simp

end Go.Proofs.YtaidbadmhepccaaGreat
