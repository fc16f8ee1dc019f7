/- Contracts: the delay of a sequence. -/
import Derived.Test.YtaidbadmhepccaaGreatDoorCe
import Derived.Test.YtaidbadmhepccaaGreatDoorTI
namespace Go.Proofs.YtaidbadmhepccaaGreatDoor
open Go Go.Ab
set_option maxRecDepth 100000

theorem c_l00Max (a b : Int) : HFn Tryz.prog 207 [.int .i64 a, .int .i64 b] [] (.int .i64 (max a b)) [] := by
  refine hfn_intro hm Tryz.func207 (by kernel_rfl) rfl (by kernel_rfl) rfl ret0_ok ?_
  simp
  omega

end Go.Proofs.YtaidbadmhepccaaGreatDoor
