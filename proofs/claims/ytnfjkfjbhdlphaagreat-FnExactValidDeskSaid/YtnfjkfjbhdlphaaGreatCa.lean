/- Contracts: names of troubles. -/
import Derived.Test.YtnfjkfjbhdlphaaGreatTy
namespace Go.Proofs.YtnfjkfjbhdlphaaGreat
open Go Go.Ab
set_option maxRecDepth 100000

theorem c_within (n lo hi : Int) : HFn Tryz.prog 68 [.int .i64 n, .int .i64 lo, .int .i64 hi] [] (.bool (decide (lo ≤ n) && decide (n ≤ hi))) [] := by
  refine hfn_intro hm Tryz.func68 (by kernel_rfl) rfl (by kernel_rfl) rfl ret0_ok ?_
  simp

theorem c_l00In (n lo hi : Int) : HFn Tryz.prog 122 [.int .i64 n, .int .i64 lo, .int .i64 hi] [] (.bool (decide (lo ≤ n) && decide (n ≤ hi))) [] := by
  refine hfn_intro hm Tryz.func122 (by kernel_rfl) rfl (by kernel_rfl) rfl ret0_ok ?_
  simp

def troubleNames : List (List UInt8) := [[], [116, 114, 97, 99, 101], [115, 119, 105, 110, 103], [112, 108, 97, 99, 101], [99, 108, 97, 115, 104], [116, 111, 119, 101, 114], [102, 114, 97, 109, 101], [107, 101, 121], [116, 117, 110, 101]]
def troubleName (n : Int) : List UInt8 := if 1 ≤ n ∧ n ≤ 8 then troubleNames.getD n.toNat [] else []

theorem cases8 {n : Int} (h1 : 1 ≤ n) (h2 : n ≤ 8) : n = 1 ∨ n = 2 ∨ n = 3 ∨ n = 4 ∨ n = 5 ∨ n = 6 ∨ n = 7 ∨ n = 8 := by omega

end Go.Proofs.YtnfjkfjbhdlphaaGreat
