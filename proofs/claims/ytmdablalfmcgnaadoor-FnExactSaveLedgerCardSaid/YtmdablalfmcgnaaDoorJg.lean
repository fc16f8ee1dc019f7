/- Contracts: drums as text. -/
import Derived.Test.YtmdablalfmcgnaaDoorJd
import Derived.Test.YtmdablalfmcgnaaDoorDb
namespace Go.Proofs.YtmdablalfmcgnaaDoor
open Go Go.Ab
set_option maxRecDepth 100000

theorem join_take_len {W : List (List UInt8)} {k : Nat} (h : ∀ x ∈ W, x.length ≤ k) (n : Nat) : (Lib.join (W.take n) [32]).length ≤ (k + 1) * n := by
  have h1 := join_len [32] k (by simp) (W.take n) fun x hx => h x (List.mem_of_mem_take hx)
  have h2 : (W.take n).length ≤ n := by simp; omega
  exact Nat.le_trans h1 (Nat.mul_le_mul_left _ h2)

end Go.Proofs.YtmdablalfmcgnaaDoor
