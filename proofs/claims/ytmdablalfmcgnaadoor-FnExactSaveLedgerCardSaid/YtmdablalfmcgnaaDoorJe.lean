/- Contracts: OrderText. -/
import Derived.Test.YtmdablalfmcgnaaDoorJd
namespace Go.Proofs.YtmdablalfmcgnaaDoor
open Go Go.Ab
set_option maxRecDepth 100000

theorem noteT_len {n : Int} (h0 : 0 ≤ n) (h1 : n ≤ 127) : (noteT n).length ≤ 23 := by
  unfold noteT
  have : ∀ j, j < 12 → (noteNames.getD j []).length ≤ 2 := by decide
  have h2 := this (n.toNat % 12) (Nat.mod_lt _ (by omega))
  have h3 := itoa_len (n := n / 12 - 1) ⟨by omega, by omega⟩
  simp only [List.length_append]
  omega

end Go.Proofs.YtmdablalfmcgnaaDoor
