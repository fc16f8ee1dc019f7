/- Nearest quotients, roots, sines: plain law and contracts. No condition. -/
import Derived.Test.YtaidbadmhepccaaGreatDoorTI
namespace Go.Proofs.YtaidbadmhepccaaGreatDoor
open Go Go.Ab
set_option maxRecDepth 100000

/-- The nearest quotient, halves away from 0. -/
def nearV (a b : Int) : Int := if a < 0 then -((b - 2 * a).tdiv (2 * b)) else (2 * a + b).tdiv (2 * b)
/-! ### Contracts -/
def Mid (n : Int) : Prop := -100000000000000000 ≤ n ∧ n ≤ 100000000000000000
def Wide (n : Int) : Prop := -1000000000000000000 ≤ n ∧ n ≤ 1000000000000000000
theorem Mid.wide {n : Int} (h : Mid n) : Wide n := ⟨by have := h.1; omega, by have := h.2; omega⟩
end Go.Proofs.YtaidbadmhepccaaGreatDoor
