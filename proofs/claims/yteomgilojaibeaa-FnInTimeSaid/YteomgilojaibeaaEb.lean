/- Contracts: slices.BinarySearchFunc. -/
import Derived.Test.YteomgilojaibeaaDd
import Derived.Test.YteomgilojaibeaaLOrder
namespace Go.Proofs.Yteomgilojaibeaa
open Go Go.Ab
set_option maxRecDepth 100000

/-- Where what is less ends, if all that is less lies ahead. -/
structure Cut (n : Nat) (c : Nat → Int) (p : Nat) : Prop where
  le : p ≤ n
  lo : ∀ i, i < p → c i < 0
  hi : ∀ i, p ≤ i → i < n → 0 ≤ c i

theorem mid_eq (i j : Nat) (h : i + j ≤ 9223372036854775807) : IntKind.i64.wrap ((IntKind.u64.wrap (IntKind.i64.wrap ((i : Int) + j))).fdiv (2 ^ min 1 IntKind.u64.bits)) = (((i + j) / 2 : Nat) : Int) := by
  rw [w64 (n := (i : Int) + j) (by omega) (by omega)]
  have e : IntKind.u64.wrap ((i : Int) + j) = ((i : Int) + j) % 18446744073709551616 := rfl
  have e2 : (2 : Int) ^ min 1 IntKind.u64.bits = 2 := rfl
  rw [e, e2, Int.fdiv_eq_ediv_of_nonneg _ (by omega)]
  rw [w64 (by omega) (by omega)]
  omega

end Go.Proofs.Yteomgilojaibeaa
