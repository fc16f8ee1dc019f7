/- Contracts: slices.BinarySearchFunc.; Contracts: an order's place in a list.; Contracts: an order is removed. -/
import Derived.Test.YtoeklljhjhidbaaGreatDoorDd
import Derived.Test.YtoeklljhjhidbaaGreatDoorLOrder
-- from Eb
namespace Go.Proofs.YtoeklljhjhidbaaGreatDoor
open Go Go.Ab
set_option maxRecDepth 100000

/-- Where what is less ends, if all that is less lies ahead. -/
structure Cut (n : Nat) (c : Nat → Int) (p : Nat) : Prop where
  le : p ≤ n
  lo : ∀ i, i < p → c i < 0
  hi : ∀ i, p ≤ i → i < n → 0 ≤ c i

theorem mid_eq (i j : Nat) (h : i + j ≤ 9223372036854775807) : IntKind.i64.wrap ((IntKind.u64.wrap (IntKind.i64.wrap ((i : Int) + j))).fdiv (2 ^ min 1 IntKind.u64.bits)) = (((i + j) / 2 : Nat) : Int) := by
  rw [w64 (n := (i : Int) + j) (by omega) (by omega)]
  have e : IntKind.u64.wrap ((i : Int) + j) = ((i : Int) + j) % 18446744073709551616 := rfl
  have e2 : (2 : Int) ^ min 1 IntKind.u64.bits = 2 := rfl
  rw [e, e2, Int.fdiv_eq_ediv_of_nonneg _ (by omega)]
  rw [w64 (by omega) (by omega)]
  omega

end Go.Proofs.YtoeklljhjhidbaaGreatDoor
-- from Ec
namespace Go.Proofs.YtoeklljhjhidbaaGreatDoor
open Go Go.Ab
set_option maxRecDepth 100000

/-- What cmp.Compare says of strings. -/
def cmpS (a b : List UInt8) : Int := if Op.bytesLess a b = true then -1 else if a = b then 0 else 1
theorem cmpS_neg {a b : List UInt8} : cmpS a b < 0 ↔ Op.bytesLess a b = true := by unfold cmpS; grind
theorem bytesLess_irr (a : List UInt8) : Op.bytesLess a a = false := by rw [bytesLess_lt]; simp [List.lt_irrefl]
theorem cmpS_zero {a b : List UInt8} : cmpS a b = 0 ↔ a = b := by
  unfold cmpS
  by_cases e : a = b
  · subst e; simp [bytesLess_irr]
  · grind
theorem cmpS_nn {a b : List UInt8} (h : Op.bytesLess a b = false) : 0 ≤ cmpS a b := by unfold cmpS; grind

end Go.Proofs.YtoeklljhjhidbaaGreatDoor
-- from Ed
namespace Go.Proofs.YtoeklljhjhidbaaGreatDoor
open Go Go.Ab
set_option maxRecDepth 100000

theorem findI_lt {α : Type} {p : α → Bool} {l : List α} : findI p l < l.length := by
  unfold findI
  cases h : l.findIdx? p with
  | none => simp only; omega
  | some k =>
    obtain ⟨h1, _⟩ := List.findIdx?_eq_some_iff_getElem.1 h
    simp only
    omega
end Go.Proofs.YtoeklljhjhidbaaGreatDoor
