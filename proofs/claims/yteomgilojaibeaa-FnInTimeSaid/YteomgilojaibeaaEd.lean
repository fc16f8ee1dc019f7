/- Contracts: an order is removed. -/
import Derived.Test.YteomgilojaibeaaEc
import Derived.Test.YteomgilojaibeaaLOrder
namespace Go.Proofs.Yteomgilojaibeaa
open Go Go.Ab
set_option maxRecDepth 100000

/-- What DropOrder hands back. -/
def dropCode (l : List Order) (s : List UInt8) : Int := if validOrders l = true then (if findO l s < 0 then 3 else 0) else 1
def dropL (l : List Order) (s : List UInt8) : List Order := if dropCode l s = 0 then l.take (findO l s).toNat ++ l.drop ((findO l s).toNat + 1) else []

theorem findI_lt {α : Type} {p : α → Bool} {l : List α} : findI p l < l.length := by
  unfold findI
  cases h : l.findIdx? p with
  | none => simp only; omega
  | some k =>
    obtain ⟨h1, _⟩ := List.findIdx?_eq_some_iff_getElem.1 h
    simp only
    omega
theorem dropL_le (l : List Order) (s : List UInt8) : (dropL l s).length ≤ l.length := by
  unfold dropL
  split
  · rw [List.length_append, List.length_take, List.length_drop]
    omega
  · simp

theorem Order.rowsOne (l : List Order) : rowsOne (Order.rows l) := fun r hr => by
  obtain ⟨x, _, rfl⟩ := List.mem_map.1 hr
  simp [Order.cells]

end Go.Proofs.Yteomgilojaibeaa
