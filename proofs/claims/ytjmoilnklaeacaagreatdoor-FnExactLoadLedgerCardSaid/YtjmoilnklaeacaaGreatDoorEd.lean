/- Contracts: an order is removed. -/
import Derived.Test.YtjmoilnklaeacaaGreatDoorEc
import Derived.Test.YtjmoilnklaeacaaGreatDoorLOrder
namespace Go.Proofs.YtjmoilnklaeacaaGreatDoor
open Go Go.Ab
set_option maxRecDepth 100000

/-- What DropOrder hands back. -/
def dropCode (l : List Order) (s : List UInt8) : Int := if validOrders l = true then (if findO l s < 0 then 3 else 0) else 1
def dropL (l : List Order) (s : List UInt8) : List Order := if dropCode l s = 0 then l.take (findO l s).toNat ++ l.drop ((findO l s).toNat + 1) else []

theorem findI_lt {α : Type} {p : α → Bool} {l : List α} : findI p l < l.length := by
  unfold findI
  cases h : l.findIdx? p with
  | none => simp only; omega
  | some k =>
    obtain ⟨h1, _⟩ := List.findIdx?_eq_some_iff_getElem.1 h
    simp only
    omega
theorem dropL_le (l : List Order) (s : List UInt8) : (dropL l s).length ≤ l.length := by
  unfold dropL
  split
  · rw [List.length_append, List.length_take, List.length_drop]
    omega
  · simp

theorem Order.rowsOne (l : List Order) : rowsOne (Order.rows l) := fun r hr => by
  obtain ⟨x, _, rfl⟩ := List.mem_map.1 hr
  simp [Order.cells]

theorem c_impl_DropOrder (l : List Order) (s : List UInt8) (hl : l.length ≤ 1048576) :
    HFn Tryz.prog 33 [.sl 5 (Order.rows l), .str s] [] (.tup [.sf 0 5, .int .i64 (dropCode l s)]) [some (.arr 5 (Order.rows (dropL l s)))] := by
  refine hfn_intro hm Tryz.func33 (by kernel_rfl) rfl (by kernel_rfl) rfl (fun _ _ h => h) ?_
  simp
  refine CallZ.use0 (c_impl_ValidOrders l hl) rfl rfl ?_
  simp
  refine ⟨fun h => ?_, fun h => ?_⟩
  · refine (weak_nilT (t := 0) 0 5 rfl rfl).trans (Wk.weak (ρ := [0]) (φ := []) ?_)
    simp [dropL, dropCode, h, Order.rows]
  refine CallZ.use0 (c_orderAt l s hl h) rfl rfl ?_
  simp
  have hf := findO_eq h s
  refine ⟨fun hk => ?_, fun hk => ?_⟩
  · rw [hk] at hf
    refine (weak_nilT (t := 0) 0 5 rfl rfl).trans (Wk.weak (ρ := [0]) (φ := []) ?_)
    simp [dropL, dropCode, h, hf, Order.rows]
  rw [hk, if_pos rfl] at hf
  have hlt : cutO l s < l.length := by
    unfold foundO at hk
    simp only [Bool.and_eq_true, decide_eq_true_eq] at hk
    exact hk.1
  have hw : IntKind.i64.wrap ((cutO l s : Int) + 1) = ((cutO l s + 1 : Nat) : Int) := by rw [w64 (by omega) (by omega)]; omega
  refine CallZ.use (c_CloneOrder (Order.rows l) (Order.rowsOne l) (by rw [Order.rows_len]; exact hl)) rfl (.inr ⟨Order.flat _, trivial⟩) rfl rfl ?_
  simp [hw, -Int.natCast_add]
  refine CallZ.useM [0] [] [0] (c_DeleteOrder (Order.rows l) (cutO l s) (cutO l s + 1) (Order.rowsOne l) (by omega) (by rw [Order.rows_len]; exact hlt) (by rw [Order.rows_len]; exact hl)) (by simp) rfl rfl (by simp) rfl rfl rfl (.inl rfl) ?_
  simp
  have hL : dropL l s = l.take (cutO l s) ++ l.drop (cutO l s + 1) := by
    have hd : dropCode l s = 0 := by simp [dropCode, h, hf]
    unfold dropL
    rw [if_pos hd, hf]
    rfl
  refine Wk.weak (ρ := [0]) (φ := []) ?_
  simp [hL, Order.rows, dropCode, h, hf]
end Go.Proofs.YtjmoilnklaeacaaGreatDoor
