/- Contracts: OrderText. -/
import Derived.Test.YtjeioaeipffifaaGreatDoorJd
namespace Go.Proofs.YtjeioaeipffifaaGreatDoor
open Go Go.Ab
set_option maxRecDepth 100000

/-- The text of an order. -/
def orderT (x : Order) : List UInt8 := x.id ++ [32] ++ noteT x.note ++ [32] ++ listT [x.mass, x.days, x.due]
def orderTx (x : Order) : List UInt8 := if validOrder x = true then orderT x else []
structure OrderIn (x : Order) : Prop where
  id : x.id.length ≤ 10
  mass : valB x.mass = true
  note0 : 0 ≤ x.note
  note1 : x.note ≤ 127
  days : valB x.days = true
  due : valB x.due = true
theorem order_in {x : Order} (h : validOrder x = true) : OrderIn x := by
  simp [validOrder, isName] at h
  refine ⟨by omega, by simp [valB]; omega, by omega, by omega, by simp [valB]; omega, by simp [valB]; omega⟩
theorem noteT_len {n : Int} (h0 : 0 ≤ n) (h1 : n ≤ 127) : (noteT n).length ≤ 23 := by
  unfold noteT
  have : ∀ j, j < 12 → (noteNames.getD j []).length ≤ 2 := by decide
  have h2 := this (n.toNat % 12) (Nat.mod_lt _ (by omega))
  have h3 := itoa_len (n := n / 12 - 1) ⟨by omega, by omega⟩
  simp only [List.length_append]
  omega

theorem c_impl_OrderText (x : Order) : HFn Tryz.prog 11 [.agg x.cells] [] (.str (orderTx x)) [] := by
  refine hfn_intro hm Tryz.func11 (by kernel_rfl) rfl (by kernel_rfl) rfl ret0_ok ?_
  simp [Order.cells]
  refine CallZ.use0 (c_validOrder x) rfl rfl ?_
  simp
  refine ⟨fun h => by simp [orderTx, h], fun h => ?_⟩
  have hx := order_in h
  have hT : orderTx x = orderT x := if_pos h
  have hid := hx.id
  have hno := noteT_len hx.note0 hx.note1
  have hok : listOk [x.mass, x.days, x.due] = true := by simp [listOk, hx.mass, hx.days, hx.due]
  have hli := listT_len [x.mass, x.days, x.due] (listOk_I64 hok)
  have hlx : listTx [x.mass, x.days, x.due] = listT [x.mass, x.days, x.due] := if_pos hok
  simp only [List.length_cons, List.length_nil] at hli
  refine ⟨by omega, ?_⟩
  refine CallZ.use0 (c_NoteName _ hx.note0 hx.note1) rfl rfl ?_
  simp
  refine ⟨by omega, by omega, ?_⟩
  refine CallZ.use0 (c_ListText [x.mass, x.days, x.due] (by simp)) rfl rfl ?_
  rw [hlx, hT]
  simp [orderT]
  omega

end Go.Proofs.YtjeioaeipffifaaGreatDoor
