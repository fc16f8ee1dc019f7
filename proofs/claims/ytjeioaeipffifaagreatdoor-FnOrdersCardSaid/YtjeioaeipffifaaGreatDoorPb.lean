/- Drawn orders and one order more: plain law. No condition. -/
import Derived.Test.YtjeioaeipffifaaGreatDoorPa
import Derived.Test.YtjeioaeipffifaaGreatDoorNb
import Derived.Test.YtjeioaeipffifaaGreatDoorOe
namespace Go.Proofs.YtjeioaeipffifaaGreatDoor
open Go Go.Ab
set_option maxRecDepth 100000

def idNew : List UInt8 := [110, 101, 119]
theorem text_new (s : Src) : (s.text [[97], [98], [99], [100], [101], [102]]).1 ≠ idNew := by
  have key : ∀ n : Nat, ([[97], [98], [99], [100], [101], [102]] : List (List UInt8)).getD n [] ≠ idNew := fun n => by
    match n with
    | 0 | 1 | 2 | 3 | 4 | 5 => decide
    | n + 6 => show ([] : List UInt8) ≠ idNew; decide
  exact key _
theorem order_id (s : Src) : s.order.1.id ≠ idNew := by
  have := text_new s
  simp only [Src.order]
  split
  · exact this
  · split
    · exact this
    · split
      · exact this
      · split
        · exact this
        · exact this
theorem ordN_facts (s : Src) : ∀ i, (s.ordN i).1.length ≤ i ∧ ∀ x ∈ (s.ordN i).1, x.id ≠ idNew
  | 0 => ⟨Nat.le_refl _, fun x hx => by cases hx⟩
  | i + 1 => by
    obtain ⟨h1, h2⟩ := ordN_facts s i
    simp only [Src.ordN]
    split
    · rename_i hc
      refine ⟨Nat.le_trans (addL_le _ _) (by omega), fun x hx => ?_⟩
      unfold addL at hx
      rw [if_pos hc] at hx
      rcases List.mem_append.1 hx with hx | hx
      · exact h2 x (List.mem_of_mem_take hx)
      · rcases List.mem_cons.1 hx with rfl | hx
        · exact order_id _
        · exact h2 x (List.mem_of_mem_drop hx)
    · exact ⟨by omega, h2⟩
theorem orders_facts {m : Nat} {s : Src} (h : s.ok m) (hb : m + 100 ≤ 4611686018427387904) : s.orders.1.length ≤ 6 ∧ (∀ x ∈ s.orders.1, x.id ≠ idNew) ∧ validOrders s.orders.1 = true := by
  obtain ⟨h1, h2, _⟩ := h.pick (by omega) 7
  have h2 := h2 (by omega)
  obtain ⟨g1, g2⟩ := ordN_facts (s.pick 7).2 (s.pick 7).1.toNat
  exact ⟨Nat.le_trans g1 (by omega), g2, (h.orders hb).1⟩

theorem findI_none {α : Type} {p : α → Bool} {l : List α} (h : ∀ x ∈ l, p x = false) : findI p l = -1 := by
  unfold findI
  rw [List.findIdx?_eq_none_iff.2 h]
theorem add_ok {l : List Order} {x : Order} (hv : validOrders l = true) (hx : validOrder x = true) (hl : l.length ≤ 6) (hid : ∀ y ∈ l, y.id ≠ x.id) : addCode l x = 0 := by
  have hf : findO l x.id = -1 := findI_none fun y hy => by simpa using hid y hy
  unfold addCode
  rw [if_pos ⟨hv, hx⟩, hf, if_neg (by omega), if_neg (by omega)]
theorem cutO_le (l : List Order) (s : List UInt8) : cutO l s ≤ l.length := List.findIdx_le_length
theorem drop_add {l : List Order} {x : Order} (h : addCode l x = 0) (hid : ∀ y ∈ l, y.id ≠ x.id) : dropCode (addL l x) x.id = 0 ∧ dropL (addL l x) x.id = l := by
  have hv := addL_valid h
  have hc := cutO_le l x.id
  have eA : addL l x = l.take (cutO l x.id) ++ x :: l.drop (cutO l x.id) := by unfold addL; rw [if_pos h]
  generalize cutO l x.id = c at *
  have eT : (l.take c).length = c := by rw [List.length_take]; omega
  have hf : findO (addL l x) x.id = c := by
    rw [eA]
    refine findI_at (by rw [List.length_append, List.length_cons, eT]; omega) ?_ fun j hj hjc => ?_
    · rw [List.getElem_append_right (by omega)]
      simp [eT]
    · rw [List.getElem_append_left (by omega)]
      have := hid _ (List.mem_of_mem_take (List.getElem_mem (show j < (l.take c).length by omega)))
      simpa using this
  have h0 : dropCode (addL l x) x.id = 0 := by
    unfold dropCode
    rw [if_pos hv, hf, if_neg (by omega)]
  refine ⟨h0, ?_⟩
  unfold dropL
  rw [if_pos h0, hf, eA]
  simp only [Int.toNat_natCast]
  rw [List.take_left' eT, List.drop_append, eT, List.drop_of_length_le (by omega), show c + 1 - c = 1 by omega]
  simp

/-- The order that the law adds. -/
def newOrder (m d u : Int) : Order := ⟨idNew, 1 + m, 60, 1 + d, u⟩
theorem newOrder_valid {m d u : Int} (hm : 0 ≤ m ∧ m ≤ 9000) (hd : 0 ≤ d ∧ d ≤ 20) (hu : 0 ≤ u ∧ u ≤ 90) : validOrder (newOrder m d u) = true := by
  have hn : isName (newOrder m d u).id = true := by show isName idNew = true; decide
  have e1 : (newOrder m d u).mass = 1 + m := rfl
  have e2 : (newOrder m d u).note = 60 := rfl
  have e3 : (newOrder m d u).days = 1 + d := rfl
  have e4 : (newOrder m d u).due = u := rfl
  unfold validOrder
  rw [hn, e1, e2, e3, e4]
  simp only [Bool.and_eq_true, decide_eq_true_eq]
  exact ⟨⟨⟨⟨by trivial, by omega, by omega⟩, by omega, by omega⟩, by omega, by omega⟩, by omega, by omega⟩
theorem newOrder_read {m d u : Int} (hm : 0 ≤ m ∧ m ≤ 9000) (hd : 0 ≤ d ∧ d ≤ 20) (hu : 0 ≤ u ∧ u ≤ 90) : orderR (orderT (newOrder m d u)) = some (newOrder m d u) := by
  have hv := newOrder_valid hm hd hu
  have hl : listOk [1 + m, 1 + d, u] = true := by simp [listOk, valB]; omega
  have hs : spl 32 (orderT (newOrder m d u)) = [idNew, noteT 60, listT [1 + m, 1 + d, u]] := by
    rw [orderT_join]
    refine spl_join (by simp) fun x hx => ?_
    simp only [newOrder, List.mem_cons, List.not_mem_nil, or_false] at hx
    rcases hx with rfl | rfl | rfl
    · decide
    · exact noteT_free (by decide)
    · exact listT_free _
  have hn : noteR (noteT 60) = some 60 := by kernel_rfl
  have ho : ordOf idNew ((60 : Nat) : Int) [1 + m, 1 + d, u] = newOrder m d u := rfl
  unfold orderR
  rw [hs]
  simp only [hn, listR_of hl]
  rw [ho, if_pos ⟨rfl, hv⟩]
theorem newOrder_price {m d u : Int} (hm : 0 ≤ m) (hd : 0 ≤ d) : 740 ≤ priceOf (newOrder m d u) := by
  unfold priceOf newOrder
  simp only
  omega
end Go.Proofs.YtjeioaeipffifaaGreatDoor
